/- Parse of the document's answer for layer 20 (answer), walked. -/
import Derived.Test.YtmpnlpheeoadkaaDoorAnswerPlain
import Derived.Test.YtmpnlpheeoadkaaDoorHandleParse2
import Derived.Test.YtmpnlpheeoadkaaDoorAnswerGuess
set_option linter.unusedVariables false
set_option linter.unusedSimpArgs false
namespace Go.Proofs.YtmpnlpheeoadkaaDoor
open Go.RowKit

namespace Answer

/-! ### Numerals, read with 64 bits -/
def stepN (u : Int) (c : UInt8) : Int := ((10 * u) % 18446744073709551616 + ((c.toNat : Int) - 48)) % 18446744073709551616
def foldN (l : List UInt8) : Int := l.foldl stepN 0
theorem foldN_snoc (l : List UInt8) (c : UInt8) : foldN (l ++ [c]) = stepN (foldN l) c := by unfold foldN; rw [List.foldl_append]; rfl
theorem foldN_bd (l : List UInt8) : 0 ≤ foldN l ∧ foldN l ≤ 18446744073709551615 := by
  rcases List.eq_nil_or_concat l with rfl | ⟨m, x, rfl⟩
  · exact ⟨by decide, by decide⟩
  · rw [List.concat_eq_append, foldN_snoc]
    unfold stepN
    omega
theorem foldN_dec (m : Nat) (hm : m < 18446744073709551616) : foldN (Lib.decDigits m) = m := by
  induction m using Nat.strongRecOn with
  | ind m ih =>
    have d : ∀ k, k < 10 → (UInt8.ofNat (48 + k)).toNat = 48 + k := fun k hk => by simp; omega
    by_cases h : m < 10
    · rw [Word.dec_small h]
      show stepN 0 _ = _
      unfold stepN
      rw [d m h]
      omega
    · rw [Word.dec_big h, foldN_snoc, ih (m / 10) (by omega) (by omega)]
      unfold stepN
      rw [d _ (by omega)]
      omega
/-- No answer's text. -/
theorem Tells.none {s : List UInt8} (h : (∃ c ∈ s, ¬ (48 ≤ c.toNat ∧ c.toNat ≤ 57)) ∨ 20 < s.length ∨ (Lib.decDigits (foldN s).toNat ≠ s) ∨ s = [] ∨ False) (h1 : NoErr s) (h2 : ∀ l, s ≠ 35 :: l) (h3 : s ≠ [110, 105, 108]) : Tells s 0 0 0 2 := by
  refine .inr ⟨rfl, rfl, rfl, rfl, fun e k n a b c d => ?_⟩
  rcases right_cases c with ⟨rfl, rfl, rfl⟩ | ⟨rfl, rfl⟩ | ⟨rfl, rfl⟩ | ⟨b1, b2, rfl, rfl⟩
  · exact h3 (d.symm.trans text_nil)
  · have d2 := d.symm.trans (text_data n)
    unfold Word.numL at d2
    have hn : n.toNat < 18446744073709551616 := by omega
    rcases h with ⟨x, hx, hd⟩ | h | h | h | h
    · rw [d2] at hx; exact hd (dec_digit _ x hx)
    · rw [d2] at h; have := Word.digits_len hn; omega
    · apply h
      rw [d2, foldN_dec _ hn, Int.toNat_natCast]
    · rw [h] at d2; exact dec_ne _ d2.symm
    · exact h
  · exact h2 _ (d.symm.trans (text_ptr _))
  · exact h1 _ b1 b2 (d.symm.trans (text_err ⟨b1, b2⟩))

/-! ### Handles -/
theorem wordTo_at {s : ByteArray} : ∀ {k : Nat}, Handle.okTo s k = true → ∀ i, i < k → Handle.wordTo s k / 2 ^ (4 * (k - 1 - i)) % 16 = Handle.val (Handle.byteAt s i)
  | 0, _, i, hi => by omega
  | k + 1, h, i, hi => by
    have h0 := (Handle.okTo_iff s (k + 1)).1 h
    have hk : Handle.okTo s k = true := (Handle.okTo_iff s k).2 (fun j hj => h0 j (by omega))
    have hv := Handle.val_bd (Handle.byteAt s k)
    have hne := h0 k (by omega)
    have hbd := Handle.wordTo_bd hk
    show (16 * Handle.wordTo s k + Handle.val (Handle.byteAt s k)) / 2 ^ (4 * (k + 1 - 1 - i)) % 16 = _
    by_cases e : i = k
    · subst e
      rw [show 4 * (i + 1 - 1 - i) = 0 by omega, Int.pow_zero, Int.ediv_one]
      omega
    · have ih := wordTo_at hk i (by omega)
      rw [show 4 * (k + 1 - 1 - i) = 4 + 4 * (k - 1 - i) by omega, Int.pow_add, ← Int.ediv_ediv_of_nonneg (by decide), show (16 * Handle.wordTo s k + Handle.val (Handle.byteAt s k)) / 2 ^ 4 = Handle.wordTo s k by omega]
      exact ih
theorem text_parse {s : ByteArray} {x : Int} (h : Handle.parse s = (x, 0)) : (Handle.text x).data.toList = s.data.toList := by
  unfold Handle.parse at h
  split at h
  · rename_i hs
    obtain ⟨h16, hok⟩ := hs
    obtain ⟨rfl, -⟩ : Handle.wordTo s 16 = x ∧ True := ⟨(Prod.ext_iff.1 h).1, trivial⟩
    have hsz : s.data.size = 16 := h16
    show (Handle.figsTo (Handle.wordTo s 16) 16).toArray.toList = _
    refine List.ext_getElem? (fun i => ?_)
    show (Handle.figsTo (Handle.wordTo s 16) 16)[i]? = s.data.toList[i]?
    by_cases hi : i < 16
    · have h3 := wordTo_at hok i hi
      rw [show 16 - 1 - i = 15 - i by omega] at h3
      have hv := (Handle.okTo_iff s 16).1 hok i hi
      have hb := Handle.val_bd (Handle.byteAt s i)
      obtain ⟨d, hd⟩ : ∃ d : Nat, Handle.val (Handle.byteAt s i) = d := ⟨(Handle.val (Handle.byteAt s i)).toNat, by omega⟩
      have hf := (Handle.fig_val (k := d) (b := Handle.byteAt s i) (by omega)).2 hd
      have e1 : (Handle.figsTo (Handle.wordTo s 16) 16)[i]? = some (Handle.fig (d : Int)) := by
        unfold Handle.figsTo
        rw [List.getElem?_map, List.getElem?_range hi, Option.map_some, h3, hd]
      have e2 : Handle.byteAt s i = (s.data[i]'(by omega)).toNat := by rw [Handle.byteAt_in (by rw [h16]; exact hi)]; rfl
      have e3 : (Handle.fig (d : Int)).toNat = (s.data[i]'(by omega)).toNat := by omega
      rw [e1, Array.getElem?_toList, Array.getElem?_eq_getElem (by omega)]
      congr 1
      exact UInt8.toNat_inj.1 e3
    · rw [List.getElem?_eq_none (by rw [Handle.figsTo_length]; omega), List.getElem?_eq_none (by rw [Array.length_toList, hsz]; omega)]
  · cases h

set_option maxHeartbeats 16000000 in
set_option maxRecDepth 100000 in
theorem rparse_any (s : ByteArray) (w : World) (hs : s.size ≤ 100) :
    Calls Tryd.prog 9 #[.string s] w fun r w' => (∃ e k n q : Int, r = .returned (.tuple #[.agg #[.int .i64 e, .int .i64 k, .int .u64 n], .int .i64 q]) ∧ Tells s.data.toList e k n q) ∧ But (fun _ => False) w w' := by
  have hG := (But.refl (fun _ => False) w).alloc (.cells #[.int .i64 0, .int .i64 0, .int .u64 0] 26)
  have G2 := Lib.hid hG
  have B2 := Lib.hid (Blk.new w #[.int .i64 0, .int .i64 0, .int .u64 0] 26)
  clear hG
  by_cases hnil : s.data.toList = [110, 105, 108]
  · have t1 : (s.toList == [110, 105, 108]) = true := by rw [Lib.toList_data, hnil]; rfl
    have TE := Lib.hid (show Tells s.data.toList 0 0 0 0 from .inl ⟨rfl, right_nil, by rw [hnil]; exact text_nil, by decide, by decide⟩)
    clear hnil
    go_enter Tryd.func9, Tryd.ntmps9
    go_wp2_with fail
    refine bodyPost_ret (v := .tuple #[.agg #[.int .i64 0, .int .i64 0, .int .u64 0], .int .i64 0]) ?_ rfl ⟨⟨_, _, _, _, rfl, TE.out⟩, ?_⟩
    · simp [results, Tryd.results9, go_sem]
    · exact G2.out
  have t1 : (s.toList == [110, 105, 108]) = false := by rw [Lib.toList_data]; exact beq_false_of_ne hnil
  have HNIL := Lib.hid hnil
  clear hnil
  by_cases h0 : s.size = 0
  · have hlen : s.data.toList = [] := List.eq_nil_of_length_eq_zero (by rw [Array.length_toList]; exact h0)
    have H35 := Lib.hid (show ∀ l, s.data.toList ≠ 35 :: l from fun l q => by rw [hlen] at q; cases q)
    go_enter Tryd.func9, Tryd.ntmps9
    go_wp2_with fail
    obtain ⟨b, hb⟩ : ∃ b, b = w.heap.size := ⟨_, rfl⟩
    have HBb := Lib.hid (show w.heap.size ≤ b by omega)
    rw [← hb] at B2 ⊢
    clear hb
    go_loopg [6] 9 (fun k i1 wr => ∃ i : Nat, i + k = 9 ∧ i1 = .int .i64 ((i : Int) + 1) ∧ (∀ e : Int, 1 ≤ e → e ≤ i → s.data.toList ≠ 33 :: errL e) ∧ But (fun _ => False) w wr ∧ Blk wr b #[.int .i64 0, .int .i64 0, .int .u64 0] 26)
    case atStart => exact ⟨0, by omega, by go_num, fun e h1 h2 => by omega, G2.out, B2.out⟩
    case round =>
      obtain ⟨i, hi, rfl, hno, hW, hB⟩ := hrel
      have HN := Lib.hid hno
      have HW := Lib.hid hW
      clear hno hW
      by_cases hi9 : i < 9
      · have hle : ((i : Int) + 1) ≤ 9 := by omega
        have h7 := errL_le (e := (i : Int) + 1) (by omega) hle
        go_wp2_with fail
        refine (ref_name ((i : Int) + 1) _ (by omega) hle).mono ?_
        rintro r w3 ⟨rfl, g3⟩
        obtain ⟨own, hown⟩ : ∃ own : ByteArray, (⟨(errL ((i : Int) + 1)).toArray⟩ : ByteArray) = own := ⟨_, rfl⟩
        have hcat : ((⟨#[33]⟩ : ByteArray) ++ own).toList = 33 :: errL ((i : Int) + 1) := by rw [Lib.toList_data, ← hown]; simp [ByteArray.data_append]
        have hos : own.size ≤ 7 := by rw [← hown]; show (errL ((i : Int) + 1)).toArray.size ≤ 7; rw [List.size_toArray]; exact h7
        rw [hown]
        clear hown h7
        have B3 := hB.but g3 (fun q => q)
        have G3 := Lib.hid (HW.out.trans g3)
        have k0 := B3.cell 0
        have f0 := B3.frozen 0
        have k1 := B3.cell 1
        have f1 := B3.frozen 1
        have k2 := B3.cell 2
        have f2 := B3.frozen 2
        clear g3 hB
        by_cases hq : s.data.toList = 33 :: errL ((i : Int) + 1)
        · have t1 : (s.toList == ((⟨#[33]⟩ : ByteArray) ++ own).toList) = true := by rw [hcat, Lib.toList_data, hq]; simp
          have TE := Lib.hid (show Tells s.data.toList ((i : Int) + 1) 0 0 0 from .inl ⟨rfl, right_errno (by omega), by rw [text_err (by omega), hq], by decide, by decide⟩)
          clear hq hcat
          go_wp2_with fail
          refine bodyPost_ret (v := .tuple #[.agg #[.int .i64 ((i : Int) + 1), .int .i64 0, .int .u64 0], .int .i64 0]) ?_ rfl ⟨⟨_, _, _, _, rfl, TE.out⟩, ?_⟩
          · simp [results, Tryd.results9, go_sem, k0, k1, k2]
          · exact (((G3.out.setCell (.inr HBb.out) _).setCell (.inr HBb.out) _).setCell (.inr HBb.out) _)
        · have t1 : (s.toList == ((⟨#[33]⟩ : ByteArray) ++ own).toList) = false := by rw [hcat, Lib.toList_data]; exact beq_false_of_ne hq
          have HN2 := Lib.hid (not_err_snoc HN.out hq)
          clear hq hcat
          go_wp2_with fail
          go_roundg (9 - (i + 1))
          case measure => omega
          case rel => exact ⟨i + 1, by omega, by go_num, HN2.out, G3.out, B3⟩
      · have h9 : i = 9 := by omega
        subst h9
        have HNE := Lib.hid (show NoErr s.data.toList from fun e h1 h2 => HN.out e h1 (by omega))
        have k0 := hB.cell 0
        have f0 := hB.frozen 0
        have k1 := hB.cell 1
        have f1 := hB.frozen 1
        have k2 := hB.cell 2
        have f2 := hB.frozen 2
        clear HN
        have TE := Lib.hid (Tells.none (.inr (.inr (.inr (.inl hlen)))) HNE.out H35.out HNIL.out)
        go_wp2_with fail
        refine bodyPost_ret (v := .tuple #[.agg #[.int .i64 0, .int .i64 0, .int .u64 0], .int .i64 2]) ?_ rfl ⟨⟨_, _, _, _, rfl, TE.out⟩, ?_⟩
        · simp [results, Tryd.results9, go_sem, k0, k1, k2]
        · exact (((HW.out.setCell (.inr HBb.out) _).setCell (.inr HBb.out) _).setCell (.inr HBb.out) _)
  · have hp0 : 0 < s.size := by omega
    obtain ⟨c0, hc0⟩ : ∃ c0 : Nat, (s[0]'hp0).toNat = c0 := ⟨_, rfl⟩
    have hcons : ∃ l, s.data.toList = (s[0]'hp0) :: l := by
      cases hl : s.data.toList with
      | nil => exfalso; have := congrArg List.length hl; rw [Array.length_toList] at this; exact h0 this
      | cons x l =>
        refine ⟨l, ?_⟩
        have e : s.data.toList[0]? = some x := by rw [hl]; rfl
        rw [Array.getElem?_toList, Array.getElem?_eq_getElem hp0] at e
        have e2 : s.data[0]'hp0 = x := by simpa using e
        rw [← e2]; rfl
    have hi0 : (0 : Int) < s.size := by omega
    by_cases h35 : c0 = 35
    · have hd : s.data.toList = 35 :: (s.extract 1 s.size).data.toList := by
        refine pre_yes ?_
        obtain ⟨l, hl⟩ := hcons
        unfold pre
        rw [take_one, hl]
        have : s[0]'hp0 = 35 := UInt8.toNat_inj.1 (by rw [hc0, h35]; rfl)
        rw [this]
        simp
        omega
      have hsz : (s.extract 1 s.size).size ≤ 100 := by
        show (s.extract 1 s.size).data.size ≤ 100
        rw [ByteArray.data_extract, Array.size_extract]
        have : s.data.size ≤ 100 := hs
        omega
      have hb := parse_bd (s.extract 1 s.size)
      have HX := Lib.hid (Handle.ref_parse (s.extract 1 s.size) · (by omega))
      have TY := Lib.hid (show (Handle.parse (s.extract 1 s.size)).2 = 0 → Tells s.data.toList 0 2 (Handle.parse (s.extract 1 s.size)).1 0 from fun q => .inl ⟨rfl, right_ptr _, by rw [text_ptr, text_parse (Prod.ext rfl q), hd], hb⟩)
      have TN := Lib.hid (show (Handle.parse (s.extract 1 s.size)).2 ≠ 0 → Tells s.data.toList 0 0 0 2 from fun q => by
        have hg := Guess.ptr hd
        refine .inr ⟨rfl, rfl, rfl, rfl, fun e k n a b c d => ?_⟩
        obtain ⟨rfl, rfl, rfl⟩ := hg.2.2.2 e k n a b c d
        rw [text_ptr, hd] at d
        simp only [List.cons.injEq, true_and] at d
        have e1 : Handle.text (Handle.parse (s.extract 1 s.size)).1 = s.extract 1 s.size := ByteArray.ext (Array.ext' d)
        have e2 := Handle.parse_text hb
        rw [e1] at e2
        exact q (by rw [e2]))
      have hc1 : (s[0]'hp0).toNat = 35 := by rw [hc0, h35]
      have hone : (1 : Int) ≤ s.size := by omega
      clear hd hcons hc0 h35
      go_enter Tryd.func9, Tryd.ntmps9
      go_wp2_with fail
      refine (HX.out _).mono ?_
      rintro r w2 ⟨rfl, g2⟩
      have B3 := B2.out.but g2 (fun q => q)
      have G3 := Lib.hid (G2.out.trans g2)
      clear g2
      obtain ⟨b, hb⟩ : ∃ b, b = w.heap.size := ⟨_, rfl⟩
      have HBb := Lib.hid (show w.heap.size ≤ b by omega)
      rw [← hb] at B3 ⊢
      clear hb
      have k0 := B3.cell 0
      have f0 := B3.frozen 0
      have k1 := B3.cell 1
      have f1 := B3.frozen 1
      have k2 := B3.cell 2
      have f2 := B3.frozen 2
      generalize (Handle.parse (s.extract 1 s.size)).1 = x at *
      generalize (Handle.parse (s.extract 1 s.size)).2 = y at *
      by_cases hy : y = 0
      · have TE := Lib.hid (TY.out hy)
        have ty : (y != 0) = false := by simp [hy]
        clear hy
        go_wp2_with fail
        refine bodyPost_ret (v := .tuple #[.agg #[.int .i64 0, .int .i64 2, .int .u64 x], .int .i64 0]) ?_ rfl ⟨⟨_, _, _, _, rfl, TE.out⟩, ?_⟩
        · simp [results, Tryd.results9, go_sem, k0, k1, k2]
        · exact (((G3.out.setCell (.inr HBb.out) _).setCell (.inr HBb.out) _).setCell (.inr HBb.out) _)
      · have TE := Lib.hid (TN.out hy)
        have ty : (y != 0) = true := by simp [hy]
        clear hy
        go_wp2_with fail
        refine bodyPost_ret (v := .tuple #[.agg #[.int .i64 0, .int .i64 0, .int .u64 0], .int .i64 2]) ?_ rfl ⟨⟨_, _, _, _, rfl, TE.out⟩, ?_⟩
        · simp [results, Tryd.results9, go_sem, k0, k1, k2]
        · exact (((G3.out.setCell (.inr HBb.out) _).setCell (.inr HBb.out) _).setCell (.inr HBb.out) _)
    · have H35 := Lib.hid (show ∀ l, s.data.toList ≠ 35 :: l from fun l q => by
        obtain ⟨l', hl⟩ := hcons
        rw [hl] at q
        have e : s[0]'hp0 = 35 := by injection q
        rw [e] at hc0
        exact h35 hc0.symm)
      have hc1 : (((s[0]'hp0).toNat : Int) == 35) = false := by rw [hc0]; simp; omega
      have hc2 : ¬ ((s[0]'hp0).toNat : Int) = 35 := by rw [hc0]; omega
      clear hcons hc0 h35
      go_enter Tryd.func9, Tryd.ntmps9
      go_wp2_with fail
      obtain ⟨b, hb⟩ : ∃ b, b = w.heap.size := ⟨_, rfl⟩
      have HBb := Lib.hid (show w.heap.size ≤ b by omega)
      rw [← hb] at B2 ⊢
      clear hb
      go_loopg [6] 9 (fun k i1 wr => ∃ i : Nat, i + k = 9 ∧ i1 = .int .i64 ((i : Int) + 1) ∧ (∀ e : Int, 1 ≤ e → e ≤ i → s.data.toList ≠ 33 :: errL e) ∧ But (fun _ => False) w wr ∧ Blk wr b #[.int .i64 0, .int .i64 0, .int .u64 0] 26)
      case atStart => exact ⟨0, by omega, by go_num, fun e h1 h2 => by omega, G2.out, B2.out⟩
      case round =>
        obtain ⟨i, hi, rfl, hno, hW, hB⟩ := hrel
        have HN := Lib.hid hno
        have HW := Lib.hid hW
        clear hno hW
        by_cases hi9 : i < 9
        · have hle : ((i : Int) + 1) ≤ 9 := by omega
          have h7 := errL_le (e := (i : Int) + 1) (by omega) hle
          go_wp2_with fail
          refine (ref_name ((i : Int) + 1) _ (by omega) hle).mono ?_
          rintro r w3 ⟨rfl, g3⟩
          obtain ⟨own, hown⟩ : ∃ own : ByteArray, (⟨(errL ((i : Int) + 1)).toArray⟩ : ByteArray) = own := ⟨_, rfl⟩
          have hcat : ((⟨#[33]⟩ : ByteArray) ++ own).toList = 33 :: errL ((i : Int) + 1) := by rw [Lib.toList_data, ← hown]; simp [ByteArray.data_append]
          have hos : own.size ≤ 7 := by rw [← hown]; show (errL ((i : Int) + 1)).toArray.size ≤ 7; rw [List.size_toArray]; exact h7
          rw [hown]
          clear hown h7
          have B3 := hB.but g3 (fun q => q)
          have G3 := Lib.hid (HW.out.trans g3)
          have k0 := B3.cell 0
          have f0 := B3.frozen 0
          have k1 := B3.cell 1
          have f1 := B3.frozen 1
          have k2 := B3.cell 2
          have f2 := B3.frozen 2
          clear g3 hB
          by_cases hq : s.data.toList = 33 :: errL ((i : Int) + 1)
          · have t1 : (s.toList == ((⟨#[33]⟩ : ByteArray) ++ own).toList) = true := by rw [hcat, Lib.toList_data, hq]; simp
            have TE := Lib.hid (show Tells s.data.toList ((i : Int) + 1) 0 0 0 from .inl ⟨rfl, right_errno (by omega), by rw [text_err (by omega), hq], by decide, by decide⟩)
            clear hq hcat
            go_wp2_with fail
            refine bodyPost_ret (v := .tuple #[.agg #[.int .i64 ((i : Int) + 1), .int .i64 0, .int .u64 0], .int .i64 0]) ?_ rfl ⟨⟨_, _, _, _, rfl, TE.out⟩, ?_⟩
            · simp [results, Tryd.results9, go_sem, k0, k1, k2]
            · exact (((G3.out.setCell (.inr HBb.out) _).setCell (.inr HBb.out) _).setCell (.inr HBb.out) _)
          · have t1 : (s.toList == ((⟨#[33]⟩ : ByteArray) ++ own).toList) = false := by rw [hcat, Lib.toList_data]; exact beq_false_of_ne hq
            have HN2 := Lib.hid (not_err_snoc HN.out hq)
            clear hq hcat
            go_wp2_with fail
            go_roundg (9 - (i + 1))
            case measure => omega
            case rel => exact ⟨i + 1, by omega, by go_num, HN2.out, G3.out, B3⟩
        · have h9 : i = 9 := by omega
          subst h9
          have HNE := Lib.hid (show NoErr s.data.toList from fun e h1 h2 => HN.out e h1 (by omega))
          have k0 := hB.cell 0
          have f0 := hB.frozen 0
          have k1 := hB.cell 1
          have f1 := hB.frozen 1
          have k2 := hB.cell 2
          have f2 := hB.frozen 2
          clear HN
          by_cases h20 : 20 < s.size
          · have TE := Lib.hid (Tells.none (s := s.data.toList) (.inr (.inl (by rw [Array.length_toList]; exact h20))) HNE.out H35.out HNIL.out)
            go_wp2_with fail
            refine bodyPost_ret (v := .tuple #[.agg #[.int .i64 0, .int .i64 0, .int .u64 0], .int .i64 2]) ?_ rfl ⟨⟨_, _, _, _, rfl, TE.out⟩, ?_⟩
            · simp [results, Tryd.results9, go_sem, k0, k1, k2]
            · exact (((HW.out.setCell (.inr HBb.out) _).setCell (.inr HBb.out) _).setCell (.inr HBb.out) _)
          clear k0 f0 k1 f1 k2 f2
          have hle20 : (s.size : Int) ≤ 20 := by omega
          have hz0 : ((s.size : Int) == 0) = false := beq_false_of_ne (by omega)
          have hz1 : ¬ (s.size : Int) = 0 := by omega
          clear h20
          go_wp2_with fail
          go_loopg [8, 9] s.size (fun k u i1 wr => ∃ i : Nat, i + k = s.size ∧ u = .int .u64 (foldN (s.data.toList.take i)) ∧ i1 = .int .i64 i ∧ But (fun _ => False) w wr ∧ Blk wr b #[.int .i64 0, .int .i64 0, .int .u64 0] 26)
          case atStart => exact ⟨0, by omega, by rw [List.take_zero]; rfl, rfl, HW.out, hB⟩
          case round =>
            clear hB HW
            obtain ⟨i, hi, rfl, rfl, hW, hB⟩ := hrel
            have HW := Lib.hid hW
            clear hW
            have k0 := hB.cell 0
            have f0 := hB.frozen 0
            have k1 := hB.cell 1
            have f1 := hB.frozen 1
            have k2 := hB.cell 2
            have f2 := hB.frozen 2
            by_cases hlt : i < s.size
            · have hil : (i : Int) < s.size := by omega
              obtain ⟨n, hn⟩ : ∃ n : Nat, (s[i]'hlt).toNat = n := ⟨_, rfl⟩
              have hget : s.data.toList[i]? = some (s[i]'hlt) := by rw [Array.getElem?_toList, Array.getElem?_eq_getElem hlt]; rfl
              have hst : s.data.toList.take (i + 1) = s.data.toList.take i ++ [s[i]'hlt] := by rw [List.take_add_one, hget]; rfl
              have HST := Lib.hid (show foldN (s.data.toList.take (i + 1)) = ((10 * foldN (s.data.toList.take i)) % 18446744073709551616 + ((n : Int) - 48)) % 18446744073709551616 by rw [hst, foldN_snoc]; unfold stepN; rw [hn])
              have hmem : s[i]'hlt ∈ s.data.toList := List.mem_of_getElem? hget
              have hub := foldN_bd (s.data.toList.take i)
              have HM := Lib.hid (show ¬ (48 ≤ n ∧ n ≤ 57) → Tells s.data.toList 0 0 0 2 from fun q => Tells.none (.inl ⟨_, hmem, by rw [hn]; exact q⟩) HNE.out H35.out HNIL.out)
              have h255 : n ≤ 255 := by have := (s[i]'hlt).toNat_lt; omega
              clear hget hst hmem
              generalize foldN (s.data.toList.take i) = u at *
              by_cases h48 : n < 48
              · have TE := Lib.hid (HM.out (by omega))
                go_wp2_with fail
                refine bodyPost_ret (v := .tuple #[.agg #[.int .i64 0, .int .i64 0, .int .u64 0], .int .i64 2]) ?_ rfl ⟨⟨_, _, _, _, rfl, TE.out⟩, ?_⟩
                · simp [results, Tryd.results9, go_sem, k0, k1, k2]
                · exact (((HW.out.setCell (.inr HBb.out) _).setCell (.inr HBb.out) _).setCell (.inr HBb.out) _)
              by_cases h57 : 57 < n
              · have TE := Lib.hid (HM.out (by omega))
                go_wp2_with fail
                refine bodyPost_ret (v := .tuple #[.agg #[.int .i64 0, .int .i64 0, .int .u64 0], .int .i64 2]) ?_ rfl ⟨⟨_, _, _, _, rfl, TE.out⟩, ?_⟩
                · simp [results, Tryd.results9, go_sem, k0, k1, k2]
                · exact (((HW.out.setCell (.inr HBb.out) _).setCell (.inr HBb.out) _).setCell (.inr HBb.out) _)
              have d1 : (48 : Int) ≤ n := by omega
              have d2 : (n : Int) ≤ 57 := by omega
              go_wp2_with fail
              go_roundg (s.size - (i + 1))
              case measure => omega
              case rel =>
                refine ⟨i + 1, by omega, ?_, by go_num, HW.out, hB⟩
                rw [HST.out]
                rfl
            · have hin : i = s.size := by omega
              have hall : s.data.toList.take i = s.data.toList := List.take_of_length_le (by rw [Array.length_toList, hin]; exact Nat.le_refl _)
              rw [hall]
              have hub := foldN_bd s.data.toList
              obtain ⟨m, hm⟩ : ∃ m : Nat, foldN s.data.toList = m := ⟨(foldN s.data.toList).toNat, by omega⟩
              have HM := Lib.hid hm
              rw [hm] at hub ⊢
              clear hall hm
              go_wp2_with fail
              refine (num_any m (by omega) _).mono ?_
              rintro r w3 ⟨rfl, g3⟩
              obtain ⟨own, hown⟩ : ∃ own : ByteArray, (⟨(Lib.decDigits m).toArray⟩ : ByteArray) = own := ⟨_, rfl⟩
              have HO := Lib.hid (show own.toList = Lib.decDigits m by rw [Lib.toList_data, ← hown])
              rw [hown]
              clear hown
              have B3 := hB.but g3 (fun q => q)
              have G3 := Lib.hid (HW.out.trans g3)
              clear k0 f0 k1 f1 k2 f2 g3 hB
              have k0 := B3.cell 0
              have f0 := B3.frozen 0
              have k1 := B3.cell 1
              have f1 := B3.frozen 1
              have k2 := B3.cell 2
              have f2 := B3.frozen 2
              by_cases hq : Lib.decDigits m = s.data.toList
              · have t2 : (own.toList == s.toList) = true := by rw [HO.out, Lib.toList_data, hq]; simp
                have t3 : (own.toList != s.toList) = false := by rw [bne, t2]; rfl
                have TE := Lib.hid (show Tells s.data.toList 0 1 m 0 from .inl ⟨rfl, right_data _, by rw [text_data]; unfold Word.numL; rw [Int.toNat_natCast]; exact hq, by omega, by omega⟩)
                clear hq
                go_wp2_with fail
                refine bodyPost_ret (v := .tuple #[.agg #[.int .i64 0, .int .i64 1, .int .u64 m], .int .i64 0]) ?_ rfl ⟨⟨_, _, _, _, rfl, TE.out⟩, ?_⟩
                · simp [results, Tryd.results9, go_sem, k0, k1, k2]
                · exact (((G3.out.setCell (.inr HBb.out) _).setCell (.inr HBb.out) _).setCell (.inr HBb.out) _)
              · have t2 : (own.toList == s.toList) = false := by rw [HO.out, Lib.toList_data]; exact beq_false_of_ne hq
                have t3 : (own.toList != s.toList) = true := by rw [bne, t2]; rfl
                have TE := Lib.hid (Tells.none (s := s.data.toList) (.inr (.inr (.inl (by rw [HM.out, Int.toNat_natCast]; exact hq)))) HNE.out H35.out HNIL.out)
                clear hq
                go_wp2_with fail
                refine bodyPost_ret (v := .tuple #[.agg #[.int .i64 0, .int .i64 0, .int .u64 0], .int .i64 2]) ?_ rfl ⟨⟨_, _, _, _, rfl, TE.out⟩, ?_⟩
                · simp [results, Tryd.results9, go_sem, k0, k1, k2]
                · exact (((G3.out.setCell (.inr HBb.out) _).setCell (.inr HBb.out) _).setCell (.inr HBb.out) _)

end Answer
end Go.Proofs.YtmpnlpheeoadkaaDoor
