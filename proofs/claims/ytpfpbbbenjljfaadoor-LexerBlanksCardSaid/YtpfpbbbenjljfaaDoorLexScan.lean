/- Scan of package lexer, walked. -/
import Derived.Test.YtpfpbbbenjljfaaDoorLexTok
import Derived.Test.YtpfpbbbenjljfaaDoorAppend
import Derived.Test.YtpfpbbbenjljfaaDoorShelfTrim
set_option linter.unusedVariables false
set_option linter.unusedSimpArgs false
namespace Go.Proofs.YtpfpbbbenjljfaaDoor
open Go.RowKit

namespace Lex

theorem fromAt_list (s : ByteArray) (i : Nat) : (fromAt s i).data.toList = s.data.toList.drop i := by
  unfold fromAt
  rw [ByteArray.data_extract, Array.toList_extract, List.extract_eq_take_drop, List.take_of_length_le]
  rw [List.length_drop, Array.length_toList]
  exact Nat.le_refl _
theorem fromAt_cons {s : ByteArray} {i : Nat} (h : i < s.size) : ∃ x : UInt8, (x.toNat : Int) = bt s i ∧ (fromAt s i).data.toList = x :: (fromAt s (i + 1)).data.toList := by
  refine ⟨s[i]'h, (bt_in h).symm, ?_⟩
  rw [fromAt_list, fromAt_list, List.drop_eq_getElem_cons (by rw [Array.length_toList]; exact h)]
  rfl
theorem bytes_list {x y : ByteArray} (h : x.data.toList = y.data.toList) : x = y := ByteArray.ext (Array.ext' h)
/-- Where blanks end. -/
structure TrimTo (s : ByteArray) (i j : Nat) : Prop where
  lo : i ≤ j
  hi : j ≤ s.size
  all : ∀ k, k < j - i → bt s (i + k) = 32
  stop : j < s.size → bt s j ≠ 32
theorem trim_from (s : ByteArray) : ∀ (m i : Nat), i + m = s.size → ∃ j, TrimTo s i j ∧ (⟨(Lib.trimLeftB (fromAt s i).data.toList 32).toArray⟩ : ByteArray) = fromAt s j
  | 0, i, h => ⟨i, ⟨Nat.le_refl _, by omega, fun k hk => by omega, fun q => by omega⟩, bytes_list (by
      have e : (fromAt s i).data.toList = [] := List.eq_nil_of_length_eq_zero (by rw [Array.length_toList]; have := fromAt_size s i; show (fromAt s i).size = 0; omega)
      show (Lib.trimLeftB (fromAt s i).data.toList 32).toArray.toList = _
      rw [e]
      rfl)⟩
  | m + 1, i, h => by
    obtain ⟨x, hx, hc⟩ := fromAt_cons (s := s) (i := i) (by omega)
    by_cases hb : bt s i = 32
    · have hx2 : x = 32 := UInt8.toNat_inj.1 (by rw [hb] at hx; show x.toNat = 32; omega)
      obtain ⟨j, hj, he⟩ := trim_from s m (i + 1) (by omega)
      refine ⟨j, ⟨by have := hj.lo; omega, hj.hi, fun k hk => ?_, hj.stop⟩, ?_⟩
      · rcases k with _ | k
        · exact hb
        · rw [show i + (k + 1) = i + 1 + k by omega]
          exact hj.all k (by omega)
      · rw [← he]
        refine bytes_list ?_
        show (Lib.trimLeftB (fromAt s i).data.toList 32).toArray.toList = (Lib.trimLeftB (fromAt s (i + 1)).data.toList 32).toArray.toList
        rw [hc]
        unfold Lib.trimLeftB
        rw [List.dropWhile_cons, if_pos (by rw [hx2]; rfl)]
    · refine ⟨i, ⟨Nat.le_refl _, by omega, fun k hk => by omega, fun _ => hb⟩, bytes_list ?_⟩
      show (Lib.trimLeftB (fromAt s i).data.toList 32).toArray.toList = _
      rw [hc]
      unfold Lib.trimLeftB
      rw [List.dropWhile_cons, if_neg (by
        intro q
        have : x = 32 := by simpa using q
        rw [this] at hx
        exact hb hx.symm)]
theorem TrimTo.scan {s : ByteArray} {i j : Nat} (h : TrimTo s i j) (l : List (Tk × Nat)) : scan s i l = scan s j l := by
  have := scan_blanks (s := s) l (j - i) i (by have := h.lo; have := h.hi; omega) h.all
  rw [this, show i + (j - i) = j by have := h.lo; omega]

/-- A token's cells. -/
def tkC (t : Tk × Nat) : List Value := [.int .i64 t.1.kind, .string t.1.text, .int .u64 t.1.num, .int .i64 t.2]
def tkCs (l : List (Tk × Nat)) : List Value := l.flatMap tkC
theorem tkCs_snoc (l : List (Tk × Nat)) (x : Tk × Nat) : tkCs (l ++ [x]) = tkCs l ++ tkC x := by unfold tkCs; rw [List.flatMap_append]; simp
theorem tkCs_length (l : List (Tk × Nat)) : (tkCs l).length = l.length * 4 := by
  unfold tkCs
  induction l with
  | nil => rfl
  | cons x l ih => rw [List.flatMap_cons, List.length_append, ih, List.length_cons]; show 4 + _ = _; omega
theorem infoTk : (Tryd.prog.info? 35).map (fun i => (i.zero, i.size, i.bytes)) = some (some (.agg #[.int .i64 0, .string ⟨#[]⟩, .int .u64 0, .int .i64 0]), 4, 40) := by kernel_rfl

theorem scanV_bad {s : ByteArray} (h : ¬ 1000 < s.size) {l : List (Tk × Nat)} {i : Nat} (h2 : scan s 0 [] = (l, some i)) : scanV s = ([], i, 2) := by unfold scanV; rw [if_neg h, h2]; rfl
theorem scanV_ok {s : ByteArray} (h : ¬ 1000 < s.size) {l : List (Tk × Nat)} (h2 : scan s 0 [] = (l, none)) : scanV s = (l, 0, 0) := by unfold scanV; rw [if_neg h, h2]; rfl

set_option maxHeartbeats 16000000 in
set_option maxRecDepth 100000 in
theorem scan_any (s : ByteArray) (w : World) (hs : s.size ≤ 140737488351232) (he : Errs w) :
    Calls Tryd.prog 6 #[.string s] w fun e w' => (∃ v o, e = .returned (.tuple #[v, .int .i64 (scanV s).2.1, .int .i64 (scanV s).2.2]) ∧ Row w' 35 4 v o (scanV s).1.length (tkCs (scanV s).1) ∧ (∀ k, o = some k → w.heap.size ≤ k)) ∧ But (fun _ => False) w w' := by
  by_cases h1000 : 1000 < s.size
  · have hi : (1000 : Int) < s.size := by omega
    have HV := Lib.hid (show scanV s = ([], 0, 8) by unfold scanV; rw [if_pos h1000])
    clear h1000
    go_enter Tryd.func6, Tryd.ntmps6
    go_wp2_with fail
    go_ret3
    rw [HV.out]
    exact ⟨⟨_, _, rfl, Row.nil _ _ _, (fun k q => by cases q)⟩, But.refl _ _⟩
  have hi : ¬ (1000 : Int) < s.size := by omega
  have hsz : s.size ≤ 1000 := by omega
  have HSV := Lib.hid h1000
  have E0 := Lib.hid he
  have TL := LexS.strings_TrimLeft_one s 32 (by decide)
  have HTL := Lib.hid TL
  obtain ⟨j0, hj0, hje0⟩ := trim_from s s.size 0 (by omega)
  have HJ0 := Lib.hid hj0
  have HJE0 := Lib.hid hje0
  obtain ⟨i0, hi0, hz0, hz1, hz2⟩ := info_parts infoTk
  rw [fromAt_zero] at HJE0
  clear h1000 he TL hj0 hje0
  go_enter Tryd.func6, Tryd.ntmps6
  go_wp2_with fail
  refine (HTL.out _).mono ?_
  rintro e w ⟨rfl, rfl⟩
  rw [HJE0.out]
  go_wp2_with fail
  go_loopg [5, 6] (s.size - j0) (fun k ov rv wr => ∃ (i : Nat) (l : List (Tk × Nat)) (o : Option Nat), i + k = s.size ∧ rv = .string (fromAt s i) ∧ (i < s.size → bt s i ≠ 32) ∧ scan s 0 [] = scan s i l ∧ l.length ≤ i ∧ Row wr 35 4 ov o l.length (tkCs l) ∧ (∀ k, o = some k → w.heap.size ≤ k) ∧ But (fun _ => False) w wr)
  case atStart => exact ⟨j0, [], none, by have := HJ0.out.hi; omega, rfl, HJ0.out.stop, HJ0.out.scan [], Nat.zero_le _, Row.nil _ _ _, (fun k q => by cases q), But.refl _ _⟩
  case round =>
    obtain ⟨i, l, o, hik, rfl, hb, hsc, hl, hR, ho, hW⟩ := hrel
    have HSC := Lib.hid hsc
    have HR := Lib.hid hR
    have HO := Lib.hid ho
    have HW := Lib.hid hW
    have E1 := Lib.hid (E0.out.keep hW)
    clear hsc hR ho hW
    by_cases hlt : i < s.size
    · have HB := Lib.hid (hb hlt)
      have hr0 : 0 < (fromAt s i).size := by rw [fromAt_size]; omega
      have hrs : (fromAt s i).size ≤ 1000 := by rw [fromAt_size]; omega
      have he1 : (fromAt s i).toList.isEmpty = false := by rw [← Bool.not_eq_true, nonempty_iff]; omega
      have hle := tok_n s i hlt
      have hat : (s.size : Int) - ((fromAt s i).size : Int) = (i : Int) := by rw [fromAt_size]; omega
      have htb := tok_num_bd (fromAt s i)
      have HBAD := Lib.hid (show (tok (fromAt s i)).n = 0 → scan s i l = (l, some i) from fun q => scan_bad hlt HB.out q l)
      have HTK := Lib.hid (show (tok (fromAt s i)).n ≠ 0 → scan s i l = scan s (i + (tok (fromAt s i)).n) (l ++ [(tok (fromAt s i), i)]) from fun q => scan_tok hlt HB.out q l)
      have HTE := Lib.hid (token_any (fromAt s i) · (by omega) hr0)
      clear hb
      generalize tok (fromAt s i) = t at *
      obtain ⟨k, tx, u, n⟩ := t
      dsimp only at hle htb HBAD HTK HTE
      obtain ⟨htb1, htb2⟩ := htb
      go_wp2_with fail
      refine (HTE.out _ E1.out).mono ?_
      rintro e w2 ⟨rfl, g2⟩
      have HR2 := Lib.hid (HR.out.but g2 (fun _ _ q => q))
      have HW2 := Lib.hid (HW.out.trans g2)
      clear g2
      by_cases hn : n = 0
      · have HV := Lib.hid (scanV_bad HSV.out (HSC.out.trans (HBAD.out hn)))
        have hn2 : ((n : Int) == 0) = true := by simp [hn]
        clear hn HTK HTE
        go_wp2_with fail
        go_ret3
        rw [HV.out]
        exact ⟨⟨_, _, rfl, Row.nil _ _ _, (fun k q => by cases q)⟩, (HW2.out.alloc _)⟩
      · have HSC2 := Lib.hid (HSC.out.trans (HTK.out hn))
        have hn1 : 0 < n := by omega
        have hn2 : ((n : Int) == 0) = false := by simp; omega
        have hn3 : (n : Int) ≤ ((fromAt s i).size : Int) := by rw [fromAt_size]; omega
        have hTR := fun w => LexS.strings_TrimLeft_one (fromAt s (i + n)) 32 (by decide) w
        obtain ⟨j, hj, hje⟩ := trim_from s (s.size - (i + n)) (i + n) (by omega)
        have HJ := Lib.hid hj
        have HTR := Lib.hid hTR
        have HJE := Lib.hid hje
        have HFF := Lib.hid (show (fromAt s i).extract n (fromAt s i).size = fromAt s (i + n) from fromAt_fromAt s i n)
        clear hn HTK HTE HBAD hTR hj hje
        go_wp2_with (at_builtin; have HH := (HR2.out.alloc (.cells #[.int .i64 k, .string tx, .int .u64 u, .int .i64 i] 35)).alloc (.cells #[.int .i64 k, .string tx, .int .u64 u, .int .i64 i] 35); refine wpList_append_row _ rfl _ _ _ rfl 35 i0 (.agg #[.int .i64 0, .string ⟨#[]⟩, .int .u64 0, .int .i64 0]) 4 40 Tryd.underlying23 hi0 hz0 hz1 hz2 rfl (by decide) _ o l.length (tkCs l) HH (by rfl) ⟨w2.heap.size + 1, 0, none⟩ 1 1 [.int .i64 k, .string tx, .int .u64 u, .int .i64 i] (by rfl) (by rfl) (new_src' _ [.int .i64 k, .string tx, .int .u64 u, .int .i64 i] _ (by simp)) (by simp [Value.oneCell']) (by unfold maxLen; omega) (by omega) ?_; intro v4 w4 o4 hR4 hB4 hN4)
        rw [HFF.out]
        refine (HTR.out _).mono ?_
        rintro e w5 ⟨rfl, rfl⟩
        rw [HJE.out]
        have HB5 := Lib.hid (((HW2.out.alloc _).alloc _).trans' hB4 (fun k q => .inr (HO.out k q)))
        go_wp2_with fail
        go_roundg (s.size - j)
        case measure => have := HJ.out.lo; have := HJ.out.hi; omega
        case rel =>
          refine ⟨j, l ++ [(⟨k, tx, u, n⟩, i)], o4, by have := HJ.out.hi; omega, rfl, HJ.out.stop, HSC2.out.trans (HJ.out.scan _), ?_, ?_, ?_, HB5.out⟩
          · rw [List.length_append]
            show l.length + 1 ≤ j
            have := HJ.out.lo
            omega
          · rw [tkCs_snoc, List.length_append]
            exact hR4
          · intro k hk
            rcases hN4 k hk with q | q
            · exact HO.out k q
            · have := HW2.out.size
              simp at q
              omega
    · have hie : i = s.size := by omega
      have HV := Lib.hid (scanV_ok HSV.out (HSC.out.trans (scan_end (by omega) l)))
      have he1 : (fromAt s i).toList.isEmpty = true := (nonempty_iff _).2 (by rw [fromAt_size]; omega)
      clear hb hie
      go_wp2_with fail
      go_ret3
      rw [HV.out]
      exact ⟨⟨_, _, rfl, HR.out, HO.out⟩, HW.out⟩

end Lex
end Go.Proofs.YtpfpbbbenjljfaaDoor
