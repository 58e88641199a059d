/- LexerBlanks (layer 18), walked: it answers true. -/
import Derived.Test.YtpfpbbbenjljfaaDoorLexTells
import Derived.Test.YtpfpbbbenjljfaaDoorLexText
import Derived.Test.YtpfpbbbenjljfaaDoorReads
set_option linter.unusedVariables false
set_option linter.unusedSimpArgs false
namespace Go.Proofs.YtpfpbbbenjljfaaDoor
open Go.RowKit

namespace Lex

theorem eqT (w : World) (k : Int) (a : ByteArray) (x f : Int) : (Op.equalIn 10000 35 (.agg #[.int .i64 k, .string a, .int .u64 x, .int .i64 f]) (.agg #[.int .i64 k, .string a, .int .u64 x, .int .i64 f])).run Tryd.prog w = .ok true w := by
  go_simp
theorem one_blank (s : ByteArray) : s ++ ⟨#[32]⟩ = s ++ blanks (0 + 1) := by rw [← blanks_succ, blanks_zero]
theorem tmod5 (x : Int) : -4 ≤ x.tmod 5 ∧ x.tmod 5 ≤ 4 := by
  rcases Int.le_total 0 x with h | h
  · rw [Int.tmod_eq_emod_of_nonneg h]; omega
  · have := Int.neg_tmod (-x) 5
    rw [Int.neg_neg] at this
    rw [this, Int.tmod_eq_emod_of_nonneg (by omega)]; omega
theorem moved_length (d : Nat) (l : List (Tk × Nat)) : (moved d l).length = l.length := by unfold moved; rw [List.length_map]
theorem scan_at (s : ByteArray) : ∀ (m i : Nat) (l : List (Tk × Nat)), i + m = s.size → (∀ x ∈ l, x.2 ≤ s.size) → ∀ x ∈ (scan s i l).1, x.2 ≤ s.size := by
  intro m
  induction m using Nat.strongRecOn with
  | ind m ih =>
    intro i l h hl
    by_cases hlt : i < s.size
    · by_cases hb : bt s i = 32
      · rw [scan_blank hlt hb]
        exact ih (m - 1) (by omega) (i + 1) l (by omega) hl
      · by_cases hn : (tok (fromAt s i)).n = 0
        · rw [scan_bad hlt hb hn]; exact hl
        · have := tok_n s i hlt
          rw [scan_tok hlt hb hn]
          refine ih (m - (tok (fromAt s i)).n) (by omega) _ _ (by omega) (fun x hx => ?_)
          rcases List.mem_append.1 hx with q | q
          · exact hl x q
          · rw [List.mem_singleton.1 q]; show i ≤ _; omega
    · rw [scan_end (by omega)]; exact hl
theorem around_scanV {s : ByteArray} (hs : s.size ≤ 900) : ∃ (Ls : List (Tk × Nat)) (i1 i2 : Nat) (e : Int), scanV s = (Ls, i1, e) ∧ scanV (⟨#[32, 32, 32]⟩ ++ s ++ ⟨#[32, 32]⟩) = (moved 3 Ls, i2, e) ∧ (∀ x ∈ Ls, x.2 ≤ 900) ∧ Ls.length ≤ 1000 := by
  have e3 : (⟨#[32, 32, 32]⟩ : ByteArray) = blanks 3 := by decide
  have e2 : (⟨#[32, 32]⟩ : ByteArray) = blanks 2 := by decide
  have h := @scan_around s
  have hl := scanV_len s
  have hat := scan_at s s.size 0 [] (by omega) (fun x hx => by cases hx)
  have z : scanV (blanks 3 ++ s ++ blanks 2) = outV (scan (blanks 3 ++ s ++ blanks 2) 0 []) := by
    unfold scanV
    rw [if_neg (by rw [app_size, app_size, blanks_size, blanks_size]; omega)]
  have y : scanV s = outV (scan s 0 []) := by unfold scanV; rw [if_neg (by omega)]
  rw [e3, e2, z, h]
  rw [y] at hl ⊢
  rcases hs2 : scan s 0 [] with ⟨l, _ | i⟩
  · rw [hs2] at hl hat
    exact ⟨l, 0, 0, 0, rfl, rfl, fun x hx => Nat.le_trans (hat x hx) hs, hl⟩
  · exact ⟨[], i, 3 + i, 2, rfl, rfl, (fun x hx => by cases hx), Nat.zero_le _⟩

set_option maxHeartbeats 64000000 in
set_option maxRecDepth 100000 in
theorem blanks_law (w : World) (ht : Lib.TabIs Tryd.prog w "internal/strconv.uint64pow10" .u64 Lib.pow10Tab) (hy : ∃ (tp : TypeId) (p : Value), w.var? Tryd.prog "strconv.ErrSyntax" = some #[.iface tp p]) (hg : ∃ (tp : TypeId) (p : Value), w.var? Tryd.prog "strconv.ErrRange" = some #[.iface tp p])
    (a0 : Option Addr) (len0 cap0 : Nat) (V0 : Nat → Nat → Value) (e0 : Els w a0 len0 4 V0) (f0 : ∀ i, i < len0 → All2 [.i .i64, .s, .i .u64, .i .i64] ((List.range 4).map (V0 i))) (z0 : len0 * 40 ≤ 140737488351232) (m0 : len0 ≤ cap0 ∧ cap0 ≤ maxLen)
    (a1 : Option Addr) (len1 cap1 : Nat) (V1 : Nat → Nat → Value) (e1 : Els w a1 len1 1 V1) (f1 : ∀ i, i < len1 → All2 [.i .u8] ((List.range 1).map (V1 i))) (z1 : len1 * 1 ≤ 140737488351232) (m1 : len1 ≤ cap1 ∧ cap1 ≤ maxLen)
    (s : ByteArray) (ws : s.size ≤ 140737488351232) :
    Calls Tryd.prog 4 #[.slice a0 len0 cap0, .slice a1 len1 cap1, .string s] w fun e w' => e = .returned (.bool true) ∧ But (fun _ => False) w w' := by
  have E := Lib.hid (errs_of hy hg)
  have E0 := Lib.hid e0
  have E1 := Lib.hid e1
  have F0 := Lib.hid f0
  have F1 := Lib.hid f1
  obtain ⟨m0a, m0b⟩ := m0
  obtain ⟨m1a, m1b⟩ := m1
  obtain ⟨i0, hi0, hz0, hz1, hz2⟩ := info_parts infoTk
  clear ht hy hg e0 e1 f0 f1
  by_cases hb0 : 20 < len0
  · have hb0i : (20 : Int) < len0 := by omega
    go_enter Tryd.func4, Tryd.ntmps4
    go_wp2_with fail
    refine (alive_any _ E.out).mono ?_
    rintro r w1 ⟨rfl, g1⟩
    go_wp2_with fail
    go_ret
    exact ⟨rfl, g1⟩
  have hb0i : ¬ (20 : Int) < len0 := by omega
  by_cases hbs : 900 < s.size
  · have hbsi : (900 : Int) < s.size := by omega
    go_enter Tryd.func4, Tryd.ntmps4
    go_wp2_with fail
    refine (alive_any _ E.out).mono ?_
    rintro r w1 ⟨rfl, g1⟩
    go_wp2_with fail
    go_ret
    exact ⟨rfl, g1⟩
  have hbsi : ¬ (900 : Int) < s.size := by omega
  have hl0 : len0 ≤ 20 := by omega
  have hs9 : s.size ≤ 900 := by omega
  clear hb0 hbs ws z0
  go_enter Tryd.func4, Tryd.ntmps4
  go_wp2_with fail
  go_loopg [7, 8, 9] len0 (fun k lv wv iv wr => ∃ (j : Nat) (L : List (Tk × Nat)) (line : ByteArray) (o : Option Nat), j + k = len0 ∧ iv = .int .i64 j ∧ lv = .string line ∧ Row wr 35 4 wv o L.length (tkCs L) ∧ (∀ c, o = some c → w.heap.size ≤ c) ∧ Hid (scan line 0 [] = (L, none)) ∧ line.size ≤ 30 * j ∧ L.length ≤ j ∧ But (fun _ => False) w wr)
  case atStart => exact ⟨0, [], ⟨#[]⟩, none, by omega, rfl, rfl, Row.nil _ _ _, (fun c q => by cases q), Lib.hid (scan_end (Nat.le_refl _) []), Nat.zero_le _, Nat.le_refl _, But.refl _ _⟩
  case round =>
    obtain ⟨j, L, line, o, hjk, rfl, rfl, hR, hO, HS, hls, hLj, hW⟩ := hrel
    have HR := Lib.hid hR
    have HO := Lib.hid hO
    have HW := Lib.hid hW
    clear hR hO hW
    by_cases hlt : j < len0
    · have hlti : (j : Int) < len0 := by omega
      obtain ⟨xb, xoff, rfl, hxb, hxc⟩ := E0.out.at_ j hlt
      have hall : All2 [.i .i64, .s, .i .u64, .i .i64] [V0 j 0, V0 j 1, V0 j 2, V0 j 3] := F0.out j hlt
      obtain ⟨⟨kd, hk, -⟩, ⟨tx, htx, hts⟩, ⟨nu, hnu, wnu⟩, ⟨fr, hfr, -⟩, -⟩ := hall
      have q0 : wr.cell? ⟨xb, xoff + j * 4, none⟩ = some (.int .i64 kd) := by
        rw [World.cell?_of_block (w := w) (HW.out.block xb hxb (fun q => q)), ← hk, ← hxc 0 (by omega)]; rfl
      have q1 : wr.cell? ⟨xb, xoff + j * 4 + 1, none⟩ = some (.string tx) := by
        rw [World.cell?_of_block (w := w) (HW.out.block xb hxb (fun q => q)), ← htx, ← hxc 1 (by omega)]; rfl
      have q2 : wr.cell? ⟨xb, xoff + j * 4 + 2, none⟩ = some (.int .u64 nu) := by
        rw [World.cell?_of_block (w := w) (HW.out.block xb hxb (fun q => q)), ← hnu, ← hxc 2 (by omega)]; rfl
      have q3 : wr.cell? ⟨xb, xoff + j * 4 + 3, none⟩ = some (.int .i64 fr) := by
        rw [World.cell?_of_block (w := w) (HW.out.block xb hxb (fun q => q)), ← hfr, ← hxc 3 (by omega)]; rfl
      have hnb : 0 ≤ nu ∧ nu ≤ 18446744073709551615 := bounds_u64 wnu
      obtain ⟨g, mm, hmm⟩ : ∃ g mm : Nat, (j < len1 → V1 j 0 = .int .u8 g ∧ g ≤ 255 ∧ (g : Int) % 4 = mm) ∧ (¬ j < len1 → mm = 0) ∧ mm ≤ 3 := by
        by_cases h1 : j < len1
        · have h2 : All2 [.i .u8] [V1 j 0] := F1.out j h1
          obtain ⟨⟨g, hg, wg⟩, -⟩ := h2
          have hgb : 0 ≤ g ∧ g ≤ 255 := bounds_u8 wg
          refine ⟨g.toNat, (g % 4).toNat, fun _ => ⟨?_, by omega, by omega⟩, fun q => absurd h1 q, by omega⟩
          rw [hg]; congr 1; omega
        · exact ⟨0, 0, fun q => absurd q h1, fun _ => rfl, by omega⟩
      obtain ⟨hmm1, hmm2, hm3⟩ := hmm
      have HGO := Lib.hid (show 0 < mm → j < len1 ∧ (g : Int) % 4 = mm from fun q => by
        by_cases h1 : j < len1
        · exact ⟨h1, (hmm1 h1).2.2⟩
        · have := hmm2 h1; omega)
      have HG4 := Lib.hid (show j < len1 → (g : Int) % 4 = mm from fun q => (hmm1 q).2.2)
      have hg255 : j < len1 → g ≤ 255 := fun q => (hmm1 q).2.1
      have GC := Lib.hid (show ∀ yb yoff, a1 = some ⟨yb, yoff, none⟩ → j < len1 → ∀ w', But (fun _ => False) w w' → w'.cell? ⟨yb, yoff + j, none⟩ = some (.int .u8 g) from fun yb yoff ha h1 w' hw => by
        obtain ⟨b, off, e, hb, hc⟩ := E1.out.at_ j h1
        rw [ha] at e
        obtain ⟨rfl, rfl⟩ : yb = b ∧ yoff = off := by simpa using e
        rw [World.cell?_of_block (w := w) (hw.block yb hb (fun q => q)), ← (hmm1 h1).1, ← hc 0 (by omega), Nat.mul_one]; rfl)
      have hbd := tmod5 kd
      obtain ⟨m, hm⟩ : ∃ m, kd.tmod 5 = m := ⟨_, rfl⟩
      rw [hm] at hbd
      obtain ⟨hm1, hm2⟩ := hbd
      have htsz : tx.size ≤ 9223372036854775807 := by unfold maxLen at hts; omega
      clear hk htx hnu hfr hxc wnu hmm1 hmm2 hts
      go_wp2_with fail
      refine (ref_name tx _ htsz).mono ?_
      rintro e w8 ⟨rfl, rfl⟩
      by_cases c1 : m < 0
      · clear hg255
        go_wp2_with fail
        go_roundg (len0 - (j + 1))
        case measure => omega
        case rel => exact ⟨j + 1, L, line, o, by omega, by go_num, rfl, HR.out.alloc _, HO.out, HS, by omega, by omega, HW.out.alloc _⟩
      have c1' : decide (m < 0) = false := decide_eq_false c1
      by_cases c2 : m < 2
      · have c2' : decide (m < 2) = true := decide_eq_true c2
        cases hn : nameB tx with
        | false =>
          go_wp2_with fail
          go_roundg (len0 - (j + 1))
          case measure => omega
          case rel => exact ⟨j + 1, L, line, o, by omega, by go_num, rfl, HR.out.alloc _, HO.out, HS, by omega, by omega, HW.out.alloc _⟩
        | true =>
          by_cases c3 : 20 < tx.size
          · have c3i : (20 : Int) < tx.size := by omega
            go_wp2_with fail
            go_roundg (len0 - (j + 1))
            case measure => omega
            case rel => exact ⟨j + 1, L, line, o, by omega, by go_num, rfl, HR.out.alloc _, HO.out, HS, by omega, by omega, HW.out.alloc _⟩
          · have c3i : ¬ (20 : Int) < tx.size := by omega
            have d1 : decide ((1 : Int) < m) = false := decide_eq_false (by omega)
            have d2 : (m != 2) = true := by simp; omega
            have d3 : (m != 3) = true := by simp; omega
            have HNM := Lib.hid hn
            clear hn
            have HOK := Lib.hid (show okTk ⟨m, tx, 0, 0⟩ from .inl ⟨by show m = 0 ∨ m = 1; omega, HNM.out, by show tx.size ≤ 20; omega, rfl⟩)
            go_wp2_with fail
            go_loopg [7, 12] mm (fun k lv qv w9 => ∃ (q : Nat) (ln : ByteArray), q + k = mm ∧ lv = .string ln ∧ Hid (ln = line ++ blanks (q + 1)) ∧ ln.size ≤ 30 * j + q + 1 ∧ qv = .int .i64 q ∧ w9 = wr.alloc (.cells #[.int .i64 m, .string tx, .int .u64 0, .int .i64 fr] 35))
            case atStart => exact ⟨0, _, by omega, rfl, Lib.hid (one_blank line), by rw [app_size]; show line.size + 1 ≤ _; omega, rfl, rfl⟩
            case round =>
              obtain ⟨q, ln, hq, rfl, HLN, hls, rfl, rfl⟩ := hrel
              by_cases hqm : q < mm
              · obtain ⟨hj1, hg4⟩ := HGO.out (by omega)
                obtain ⟨yb, yoff, rfl, hyb, hyc⟩ := E1.out.at_ j hj1
                have hj2 : (j : Int) < len1 := by omega
                have gc := GC.out yb yoff rfl hj1 _ (HW.out.alloc (.cells #[.int .i64 m, .string tx, .int .u64 0, .int .i64 fr] 35))
                have hg5 : ((g : Int) % 4) = (mm : Int) := hg4
                have hg6 : ((g : Int).tmod 4) = (mm : Int) := by rw [Int.tmod_eq_emod_of_nonneg (by omega)]; exact hg4
                have HN2 := Lib.hid (show ln ++ ⟨#[32]⟩ = line ++ blanks (q + 1 + 1) by rw [HLN.out]; exact blanks_succ line (q + 1))
                have hsz2 : (ln ++ ⟨#[32]⟩).size ≤ 30 * j + (q + 1) + 1 := by rw [app_size]; show ln.size + 1 ≤ _; omega
                clear hyc hg4
                go_wp2_with fail
                go_roundg (mm - (q + 1))
                case measure => omega
                case rel => exact ⟨q + 1, _, by omega, rfl, HN2, hsz2, by go_num, rfl⟩
              · obtain rfl : q = mm := by omega
                have HLS := Lib.hid (show ln.size = line.size + (q + 1) by rw [HLN.out, app_size, blanks_size])
                have HSM := Lib.hid (scan_more HS.out (k := q + 1) (by omega) HOK.out)
                have htz := (tok_text HOK.out).2.2.1
                have HTX := Lib.hid (text_any ⟨m, tx, 0, 0⟩ HOK.out)
                rw [← HLN.out, ← HLS.out] at HSM
                generalize textOf ⟨m, tx, 0, 0⟩ = tt at *
                dsimp only at HSM HTX
                have hlt2 : ln.size ≤ 1000 := by omega
                by_cases hj1 : j < len1
                · obtain ⟨yb, yoff, rfl, hyb, hyc⟩ := E1.out.at_ j hj1
                  have hj2 : (j : Int) < len1 := by omega
                  have gc := GC.out yb yoff rfl hj1 _ (HW.out.alloc (.cells #[.int .i64 m, .string tx, .int .u64 0, .int .i64 fr] 35))
                  have hg4 := HG4.out hj1
                  have hg5 : ((g : Int) % 4) = (q : Int) := hg4
                  have hg6 : ((g : Int).tmod 4) = (q : Int) := by rw [Int.tmod_eq_emod_of_nonneg (by omega)]; exact hg4
                  clear hyc hg4
                  go_wp2_with fail
                  refine (HTX.out _).mono ?_
                  rintro e w3 ⟨rfl, g3⟩
                  have B3 := (Blk.new wr #[.int .i64 m, .string tx, .int .u64 0, .int .i64 ln.size] 35).but g3 (fun q => q)
                  have R3 := Lib.hid ((HR.out.alloc (.cells #[.int .i64 m, .string tx, .int .u64 0, .int .i64 ln.size] 35)).but g3 (fun _ _ q => q))
                  have W3 := Lib.hid ((HW.out.alloc (.cells #[.int .i64 m, .string tx, .int .u64 0, .int .i64 ln.size] 35)).trans g3)
                  obtain ⟨b, hb⟩ : ∃ b, b = wr.heap.size := ⟨_, rfl⟩
                  rw [← hb] at B3 ⊢
                  clear hb g3
                  have k0 := B3.cell 0
                  have k1 := B3.cell 1
                  have k2 := B3.cell 2
                  have k3 := B3.cell 3
                  clear B3
                  go_wp2_with (at_builtin; have HH := R3.out.alloc (.cells #[.int .i64 m, .string tx, .int .u64 0, .int .i64 ln.size] 35); refine wpList_append_row _ rfl _ _ _ rfl 35 i0 (.agg #[.int .i64 0, .string ⟨#[]⟩, .int .u64 0, .int .i64 0]) 4 40 Tryd.underlying23 hi0 hz0 hz1 hz2 rfl (by decide) _ o L.length (tkCs L) HH (by rfl) ⟨w3.heap.size, 0, none⟩ 1 1 [.int .i64 m, .string tx, .int .u64 0, .int .i64 ln.size] (by rfl) (by rfl) (new_src w3 [.int .i64 m, .string tx, .int .u64 0, .int .i64 ln.size] _) (by simp [Value.oneCell']) (by unfold maxLen; omega) (by omega) ?_; intro v4 w4 o4 hR4 hB4 hN4)
                  have W4 := Lib.hid ((W3.out.alloc _).trans' hB4 (fun k q => .inr (HO.out k q)))
                  go_roundg (len0 - (j + 1))
                  case measure => omega
                  case rel =>
                    refine ⟨j + 1, L ++ [(⟨m, tx, 0, tt.size⟩, ln.size)], ln ++ tt, o4, by omega, by go_num, rfl, ?_, ?_, HSM, by rw [app_size]; omega, by rw [List.length_append]; show L.length + 1 ≤ _; omega, W4.out⟩
                    · rw [tkCs_snoc, List.length_append]
                      exact hR4
                    · intro k hk
                      rcases hN4 k hk with q | q
                      · exact HO.out k q
                      · have := W3.out.size
                        simp at q
                        omega
                · have hj2 : ¬ (j : Int) < len1 := by omega
                  go_wp2_with fail
                  refine (HTX.out _).mono ?_
                  rintro e w3 ⟨rfl, g3⟩
                  have B3 := (Blk.new wr #[.int .i64 m, .string tx, .int .u64 0, .int .i64 ln.size] 35).but g3 (fun q => q)
                  have R3 := Lib.hid ((HR.out.alloc (.cells #[.int .i64 m, .string tx, .int .u64 0, .int .i64 ln.size] 35)).but g3 (fun _ _ q => q))
                  have W3 := Lib.hid ((HW.out.alloc (.cells #[.int .i64 m, .string tx, .int .u64 0, .int .i64 ln.size] 35)).trans g3)
                  obtain ⟨b, hb⟩ : ∃ b, b = wr.heap.size := ⟨_, rfl⟩
                  rw [← hb] at B3 ⊢
                  clear hb g3
                  have k0 := B3.cell 0
                  have k1 := B3.cell 1
                  have k2 := B3.cell 2
                  have k3 := B3.cell 3
                  clear B3
                  go_wp2_with (at_builtin; have HH := R3.out.alloc (.cells #[.int .i64 m, .string tx, .int .u64 0, .int .i64 ln.size] 35); refine wpList_append_row _ rfl _ _ _ rfl 35 i0 (.agg #[.int .i64 0, .string ⟨#[]⟩, .int .u64 0, .int .i64 0]) 4 40 Tryd.underlying23 hi0 hz0 hz1 hz2 rfl (by decide) _ o L.length (tkCs L) HH (by rfl) ⟨w3.heap.size, 0, none⟩ 1 1 [.int .i64 m, .string tx, .int .u64 0, .int .i64 ln.size] (by rfl) (by rfl) (new_src w3 [.int .i64 m, .string tx, .int .u64 0, .int .i64 ln.size] _) (by simp [Value.oneCell']) (by unfold maxLen; omega) (by omega) ?_; intro v4 w4 o4 hR4 hB4 hN4)
                  have W4 := Lib.hid ((W3.out.alloc _).trans' hB4 (fun k q => .inr (HO.out k q)))
                  go_roundg (len0 - (j + 1))
                  case measure => omega
                  case rel =>
                    refine ⟨j + 1, L ++ [(⟨m, tx, 0, tt.size⟩, ln.size)], ln ++ tt, o4, by omega, by go_num, rfl, ?_, ?_, HSM, by rw [app_size]; omega, by rw [List.length_append]; show L.length + 1 ≤ _; omega, W4.out⟩
                    · rw [tkCs_snoc, List.length_append]
                      exact hR4
                    · intro k hk
                      rcases hN4 k hk with q | q
                      · exact HO.out k q
                      · have := W3.out.size
                        simp at q
                        omega
      have c2' : decide (m < 2) = false := decide_eq_false c2
      have d1 : decide ((1 : Int) < m) = true := decide_eq_true (by omega)
      by_cases c4 : m = 4
      · have d2 : (m != 2) = true := by simp; omega
        have d3 : (m != 3) = true := by simp; omega
        have HM4 := Lib.hid c4
        clear c4
        have HOK := Lib.hid (show okTk ⟨m, ⟨#[]⟩, 0, 0⟩ from .inr (.inr ⟨HM4.out, rfl, rfl⟩))
        go_wp2_with fail
        go_loopg [7, 12] mm (fun k lv qv w9 => ∃ (q : Nat) (ln : ByteArray), q + k = mm ∧ lv = .string ln ∧ Hid (ln = line ++ blanks (q + 1)) ∧ ln.size ≤ 30 * j + q + 1 ∧ qv = .int .i64 q ∧ w9 = wr.alloc (.cells #[.int .i64 m, .string ⟨#[]⟩, .int .u64 0, .int .i64 fr] 35))
        case atStart => exact ⟨0, _, by omega, rfl, Lib.hid (one_blank line), by rw [app_size]; show line.size + 1 ≤ _; omega, rfl, rfl⟩
        case round =>
          obtain ⟨q, ln, hq, rfl, HLN, hls, rfl, rfl⟩ := hrel
          by_cases hqm : q < mm
          · obtain ⟨hj1, hg4⟩ := HGO.out (by omega)
            obtain ⟨yb, yoff, rfl, hyb, hyc⟩ := E1.out.at_ j hj1
            have hj2 : (j : Int) < len1 := by omega
            have gc := GC.out yb yoff rfl hj1 _ (HW.out.alloc (.cells #[.int .i64 m, .string ⟨#[]⟩, .int .u64 0, .int .i64 fr] 35))
            have hg5 : ((g : Int) % 4) = (mm : Int) := hg4
            have hg6 : ((g : Int).tmod 4) = (mm : Int) := by rw [Int.tmod_eq_emod_of_nonneg (by omega)]; exact hg4
            have HN2 := Lib.hid (show ln ++ ⟨#[32]⟩ = line ++ blanks (q + 1 + 1) by rw [HLN.out]; exact blanks_succ line (q + 1))
            have hsz2 : (ln ++ ⟨#[32]⟩).size ≤ 30 * j + (q + 1) + 1 := by rw [app_size]; show ln.size + 1 ≤ _; omega
            clear hyc hg4
            go_wp2_with fail
            go_roundg (mm - (q + 1))
            case measure => omega
            case rel => exact ⟨q + 1, _, by omega, rfl, HN2, hsz2, by go_num, rfl⟩
          · obtain rfl : q = mm := by omega
            have HLS := Lib.hid (show ln.size = line.size + (q + 1) by rw [HLN.out, app_size, blanks_size])
            have HSM := Lib.hid (scan_more HS.out (k := q + 1) (by omega) HOK.out)
            have htz := (tok_text HOK.out).2.2.1
            have HTX := Lib.hid (text_any ⟨m, ⟨#[]⟩, 0, 0⟩ HOK.out)
            rw [← HLN.out, ← HLS.out] at HSM
            generalize textOf ⟨m, ⟨#[]⟩, 0, 0⟩ = tt at *
            dsimp only at HSM HTX
            have hlt2 : ln.size ≤ 1000 := by omega
            by_cases hj1 : j < len1
            · obtain ⟨yb, yoff, rfl, hyb, hyc⟩ := E1.out.at_ j hj1
              have hj2 : (j : Int) < len1 := by omega
              have gc := GC.out yb yoff rfl hj1 _ (HW.out.alloc (.cells #[.int .i64 m, .string ⟨#[]⟩, .int .u64 0, .int .i64 fr] 35))
              have hg4 := HG4.out hj1
              have hg5 : ((g : Int) % 4) = (q : Int) := hg4
              have hg6 : ((g : Int).tmod 4) = (q : Int) := by rw [Int.tmod_eq_emod_of_nonneg (by omega)]; exact hg4
              clear hyc hg4
              go_wp2_with fail
              refine (HTX.out _).mono ?_
              rintro e w3 ⟨rfl, g3⟩
              have B3 := (Blk.new wr #[.int .i64 m, .string ⟨#[]⟩, .int .u64 0, .int .i64 ln.size] 35).but g3 (fun q => q)
              have R3 := Lib.hid ((HR.out.alloc (.cells #[.int .i64 m, .string ⟨#[]⟩, .int .u64 0, .int .i64 ln.size] 35)).but g3 (fun _ _ q => q))
              have W3 := Lib.hid ((HW.out.alloc (.cells #[.int .i64 m, .string ⟨#[]⟩, .int .u64 0, .int .i64 ln.size] 35)).trans g3)
              obtain ⟨b, hb⟩ : ∃ b, b = wr.heap.size := ⟨_, rfl⟩
              rw [← hb] at B3 ⊢
              clear hb g3
              have k0 := B3.cell 0
              have k1 := B3.cell 1
              have k2 := B3.cell 2
              have k3 := B3.cell 3
              clear B3
              go_wp2_with (at_builtin; have HH := R3.out.alloc (.cells #[.int .i64 m, .string ⟨#[]⟩, .int .u64 0, .int .i64 ln.size] 35); refine wpList_append_row _ rfl _ _ _ rfl 35 i0 (.agg #[.int .i64 0, .string ⟨#[]⟩, .int .u64 0, .int .i64 0]) 4 40 Tryd.underlying23 hi0 hz0 hz1 hz2 rfl (by decide) _ o L.length (tkCs L) HH (by rfl) ⟨w3.heap.size, 0, none⟩ 1 1 [.int .i64 m, .string ⟨#[]⟩, .int .u64 0, .int .i64 ln.size] (by rfl) (by rfl) (new_src w3 [.int .i64 m, .string ⟨#[]⟩, .int .u64 0, .int .i64 ln.size] _) (by simp [Value.oneCell']) (by unfold maxLen; omega) (by omega) ?_; intro v4 w4 o4 hR4 hB4 hN4)
              have W4 := Lib.hid ((W3.out.alloc _).trans' hB4 (fun k q => .inr (HO.out k q)))
              go_roundg (len0 - (j + 1))
              case measure => omega
              case rel =>
                refine ⟨j + 1, L ++ [(⟨m, ⟨#[]⟩, 0, tt.size⟩, ln.size)], ln ++ tt, o4, by omega, by go_num, rfl, ?_, ?_, HSM, by rw [app_size]; omega, by rw [List.length_append]; show L.length + 1 ≤ _; omega, W4.out⟩
                · rw [tkCs_snoc, List.length_append]
                  exact hR4
                · intro k hk
                  rcases hN4 k hk with q | q
                  · exact HO.out k q
                  · have := W3.out.size
                    simp at q
                    omega
            · have hj2 : ¬ (j : Int) < len1 := by omega
              go_wp2_with fail
              refine (HTX.out _).mono ?_
              rintro e w3 ⟨rfl, g3⟩
              have B3 := (Blk.new wr #[.int .i64 m, .string ⟨#[]⟩, .int .u64 0, .int .i64 ln.size] 35).but g3 (fun q => q)
              have R3 := Lib.hid ((HR.out.alloc (.cells #[.int .i64 m, .string ⟨#[]⟩, .int .u64 0, .int .i64 ln.size] 35)).but g3 (fun _ _ q => q))
              have W3 := Lib.hid ((HW.out.alloc (.cells #[.int .i64 m, .string ⟨#[]⟩, .int .u64 0, .int .i64 ln.size] 35)).trans g3)
              obtain ⟨b, hb⟩ : ∃ b, b = wr.heap.size := ⟨_, rfl⟩
              rw [← hb] at B3 ⊢
              clear hb g3
              have k0 := B3.cell 0
              have k1 := B3.cell 1
              have k2 := B3.cell 2
              have k3 := B3.cell 3
              clear B3
              go_wp2_with (at_builtin; have HH := R3.out.alloc (.cells #[.int .i64 m, .string ⟨#[]⟩, .int .u64 0, .int .i64 ln.size] 35); refine wpList_append_row _ rfl _ _ _ rfl 35 i0 (.agg #[.int .i64 0, .string ⟨#[]⟩, .int .u64 0, .int .i64 0]) 4 40 Tryd.underlying23 hi0 hz0 hz1 hz2 rfl (by decide) _ o L.length (tkCs L) HH (by rfl) ⟨w3.heap.size, 0, none⟩ 1 1 [.int .i64 m, .string ⟨#[]⟩, .int .u64 0, .int .i64 ln.size] (by rfl) (by rfl) (new_src w3 [.int .i64 m, .string ⟨#[]⟩, .int .u64 0, .int .i64 ln.size] _) (by simp [Value.oneCell']) (by unfold maxLen; omega) (by omega) ?_; intro v4 w4 o4 hR4 hB4 hN4)
              have W4 := Lib.hid ((W3.out.alloc _).trans' hB4 (fun k q => .inr (HO.out k q)))
              go_roundg (len0 - (j + 1))
              case measure => omega
              case rel =>
                refine ⟨j + 1, L ++ [(⟨m, ⟨#[]⟩, 0, tt.size⟩, ln.size)], ln ++ tt, o4, by omega, by go_num, rfl, ?_, ?_, HSM, by rw [app_size]; omega, by rw [List.length_append]; show L.length + 1 ≤ _; omega, W4.out⟩
                · rw [tkCs_snoc, List.length_append]
                  exact hR4
                · intro k hk
                  rcases hN4 k hk with q | q
                  · exact HO.out k q
                  · have := W3.out.size
                    simp at q
                    omega
      · have HM23 := Lib.hid (show m = 2 ∨ m = 3 by omega)
        obtain ⟨hnb1, hnb2⟩ := hnb
        rcases (show (m = 2) ∨ (m = 3) by omega) with e2 | e2
        · have d2 : (m != 2) = false := by simp [e2]
          clear e2 c4
          have HOK := Lib.hid (show okTk ⟨m, ⟨#[]⟩, nu, 0⟩ from .inr (.inl ⟨HM23.out, rfl, ⟨hnb1, hnb2⟩⟩))
          go_wp2_with fail
          go_loopg [7, 12] mm (fun k lv qv w9 => ∃ (q : Nat) (ln : ByteArray), q + k = mm ∧ lv = .string ln ∧ Hid (ln = line ++ blanks (q + 1)) ∧ ln.size ≤ 30 * j + q + 1 ∧ qv = .int .i64 q ∧ w9 = wr.alloc (.cells #[.int .i64 m, .string ⟨#[]⟩, .int .u64 nu, .int .i64 fr] 35))
          case atStart => exact ⟨0, _, by omega, rfl, Lib.hid (one_blank line), by rw [app_size]; show line.size + 1 ≤ _; omega, rfl, rfl⟩
          case round =>
            obtain ⟨q, ln, hq, rfl, HLN, hls, rfl, rfl⟩ := hrel
            by_cases hqm : q < mm
            · obtain ⟨hj1, hg4⟩ := HGO.out (by omega)
              obtain ⟨yb, yoff, rfl, hyb, hyc⟩ := E1.out.at_ j hj1
              have hj2 : (j : Int) < len1 := by omega
              have gc := GC.out yb yoff rfl hj1 _ (HW.out.alloc (.cells #[.int .i64 m, .string ⟨#[]⟩, .int .u64 nu, .int .i64 fr] 35))
              have hg5 : ((g : Int) % 4) = (mm : Int) := hg4
              have hg6 : ((g : Int).tmod 4) = (mm : Int) := by rw [Int.tmod_eq_emod_of_nonneg (by omega)]; exact hg4
              have HN2 := Lib.hid (show ln ++ ⟨#[32]⟩ = line ++ blanks (q + 1 + 1) by rw [HLN.out]; exact blanks_succ line (q + 1))
              have hsz2 : (ln ++ ⟨#[32]⟩).size ≤ 30 * j + (q + 1) + 1 := by rw [app_size]; show ln.size + 1 ≤ _; omega
              clear hyc hg4
              go_wp2_with fail
              go_roundg (mm - (q + 1))
              case measure => omega
              case rel => exact ⟨q + 1, _, by omega, rfl, HN2, hsz2, by go_num, rfl⟩
            · obtain rfl : q = mm := by omega
              have HLS := Lib.hid (show ln.size = line.size + (q + 1) by rw [HLN.out, app_size, blanks_size])
              have HSM := Lib.hid (scan_more HS.out (k := q + 1) (by omega) HOK.out)
              have htz := (tok_text HOK.out).2.2.1
              have HTX := Lib.hid (text_any ⟨m, ⟨#[]⟩, nu, 0⟩ HOK.out)
              rw [← HLN.out, ← HLS.out] at HSM
              generalize textOf ⟨m, ⟨#[]⟩, nu, 0⟩ = tt at *
              dsimp only at HSM HTX
              have hlt2 : ln.size ≤ 1000 := by omega
              by_cases hj1 : j < len1
              · obtain ⟨yb, yoff, rfl, hyb, hyc⟩ := E1.out.at_ j hj1
                have hj2 : (j : Int) < len1 := by omega
                have gc := GC.out yb yoff rfl hj1 _ (HW.out.alloc (.cells #[.int .i64 m, .string ⟨#[]⟩, .int .u64 nu, .int .i64 fr] 35))
                have hg4 := HG4.out hj1
                have hg5 : ((g : Int) % 4) = (q : Int) := hg4
                have hg6 : ((g : Int).tmod 4) = (q : Int) := by rw [Int.tmod_eq_emod_of_nonneg (by omega)]; exact hg4
                clear hyc hg4
                go_wp2_with fail
                refine (HTX.out _).mono ?_
                rintro e w3 ⟨rfl, g3⟩
                have B3 := (Blk.new wr #[.int .i64 m, .string ⟨#[]⟩, .int .u64 nu, .int .i64 ln.size] 35).but g3 (fun q => q)
                have R3 := Lib.hid ((HR.out.alloc (.cells #[.int .i64 m, .string ⟨#[]⟩, .int .u64 nu, .int .i64 ln.size] 35)).but g3 (fun _ _ q => q))
                have W3 := Lib.hid ((HW.out.alloc (.cells #[.int .i64 m, .string ⟨#[]⟩, .int .u64 nu, .int .i64 ln.size] 35)).trans g3)
                obtain ⟨b, hb⟩ : ∃ b, b = wr.heap.size := ⟨_, rfl⟩
                rw [← hb] at B3 ⊢
                clear hb g3
                have k0 := B3.cell 0
                have k1 := B3.cell 1
                have k2 := B3.cell 2
                have k3 := B3.cell 3
                clear B3
                go_wp2_with (at_builtin; have HH := R3.out.alloc (.cells #[.int .i64 m, .string ⟨#[]⟩, .int .u64 nu, .int .i64 ln.size] 35); refine wpList_append_row _ rfl _ _ _ rfl 35 i0 (.agg #[.int .i64 0, .string ⟨#[]⟩, .int .u64 0, .int .i64 0]) 4 40 Tryd.underlying23 hi0 hz0 hz1 hz2 rfl (by decide) _ o L.length (tkCs L) HH (by rfl) ⟨w3.heap.size, 0, none⟩ 1 1 [.int .i64 m, .string ⟨#[]⟩, .int .u64 nu, .int .i64 ln.size] (by rfl) (by rfl) (new_src w3 [.int .i64 m, .string ⟨#[]⟩, .int .u64 nu, .int .i64 ln.size] _) (by simp [Value.oneCell']) (by unfold maxLen; omega) (by omega) ?_; intro v4 w4 o4 hR4 hB4 hN4)
                have W4 := Lib.hid ((W3.out.alloc _).trans' hB4 (fun k q => .inr (HO.out k q)))
                go_roundg (len0 - (j + 1))
                case measure => omega
                case rel =>
                  refine ⟨j + 1, L ++ [(⟨m, ⟨#[]⟩, nu, tt.size⟩, ln.size)], ln ++ tt, o4, by omega, by go_num, rfl, ?_, ?_, HSM, by rw [app_size]; omega, by rw [List.length_append]; show L.length + 1 ≤ _; omega, W4.out⟩
                  · rw [tkCs_snoc, List.length_append]
                    exact hR4
                  · intro k hk
                    rcases hN4 k hk with q | q
                    · exact HO.out k q
                    · have := W3.out.size
                      simp at q
                      omega
              · have hj2 : ¬ (j : Int) < len1 := by omega
                go_wp2_with fail
                refine (HTX.out _).mono ?_
                rintro e w3 ⟨rfl, g3⟩
                have B3 := (Blk.new wr #[.int .i64 m, .string ⟨#[]⟩, .int .u64 nu, .int .i64 ln.size] 35).but g3 (fun q => q)
                have R3 := Lib.hid ((HR.out.alloc (.cells #[.int .i64 m, .string ⟨#[]⟩, .int .u64 nu, .int .i64 ln.size] 35)).but g3 (fun _ _ q => q))
                have W3 := Lib.hid ((HW.out.alloc (.cells #[.int .i64 m, .string ⟨#[]⟩, .int .u64 nu, .int .i64 ln.size] 35)).trans g3)
                obtain ⟨b, hb⟩ : ∃ b, b = wr.heap.size := ⟨_, rfl⟩
                rw [← hb] at B3 ⊢
                clear hb g3
                have k0 := B3.cell 0
                have k1 := B3.cell 1
                have k2 := B3.cell 2
                have k3 := B3.cell 3
                clear B3
                go_wp2_with (at_builtin; have HH := R3.out.alloc (.cells #[.int .i64 m, .string ⟨#[]⟩, .int .u64 nu, .int .i64 ln.size] 35); refine wpList_append_row _ rfl _ _ _ rfl 35 i0 (.agg #[.int .i64 0, .string ⟨#[]⟩, .int .u64 0, .int .i64 0]) 4 40 Tryd.underlying23 hi0 hz0 hz1 hz2 rfl (by decide) _ o L.length (tkCs L) HH (by rfl) ⟨w3.heap.size, 0, none⟩ 1 1 [.int .i64 m, .string ⟨#[]⟩, .int .u64 nu, .int .i64 ln.size] (by rfl) (by rfl) (new_src w3 [.int .i64 m, .string ⟨#[]⟩, .int .u64 nu, .int .i64 ln.size] _) (by simp [Value.oneCell']) (by unfold maxLen; omega) (by omega) ?_; intro v4 w4 o4 hR4 hB4 hN4)
                have W4 := Lib.hid ((W3.out.alloc _).trans' hB4 (fun k q => .inr (HO.out k q)))
                go_roundg (len0 - (j + 1))
                case measure => omega
                case rel =>
                  refine ⟨j + 1, L ++ [(⟨m, ⟨#[]⟩, nu, tt.size⟩, ln.size)], ln ++ tt, o4, by omega, by go_num, rfl, ?_, ?_, HSM, by rw [app_size]; omega, by rw [List.length_append]; show L.length + 1 ≤ _; omega, W4.out⟩
                  · rw [tkCs_snoc, List.length_append]
                    exact hR4
                  · intro k hk
                    rcases hN4 k hk with q | q
                    · exact HO.out k q
                    · have := W3.out.size
                      simp at q
                      omega
        · have d2 : (m != 2) = true := by simp [e2]
          have d3 : (m != 3) = false := by simp [e2]
          clear e2 c4
          have HOK := Lib.hid (show okTk ⟨m, ⟨#[]⟩, nu, 0⟩ from .inr (.inl ⟨HM23.out, rfl, ⟨hnb1, hnb2⟩⟩))
          go_wp2_with fail
          go_loopg [7, 12] mm (fun k lv qv w9 => ∃ (q : Nat) (ln : ByteArray), q + k = mm ∧ lv = .string ln ∧ Hid (ln = line ++ blanks (q + 1)) ∧ ln.size ≤ 30 * j + q + 1 ∧ qv = .int .i64 q ∧ w9 = wr.alloc (.cells #[.int .i64 m, .string ⟨#[]⟩, .int .u64 nu, .int .i64 fr] 35))
          case atStart => exact ⟨0, _, by omega, rfl, Lib.hid (one_blank line), by rw [app_size]; show line.size + 1 ≤ _; omega, rfl, rfl⟩
          case round =>
            obtain ⟨q, ln, hq, rfl, HLN, hls, rfl, rfl⟩ := hrel
            by_cases hqm : q < mm
            · obtain ⟨hj1, hg4⟩ := HGO.out (by omega)
              obtain ⟨yb, yoff, rfl, hyb, hyc⟩ := E1.out.at_ j hj1
              have hj2 : (j : Int) < len1 := by omega
              have gc := GC.out yb yoff rfl hj1 _ (HW.out.alloc (.cells #[.int .i64 m, .string ⟨#[]⟩, .int .u64 nu, .int .i64 fr] 35))
              have hg5 : ((g : Int) % 4) = (mm : Int) := hg4
              have hg6 : ((g : Int).tmod 4) = (mm : Int) := by rw [Int.tmod_eq_emod_of_nonneg (by omega)]; exact hg4
              have HN2 := Lib.hid (show ln ++ ⟨#[32]⟩ = line ++ blanks (q + 1 + 1) by rw [HLN.out]; exact blanks_succ line (q + 1))
              have hsz2 : (ln ++ ⟨#[32]⟩).size ≤ 30 * j + (q + 1) + 1 := by rw [app_size]; show ln.size + 1 ≤ _; omega
              clear hyc hg4
              go_wp2_with fail
              go_roundg (mm - (q + 1))
              case measure => omega
              case rel => exact ⟨q + 1, _, by omega, rfl, HN2, hsz2, by go_num, rfl⟩
            · obtain rfl : q = mm := by omega
              have HLS := Lib.hid (show ln.size = line.size + (q + 1) by rw [HLN.out, app_size, blanks_size])
              have HSM := Lib.hid (scan_more HS.out (k := q + 1) (by omega) HOK.out)
              have htz := (tok_text HOK.out).2.2.1
              have HTX := Lib.hid (text_any ⟨m, ⟨#[]⟩, nu, 0⟩ HOK.out)
              rw [← HLN.out, ← HLS.out] at HSM
              generalize textOf ⟨m, ⟨#[]⟩, nu, 0⟩ = tt at *
              dsimp only at HSM HTX
              have hlt2 : ln.size ≤ 1000 := by omega
              by_cases hj1 : j < len1
              · obtain ⟨yb, yoff, rfl, hyb, hyc⟩ := E1.out.at_ j hj1
                have hj2 : (j : Int) < len1 := by omega
                have gc := GC.out yb yoff rfl hj1 _ (HW.out.alloc (.cells #[.int .i64 m, .string ⟨#[]⟩, .int .u64 nu, .int .i64 fr] 35))
                have hg4 := HG4.out hj1
                have hg5 : ((g : Int) % 4) = (q : Int) := hg4
                have hg6 : ((g : Int).tmod 4) = (q : Int) := by rw [Int.tmod_eq_emod_of_nonneg (by omega)]; exact hg4
                clear hyc hg4
                go_wp2_with fail
                refine (HTX.out _).mono ?_
                rintro e w3 ⟨rfl, g3⟩
                have B3 := (Blk.new wr #[.int .i64 m, .string ⟨#[]⟩, .int .u64 nu, .int .i64 ln.size] 35).but g3 (fun q => q)
                have R3 := Lib.hid ((HR.out.alloc (.cells #[.int .i64 m, .string ⟨#[]⟩, .int .u64 nu, .int .i64 ln.size] 35)).but g3 (fun _ _ q => q))
                have W3 := Lib.hid ((HW.out.alloc (.cells #[.int .i64 m, .string ⟨#[]⟩, .int .u64 nu, .int .i64 ln.size] 35)).trans g3)
                obtain ⟨b, hb⟩ : ∃ b, b = wr.heap.size := ⟨_, rfl⟩
                rw [← hb] at B3 ⊢
                clear hb g3
                have k0 := B3.cell 0
                have k1 := B3.cell 1
                have k2 := B3.cell 2
                have k3 := B3.cell 3
                clear B3
                go_wp2_with (at_builtin; have HH := R3.out.alloc (.cells #[.int .i64 m, .string ⟨#[]⟩, .int .u64 nu, .int .i64 ln.size] 35); refine wpList_append_row _ rfl _ _ _ rfl 35 i0 (.agg #[.int .i64 0, .string ⟨#[]⟩, .int .u64 0, .int .i64 0]) 4 40 Tryd.underlying23 hi0 hz0 hz1 hz2 rfl (by decide) _ o L.length (tkCs L) HH (by rfl) ⟨w3.heap.size, 0, none⟩ 1 1 [.int .i64 m, .string ⟨#[]⟩, .int .u64 nu, .int .i64 ln.size] (by rfl) (by rfl) (new_src w3 [.int .i64 m, .string ⟨#[]⟩, .int .u64 nu, .int .i64 ln.size] _) (by simp [Value.oneCell']) (by unfold maxLen; omega) (by omega) ?_; intro v4 w4 o4 hR4 hB4 hN4)
                have W4 := Lib.hid ((W3.out.alloc _).trans' hB4 (fun k q => .inr (HO.out k q)))
                go_roundg (len0 - (j + 1))
                case measure => omega
                case rel =>
                  refine ⟨j + 1, L ++ [(⟨m, ⟨#[]⟩, nu, tt.size⟩, ln.size)], ln ++ tt, o4, by omega, by go_num, rfl, ?_, ?_, HSM, by rw [app_size]; omega, by rw [List.length_append]; show L.length + 1 ≤ _; omega, W4.out⟩
                  · rw [tkCs_snoc, List.length_append]
                    exact hR4
                  · intro k hk
                    rcases hN4 k hk with q | q
                    · exact HO.out k q
                    · have := W3.out.size
                      simp at q
                      omega
              · have hj2 : ¬ (j : Int) < len1 := by omega
                go_wp2_with fail
                refine (HTX.out _).mono ?_
                rintro e w3 ⟨rfl, g3⟩
                have B3 := (Blk.new wr #[.int .i64 m, .string ⟨#[]⟩, .int .u64 nu, .int .i64 ln.size] 35).but g3 (fun q => q)
                have R3 := Lib.hid ((HR.out.alloc (.cells #[.int .i64 m, .string ⟨#[]⟩, .int .u64 nu, .int .i64 ln.size] 35)).but g3 (fun _ _ q => q))
                have W3 := Lib.hid ((HW.out.alloc (.cells #[.int .i64 m, .string ⟨#[]⟩, .int .u64 nu, .int .i64 ln.size] 35)).trans g3)
                obtain ⟨b, hb⟩ : ∃ b, b = wr.heap.size := ⟨_, rfl⟩
                rw [← hb] at B3 ⊢
                clear hb g3
                have k0 := B3.cell 0
                have k1 := B3.cell 1
                have k2 := B3.cell 2
                have k3 := B3.cell 3
                clear B3
                go_wp2_with (at_builtin; have HH := R3.out.alloc (.cells #[.int .i64 m, .string ⟨#[]⟩, .int .u64 nu, .int .i64 ln.size] 35); refine wpList_append_row _ rfl _ _ _ rfl 35 i0 (.agg #[.int .i64 0, .string ⟨#[]⟩, .int .u64 0, .int .i64 0]) 4 40 Tryd.underlying23 hi0 hz0 hz1 hz2 rfl (by decide) _ o L.length (tkCs L) HH (by rfl) ⟨w3.heap.size, 0, none⟩ 1 1 [.int .i64 m, .string ⟨#[]⟩, .int .u64 nu, .int .i64 ln.size] (by rfl) (by rfl) (new_src w3 [.int .i64 m, .string ⟨#[]⟩, .int .u64 nu, .int .i64 ln.size] _) (by simp [Value.oneCell']) (by unfold maxLen; omega) (by omega) ?_; intro v4 w4 o4 hR4 hB4 hN4)
                have W4 := Lib.hid ((W3.out.alloc _).trans' hB4 (fun k q => .inr (HO.out k q)))
                go_roundg (len0 - (j + 1))
                case measure => omega
                case rel =>
                  refine ⟨j + 1, L ++ [(⟨m, ⟨#[]⟩, nu, tt.size⟩, ln.size)], ln ++ tt, o4, by omega, by go_num, rfl, ?_, ?_, HSM, by rw [app_size]; omega, by rw [List.length_append]; show L.length + 1 ≤ _; omega, W4.out⟩
                  · rw [tkCs_snoc, List.length_append]
                    exact hR4
                  · intro k hk
                    rcases hN4 k hk with q | q
                    · exact HO.out k q
                    · have := W3.out.size
                      simp at q
                      omega
    · obtain rfl : j = len0 := by omega
      have hlti : ¬ (j : Int) < (j : Int) := by omega
      have HV := Lib.hid (show scanV line = (L, 0, 0) by unfold scanV; rw [if_neg (by omega), HS.out]; rfl)
      have HSC := Lib.hid (scan_any line · (by omega))
      rw [HV.out] at HSC
      have HR0 := HR.out
      obtain ⟨aw, capw, hwv, hcw, -⟩ := HR0.val
      rw [hwv] at HR
      obtain ⟨n, hn⟩ : ∃ n, n = L.length := ⟨_, rfl⟩
      have HN := Lib.hid hn
      dsimp only at HSC
      rw [← hn] at hcw hLj
      subst hwv
      clear hlt HR0
      rw [← hn]
      clear hn
      have d1 : ((n : Int) != (n : Int)) = false := by simp
      go_wp2_with fail
      refine (HSC.out _ (E.out.keep HW.out)).mono ?_
      rintro r w2 ⟨⟨v2, o2, rfl, hR2, -⟩, g2⟩
      have R2 := Lib.hid hR2
      have Q2 := Lib.hid (HR.out.but g2 (fun _ _ q => q))
      have W2 := Lib.hid (HW.out.trans g2)
      obtain ⟨ax, capx, rfl, hcx, -⟩ := hR2.val
      rw [← HN.out] at hcx ⊢
      clear hR2 g2
      go_wp2_with fail
      go_loopg [16] n (fun k iv wr => ∃ j m : Nat, j + k = n ∧ iv = .int .i64 j ∧ wr = w2.drewN m)
      case atStart => exact ⟨0, 0, by omega, rfl, rfl⟩
      case round =>
        obtain ⟨j2, m2, hj2, rfl, rfl⟩ := hrel
        by_cases hlt : j2 < n
        · have hlt2 : (j2 : Int) < n := by omega
          obtain ⟨c, off, cp, e1, -, -, -, p0, p1, p2, p3⟩ := rowT_at R2.out (i := j2) (by rw [← HN.out]; exact hlt)
          obtain ⟨rfl, -, -⟩ := Value.slice.inj e1
          obtain ⟨c', off', cp', e2, -, -, -, q0, q1, q2, q3⟩ := rowT_at Q2.out (i := j2) (by rw [← HN.out]; exact hlt)
          obtain ⟨rfl, -, -⟩ := Value.slice.inj e2
          clear e1 e2
          generalize (L[j2]'_).1.kind = ki at *
          generalize (L[j2]'_).1.text = tx at *
          generalize (L[j2]'_).1.num = nu at *
          generalize (L[j2]'_).2 = fr at *
          have eq0 := fun w => eqT w ki tx nu fr
          go_wp2_with fail
          go_quiet ((fail))
          go_wp2_with fail
          go_roundg (n - (j2 + 1))
          case measure => omega
          case rel => exact ⟨j2 + 1, _, by omega, by go_num, rfl⟩
        · have hlt2 : ¬ (j2 : Int) < n := by omega
          obtain ⟨wd, hwd⟩ : ∃ wd, wd = w2.drewN m2 := ⟨_, rfl⟩
          have WD := Lib.hid (show But (fun _ => False) w wd by rw [hwd]; exact W2.out.drewN _)
          rw [← hwd]
          clear hwd hlt
          obtain ⟨Ls, i1, i2, er, hv1, hv2, hfr, hLs⟩ := around_scanV hs9
          have S1 := Lib.hid (scan_any s · (by omega))
          have S2 := Lib.hid (scan_any (⟨#[32, 32, 32]⟩ ++ s ++ ⟨#[32, 32]⟩) · (by rw [app_size, app_size]; show 3 + s.size + 2 ≤ _; omega))
          rw [hv1] at S1
          rw [hv2, moved_length] at S2
          have HFR := Lib.hid hfr
          have HML := Lib.hid (moved_length 3 Ls)
          obtain ⟨n3, hn3⟩ : ∃ n3, n3 = Ls.length := ⟨_, rfl⟩
          rw [← hn3] at S1 S2 HML hLs
          have HN3 := Lib.hid hn3
          dsimp only at S1 S2
          have d5 : (er != er) = false := by simp
          have d6 : ((n3 : Int) != (n3 : Int)) = false := by simp
          clear hv1 hv2 hfr hn3
          go_wp2_with fail
          refine (S1.out _ (E.out.keep WD.out)).mono ?_
          rintro r w4 ⟨⟨v4, o4, rfl, hR4, -⟩, g4⟩
          have R4 := Lib.hid hR4
          have W4 := Lib.hid (WD.out.trans g4)
          obtain ⟨a4, cap4, rfl, hc4, -⟩ := hR4.val
          clear hR4 g4
          go_wp2_with fail
          refine (S2.out _ (E.out.keep W4.out)).mono ?_
          rintro r w5 ⟨⟨v5, o5, rfl, hR5, -⟩, g5⟩
          have R5 := Lib.hid hR5
          have R45 := Lib.hid (R4.out.but g5 (fun _ _ q => q))
          have W5 := Lib.hid (W4.out.trans g5)
          obtain ⟨a5, cap5, rfl, hc5, -⟩ := hR5.val
          clear hR5 g5
          go_wp2_with fail
          go_loopg [23] n3 (fun k iv wr => ∃ j : Nat, j + k = n3 ∧ iv = .int .i64 j ∧ But (fun _ => False) w5 wr)
          case atStart => exact ⟨0, by omega, rfl, But.refl _ _⟩
          case round =>
            obtain ⟨j3, hj3, rfl, hW6⟩ := hrel
            have W6 := Lib.hid hW6
            clear hW6
            by_cases hlt : j3 < n3
            · have hlt2 : (j3 : Int) < n3 := by omega
              have RY := R45.out.but W6.out (fun _ _ q => q)
              have RZ := R5.out.but W6.out (fun _ _ q => q)
              rw [← HML.out] at RZ
              rw [HN3.out] at RY
              obtain ⟨c, off, cp, e1, -, hcl, -, p0, p1, p2, p3⟩ := rowT_at RY (i := j3) (by rw [← HN3.out]; exact hlt)
              obtain ⟨rfl, -, -⟩ := Value.slice.inj e1
              obtain ⟨c', off', cp', e2, -, hcl', -, q0, q1, q2, q3⟩ := rowT_at RZ (i := j3) (by rw [HML.out]; exact hlt)
              obtain ⟨rfl, -, -⟩ := Value.slice.inj e2
              have hmv : (moved 3 Ls)[j3]'(by rw [HML.out]; exact hlt) = ((Ls[j3]'(by rw [← HN3.out]; exact hlt)).1, 3 + (Ls[j3]'(by rw [← HN3.out]; exact hlt)).2) := by simp [moved]
              rw [hmv] at q0 q1 q2 q3
              have hf9 := HFR.out (Ls[j3]'(by rw [← HN3.out]; exact hlt)) (List.getElem_mem _)
              clear e1 e2 hmv RY RZ
              dsimp only at q0 q1 q2 q3
              generalize (Ls[j3]'_).1.kind = ki at *
              generalize (Ls[j3]'_).1.text = tx at *
              generalize (Ls[j3]'_).1.num = nu at *
              generalize (Ls[j3]'_).2 = fr at *
              have hsub : ((3 + fr : Nat) : Int) - 3 = (fr : Int) := by omega
              have eq0 := fun w => eqT w ki tx nu fr
              go_wp2_with fail
              go_quiet ((fail))
              go_wp2_with fail
              go_roundg (n3 - (j3 + 1))
              case measure => omega
              case rel => exact ⟨j3 + 1, by omega, by go_num, (W6.out.alloc _).drewN _⟩
            · have hlt2 : ¬ (j3 : Int) < n3 := by omega
              go_wp2_with fail
              refine (alive_any _ (E.out.keep (W5.out.trans W6.out))).mono ?_
              rintro r w9 ⟨rfl, g9⟩
              go_wp2_with fail
              go_ret
              exact ⟨rfl, (W5.out.trans W6.out).trans g9⟩

end Lex
end Go.Proofs.YtpfpbbbenjljfaaDoor
