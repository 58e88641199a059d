/- The document's Word and Names for layer 22, walked. -/
import Derived.Test.YtgbcbadccahfcaaNamesRefBind
set_option linter.unusedVariables false
set_option linter.unusedSimpArgs false
namespace Go.Proofs.Ytgbcbadccahfcaa
open Go.RowKit

namespace Names
open Lex

theorem lastVal_skip {K : List Wd} {s : ByteArray} {m : Nat} : ∀ {n : Nat}, m ≤ n → (∀ i, m ≤ i → i < n → nm K i ≠ s) → lastVal K s n = lastVal K s m
  | 0, h, _ => by rw [show m = 0 by omega]
  | n + 1, h, q => by
    rcases Nat.lt_or_ge n m with r | r
    · rw [show m = n + 1 by omega]
    · show (if nm K n = s then vl K n else lastVal K s n) = _
      rw [if_neg (q n r (by omega))]
      exact lastVal_skip r (fun i h1 h2 => q i h1 (by omega))
/-- What is read of all that was bound. -/
theorem row_nm {E : TypeId} {w : World} {a1 : Option Addr} {cap1 nK : Nat} {o1 : Option Nat} {K : List Wd} (hR : Row w E 2 (.slice a1 nK cap1) o1 nK (cellsK K)) (hK : K.length = nK) : ∃ kb koff, (0 < nK → a1 = some ⟨kb, koff, none⟩) ∧ ∀ w', But (fun _ => False) w w' → ∀ k, k < nK → w'.cell? ⟨kb, koff + k * 2, none⟩ = some (.string (nm K k)) ∧ w'.cell? ⟨kb, koff + k * 2 + 1, none⟩ = some (.int .u64 (vl K k)) := by
  by_cases hz : 0 < nK
  · obtain ⟨kb, koff, kcap, e, -, hlt2, -, hc, -⟩ := hR.cells (by omega)
    simp at e
    refine ⟨kb, koff, fun _ => e.1, fun w' g k hk => ?_⟩
    have cc : ∀ i, w'.cell? ⟨kb, i, none⟩ = w.cell? ⟨kb, i, none⟩ := fun i => World.cell?_of_block (w := w) (g.block kb hlt2 (fun q => q))
    have hg := cellsK_get K k (by omega)
    exact ⟨by rw [cc, hc (k * 2) (by omega), hg.1], by rw [cc, Nat.add_assoc, hc (k * 2 + 1) (by omega), hg.2]⟩
  · exact ⟨0, 0, fun q => absurd q hz, fun w' g k hk => absurd hk (by omega)⟩

set_option maxHeartbeats 4000000 in
set_option maxRecDepth 100000 in
theorem ref_word {w : World} {a1 : Option Addr} {cap1 n : Nat} {o1 : Option Nat} {K L : List Wd} (hR : Row w 55 2 (.slice a1 n cap1) o1 n (cellsK K)) (hK : K.length = n) (hn : n ≤ 1000) (h : Kp K L) (s : ByteArray) :
    Calls Try.prog 10 #[.slice a1 n cap1, .string s] w fun e w' => e = .returned (.tuple #[.int .u64 (wordR L s).1, .int .i64 (wordR L s).2]) ∧ w' = w := by
  obtain ⟨kb, koff, hA, hC⟩ := row_nm hR hK
  have HK := Lib.hid h
  have HKL := Lib.hid hK
  clear hR h hK
  go_enter Try.func10, Try.ntmps10
  go_wp2_with fail
  go_loopg [6] n (fun k i1 wr => ((∃ p : Nat, k = p + 1 ∧ i1 = .int .i64 p) ∨ (k = 0 ∧ i1 = .int .i64 (-1))) ∧ k ≤ n ∧ (∀ i, k ≤ i → i < n → nm K i ≠ s) ∧ wr = w)
  case atStart =>
    refine ⟨?_, Nat.le_refl _, fun i h1 h2 => by omega, rfl⟩
    rcases Nat.eq_zero_or_pos n with q | q
    · subst q; exact .inr ⟨rfl, rfl⟩
    · exact .inl ⟨n - 1, by omega, by rw [show ((n : Int) - 1) = ((n - 1 : Nat) : Int) by omega]⟩
  case round =>
    obtain ⟨hcase, hkn, hno, rfl⟩ := hrel
    have HNO := Lib.hid hno
    clear hno
    rcases hcase with ⟨p, hp, rfl⟩ | ⟨hz, rfl⟩
    · obtain rfl := hA (by omega)
      obtain ⟨c0, c1⟩ := hC _ (But.refl _ _) p (by omega)
      by_cases he : nm K p = s
      · have heq : ((nm K p).toList == s.toList) = true := by rw [beq_txt, decide_eq_true he]
        have HW := Lib.hid (show wordR L s = (vl K p, 0) by
          unfold wordR
          rw [HK.out.yes s p (by rw [HKL.out]; omega) he, HKL.out, lastVal_skip (m := p + 1) (by omega) (fun i h1 h2 => HNO.out i (by omega) h2)]
          show ((if nm K p = s then vl K p else _), (0 : Int)) = _
          rw [if_pos he])
        clear he
        go_wp2_with fail
        go_ret2
        exact ⟨by rw [HW.out]; rfl, rfl⟩
      · have heq : ((nm K p).toList == s.toList) = false := by rw [beq_txt, decide_eq_false he]
        have HE := Lib.hid he
        clear he
        go_wp2_with fail
        go_roundg p
        case measure => omega
        case rel =>
          refine ⟨?_, by omega, fun i h1 h2 => ?_, rfl⟩
          · rcases Nat.eq_zero_or_pos p with q | q
            · subst q; exact .inr ⟨rfl, rfl⟩
            · exact .inl ⟨p - 1, by omega, by rw [show ((p : Int) - 1) = ((p - 1 : Nat) : Int) by omega]⟩
          · rcases Nat.lt_or_ge p i with r | r
            · exact HNO.out i (by omega) h2
            · rw [show i = p by omega]; exact HE.out
    · have HW := Lib.hid (show wordR L s = (0, 9) by
        unfold wordR
        rw [HK.out.no s (fun i hi => HNO.out i (by omega) (by rw [← HKL.out]; exact hi))])
      go_wp2_with fail
      go_ret2
      exact ⟨by rw [HW.out]; rfl, rfl⟩

end Names
end Go.Proofs.Ytgbcbadccahfcaa
