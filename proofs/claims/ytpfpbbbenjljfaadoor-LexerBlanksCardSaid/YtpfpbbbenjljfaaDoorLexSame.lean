/- The law's same (layer 18), walked, at the same tokens: true. -/
import Derived.Test.YtpfpbbbenjljfaaDoorLexAlive
import Derived.Test.YtpfpbbbenjljfaaDoorLexRefScan
import Derived.Deep.QuietTactic
import Derived.BigQuiet
set_option linter.unusedVariables false
set_option linter.unusedSimpArgs false
namespace Go.Proofs.YtpfpbbbenjljfaaDoor
open Go.RowKit

namespace Lex

set_option maxHeartbeats 4000000 in
set_option maxRecDepth 100000 in
theorem same_any (v v' : Value) (o o' : Option Nat) (l : List (Tk × Nat)) (w : World) (hR : Row w 35 4 v o l.length (tkCs l)) (hR' : Row w 37 4 v' o' l.length (tkCs l)) (hn : l.length ≤ 1000) :
    Calls Tryd.prog 8 #[v, v'] w fun e w' => e = .returned (.bool true) ∧ But (fun _ => False) w w' := by
  obtain ⟨a, cap, hv, hcap, hcap2⟩ := hR.val
  obtain ⟨a', cap', hv', hcap', hcap2'⟩ := hR'.val
  subst hv
  subst hv'
  have HR := Lib.hid hR
  have HR' := Lib.hid hR'
  obtain ⟨n, hxn⟩ : ∃ n, n = l.length := ⟨_, rfl⟩
  have HXN := Lib.hid hxn
  rw [← hxn] at hcap hcap' hn ⊢
  clear hR hR' hxn
  go_enter Tryd.func8, Tryd.ntmps8
  go_wp2_with fail
  go_loopg [5] n (fun k i wr => ∃ j m : Nat, j + k = n ∧ i = .int .i64 j ∧ wr = w.drewN m)
  case atStart => exact ⟨0, 0, by omega, rfl, rfl⟩
  case round =>
    obtain ⟨j, m, hj, rfl, rfl⟩ := hrel
    by_cases hlt : j < n
    · have hlt2 : (j : Int) < n := by omega
      obtain ⟨c, off, cp, e1, -, -, -, p0, p1, p2, p3⟩ := rowT_at HR.out (i := j) (by rw [← HXN.out]; exact hlt)
      obtain ⟨rfl, -, -⟩ := Value.slice.inj e1
      obtain ⟨c', off', cp', e2, -, -, -, q0, q1, q2, q3⟩ := rowT_at HR'.out (i := j) (by rw [← HXN.out]; exact hlt)
      obtain ⟨rfl, -, -⟩ := Value.slice.inj e2
      clear e1 e2
      generalize (l[j]'_).1.kind = ki at *
      generalize (l[j]'_).1.text = tx at *
      generalize (l[j]'_).1.num = nu at *
      generalize (l[j]'_).2 = fr at *
      have d1 : (ki != ki) = false := by simp
      have d2 : (tx.toList != tx.toList) = false := by simp
      have d3 : (nu != nu) = false := by simp
      go_wp2_with fail
      go_quiet ((fail))
      go_wp2_with fail
      go_roundg (n - (j + 1))
      case measure => omega
      case rel => exact ⟨j + 1, _, by omega, by go_num, rfl⟩
    · have hlt2 : ¬ (j : Int) < n := by omega
      go_wp2_with fail
      go_ret
      exact ⟨rfl, (But.refl _ w).drewN _⟩

end Lex
end Go.Proofs.YtpfpbbbenjljfaaDoor
