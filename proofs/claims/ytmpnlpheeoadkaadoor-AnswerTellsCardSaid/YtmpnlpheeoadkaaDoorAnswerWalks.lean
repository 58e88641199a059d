/- Layer 20, walked: what may be an answer, and its text; the program's and the document's. -/
import Derived.Test.YtmpnlpheeoadkaaDoorWordRef
import Derived.Test.YtmpnlpheeoadkaaDoorHandleText
import Derived.Test.YtmpnlpheeoadkaaDoorHandleRefText
set_option linter.unusedVariables false
set_option linter.unusedSimpArgs false
namespace Go.Proofs.YtmpnlpheeoadkaaDoor
open Go.RowKit

namespace Answer

def right (e k n : Int) : Bool := if e = 0 then decide (k = 0 ∧ n = 0 ∨ k = 1 ∨ k = 2) else decide (1 ≤ e ∧ e ≤ 9 ∧ k = 0 ∧ n = 0)
theorem right_ok {k n : Int} : right 0 k n = decide (k = 0 ∧ n = 0 ∨ k = 1 ∨ k = 2) := by unfold right; rw [if_pos rfl]
theorem right_err {e k n : Int} (h : e ≠ 0) : right e k n = decide (1 ≤ e ∧ e ≤ 9 ∧ k = 0 ∧ n = 0) := by unfold right; rw [if_neg h]

theorem eqA (w : World) (e k n e2 k2 n2 : Int) : (Op.equalIn 10000 26 (.agg #[.int .i64 e, .int .i64 k, .int .u64 n]) (.agg #[.int .i64 e2, .int .i64 k2, .int .u64 n2])).run Tryd.prog w = .ok (decide (e = e2 ∧ k = k2 ∧ n = n2)) w := by
  go_simp
  repeat' split
  all_goals simp_all

set_option maxHeartbeats 8000000 in
set_option maxRecDepth 100000 in
theorem right_any (e k n : Int) (w : World) (hn : 0 ≤ n ∧ n ≤ 18446744073709551615) :
    Calls Tryd.prog 10 #[.agg #[.int .i64 e, .int .i64 k, .int .u64 n]] w fun r w' => r = .returned (.bool (right e k n)) ∧ But (fun _ => False) w w' := by
  have G0 := Lib.hid ((But.refl (fun _ => False) w).alloc (.cells #[.int .i64 e, .int .i64 k, .int .u64 n] 26))
  have B0 := Blk.new w #[.int .i64 e, .int .i64 k, .int .u64 n] 26
  have k0 := B0.cell 0
  have k1 := B0.cell 1
  have k2 := B0.cell 2
  have hn1 := hn.1
  have hn2 := hn.2
  clear B0
  by_cases he : e = 0
  · subst he
    have E := Lib.hid (right_ok (k := k) (n := n))
    by_cases h0 : k = 0
    · subst h0
      by_cases hz : n = 0
      · subst hz
        go_enter Tryd.func10, Tryd.ntmps10
        go_wp2_with fail
        go_ret
        exact ⟨by rw [E.out]; rfl, G0.out⟩
      · have E2 := Lib.hid (show right 0 0 n = false by rw [E.out, decide_eq_false_iff_not]; omega)
        have hz1 : (n == 0) = false := by simp [hz]
        clear hz
        go_enter Tryd.func10, Tryd.ntmps10
        go_wp2_with fail
        go_ret
        exact ⟨by rw [E2.out]; rfl, G0.out⟩
    · have h00 : (k == 0) = false := by simp [h0]
      by_cases h1 : k = 1
      · subst h1
        have E2 := Lib.hid (show right 0 1 n = true by rw [E.out, decide_eq_true_iff]; omega)
        clear h0 h00
        go_enter Tryd.func10, Tryd.ntmps10
        go_wp2_with fail
        go_ret
        exact ⟨by rw [E2.out]; rfl, G0.out⟩
      · have h11 : (k == 1) = false := by simp [h1]
        by_cases h2 : k = 2
        · subst h2
          have E2 := Lib.hid (show right 0 2 n = true by rw [E.out, decide_eq_true_iff]; omega)
          clear h0 h00 h1 h11
          go_enter Tryd.func10, Tryd.ntmps10
          go_wp2_with fail
          go_ret
          exact ⟨by rw [E2.out]; rfl, G0.out⟩
        · have h22 : (k == 2) = false := by simp [h2]
          have E2 := Lib.hid (show right 0 k n = false by rw [E.out, decide_eq_false_iff_not]; omega)
          clear h0 h1 h2
          go_enter Tryd.func10, Tryd.ntmps10
          go_wp2_with fail
          go_ret
          exact ⟨by rw [E2.out]; rfl, G0.out⟩
  · have E := Lib.hid (right_err (k := k) (n := n) he)
    have he0 : (e == 0) = false := by simp [he]
    have he1 : (e != 0) = true := by simp [he]
    by_cases hlo : e < 1
    · have E2 := Lib.hid (show right e k n = false by rw [E.out, decide_eq_false_iff_not]; omega)
      have hlo1 : ¬ 0 < e := by omega
      clear he
      go_enter Tryd.func10, Tryd.ntmps10
      go_wp2_with fail
      go_ret
      exact ⟨by rw [E2.out]; rfl, G0.out⟩
    · by_cases hhi : 9 < e
      · have E2 := Lib.hid (show right e k n = false by rw [E.out, decide_eq_false_iff_not]; omega)
        have hhi1 : 0 < e := by omega
        clear he hlo
        go_enter Tryd.func10, Tryd.ntmps10
        go_wp2_with fail
        go_ret
        exact ⟨by rw [E2.out]; rfl, G0.out⟩
      · have hp : 0 < e := by omega
        have hle : e ≤ 9 := by omega
        obtain ⟨r, hr⟩ : ∃ r, right e k n = r := ⟨_, rfl⟩
        have eq0 : ∀ w, (Op.equalIn 10000 26 (.agg #[.int .i64 e, .int .i64 k, .int .u64 n]) (.agg #[.int .i64 e, .int .i64 0, .int .u64 0])).run Tryd.prog w = .ok r w := fun w => by
          rw [eqA, ← hr, E.out]
          congr 1
          rw [decide_eq_decide]
          omega
        rw [hr]
        clear he hlo hhi hr
        go_enter Tryd.func10, Tryd.ntmps10
        go_wp2_with fail
        go_ret
        exact ⟨rfl, G0.out⟩

set_option maxHeartbeats 8000000 in
set_option maxRecDepth 100000 in
theorem ref_right (e k n : Int) (w : World) (hn : 0 ≤ n ∧ n ≤ 18446744073709551615) :
    Calls Tryd.prog 11 #[.agg #[.int .i64 e, .int .i64 k, .int .u64 n]] w fun r w' => r = .returned (.bool (right e k n)) ∧ But (fun _ => False) w w' := by
  have G0 := Lib.hid ((But.refl (fun _ => False) w).alloc (.cells #[.int .i64 e, .int .i64 k, .int .u64 n] 26))
  have B0 := Blk.new w #[.int .i64 e, .int .i64 k, .int .u64 n] 26
  have k0 := B0.cell 0
  have k1 := B0.cell 1
  have k2 := B0.cell 2
  have hn1 := hn.1
  have hn2 := hn.2
  clear B0
  by_cases he : e = 0
  · subst he
    have E := Lib.hid (right_ok (k := k) (n := n))
    by_cases h0 : k = 0
    · subst h0
      by_cases hz : n = 0
      · subst hz
        go_enter Tryd.func11, Tryd.ntmps11
        go_wp2_with fail
        go_ret
        exact ⟨by rw [E.out]; rfl, G0.out⟩
      · have E2 := Lib.hid (show right 0 0 n = false by rw [E.out, decide_eq_false_iff_not]; omega)
        have hz1 : (n == 0) = false := by simp [hz]
        clear hz
        go_enter Tryd.func11, Tryd.ntmps11
        go_wp2_with fail
        go_ret
        exact ⟨by rw [E2.out]; rfl, G0.out⟩
    · have h00 : (k == 0) = false := by simp [h0]
      by_cases h1 : k = 1
      · subst h1
        have E2 := Lib.hid (show right 0 1 n = true by rw [E.out, decide_eq_true_iff]; omega)
        clear h0 h00
        go_enter Tryd.func11, Tryd.ntmps11
        go_wp2_with fail
        go_ret
        exact ⟨by rw [E2.out]; rfl, G0.out⟩
      · have h11 : (k == 1) = false := by simp [h1]
        by_cases h2 : k = 2
        · subst h2
          have E2 := Lib.hid (show right 0 2 n = true by rw [E.out, decide_eq_true_iff]; omega)
          clear h0 h00 h1 h11
          go_enter Tryd.func11, Tryd.ntmps11
          go_wp2_with fail
          go_ret
          exact ⟨by rw [E2.out]; rfl, G0.out⟩
        · have h22 : (k == 2) = false := by simp [h2]
          have E2 := Lib.hid (show right 0 k n = false by rw [E.out, decide_eq_false_iff_not]; omega)
          clear h0 h1 h2
          go_enter Tryd.func11, Tryd.ntmps11
          go_wp2_with fail
          go_ret
          exact ⟨by rw [E2.out]; rfl, G0.out⟩
  · have E := Lib.hid (right_err (k := k) (n := n) he)
    have he0 : (e == 0) = false := by simp [he]
    have he1 : (e != 0) = true := by simp [he]
    by_cases hlo : e < 1
    · have E2 := Lib.hid (show right e k n = false by rw [E.out, decide_eq_false_iff_not]; omega)
      clear he
      go_enter Tryd.func11, Tryd.ntmps11
      go_wp2_with fail
      go_ret
      exact ⟨by rw [E2.out]; rfl, G0.out⟩
    · by_cases hhi : 9 < e
      · have E2 := Lib.hid (show right e k n = false by rw [E.out, decide_eq_false_iff_not]; omega)
        have hhi1 : 1 ≤ e := by omega
        clear he hlo
        go_enter Tryd.func11, Tryd.ntmps11
        go_wp2_with fail
        go_ret
        exact ⟨by rw [E2.out]; rfl, G0.out⟩
      · have hp : 1 ≤ e := by omega
        have hle : e ≤ 9 := by omega
        by_cases hk : k = 0
        · subst hk
          have E3 := Lib.hid (show right e 0 n = decide (n = 0) by rw [E.out, decide_eq_decide]; omega)
          clear he hlo hhi
          go_enter Tryd.func11, Tryd.ntmps11
          go_wp2_with fail
          go_ret
          exact ⟨by rw [E3.out]; rfl, G0.out⟩
        · have E3 := Lib.hid (show right e k n = false by rw [E.out, decide_eq_false_iff_not]; omega)
          have hk1 : (k == 0) = false := by simp [hk]
          clear he hlo hhi hk
          go_enter Tryd.func11, Tryd.ntmps11
          go_wp2_with fail
          go_ret
          exact ⟨by rw [E3.out]; rfl, G0.out⟩

end Answer
end Go.Proofs.YtmpnlpheeoadkaaDoor
