/- Ints of the document's answer for layer 7, walked: whether two lists of numbers are one. -/
import Derived.Test.YtmpnlpheeoadkaaRows
import Derived.Test.YtmpnlpheeoadkaaRow
import Derived.Test.YtmpnlpheeoadkaaLists
import Derived.IntWalk
set_option linter.unusedVariables false
set_option linter.unusedSimpArgs false
namespace Go.Proofs.Ytmpnlpheeoadkaa
open Go.RowKit

set_option maxHeartbeats 1000000 in
set_option maxRecDepth 100000 in
theorem ints_any (v v' : Value) (o o' : Option Nat) (n n' : Nat) (xs ys : List Int) (w : World) (hR : Row w 3 1 v o n (ints xs)) (hR' : Row w 3 1 v' o' n' (ints ys)) (hn : n ≤ 1000000000) (hn' : n' ≤ 1000000000) :
    Calls Try.prog 18 #[v, v'] w fun e w' => e = .returned (.bool (decide (xs = ys))) ∧ ∃ m, w' = w.drewN m := by
  obtain ⟨a, cap, rfl, hcap, hcap2⟩ := hR.val
  obtain ⟨a', cap', rfl, hcap', hcap2'⟩ := hR'.val
  have hl := hR.ints_len
  have hl' := hR'.ints_len
  by_cases hne : n = n'
  · subst hne
    have HR := Lib.hid hR
    have HL := Lib.hid hl
    have HR' := Lib.hid hR'
    have HL' := Lib.hid hl'
    clear hR hl hR' hl'
    go_enter Try.func18, Try.ntmps18
    go_wp2_with fail
    go_loopg [5] n (fun k i wr => ∃ j m : Nat, j + k = n ∧ i = .int .i64 j ∧ xs.take j = ys.take j ∧ wr = w.drewN m)
    case atStart => exact ⟨0, 0, by omega, rfl, by simp, rfl⟩
    case round =>
      obtain ⟨j, m, hj, rfl, he, rfl⟩ := hrel
      have HE := Lib.hid he
      clear he
      by_cases hlt : j < n
      · obtain ⟨b, off, rfl, ho, hc⟩ := HR.out.ints_at j hlt
        obtain ⟨b', off', rfl, ho', hc'⟩ := HR'.out.ints_at j hlt
        have h1 := take_succ_getD (xs := xs) (j := j) (by rw [HL.out]; exact hlt)
        have h2 := take_succ_getD (xs := ys) (j := j) (by rw [HL'.out]; exact hlt)
        have hxy : (xs.getD j 0 = ys.getD j 0) ∨ xs ≠ ys := by
          by_cases h : xs = ys
          · left; rw [h]
          · right; exact h
        have H1 := Lib.hid h1
        have H2 := Lib.hid h2
        have HXY := Lib.hid hxy
        clear h1 h2 ho ho' hxy
        generalize xs.getD j 0 = y at *
        generalize ys.getD j 0 = z at *
        by_cases hy : y = z
        · have t1 : (y != z) = false := by simp [hy]
          have HY := Lib.hid hy
          clear hy
          go_wp2_with fail
          go_quiet ((fail))
          go_wp2_with fail
          go_roundg (n - (j + 1))
          case measure => omega
          case rel => exact ⟨j + 1, _, by omega, by go_num, by rw [H1.out, H2.out, HE.out, HY.out], rfl⟩
        · have t1 : (y != z) = true := by simp [hy]
          have HN := Lib.hid (show xs ≠ ys from HXY.out.resolve_left hy)
          clear hy
          go_wp2_with fail
          go_quiet ((fail))
          go_wp2_with fail
          go_ret
          exact ⟨by rw [decide_eq_false HN.out]; rfl, _, World.drewN_drewN ..⟩
      · go_wp2_with fail
        go_ret
        refine ⟨ret_eq ?_, m, rfl⟩
        have := HE.out
        rw [List.take_of_length_le (by rw [HL.out]; omega), List.take_of_length_le (by rw [HL'.out]; omega)] at this
        rw [decide_eq_true this]; rfl
  · have hx : xs ≠ ys := fun e => hne (by rw [← hl, ← hl', e])
    have HX := Lib.hid hx
    have t1 : (((n : Nat) : Int) != (n' : Int)) = true := by simp; omega
    clear hR hR' hl hl' hx hne
    go_enter Try.func18, Try.ntmps18
    go_wp2_with fail
    go_ret
    exact ⟨by rw [decide_eq_false HX.out]; rfl, 0, rfl⟩

end Go.Proofs.Ytmpnlpheeoadkaa
