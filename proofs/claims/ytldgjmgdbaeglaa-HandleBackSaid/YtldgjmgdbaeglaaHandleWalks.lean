/- Right, Encode, Decode of package handle, and of its ref, walked. -/
import Derived.Test.YtldgjmgdbaeglaaRows
import Derived.Test.YtldgjmgdbaeglaaWords
import Derived.Test.YtldgjmgdbaeglaaHandlePure
import Derived.IntWalk
set_option linter.unusedVariables false
set_option linter.unusedSimpArgs false
namespace Go.Proofs.Ytldgjmgdbaeglaa
open Go.RowKit

namespace Handle

def hd (h : Hd) : Array Value := #[.int .i64 h.k, .int .i64 h.t, .int .i64 h.i, .int .i64 h.g]

set_option maxHeartbeats 2000000 in
set_option maxRecDepth 100000 in
theorem right_any (h : Hd) (w : World) : Calls Try.prog 47 #[.agg (hd h)] w fun e w' => e = .returned (.bool (right h)) ∧ But (fun _ => False) w w' := by
  have G := (But.refl (fun _ => False) w).alloc (.cells (hd h) 57)
  have k0 : (w.alloc (.cells (hd h) 57)).cell? ⟨w.heap.size, 0, none⟩ = some (.int .i64 h.k) := (Blk.new w _ _).cell 0
  have k1 : (w.alloc (.cells (hd h) 57)).cell? ⟨w.heap.size, 1, none⟩ = some (.int .i64 h.t) := (Blk.new w _ _).cell 1
  have k2 : (w.alloc (.cells (hd h) 57)).cell? ⟨w.heap.size, 2, none⟩ = some (.int .i64 h.i) := (Blk.new w _ _).cell 2
  have k3 : (w.alloc (.cells (hd h) 57)).cell? ⟨w.heap.size, 3, none⟩ = some (.int .i64 h.g) := (Blk.new w _ _).cell 3
  obtain ⟨k, t, i, g⟩ := h
  simp only at k0 k1 k2 k3
  by_cases h1 : k = 1 ∨ k = 2
  · by_cases h2 : t < 1
    · have E := Lib.hid (show right ⟨k, t, i, g⟩ = false by rw [← Bool.not_eq_true, right_iff]; simp only; omega)
      rcases h1 with rfl | rfl
      all_goals
        go_enter Try.func47, Try.ntmps47
        go_wp2_with fail
        go_ret
        exact ⟨by rw [E.out]; rfl, G⟩
    by_cases h3 : 16 < t
    · have E := Lib.hid (show right ⟨k, t, i, g⟩ = false by rw [← Bool.not_eq_true, right_iff]; simp only; omega)
      rcases h1 with rfl | rfl
      all_goals
        go_enter Try.func47, Try.ntmps47
        go_wp2_with fail
        go_ret
        exact ⟨by rw [E.out]; rfl, G⟩
    have E := Lib.hid (show right ⟨k, t, i, g⟩ = (decide (0 ≤ i) && decide (i ≤ 67108863) && decide (0 ≤ g) && decide (g ≤ 4294967295)) by rw [Bool.eq_iff_iff, right_iff]; simp; omega)
    rcases h1 with rfl | rfl
    all_goals
      by_cases h4 : 0 ≤ i
      all_goals by_cases h5 : i ≤ 67108863
      all_goals by_cases h6 : 0 ≤ g
      all_goals by_cases h7 : g ≤ 4294967295
      all_goals try (exfalso; omega)
      all_goals
        go_enter Try.func47, Try.ntmps47
        go_wp2_with fail
        go_ret
        refine ⟨by rw [E.out]; simp [h4, h5, h6, h7] <;> omega, G⟩
  · have E := Lib.hid (show right ⟨k, t, i, g⟩ = false by rw [← Bool.not_eq_true, right_iff]; simp only; omega)
    have h2 : ¬ k = 1 := by omega
    have h3 : ¬ k = 2 := by omega
    clear h1
    go_enter Try.func47, Try.ntmps47
    go_wp2_with fail
    go_ret
    exact ⟨by rw [E.out]; rfl, G⟩

set_option maxHeartbeats 2000000 in
set_option maxRecDepth 100000 in
theorem ref_right (h : Hd) (w : World) : Calls Try.prog 48 #[.agg (hd h)] w fun e w' => e = .returned (.bool (right h)) ∧ But (fun _ => False) w w' := by
  have G := (But.refl (fun _ => False) w).alloc (.cells (hd h) 57)
  have k0 : (w.alloc (.cells (hd h) 57)).cell? ⟨w.heap.size, 0, none⟩ = some (.int .i64 h.k) := (Blk.new w _ _).cell 0
  have k1 : (w.alloc (.cells (hd h) 57)).cell? ⟨w.heap.size, 1, none⟩ = some (.int .i64 h.t) := (Blk.new w _ _).cell 1
  have k2 : (w.alloc (.cells (hd h) 57)).cell? ⟨w.heap.size, 2, none⟩ = some (.int .i64 h.i) := (Blk.new w _ _).cell 2
  have k3 : (w.alloc (.cells (hd h) 57)).cell? ⟨w.heap.size, 3, none⟩ = some (.int .i64 h.g) := (Blk.new w _ _).cell 3
  obtain ⟨k, t, i, g⟩ := h
  simp only at k0 k1 k2 k3
  by_cases h1 : k = 1 ∨ k = 2
  · by_cases h2 : t < 1
    · have E := Lib.hid (show right ⟨k, t, i, g⟩ = false by rw [← Bool.not_eq_true, right_iff]; simp only; omega)
      rcases h1 with rfl | rfl
      all_goals
        go_enter Try.func48, Try.ntmps48
        go_wp2_with fail
        go_ret
        exact ⟨by rw [E.out]; rfl, G⟩
    by_cases h3 : 16 < t
    · have E := Lib.hid (show right ⟨k, t, i, g⟩ = false by rw [← Bool.not_eq_true, right_iff]; simp only; omega)
      rcases h1 with rfl | rfl
      all_goals
        go_enter Try.func48, Try.ntmps48
        go_wp2_with fail
        go_ret
        exact ⟨by rw [E.out]; rfl, G⟩
    have E := Lib.hid (show right ⟨k, t, i, g⟩ = (decide (0 ≤ i) && decide (i ≤ 67108863) && decide (0 ≤ g) && decide (g ≤ 4294967295)) by rw [Bool.eq_iff_iff, right_iff]; simp; omega)
    rcases h1 with rfl | rfl
    all_goals
      by_cases h4 : 0 ≤ i
      all_goals by_cases h5 : i ≤ 67108863
      all_goals by_cases h6 : 0 ≤ g
      all_goals by_cases h7 : g ≤ 4294967295
      all_goals try (exfalso; omega)
      all_goals
        go_enter Try.func48, Try.ntmps48
        go_wp2_with fail
        go_ret
        refine ⟨by rw [E.out]; simp [h4, h5, h6, h7] <;> omega, G⟩
  · have E := Lib.hid (show right ⟨k, t, i, g⟩ = false by rw [← Bool.not_eq_true, right_iff]; simp only; omega)
    have h2 : ¬ k = 1 := by omega
    have h3 : ¬ k = 2 := by omega
    clear h1
    go_enter Try.func48, Try.ntmps48
    go_wp2_with fail
    go_ret
    exact ⟨by rw [E.out]; rfl, G⟩

set_option maxHeartbeats 2000000 in
set_option maxRecDepth 100000 in
theorem encode_any (h : Hd) (w : World) : Calls Try.prog 41 #[.agg (hd h)] w fun e w' => e = .returned (.tuple #[.int .u64 (enc h).1, .int .i64 (enc h).2]) ∧ But (fun _ => False) w w' := by
  have G := (But.refl (fun _ => False) w).alloc (.cells (hd h) 57)
  have B := Blk.new w (hd h) 57
  have k0 : (w.alloc (.cells (hd h) 57)).cell? ⟨w.heap.size, 0, none⟩ = some (.int .i64 h.k) := B.cell 0
  have k1 : (w.alloc (.cells (hd h) 57)).cell? ⟨w.heap.size, 1, none⟩ = some (.int .i64 h.t) := B.cell 1
  have k2 : (w.alloc (.cells (hd h) 57)).cell? ⟨w.heap.size, 2, none⟩ = some (.int .i64 h.i) := B.cell 2
  have k3 : (w.alloc (.cells (hd h) 57)).cell? ⟨w.heap.size, 3, none⟩ = some (.int .i64 h.g) := B.cell 3
  cases hr : right h with
  | false =>
    have E := Lib.hid (show enc h = (0, 1) by unfold enc; rw [hr]; rfl)
    have R := Lib.hid hr
    clear hr
    go_enter Try.func41, Try.ntmps41
    go_wp2_with fail
    refine (right_any h _).mono ?_
    rintro e w1 ⟨rfl, g1⟩
    rw [R.out]
    go_wp2_with fail
    go_ret2
    exact ⟨by rw [E.out]; rfl, G.trans g1⟩
  | true =>
    have E := Lib.hid (show enc h = (word h, 0) by unfold enc; rw [hr]; rfl)
    have W := Lib.hid (word_bits hr)
    have R := Lib.hid hr
    have hb := (right_iff h).1 hr
    clear hr
    go_enter Try.func41, Try.ntmps41
    go_wp2_with fail
    refine (right_any h _).mono ?_
    rintro e w1 ⟨rfl, g1⟩
    rw [R.out]
    have B1 := B.but g1 (fun q => q)
    clear k0 k1 k2 k3
    have k0 : w1.cell? ⟨w.heap.size, 0, none⟩ = some (.int .i64 h.k) := B1.cell 0
    have k1 : w1.cell? ⟨w.heap.size, 1, none⟩ = some (.int .i64 h.t) := B1.cell 1
    have k2 : w1.cell? ⟨w.heap.size, 2, none⟩ = some (.int .i64 h.i) := B1.cell 2
    have k3 : w1.cell? ⟨w.heap.size, 3, none⟩ = some (.int .i64 h.g) := B1.cell 3
    go_wp2_with fail
    go_ret2
    exact ⟨by rw [E.out, ← W.out]; rfl, G.trans g1⟩

end Handle
end Go.Proofs.Ytldgjmgdbaeglaa
