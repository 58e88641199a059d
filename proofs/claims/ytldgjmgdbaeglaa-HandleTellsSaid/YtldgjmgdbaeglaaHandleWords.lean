/- The document's Encode, and both Decodes, of layer 5, walked. -/
import Derived.Test.YtldgjmgdbaeglaaHandleWalks
set_option linter.unusedVariables false
set_option linter.unusedSimpArgs false
namespace Go.Proofs.Ytldgjmgdbaeglaa
open Go.RowKit

namespace Handle

set_option maxHeartbeats 2000000 in
set_option maxRecDepth 100000 in
theorem ref_encode (h : Hd) (w : World) : Calls Try.prog 42 #[.agg (hd h)] w fun e w' => e = .returned (.tuple #[.int .u64 (enc h).1, .int .i64 (enc h).2]) ∧ But (fun _ => False) w w' := by
  have G := (But.refl (fun _ => False) w).alloc (.cells (hd h) 57)
  have B := Blk.new w (hd h) 57
  have k0 : (w.alloc (.cells (hd h) 57)).cell? ⟨w.heap.size, 0, none⟩ = some (.int .i64 h.k) := B.cell 0
  have k1 : (w.alloc (.cells (hd h) 57)).cell? ⟨w.heap.size, 1, none⟩ = some (.int .i64 h.t) := B.cell 1
  have k2 : (w.alloc (.cells (hd h) 57)).cell? ⟨w.heap.size, 2, none⟩ = some (.int .i64 h.i) := B.cell 2
  have k3 : (w.alloc (.cells (hd h) 57)).cell? ⟨w.heap.size, 3, none⟩ = some (.int .i64 h.g) := B.cell 3
  cases hr : right h with
  | false =>
    have E := Lib.hid (show enc h = (0, 1) by unfold enc; rw [hr]; rfl)
    have R := Lib.hid hr
    clear hr
    go_enter Try.func42, Try.ntmps42
    go_wp2_with fail
    refine (ref_right h _).mono ?_
    rintro e w1 ⟨rfl, g1⟩
    rw [R.out]
    go_wp2_with fail
    go_ret2
    exact ⟨by rw [E.out]; rfl, G.trans g1⟩
  | true =>
    have E := Lib.hid (show enc h = (word h, 0) by unfold enc; rw [hr]; rfl)
    have R := Lib.hid hr
    have hb := (right_iff h).1 hr
    clear hr
    go_enter Try.func42, Try.ntmps42
    go_wp2_with fail
    refine (ref_right h _).mono ?_
    rintro e w1 ⟨rfl, g1⟩
    rw [R.out]
    have B1 := B.but g1 (fun q => q)
    clear k0 k1 k2 k3
    have k0 : w1.cell? ⟨w.heap.size, 0, none⟩ = some (.int .i64 h.k) := B1.cell 0
    have k1 : w1.cell? ⟨w.heap.size, 1, none⟩ = some (.int .i64 h.t) := B1.cell 1
    have k2 : w1.cell? ⟨w.heap.size, 2, none⟩ = some (.int .i64 h.i) := B1.cell 2
    have k3 : w1.cell? ⟨w.heap.size, 3, none⟩ = some (.int .i64 h.g) := B1.cell 3
    go_wp2_with fail
    go_ret2
    exact ⟨by rw [E.out]; rfl, G.trans g1⟩

set_option maxHeartbeats 2000000 in
set_option maxRecDepth 100000 in
theorem decode_any (x : Int) (w : World) (hx : 0 ≤ x ∧ x ≤ 18446744073709551615) : Calls Try.prog 43 #[.int .u64 x] w fun e w' => e = .returned (.tuple #[.agg (hd (dec x).1), .int .i64 (dec x).2]) ∧ But (fun _ => False) w w' := by
  have hb := raw_bd hx
  have e2 : Go.bits BinOp.and IntKind.u64 (x / 288230376151711744) 3 = x / 288230376151711744 % 4 := and2 (by omega)
  have e26 : Go.bits BinOp.and IntKind.u64 (x / 4294967296) 67108863 = x / 4294967296 % 67108864 := and26 (by omega)
  have e32 : Go.bits BinOp.and IntKind.u64 x 4294967295 = x % 4294967296 := and32 hx
  go_enter Try.func43, Try.ntmps43
  go_wp2_with fail
  refine (right_any (raw x) _).mono ?_
  rintro e w1 ⟨rfl, g1⟩
  have G1 := Lib.hid ((((But.refl (fun _ => False) w).alloc (.cells #[.int .i64 0, .int .i64 0, .int .i64 0, .int .i64 0] 57)).alloc (.cells (hd (raw x)) 57)).trans g1)
  have A1 := ((Blk.new w #[.int .i64 0, .int .i64 0, .int .i64 0, .int .i64 0] 57).alloc (.cells (hd (raw x)) 57)).but g1 (fun q => q)
  have B1 := (Blk.new (w.alloc (.cells #[.int .i64 0, .int .i64 0, .int .i64 0, .int .i64 0] 57)) (hd (raw x)) 57).but g1 (fun q => q)
  rw [show (w.alloc (.cells #[.int .i64 0, .int .i64 0, .int .i64 0, .int .i64 0] 57)).heap.size = w.heap.size + 1 by simp] at B1
  have a0 : w1.cell? ⟨w.heap.size, 0, none⟩ = some (.int .i64 0) := A1.cell 0
  have a1 : w1.cell? ⟨w.heap.size, 1, none⟩ = some (.int .i64 0) := A1.cell 1
  have a2 : w1.cell? ⟨w.heap.size, 2, none⟩ = some (.int .i64 0) := A1.cell 2
  have a3 : w1.cell? ⟨w.heap.size, 3, none⟩ = some (.int .i64 0) := A1.cell 3
  have f0 := A1.frozen 0
  have f1 := A1.frozen 1
  have f2 := A1.frozen 2
  have f3 := A1.frozen 3
  have k0 : w1.cell? ⟨w.heap.size + 1, 0, none⟩ = some (.int .i64 (raw x).k) := B1.cell 0
  have k1 : w1.cell? ⟨w.heap.size + 1, 1, none⟩ = some (.int .i64 (raw x).t) := B1.cell 1
  have k2 : w1.cell? ⟨w.heap.size + 1, 2, none⟩ = some (.int .i64 (raw x).i) := B1.cell 2
  have k3 : w1.cell? ⟨w.heap.size + 1, 3, none⟩ = some (.int .i64 (raw x).g) := B1.cell 3
  have hsz : w.heap.size < w1.heap.size := A1.lt
  cases hr : right (raw x) with
  | false =>
    have E := Lib.hid (show dec x = (⟨0, 0, 0, 0⟩, 4) by unfold dec; rw [hr]; rfl)
    clear hr
    go_wp2_with fail
    exact bodyPost_ret (v := .tuple #[.agg #[.int .i64 0, .int .i64 0, .int .i64 0, .int .i64 0], .int .i64 4]) (by simp [results, Try.results43, go_sem, a0, a1, a2, a3]) rfl
      ⟨by rw [E.out]; rfl, (((G1.out.setCell (by exact .inr (Nat.le_refl _)) _).setCell (by exact .inr (Nat.le_refl _)) _).setCell (by exact .inr (Nat.le_refl _)) _).setCell (by exact .inr (Nat.le_refl _)) _⟩
  | true =>
    have E := Lib.hid (show dec x = (raw x, 0) by unfold dec; rw [hr]; rfl)
    clear hr
    go_wp2_with fail
    exact bodyPost_ret (v := .tuple #[.agg #[.int .i64 (raw x).k, .int .i64 (raw x).t, .int .i64 (raw x).i, .int .i64 (raw x).g], .int .i64 0]) (by simp [results, Try.results43, go_sem, a0, a1, a2, a3]) rfl
      ⟨by rw [E.out]; rfl, (((G1.out.setCell (by exact .inr (Nat.le_refl _)) _).setCell (by exact .inr (Nat.le_refl _)) _).setCell (by exact .inr (Nat.le_refl _)) _).setCell (by exact .inr (Nat.le_refl _)) _⟩

set_option maxHeartbeats 2000000 in
set_option maxRecDepth 100000 in
theorem ref_decode (x : Int) (w : World) (hx : 0 ≤ x ∧ x ≤ 18446744073709551615) : Calls Try.prog 44 #[.int .u64 x] w fun e w' => e = .returned (.tuple #[.agg (hd (dec x).1), .int .i64 (dec x).2]) ∧ But (fun _ => False) w w' := by
  have hb := raw_bd hx
  have e2 : x / 4294967296 / 67108864 % 4 = x / 288230376151711744 % 4 := by omega
  have e3 : x / 4294967296 / 268435456 = x / 1152921504606846976 := by omega
  go_enter Try.func44, Try.ntmps44
  go_wp2_with fail
  refine (ref_right (raw x) _).mono ?_
  rintro e w1 ⟨rfl, g1⟩
  have G1 := Lib.hid ((((But.refl (fun _ => False) w).alloc (.cells #[.int .i64 0, .int .i64 0, .int .i64 0, .int .i64 0] 57)).alloc (.cells (hd (raw x)) 57)).trans g1)
  have A1 := ((Blk.new w #[.int .i64 0, .int .i64 0, .int .i64 0, .int .i64 0] 57).alloc (.cells (hd (raw x)) 57)).but g1 (fun q => q)
  have B1 := (Blk.new (w.alloc (.cells #[.int .i64 0, .int .i64 0, .int .i64 0, .int .i64 0] 57)) (hd (raw x)) 57).but g1 (fun q => q)
  rw [show (w.alloc (.cells #[.int .i64 0, .int .i64 0, .int .i64 0, .int .i64 0] 57)).heap.size = w.heap.size + 1 by simp] at B1
  have a0 : w1.cell? ⟨w.heap.size, 0, none⟩ = some (.int .i64 0) := A1.cell 0
  have a1 : w1.cell? ⟨w.heap.size, 1, none⟩ = some (.int .i64 0) := A1.cell 1
  have a2 : w1.cell? ⟨w.heap.size, 2, none⟩ = some (.int .i64 0) := A1.cell 2
  have a3 : w1.cell? ⟨w.heap.size, 3, none⟩ = some (.int .i64 0) := A1.cell 3
  have f0 := A1.frozen 0
  have f1 := A1.frozen 1
  have f2 := A1.frozen 2
  have f3 := A1.frozen 3
  have k0 : w1.cell? ⟨w.heap.size + 1, 0, none⟩ = some (.int .i64 (raw x).k) := B1.cell 0
  have k1 : w1.cell? ⟨w.heap.size + 1, 1, none⟩ = some (.int .i64 (raw x).t) := B1.cell 1
  have k2 : w1.cell? ⟨w.heap.size + 1, 2, none⟩ = some (.int .i64 (raw x).i) := B1.cell 2
  have k3 : w1.cell? ⟨w.heap.size + 1, 3, none⟩ = some (.int .i64 (raw x).g) := B1.cell 3
  have hsz : w.heap.size < w1.heap.size := A1.lt
  cases hr : right (raw x) with
  | false =>
    have E := Lib.hid (show dec x = (⟨0, 0, 0, 0⟩, 4) by unfold dec; rw [hr]; rfl)
    clear hr
    go_wp2_with fail
    exact bodyPost_ret (v := .tuple #[.agg #[.int .i64 0, .int .i64 0, .int .i64 0, .int .i64 0], .int .i64 4]) (by simp [results, Try.results44, go_sem, a0, a1, a2, a3]) rfl
      ⟨by rw [E.out]; rfl, (((G1.out.setCell (by exact .inr (Nat.le_refl _)) _).setCell (by exact .inr (Nat.le_refl _)) _).setCell (by exact .inr (Nat.le_refl _)) _).setCell (by exact .inr (Nat.le_refl _)) _⟩
  | true =>
    have E := Lib.hid (show dec x = (raw x, 0) by unfold dec; rw [hr]; rfl)
    clear hr
    go_wp2_with fail
    exact bodyPost_ret (v := .tuple #[.agg #[.int .i64 (raw x).k, .int .i64 (raw x).t, .int .i64 (raw x).i, .int .i64 (raw x).g], .int .i64 0]) (by simp [results, Try.results44, go_sem, a0, a1, a2, a3]) rfl
      ⟨by rw [E.out]; rfl, (((G1.out.setCell (by exact .inr (Nat.le_refl _)) _).setCell (by exact .inr (Nat.le_refl _)) _).setCell (by exact .inr (Nat.le_refl _)) _).setCell (by exact .inr (Nat.le_refl _)) _⟩

end Handle
end Go.Proofs.Ytldgjmgdbaeglaa
