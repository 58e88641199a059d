/- The document's figure and Text of layer 5, walked. -/
import Derived.Test.YtpfpbbbenjljfaaDoorHandleText
set_option linter.unusedVariables false
set_option linter.unusedSimpArgs false
namespace Go.Proofs.YtpfpbbbenjljfaaDoor
open Go.RowKit

namespace Handle

theorem fig_lt {n : Int} (h0 : 0 ≤ n) (h1 : n < 10) : ((fig n).toNat : Int) = 48 + n := by
  unfold fig
  rw [if_pos h1]
  obtain ⟨m, rfl⟩ : ∃ m : Nat, n = m := ⟨n.toNat, by omega⟩
  rw [show (48 + (m : Int)).toNat = 48 + m by omega]
  simp; omega
theorem fig_ge {n : Int} (h0 : 10 ≤ n) (h1 : n < 16) : ((fig n).toNat : Int) = 87 + n := by
  unfold fig
  rw [if_neg (by omega)]
  obtain ⟨m, rfl⟩ : ∃ m : Nat, n = m := ⟨n.toNat, by omega⟩
  rw [show (87 + (m : Int)).toNat = 87 + m by omega]
  simp; omega

set_option maxHeartbeats 4000000 in
set_option maxRecDepth 100000 in
theorem ref_figure (n : Int) (w : World) (h : 0 ≤ n ∧ n < 16) : Calls Tryd.prog 34 #[.int .u64 n] w fun e w' => e = .returned (.int .u8 (fig n).toNat) ∧ w = w' := by
  by_cases h1 : n < 10
  · have E := Lib.hid (fig_lt h.1 h1)
    go_enter Tryd.func34, Tryd.ntmps34
    go_wp2_with fail
    go_ret
    refine ⟨?_, rfl⟩
    rw [E.out]
    simp [List.getD]
  · have E := Lib.hid (fig_ge (by omega) h.2)
    go_enter Tryd.func34, Tryd.ntmps34
    go_wp2_with fail
    go_ret
    refine ⟨?_, rfl⟩
    rw [E.out]
    simp [List.getD]
    omega

/-- The bytes, j of them laid from behind. -/
def laid (x : Int) (j : Nat) : List Value := (List.range 16).map (fun (i : Nat) => .int .u8 (if 16 ≤ i + j then ((fig (x / 2 ^ (4 * (15 - i)) % 16)).toNat : Int) else 0))

theorem infoByte : (Tryd.prog.info? 5).map (fun i => (i.zero, i.size, i.bytes)) = some (some (.int .u8 0), 1, 1) := by kernel_rfl
theorem laid_get {x : Int} {j i : Nat} (h : i < 16) : (laid x j)[i]? = some (.int .u8 (if 16 ≤ i + j then ((fig (x / 2 ^ (4 * (15 - i)) % 16)).toNat : Int) else 0)) := by
  unfold laid; rw [List.getElem?_map, List.getElem?_range h]; rfl
theorem laid_length (x : Int) (j : Nat) : (laid x j).length = 16 := by unfold laid; simp
theorem made_laid (x : Int) : madeCells #[.int .u8 0] 16 = (laid x 0).toArray := by
  apply Array.ext'
  rw [toList_madeCells_one]
  show List.replicate 16 _ = laid x 0
  refine List.ext_getElem? (fun i => ?_)
  by_cases hi : i < 16
  · rw [laid_get hi, if_neg (by omega), List.getElem?_replicate, if_pos hi]
  · rw [List.getElem?_eq_none (by rw [List.length_replicate]; omega), List.getElem?_eq_none (by rw [laid_length]; omega)]
theorem mk16 (x : Int) (w : World) : (Instr.makeSlice 32 (.int .i64 16) (.int .i64 16)).run Tryd.prog w = .ok (.slice (some ⟨w.heap.size, 0, none⟩) 16 16) (w.alloc (.cells (laid x 0).toArray 5)) := by
  obtain ⟨i0, hi, hz0, hz1, hz2⟩ := info_parts infoByte
  have h := run_make w 32 5 i0 (.int .u8 0) Tryd.underlying32 hi hz0 .i64 .i64 16 16 (by omega) (Int.le_refl _) (by rw [hz2]; omega) (by omega)
  rw [h, hz1]
  simp only [Nat.mul_one]
  rw [show (Value.int .u8 0).cells = #[.int .u8 0] from rfl, show Int.toNat 16 = 16 from rfl, made_laid x]
theorem laid_set {x : Int} {j : Nat} (hj : j < 16) : (laid x j).toArray.setIfInBounds (15 - j) (.int .u8 ((fig (x / 2 ^ (4 * j) % 16)).toNat : Int)) = (laid x (j + 1)).toArray := by
  apply Array.ext'
  rw [Array.toList_setIfInBounds]
  refine List.ext_getElem? (fun i => ?_)
  show ((laid x j).set _ _)[i]? = (laid x (j + 1))[i]?
  by_cases hi : i < 16
  · rw [List.getElem?_set, laid_get hi, laid_get hi, laid_length]
    split
    · rename_i e
      subst e
      rw [if_pos (by omega), if_pos (by omega), show 15 - (15 - j) = j by omega]
    · rename_i e
      by_cases h : 16 ≤ i + j
      · rw [if_pos h, if_pos (by omega)]
      · rw [if_neg h, if_neg (by omega)]
  · rw [List.getElem?_eq_none (by rw [List.length_set, laid_length]; omega), List.getElem?_eq_none (by rw [laid_length]; omega)]
theorem laid_all (x : Int) : laid x 16 = Lib.byteCells (figsTo x 16) := by
  unfold laid Lib.byteCells figsTo
  rw [List.map_map]
  refine List.map_congr_left (fun i hi => ?_)
  rw [if_pos (by omega)]
  rfl

set_option maxHeartbeats 4000000 in
set_option maxRecDepth 100000 in
theorem ref_text (x : Int) (w : World) (hx : 0 ≤ x ∧ x ≤ 18446744073709551615) : Calls Tryd.prog 21 #[.int .u64 x] w fun e w' => e = .returned (.string (text x)) ∧ But (fun _ => False) w w' := by
  have hmk := mk16 x
  go_enter Tryd.func21, Tryd.ntmps21
  go_wp2_with fail
  have HB0 := Lib.hid (Blk.new w (laid x 0).toArray 5)
  clear hmk
  go_loopg [4, 5] 16 (fun k uv iv wr => ∃ j : Nat, j + k = 16 ∧ uv = .int .u64 (x / 2 ^ (4 * j)) ∧ iv = .int .i64 (15 - (j : Int)) ∧ Blk wr w.heap.size (laid x j).toArray 5 ∧ But (fun _ => False) w wr)
  case atStart => exact ⟨0, by omega, by simp, rfl, HB0.out, (But.refl _ w).alloc _⟩
  case round =>
    obtain ⟨j, hj, rfl, rfl, hb, hw⟩ := hrel
    have HB := Lib.hid hb
    have HW := Lib.hid hw
    have hsz := hb.lt
    clear hb hw HB0
    have h0 : (0 : Int) < 2 ^ (4 * j) := Int.pow_pos (by omega)
    have h1 : 0 ≤ x / 2 ^ (4 * j) := Int.ediv_nonneg hx.1 (by omega)
    have h2 : x / 2 ^ (4 * j) ≤ x := Int.ediv_le_self _ hx.1
    have HU := Lib.hid (show x / 2 ^ (4 * j) / 16 = x / 2 ^ (4 * (j + 1)) by rw [Int.ediv_ediv_of_nonneg (by omega), show 4 * (j + 1) = 4 * j + 4 by omega, Int.pow_add]; rfl)
    obtain ⟨u, hu⟩ : ∃ u, x / 2 ^ (4 * j) = u := ⟨_, rfl⟩
    rw [hu] at h1 h2 HU ⊢
    have HUU := Lib.hid hu
    clear hu
    by_cases hlt : j < 16
    · have c0 : wr.cell? ⟨w.heap.size, 15 - j, none⟩ = some (.int .u8 (if 16 ≤ 15 - j + j then ((fig (x / 2 ^ (4 * (15 - (15 - j))) % 16)).toNat : Int) else 0)) := by
        have := HB.out.cell (15 - j)
        rw [this, List.getElem?_toArray, laid_get (by omega)]
      have f0 := HB.out.frozen (15 - j)
      obtain ⟨i, hi⟩ : ∃ i : Nat, i + j = 15 := ⟨15 - j, by omega⟩
      have HI := Lib.hid (show 15 - j = i by omega)
      rw [show (15 : Int) - (j : Int) = (i : Int) by omega]
      rw [HI.out] at c0 f0
      go_wp2_with fail
      refine (ref_figure (u % 16) _ (by omega)).mono ?_
      rintro e wa ⟨rfl, rfl⟩
      go_wp2_with fail
      go_roundg (16 - (j + 1))
      case measure => omega
      case rel =>
        refine ⟨j + 1, by omega, by rw [← HU.out], by congr 1; omega, ?_, HW.out.setCell (by exact .inr (Nat.le_refl _)) _⟩
        rw [← laid_set hlt, HI.out, HUU.out]
        exact HB.out.set i _
    · obtain rfl : j = 16 := by omega
      have hcv := run_convert_bytes_back (P := Tryd.prog) wr 32 9 5 ⟨w.heap.size, 0, none⟩ 16 (figsTo x 16) Tryd.underlying32 Tryd.underlying5 Tryd.underlying9 (fun k hk => by
        have hk' : k < 16 := by rw [figsTo_length] at hk; exact hk
        rw [Addr.add_lit, Nat.zero_add, HB.out.cell, List.getElem?_toArray, laid_all]
        unfold Lib.byteCells
        rw [List.getElem?_map, List.getElem?_eq_getElem hk]
        rfl)
      rw [figsTo_length] at hcv
      have hcv2 : (convert 32 9 (.slice (some ⟨w.heap.size, 0, none⟩) 16 16)).run Tryd.prog wr = .ok (.string (text x)) wr := hcv
      clear hcv
      go_wp2_with fail
      go_ret
      exact ⟨rfl, HW.out⟩

end Handle
end Go.Proofs.YtpfpbbbenjljfaaDoor
