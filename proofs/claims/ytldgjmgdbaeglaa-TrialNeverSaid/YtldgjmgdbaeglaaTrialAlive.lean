/- The live question of layer 11, walked. -/
import Derived.Test.YtldgjmgdbaeglaaTrialWhite
import Derived.Test.YtldgjmgdbaeglaaTrialRef3
set_option linter.unusedVariables false
set_option linter.unusedSimpArgs false
namespace Go.Proofs.Ytldgjmgdbaeglaa
open Go.RowKit

namespace Graph

def tL : List Nd := [⟨2, [5]⟩, ⟨5, []⟩, ⟨7, [9]⟩, ⟨9, [7, 5]⟩]
def trialW (w : World) : World :=
  (((((((w.alloc (.cells #[.int .i64 5] 3)).alloc (.cells #[.int .i64 9] 3)).alloc (.cells #[.int .i64 7, .int .i64 5] 3)).alloc
    (.cells #[.int .i64 2, .slice (some ⟨w.heap.size, 0, none⟩) 1 1, .int .i64 5, .slice none 0 0, .int .i64 7, .slice (some ⟨w.heap.size + 1, 0, none⟩) 1 1, .int .i64 9, .slice (some ⟨w.heap.size + 1 + 1, 0, none⟩) 2 2] 54)).alloc
    (.cells #[.int .i64 2] 3)).alloc (.cells #[.slice (some ⟨w.heap.size + 1 + 1 + 1, 0, none⟩) 4 4, .slice (some ⟨w.heap.size + 1 + 1 + 1 + 1, 0, none⟩) 1 1] 47)).alloc
    (.cells #[.int .i64 1, .int .i64 2, .int .i64 1, .int .i64 1] 3))

structure TrialFacts (w W : World) (B : Nat) : Prop where
  but : But (fun _ => False) w W
  nodes : Nodes W (some ⟨B + 1 + 1 + 1, 0, none⟩) 4 tL
  roots : Nums W (some ⟨B + 1 + 1 + 1 + 1, 0, none⟩) 1 [2]
  g : Blk W (B + 1 + 1 + 1 + 1 + 1) #[.slice (some ⟨B + 1 + 1 + 1, 0, none⟩) 4 4, .slice (some ⟨B + 1 + 1 + 1 + 1, 0, none⟩) 1 1] 47
  c : Nums W (some ⟨B + 1 + 1 + 1 + 1 + 1 + 1, 0, none⟩) 4 [1, 2, 1, 1]
theorem TrialFacts.keep {w W W' : World} {B : Nat} (h : TrialFacts w W B) (g : But (fun _ => False) W W') : TrialFacts w W' B :=
  ⟨h.but.trans g, h.nodes.keep g, h.roots.keep g, h.g.but g (fun q => q), h.c.keep g⟩

theorem trial_facts (w : World) : TrialFacts w (trialW w) w.heap.size := by
  unfold trialW
  generalize hB : w.heap.size = B
  have b0 : Blk (trialW w) B (ints [5]).toArray 3 := ((((((((Blk.newAt w _ _ hB)).alloc _).alloc _).alloc _).alloc _).alloc _).alloc _)
  have b1 : Blk (trialW w) (B + 1) (ints [9]).toArray 3 := ((((((Blk.newAt (w.alloc _) _ _ (by simp [hB])).alloc _).alloc _).alloc _).alloc _).alloc _)
  have b2 : Blk (trialW w) (B + 1 + 1) (ints [7, 5]).toArray 3 := (((((Blk.newAt ((w.alloc _).alloc _) _ _ (by simp [hB])).alloc _).alloc _).alloc _).alloc _)
  have b3 : Blk (trialW w) (B + 1 + 1 + 1) #[.int .i64 2, .slice (some ⟨w.heap.size, 0, none⟩) 1 1, .int .i64 5, .slice none 0 0, .int .i64 7, .slice (some ⟨w.heap.size + 1, 0, none⟩) 1 1, .int .i64 9, .slice (some ⟨w.heap.size + 1 + 1, 0, none⟩) 2 2] 54 := ((((Blk.newAt (((w.alloc _).alloc _).alloc _) _ _ (by simp [hB])).alloc _).alloc _).alloc _)
  have b4 : Blk (trialW w) (B + 1 + 1 + 1 + 1) (ints [2]).toArray 3 := (((Blk.newAt ((((w.alloc _).alloc _).alloc _).alloc _) _ _ (by simp [hB])).alloc _).alloc _)
  have b5 : Blk (trialW w) (B + 1 + 1 + 1 + 1 + 1) #[.slice (some ⟨w.heap.size + 1 + 1 + 1, 0, none⟩) 4 4, .slice (some ⟨w.heap.size + 1 + 1 + 1 + 1, 0, none⟩) 1 1] 47 := ((Blk.newAt (((((w.alloc _).alloc _).alloc _).alloc _).alloc _) _ _ (by simp [hB])).alloc _)
  have b6 : Blk (trialW w) (B + 1 + 1 + 1 + 1 + 1 + 1) (ints [1, 2, 1, 1]).toArray 3 := Blk.newAt ((((((w.alloc _).alloc _).alloc _).alloc _).alloc _).alloc _) _ _ (by simp [hB])
  have G : But (fun _ => False) w (trialW w) := ((((((((But.refl _ w).alloc _).alloc _).alloc _).alloc _).alloc _).alloc _).alloc _)
  rw [hB] at b3 b5
  refine ⟨?_, ?_, ?_, ?_, ?_⟩
  · rw [← hB]; exact G
  · rw [← hB] at b0 b1 b2 b3 ⊢
    refine ⟨rfl, fun i hi => ?_⟩
    have hlt := b3.lt
    match i, hi with
    | 0, _ => exact ⟨_, 0, _, 1, 1, rfl, hlt, b3.cell 0, b3.cell 1, by decide, by unfold maxLen; omega, b0.nums rfl⟩
    | 1, _ => exact ⟨_, 0, none, 0, 0, rfl, hlt, b3.cell 2, b3.cell 3, by decide, by unfold maxLen; omega, Nums.nil _ _⟩
    | 2, _ => exact ⟨_, 0, _, 1, 1, rfl, hlt, b3.cell 4, b3.cell 5, by decide, by unfold maxLen; omega, b1.nums rfl⟩
    | 3, _ => exact ⟨_, 0, _, 2, 2, rfl, hlt, b3.cell 6, b3.cell 7, by decide, by unfold maxLen; omega, b2.nums rfl⟩
  · rw [← hB] at b4 ⊢; exact b4.nums rfl
  · rw [← hB] at b5 ⊢; exact b5
  · rw [← hB] at b6 ⊢; exact b6.nums rfl

theorem tL_small : ∀ i, i < 4 → (nd tL i).out.length ≤ 1000000 := fun i hi => by
  match i, hi with
  | 0, _ => decide
  | 1, _ => decide
  | 2, _ => decide
  | 3, _ => decide
theorem nthI_small {xs : List Int} {B : Int} (h : ∀ x, x ∈ xs → x ≤ B) (h0 : 0 ≤ B) (k : Nat) : nthI xs k ≤ B := by
  unfold nthI
  rw [List.getD_eq_getElem?_getD]
  cases e : xs[k]? with
  | none => exact h0
  | some y => exact h y (List.mem_of_getElem? e)
theorem c1_small (k : Nat) : nthI [1, 2, 1, 1] k ≤ 9223372036854775807 := nthI_small (fun x hx => by simp at hx; omega) (by decide) k
theorem c2_small (k : Nat) : nthI [1, 2, 2, 1] k ≤ 9223372036854775807 := nthI_small (fun x hx => by simp at hx; omega) (by decide) k

set_option maxHeartbeats 8000000 in
set_option maxRecDepth 100000 in
theorem trial_alive (w : World) :
    Calls Try.prog 51 #[] w fun e w' => e = .returned (.bool true) ∧ But (fun _ => False) w w' := by
  have AW := Lib.hid (trial_facts w)
  have e1 : whiteR tL [2] [1, 2, 1, 1] [9] = [7, 9] := by kernel_rfl
  have e2 : whiteE tL [2] [1, 2, 1, 1] [9] = 0 := by kernel_rfl
  have e3 : whiteR tL [2] [1, 2, 2, 1] [9] = [] := by kernel_rfl
  have e4 : whiteE tL [2] [1, 2, 2, 1] [9] = 0 := by kernel_rfl
  have e5 : whiteR tL [2] [1, 2, 1, 1] [3] = [] := by kernel_rfl
  have e6 : whiteE tL [2] [1, 2, 1, 1] [3] = 1 := by kernel_rfl
  have e7 : grayR tL [2] [9] = [5, 7, 9] := by kernel_rfl
  have e8 : restsR tL [2] [1, 2, 1, 1] [9] = [1, 0, 0] := by kernel_rfl
  have E1 := Lib.hid e1
  have E2 := Lib.hid e2
  have E3 := Lib.hid e3
  have E4 := Lib.hid e4
  have E5 := Lib.hid e5
  have E6 := Lib.hid e6
  have E7 := Lib.hid e7
  have E8 := Lib.hid e8
  clear e1 e2 e3 e4 e5 e6 e7 e8
  go_enter Try.func51, Try.ntmps51
  go_wp2_with fail
  change Calls _ _ _ ((trialW w).alloc _) _
  obtain ⟨W, hW⟩ : ∃ W, trialW w = W := ⟨_, rfl⟩
  obtain ⟨B, hB⟩ : ∃ B, w.heap.size = B := ⟨_, rfl⟩
  have SW := Lib.hid (show W.heap.size = B + 1 + 1 + 1 + 1 + 1 + 1 + 1 by rw [← hW, ← hB]; unfold trialW; simp)
  rw [hW, hB] at AW
  rw [hW, hB, ← SW.out]
  clear hW hB
  have C1 := (Blk.new W (ints [9]).toArray 3).nums (n := 1) rfl
  have A1 := AW.out.keep ((But.refl _ W).alloc (.cells (ints [9]).toArray 3))
  refine (white_any _ _ _ tL _ _ _ [2] _ 4 4 [1, 2, 1, 1] _ 1 1 [9] _ A1.nodes A1.roots A1.c C1 (by decide) (by decide) tL_small (by decide) (by decide) c1_small).mono ?_
  rintro e w1 ⟨m1, v1, o1, rfl, hR1, hN1, g1⟩
  rw [E1.out] at hR1
  rw [E2.out]
  have A2 := Lib.hid (A1.keep g1)
  have R1 := Lib.hid hR1
  clear A1 g1 hR1 hN1 C1 AW SW
  have k0 : w1.cell? ⟨B + 1 + 1 + 1 + 1 + 1, 0, none⟩ = some (.slice (some ⟨B + 1 + 1 + 1, 0, none⟩) 4 4) := A2.out.g.cell 0
  have k1 : w1.cell? ⟨B + 1 + 1 + 1 + 1 + 1, 1, none⟩ = some (.slice (some ⟨B + 1 + 1 + 1 + 1, 0, none⟩) 1 1) := A2.out.g.cell 1
  go_wp2_with fail
  have G2 := ((But.refl (fun _ => False) w1).alloc (.cells (ints [1, 2, 2, 1]).toArray 3)).alloc (.cells (ints [9]).toArray 3)
  have A3 := A2.out.keep G2
  have D3 := ((Blk.new w1 (ints [1, 2, 2, 1]).toArray 3).alloc (.cells (ints [9]).toArray 3)).nums (n := 4) rfl
  have C3 := (Blk.newAt (w1.alloc (.cells (ints [1, 2, 2, 1]).toArray 3)) (ints [9]).toArray 3 (b := w1.heap.size + 1) (by simp)).nums (n := 1) rfl
  refine (white_any _ _ _ tL _ _ _ [2] _ 4 4 [1, 2, 2, 1] _ 1 1 [9] _ A3.nodes A3.roots D3 C3 (by decide) (by decide) tL_small (by decide) (by decide) c2_small).mono ?_
  rintro e w2 ⟨m2, v2, o2, rfl, hR2, hN2, g2⟩
  rw [E3.out] at hR2
  rw [E4.out]
  have hm2 := hR2.ints_len
  have hml2 : m2 = 0 := by simpa using hm2.symm
  subst hml2
  obtain ⟨a2, cap2, rfl, -, -⟩ := hR2.val
  have A4 := Lib.hid (A3.keep g2)
  have R2 := Lib.hid (R1.out.keep (G2.trans g2))
  clear A3 D3 C3 G2 g2 hR2 hN2 hm2 A2 R1 k0 k1
  have k0 : w2.cell? ⟨B + 1 + 1 + 1 + 1 + 1, 0, none⟩ = some (.slice (some ⟨B + 1 + 1 + 1, 0, none⟩) 4 4) := A4.out.g.cell 0
  have k1 : w2.cell? ⟨B + 1 + 1 + 1 + 1 + 1, 1, none⟩ = some (.slice (some ⟨B + 1 + 1 + 1 + 1, 0, none⟩) 1 1) := A4.out.g.cell 1
  go_wp2_with fail
  have C5 := (Blk.new w2 (ints [3]).toArray 3).nums (n := 1) rfl
  have G5 := (But.refl (fun _ => False) w2).alloc (.cells (ints [3]).toArray 3)
  have A5 := A4.out.keep G5
  refine (white_any _ _ _ tL _ _ _ [2] _ 4 4 [1, 2, 1, 1] _ 1 1 [3] _ A5.nodes A5.roots A5.c C5 (by decide) (by decide) tL_small (by decide) (by decide) c1_small).mono ?_
  rintro e w3 ⟨m3, v3, o3, rfl, hR3, hN3, g3⟩
  rw [E6.out]
  have A6 := Lib.hid (A5.keep g3)
  have R3 := Lib.hid (R2.out.keep (G5.trans g3))
  clear C5 G5 A5 g3 hR3 hN3 A4 R2 k0 k1
  go_wp2_with fail
  have H2 := Row.new w3 3 1 2 (ints [7, 9]) rfl (by unfold maxLen; omega)
  refine (ints_same _ _ _ _ _ _ [7, 9] _ (R3.out.alloc _) H2 (by decide)).mono ?_
  rintro e w4 ⟨rfl, g4⟩
  have A7 := Lib.hid (A6.out.keep (((But.refl _ _).alloc _).trans g4))
  clear H2 g4 A6 R3
  have k0 : w4.cell? ⟨B + 1 + 1 + 1 + 1 + 1, 0, none⟩ = some (.slice (some ⟨B + 1 + 1 + 1, 0, none⟩) 4 4) := A7.out.g.cell 0
  have k1 : w4.cell? ⟨B + 1 + 1 + 1 + 1 + 1, 1, none⟩ = some (.slice (some ⟨B + 1 + 1 + 1 + 1, 0, none⟩) 1 1) := A7.out.g.cell 1
  go_wp2_with fail
  have C6 := (Blk.new w4 (ints [9]).toArray 3).nums (n := 1) rfl
  have G6 := (But.refl (fun _ => False) w4).alloc (.cells (ints [9]).toArray 3)
  have A8 := A7.out.keep G6
  refine (gray_any _ _ _ tL _ _ _ [2] _ 1 1 [9] _ A8.nodes A8.roots C6 (by decide) (by decide) tL_small (by decide)).mono ?_
  rintro e w5 ⟨m5, v5, o5, rfl, hR5, hN5, g5⟩
  rw [E7.out] at hR5
  have A9 := Lib.hid (A8.keep g5)
  have R5 := Lib.hid hR5
  clear C6 G6 A8 g5 hR5 hN5 A7 k0 k1
  go_wp2_with fail
  have H3 := Row.new w5 3 1 3 (ints [5, 7, 9]) rfl (by unfold maxLen; omega)
  refine (ints_same _ _ _ _ _ _ [5, 7, 9] _ (R5.out.alloc _) H3 (by decide)).mono ?_
  rintro e w6 ⟨rfl, g6⟩
  have A10 := Lib.hid (A9.out.keep (((But.refl _ _).alloc _).trans g6))
  clear H3 g6 A9 R5
  have k0 : w6.cell? ⟨B + 1 + 1 + 1 + 1 + 1, 0, none⟩ = some (.slice (some ⟨B + 1 + 1 + 1, 0, none⟩) 4 4) := A10.out.g.cell 0
  have k1 : w6.cell? ⟨B + 1 + 1 + 1 + 1 + 1, 1, none⟩ = some (.slice (some ⟨B + 1 + 1 + 1 + 1, 0, none⟩) 1 1) := A10.out.g.cell 1
  go_wp2_with fail
  have C7 := (Blk.new w6 (ints [9]).toArray 3).nums (n := 1) rfl
  have G7 := (But.refl (fun _ => False) w6).alloc (.cells (ints [9]).toArray 3)
  have A11 := A10.out.keep G7
  refine (rests_any _ _ _ tL _ _ _ [2] _ 4 4 [1, 2, 1, 1] _ 1 1 [9] _ A11.nodes A11.roots A11.c C7 (by decide) (by decide) tL_small (by decide) (by decide) c1_small).mono ?_
  rintro e w7 ⟨m7, v7, o7, rfl, hR7, hN7, g7⟩
  rw [E8.out] at hR7
  have A12 := Lib.hid (A11.keep g7)
  have R7 := Lib.hid hR7
  clear C7 G7 A11 g7 hR7 hN7 A10 k0 k1
  go_wp2_with fail
  have H4 := Row.new w7 3 1 3 (ints [1, 0, 0]) rfl (by unfold maxLen; omega)
  refine (ints_same _ _ _ _ _ _ [1, 0, 0] _ (R7.out.alloc _) H4 (by decide)).mono ?_
  rintro e w8 ⟨rfl, g8⟩
  have A13 := Lib.hid (A12.out.keep (((But.refl _ _).alloc _).trans g8))
  clear H4 g8 A12 R7
  go_wp2_with fail
  go_ret
  exact ⟨rfl, A13.out.but⟩

end Graph
end Go.Proofs.Ytldgjmgdbaeglaa
