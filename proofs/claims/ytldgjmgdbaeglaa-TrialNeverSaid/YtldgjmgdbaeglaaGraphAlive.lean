/- The live question of layer 10, walked. -/
import Derived.Test.YtldgjmgdbaeglaaGraphDead
import Derived.Test.YtldgjmgdbaeglaaIntsEq
set_option linter.unusedVariables false
set_option linter.unusedSimpArgs false
namespace Go.Proofs.Ytldgjmgdbaeglaa
open Go.RowKit

theorem Blk.newAt (w : World) (cs : Array Value) (T : TypeId) {b : Nat} (hb : w.heap.size = b) : Blk (w.alloc (.cells cs T)) b cs T := hb ▸ Blk.new w cs T
theorem Nums.nil (w : World) (a : Option Addr) : Nums w a 0 [] := ⟨rfl, fun j hj => absurd hj (Nat.not_lt_zero j)⟩
/-- A block known whole is a slice of numbers. -/
theorem Blk.nums {w : World} {b : Nat} {xs : List Int} {n : Nat} (h : Blk w b (ints xs).toArray 3) (hn : xs.length = n) : Nums w (some ⟨b, 0, none⟩) n xs :=
  ⟨hn, fun j hj => ⟨b, 0, rfl, h.lt, by rw [h.cell]; simp only [Nat.zero_add, List.getElem?_toArray]; exact nthI_get (by omega)⟩⟩

namespace Graph

def gL : List Nd := [⟨2, [5, 5]⟩, ⟨5, []⟩, ⟨7, [9]⟩, ⟨9, [7, 5]⟩]
def wL : List Nd := [⟨2, [3]⟩]
def aliveW (w : World) : World :=
  (((((((((w.alloc (.cells #[.int .i64 5, .int .i64 5] 3)).alloc (.cells #[.int .i64 9] 3)).alloc (.cells #[.int .i64 7, .int .i64 5] 3)).alloc
    (.cells #[.int .i64 2, .slice (some ⟨w.heap.size, 0, none⟩) 2 2, .int .i64 5, .slice none 0 0, .int .i64 7, .slice (some ⟨w.heap.size + 1, 0, none⟩) 1 1, .int .i64 9, .slice (some ⟨w.heap.size + 1 + 1, 0, none⟩) 2 2] 54)).alloc
    (.cells #[.int .i64 2] 3)).alloc (.cells #[.slice (some ⟨w.heap.size + 1 + 1 + 1, 0, none⟩) 4 4, .slice (some ⟨w.heap.size + 1 + 1 + 1 + 1, 0, none⟩) 1 1] 47)).alloc
    (.cells #[.int .i64 3] 3)).alloc (.cells #[.int .i64 2, .slice (some ⟨w.heap.size + 1 + 1 + 1 + 1 + 1 + 1, 0, none⟩) 1 1] 54)).alloc
    (.cells #[.slice (some ⟨w.heap.size + 1 + 1 + 1 + 1 + 1 + 1 + 1, 0, none⟩) 1 1, .slice none 0 0] 47))

structure AliveFacts (w W : World) (B : Nat) : Prop where
  but : But (fun _ => False) w W
  nodes : Nodes W (some ⟨B + 1 + 1 + 1, 0, none⟩) 4 gL
  roots : Nums W (some ⟨B + 1 + 1 + 1 + 1, 0, none⟩) 1 [2]
  wrong : Nodes W (some ⟨B + 1 + 1 + 1 + 1 + 1 + 1 + 1, 0, none⟩) 1 wL
  g : Blk W (B + 1 + 1 + 1 + 1 + 1) #[.slice (some ⟨B + 1 + 1 + 1, 0, none⟩) 4 4, .slice (some ⟨B + 1 + 1 + 1 + 1, 0, none⟩) 1 1] 47
  h : Blk W (B + 1 + 1 + 1 + 1 + 1 + 1 + 1 + 1) #[.slice (some ⟨B + 1 + 1 + 1 + 1 + 1 + 1 + 1, 0, none⟩) 1 1, .slice none 0 0] 47
theorem AliveFacts.keep {w W W' : World} {B : Nat} (h : AliveFacts w W B) (g : But (fun _ => False) W W') : AliveFacts w W' B :=
  ⟨h.but.trans g, h.nodes.keep g, h.roots.keep g, h.wrong.keep g, h.g.but g (fun q => q), h.h.but g (fun q => q)⟩

theorem alive_facts (w : World) : AliveFacts w (aliveW w) w.heap.size := by
  unfold aliveW
  generalize hB : w.heap.size = B
  have b0 : Blk (aliveW w) B (ints [5, 5]).toArray 3 := (((((((((Blk.newAt w _ _ hB).alloc _).alloc _).alloc _).alloc _).alloc _).alloc _).alloc _).alloc _)
  have b1 : Blk (aliveW w) (B + 1) (ints [9]).toArray 3 := ((((((((Blk.newAt (w.alloc _) _ _ (by simp [hB])).alloc _).alloc _).alloc _).alloc _).alloc _).alloc _).alloc _)
  have b2 : Blk (aliveW w) (B + 1 + 1) (ints [7, 5]).toArray 3 := (((((((Blk.newAt ((w.alloc _).alloc _) _ _ (by simp [hB])).alloc _).alloc _).alloc _).alloc _).alloc _).alloc _)
  have b3 : Blk (aliveW w) (B + 1 + 1 + 1) #[.int .i64 2, .slice (some ⟨w.heap.size, 0, none⟩) 2 2, .int .i64 5, .slice none 0 0, .int .i64 7, .slice (some ⟨w.heap.size + 1, 0, none⟩) 1 1, .int .i64 9, .slice (some ⟨w.heap.size + 1 + 1, 0, none⟩) 2 2] 54 := ((((((Blk.newAt (((w.alloc _).alloc _).alloc _) _ _ (by simp [hB])).alloc _).alloc _).alloc _).alloc _).alloc _)
  have b4 : Blk (aliveW w) (B + 1 + 1 + 1 + 1) (ints [2]).toArray 3 := (((((Blk.newAt ((((w.alloc _).alloc _).alloc _).alloc _) _ _ (by simp [hB])).alloc _).alloc _).alloc _).alloc _)
  have b5 : Blk (aliveW w) (B + 1 + 1 + 1 + 1 + 1) #[.slice (some ⟨w.heap.size + 1 + 1 + 1, 0, none⟩) 4 4, .slice (some ⟨w.heap.size + 1 + 1 + 1 + 1, 0, none⟩) 1 1] 47 := ((((Blk.newAt (((((w.alloc _).alloc _).alloc _).alloc _).alloc _) _ _ (by simp [hB])).alloc _).alloc _).alloc _)
  have b6 : Blk (aliveW w) (B + 1 + 1 + 1 + 1 + 1 + 1) (ints [3]).toArray 3 := (((Blk.newAt ((((((w.alloc _).alloc _).alloc _).alloc _).alloc _).alloc _) _ _ (by simp [hB])).alloc _).alloc _)
  have b7 : Blk (aliveW w) (B + 1 + 1 + 1 + 1 + 1 + 1 + 1) #[.int .i64 2, .slice (some ⟨w.heap.size + 1 + 1 + 1 + 1 + 1 + 1, 0, none⟩) 1 1] 54 := ((Blk.newAt (((((((w.alloc _).alloc _).alloc _).alloc _).alloc _).alloc _).alloc _) _ _ (by simp [hB])).alloc _)
  have b8 : Blk (aliveW w) (B + 1 + 1 + 1 + 1 + 1 + 1 + 1 + 1) #[.slice (some ⟨w.heap.size + 1 + 1 + 1 + 1 + 1 + 1 + 1, 0, none⟩) 1 1, .slice none 0 0] 47 := Blk.newAt ((((((((w.alloc _).alloc _).alloc _).alloc _).alloc _).alloc _).alloc _).alloc _) _ _ (by simp [hB])
  have G : But (fun _ => False) w (aliveW w) := ((((((((((But.refl _ w).alloc _).alloc _).alloc _).alloc _).alloc _).alloc _).alloc _).alloc _).alloc _)
  rw [hB] at b3 b5 b7 b8
  refine ⟨?_, ?_, ?_, ?_, ?_, ?_⟩
  · rw [← hB]; exact G
  · rw [← hB] at b0 b1 b2 b3 ⊢
    refine ⟨rfl, fun i hi => ?_⟩
    have hlt := b3.lt
    match i, hi with
    | 0, _ => exact ⟨_, 0, _, 2, 2, rfl, hlt, b3.cell 0, b3.cell 1, by decide, by unfold maxLen; omega, b0.nums rfl⟩
    | 1, _ => exact ⟨_, 0, none, 0, 0, rfl, hlt, b3.cell 2, b3.cell 3, by decide, by unfold maxLen; omega, Nums.nil _ _⟩
    | 2, _ => exact ⟨_, 0, _, 1, 1, rfl, hlt, b3.cell 4, b3.cell 5, by decide, by unfold maxLen; omega, b1.nums rfl⟩
    | 3, _ => exact ⟨_, 0, _, 2, 2, rfl, hlt, b3.cell 6, b3.cell 7, by decide, by unfold maxLen; omega, b2.nums rfl⟩
  · rw [← hB] at b4 ⊢; exact b4.nums rfl
  · rw [← hB] at b6 b7 ⊢
    refine ⟨rfl, fun i hi => ?_⟩
    have hlt := b7.lt
    match i, hi with
    | 0, _ => exact ⟨_, 0, _, 1, 1, rfl, hlt, b7.cell 0, b7.cell 1, by decide, by unfold maxLen; omega, b6.nums rfl⟩
  · rw [← hB] at b5 ⊢; exact b5
  · rw [← hB] at b8 ⊢; exact b8

theorem gL_small : ∀ i, i < 4 → (nd gL i).out.length ≤ 1000000 := fun i hi => by
  match i, hi with
  | 0, _ => decide
  | 1, _ => decide
  | 2, _ => decide
  | 3, _ => decide
theorem wL_small : ∀ i, i < 1 → (nd wL i).out.length ≤ 1000000 := fun i hi => by
  match i, hi with
  | 0, _ => decide

set_option maxHeartbeats 8000000 in
set_option maxRecDepth 100000 in
theorem alive_any (w : World) :
    Calls Try.prog 29 #[] w fun e w' => e = .returned (.bool true) ∧ But (fun _ => False) w w' := by
  have AW := Lib.hid (alive_facts w)
  have e1 : rightB gL [2] = true := by kernel_rfl
  have e2 : rightB wL [] = false := by kernel_rfl
  have e3 : reachR gL [2] [9] = [5, 7, 9] := by kernel_rfl
  have e4 : deadR gL [2] = [7, 9] := by kernel_rfl
  have e5 : countsR gL [2] = [1, 3, 1, 1] := by kernel_rfl
  have e6 : reachR wL [] [2] = [] := by kernel_rfl
  have E1 := Lib.hid e1
  have E2 := Lib.hid e2
  have E3 := Lib.hid e3
  have E4 := Lib.hid e4
  have E5 := Lib.hid e5
  have E6 := Lib.hid e6
  clear e1 e2 e3 e4 e5 e6
  go_enter Try.func29, Try.ntmps29
  go_wp2_with fail
  change Calls _ _ _ (aliveW w) _
  obtain ⟨W, hW⟩ : ∃ W, aliveW w = W := ⟨_, rfl⟩
  obtain ⟨B, hB⟩ : ∃ B, w.heap.size = B := ⟨_, rfl⟩
  rw [hW, hB] at AW
  rw [hW, hB]
  clear hW hB
  refine (right_any _ _ _ gL _ _ _ [2] _ AW.out.nodes AW.out.roots (by decide) (by decide) gL_small).mono ?_
  rintro e w1 ⟨rfl, g1⟩
  rw [E1.out]
  have A1 := Lib.hid (AW.out.keep g1)
  clear AW g1
  have k0 : w1.cell? ⟨B + 1 + 1 + 1 + 1 + 1 + 1 + 1 + 1, 0, none⟩ = some (.slice (some ⟨B + 1 + 1 + 1 + 1 + 1 + 1 + 1, 0, none⟩) 1 1) := A1.out.h.cell 0
  have k1 : w1.cell? ⟨B + 1 + 1 + 1 + 1 + 1 + 1 + 1 + 1, 1, none⟩ = some (.slice none 0 0) := A1.out.h.cell 1
  go_wp2_with fail
  refine (right_any _ _ _ wL _ _ _ [] _ A1.out.wrong (Nums.nil _ _) (by decide) (by decide) wL_small).mono ?_
  rintro e w2 ⟨rfl, g2⟩
  rw [E2.out]
  have A2 := Lib.hid (A1.out.keep g2)
  clear k0 k1 g2 A1
  have k0 : w2.cell? ⟨B + 1 + 1 + 1 + 1 + 1, 0, none⟩ = some (.slice (some ⟨B + 1 + 1 + 1, 0, none⟩) 4 4) := A2.out.g.cell 0
  have k1 : w2.cell? ⟨B + 1 + 1 + 1 + 1 + 1, 1, none⟩ = some (.slice (some ⟨B + 1 + 1 + 1 + 1, 0, none⟩) 1 1) := A2.out.g.cell 1
  go_wp2_with fail
  refine (reach_any _ _ _ gL _ _ _ [2] _ 1 1 [9] _ (A2.out.nodes.keep ((But.refl _ _).alloc _)) (A2.out.roots.keep ((But.refl _ _).alloc _)) ((Blk.new w2 (ints [9]).toArray 3).nums rfl) (by decide) (by decide) (by decide) gL_small).mono ?_
  rintro e w3 ⟨m1, v1, o1, rfl, hR1, hN1, hB1⟩
  rw [E3.out] at hR1
  have hm1 := hR1.ints_len
  have hml1 : m1 = 3 := by simpa using hm1.symm
  subst hml1
  have A3 := Lib.hid (A2.out.keep (((But.refl _ _).alloc _).trans hB1))
  have RR1 := Lib.hid hR1
  clear hR1 hN1 hB1 hm1 A2 k0 k1
  go_wp2_with fail
  refine (ints_any _ _ _ _ _ _ [5, 7, 9] [5, 7, 9] _ (RR1.out.alloc _) (Row.new _ 3 1 3 (ints [5, 7, 9]) rfl (by unfold maxLen; omega)) (by decide) (by decide)).mono ?_
  rintro e w4 ⟨rfl, q1, hq1⟩
  have A4 := Lib.hid (A3.out.keep (show But (fun _ => False) w3 w4 from by rw [hq1]; exact ((But.refl _ _).alloc _).drewN _))
  rw [show decide (([5, 7, 9] : List Int) = [5, 7, 9]) = true from rfl]
  clear hq1 RR1 A3
  have k0 : w4.cell? ⟨B + 1 + 1 + 1 + 1 + 1, 0, none⟩ = some (.slice (some ⟨B + 1 + 1 + 1, 0, none⟩) 4 4) := A4.out.g.cell 0
  have k1 : w4.cell? ⟨B + 1 + 1 + 1 + 1 + 1, 1, none⟩ = some (.slice (some ⟨B + 1 + 1 + 1 + 1, 0, none⟩) 1 1) := A4.out.g.cell 1
  go_wp2_with fail
  refine (dead_any _ _ _ gL _ _ _ [2] _ A4.out.nodes A4.out.roots (by decide) (by decide) gL_small).mono ?_
  rintro e w5 ⟨m2, v2, o2, rfl, hR2, hN2, hB2⟩
  rw [E4.out] at hR2
  have hm2 := hR2.ints_len
  have hml2 : m2 = 2 := by simpa using hm2.symm
  subst hml2
  have A5 := Lib.hid (A4.out.keep (hB2))
  have RR2 := Lib.hid hR2
  clear hR2 hN2 hB2 hm2 A4 k0 k1
  go_wp2_with fail
  refine (ints_any _ _ _ _ _ _ [7, 9] [7, 9] _ (RR2.out.alloc _) (Row.new _ 3 1 2 (ints [7, 9]) rfl (by unfold maxLen; omega)) (by decide) (by decide)).mono ?_
  rintro e w6 ⟨rfl, q2, hq2⟩
  have A6 := Lib.hid (A5.out.keep (show But (fun _ => False) w5 w6 from by rw [hq2]; exact ((But.refl _ _).alloc _).drewN _))
  rw [show decide (([7, 9] : List Int) = [7, 9]) = true from rfl]
  clear hq2 RR2 A5
  have k0 : w6.cell? ⟨B + 1 + 1 + 1 + 1 + 1, 0, none⟩ = some (.slice (some ⟨B + 1 + 1 + 1, 0, none⟩) 4 4) := A6.out.g.cell 0
  have k1 : w6.cell? ⟨B + 1 + 1 + 1 + 1 + 1, 1, none⟩ = some (.slice (some ⟨B + 1 + 1 + 1 + 1, 0, none⟩) 1 1) := A6.out.g.cell 1
  go_wp2_with fail
  refine (counts_any _ _ _ gL _ _ _ [2] _ A6.out.nodes A6.out.roots (by decide) (by decide) gL_small).mono ?_
  rintro e w7 ⟨m3, v3, o3, rfl, hR3, hN3, hB3⟩
  rw [E5.out] at hR3
  have hm3 := hR3.ints_len
  have hml3 : m3 = 4 := by simpa using hm3.symm
  subst hml3
  have A7 := Lib.hid (A6.out.keep (hB3))
  have RR3 := Lib.hid hR3
  clear hR3 hN3 hB3 hm3 A6 k0 k1
  go_wp2_with fail
  refine (ints_any _ _ _ _ _ _ [1, 3, 1, 1] [1, 3, 1, 1] _ (RR3.out.alloc _) (Row.new _ 3 1 4 (ints [1, 3, 1, 1]) rfl (by unfold maxLen; omega)) (by decide) (by decide)).mono ?_
  rintro e w8 ⟨rfl, q3, hq3⟩
  have A8 := Lib.hid (A7.out.keep (show But (fun _ => False) w7 w8 from by rw [hq3]; exact ((But.refl _ _).alloc _).drewN _))
  rw [show decide (([1, 3, 1, 1] : List Int) = [1, 3, 1, 1]) = true from rfl]
  clear hq3 RR3 A7
  have k0 : w8.cell? ⟨B + 1 + 1 + 1 + 1 + 1 + 1 + 1 + 1, 0, none⟩ = some (.slice (some ⟨B + 1 + 1 + 1 + 1 + 1 + 1 + 1, 0, none⟩) 1 1) := A8.out.h.cell 0
  have k1 : w8.cell? ⟨B + 1 + 1 + 1 + 1 + 1 + 1 + 1 + 1, 1, none⟩ = some (.slice none 0 0) := A8.out.h.cell 1
  go_wp2_with fail
  refine (reach_any _ _ _ wL _ _ _ [] _ 1 1 [2] _ (A8.out.wrong.keep ((But.refl _ _).alloc _)) (Nums.nil _ _) ((Blk.new w8 (ints [2]).toArray 3).nums rfl) (by decide) (by decide) (by decide) wL_small).mono ?_
  rintro e w9 ⟨m9, v9, o9, rfl, hR9, hN9, hB9⟩
  rw [E6.out] at hR9
  have hm9 := hR9.ints_len
  have hml9 : m9 = 0 := by simpa using hm9.symm
  subst hml9
  obtain ⟨a9, cap9, rfl, -, -⟩ := hR9.val
  have A9 := Lib.hid (A8.out.keep (((But.refl _ _).alloc _).trans hB9))
  clear hR9 hN9 hB9 hm9 A8 k0 k1
  go_wp2_with fail
  go_ret
  exact ⟨rfl, A9.out.but⟩

end Graph
end Go.Proofs.Ytldgjmgdbaeglaa
