/- The laws of layer 1 (conf), walked: they answer true. -/
import Derived.Test.YtboajbbnnbnpaaaConfRef
import Derived.Test.YtboajbbnnbnpaaaReads
set_option linter.unusedVariables false
set_option linter.unusedSimpArgs false
namespace Go.Proofs.Ytboajbbnnbnpaaa
open Go.RowKit

namespace Conf

def s1 : Sh := ⟨2, 1, 3, 9, 1⟩
def s2 : Sh := ⟨0, 0, 64, 0, 4294967294⟩

theorem nil_shs (w : World) : Shs w none 0 [] := ⟨rfl, fun i hi => by omega⟩

set_option maxHeartbeats 4000000 in
set_option maxRecDepth 100000 in
theorem alive_any (w : World) :
    Calls Try.prog 52 #[] w fun e w' => e = .returned (.bool true) ∧ But (fun _ => False) w w' := by
  obtain ⟨w2, hw2⟩ : ∃ w2, w2 = (w.alloc (.cells #[.int .i64 2, .int .i64 1, .int .i64 3, .int .i64 9, .int .i64 1] 83)).alloc (.cells #[.int .i64 2, .int .i64 1, .int .i64 3, .int .i64 9, .int .i64 1, .int .i64 0, .int .i64 0, .int .i64 64, .int .i64 0, .int .i64 4294967294] 83) := ⟨_, rfl⟩
  have B1 : Blk w2 w.heap.size (sh s1) 83 := by rw [hw2]; exact (Blk.new w _ _).alloc _
  have B2 : Blk w2 (w.heap.size + 1) (sh s1 ++ sh s2) 83 := by
    have b := Blk.new (w.alloc (.cells #[.int .i64 2, .int .i64 1, .int .i64 3, .int .i64 9, .int .i64 1] 83)) #[.int .i64 2, .int .i64 1, .int .i64 3, .int .i64 9, .int .i64 1, .int .i64 0, .int .i64 0, .int .i64 64, .int .i64 0, .int .i64 4294967294] 83
    rw [← hw2, show (w.alloc (.cells #[.int .i64 2, .int .i64 1, .int .i64 3, .int .i64 9, .int .i64 1] 83)).heap.size = w.heap.size + 1 by simp] at b
    exact b
  have L2 : Shs w2 (some ⟨w.heap.size + 1, 0, none⟩) 2 [s1, s2] := by
    refine ⟨rfl, fun i hi => ?_⟩
    obtain rfl | rfl : i = 0 ∨ i = 1 := by omega
    · exact ⟨_, 0, s1, rfl, B2.lt, rfl, fun j hj => by rw [B2.cell]; obtain rfl | rfl | rfl | rfl | rfl : j = 0 ∨ j = 1 ∨ j = 2 ∨ j = 3 ∨ j = 4 := (by omega); all_goals rfl⟩
    · exact ⟨_, 0, s2, rfl, B2.lt, rfl, fun j hj => by rw [B2.cell]; obtain rfl | rfl | rfl | rfl | rfl : j = 0 ∨ j = 1 ∨ j = 2 ∨ j = 3 ∨ j = 4 := (by omega); all_goals rfl⟩
  have G2 : But (fun _ => False) w w2 := by rw [hw2]; exact ((But.refl _ _).alloc _).alloc _
  have HW := Lib.hid hw2
  clear B2 hw2
  go_enter Try.func52, Try.ntmps52
  go_wp2_with fail
  rw [← HW.out]
  refine (to_ret (v' := .int .i64 4) rfl (slots_any 2 _)).mono ?_
  rintro e w9 ⟨rfl, rfl⟩
  go_wp2_with fail
  refine (to_ret (v' := .int .i64 2) rfl (size_any 0 _)).mono ?_
  rintro e w9 ⟨rfl, rfl⟩
  go_wp2_with fail
  refine (to_ret (v' := .int .i64 0) rfl (size_any 3 _)).mono ?_
  rintro e w9 ⟨rfl, rfl⟩
  go_wp2_with fail
  refine (to_ret (v' := .bool true) rfl (right_any (some ⟨w.heap.size + 1, 0, none⟩) 2 2 [s1, s2] _ L2 (by omega))).mono ?_
  rintro e w3 ⟨rfl, g3⟩
  have B1 := B1.but g3 (fun q => q)
  have L3 := L2.but g3 (fun _ _ q => q)
  have G3 := G2.trans g3
  have c0 : w3.cell? ⟨w.heap.size, 0, none⟩ = some (.int .i64 2) := B1.cell 0
  have c1 : w3.cell? ⟨w.heap.size, 1, none⟩ = some (.int .i64 1) := B1.cell 1
  have c2 : w3.cell? ⟨w.heap.size, 2, none⟩ = some (.int .i64 3) := B1.cell 2
  have c3 : w3.cell? ⟨w.heap.size, 3, none⟩ = some (.int .i64 9) := B1.cell 3
  have c4 : w3.cell? ⟨w.heap.size, 4, none⟩ = some (.int .i64 1) := B1.cell 4
  go_wp2_with fail
  refine (to_ret (v' := .bool false) rfl (right_any none 0 0 [] _ (nil_shs _) (by omega))).mono ?_
  rintro e w4 ⟨rfl, g4⟩
  have B1 := B1.but g4 (fun q => q)
  have L4 := L3.but g4 (fun _ _ q => q)
  have G4 := G3.trans g4
  have c0 : w4.cell? ⟨w.heap.size, 0, none⟩ = some (.int .i64 2) := B1.cell 0
  have c1 : w4.cell? ⟨w.heap.size, 1, none⟩ = some (.int .i64 1) := B1.cell 1
  have c2 : w4.cell? ⟨w.heap.size, 2, none⟩ = some (.int .i64 3) := B1.cell 2
  have c3 : w4.cell? ⟨w.heap.size, 3, none⟩ = some (.int .i64 9) := B1.cell 3
  have c4 : w4.cell? ⟨w.heap.size, 4, none⟩ = some (.int .i64 1) := B1.cell 4
  go_wp2_with fail
  refine (to_ret (v' := .int .i64 6) rfl (count_any s1 _)).mono ?_
  rintro e w5 ⟨rfl, g5⟩
  have B1 := B1.but g5 (fun q => q)
  have L5 := L4.but g5 (fun _ _ q => q)
  have G5 := G4.trans g5
  have c0 : w5.cell? ⟨w.heap.size, 0, none⟩ = some (.int .i64 2) := B1.cell 0
  have c1 : w5.cell? ⟨w.heap.size, 1, none⟩ = some (.int .i64 1) := B1.cell 1
  have c2 : w5.cell? ⟨w.heap.size, 2, none⟩ = some (.int .i64 3) := B1.cell 2
  have c3 : w5.cell? ⟨w.heap.size, 3, none⟩ = some (.int .i64 9) := B1.cell 3
  have c4 : w5.cell? ⟨w.heap.size, 4, none⟩ = some (.int .i64 1) := B1.cell 4
  go_wp2_with fail
  refine (to_ret (v' := .int .i64 1) rfl (class_any s1 2 _ (by omega))).mono ?_
  rintro e w6 ⟨rfl, g6⟩
  have B1 := B1.but g6 (fun q => q)
  have L6 := L5.but g6 (fun _ _ q => q)
  have G6 := G5.trans g6
  have c0 : w6.cell? ⟨w.heap.size, 0, none⟩ = some (.int .i64 2) := B1.cell 0
  have c1 : w6.cell? ⟨w.heap.size, 1, none⟩ = some (.int .i64 1) := B1.cell 1
  have c2 : w6.cell? ⟨w.heap.size, 2, none⟩ = some (.int .i64 3) := B1.cell 2
  have c3 : w6.cell? ⟨w.heap.size, 3, none⟩ = some (.int .i64 9) := B1.cell 3
  have c4 : w6.cell? ⟨w.heap.size, 4, none⟩ = some (.int .i64 1) := B1.cell 4
  go_wp2_with fail
  refine (to_ret (v' := .int .i64 4) rfl (at_any s1 2 _ (by omega))).mono ?_
  rintro e w7 ⟨rfl, g7⟩
  have B1 := B1.but g7 (fun q => q)
  have L7 := L6.but g7 (fun _ _ q => q)
  have G7 := G6.trans g7
  have c0 : w7.cell? ⟨w.heap.size, 0, none⟩ = some (.int .i64 2) := B1.cell 0
  have c1 : w7.cell? ⟨w.heap.size, 1, none⟩ = some (.int .i64 1) := B1.cell 1
  have c2 : w7.cell? ⟨w.heap.size, 2, none⟩ = some (.int .i64 3) := B1.cell 2
  have c3 : w7.cell? ⟨w.heap.size, 3, none⟩ = some (.int .i64 9) := B1.cell 3
  have c4 : w7.cell? ⟨w.heap.size, 4, none⟩ = some (.int .i64 1) := B1.cell 4
  go_wp2_with fail
  refine (to_ret (v' := .int .i64 12) rfl (at_any s1 4 _ (by omega))).mono ?_
  rintro e w8 ⟨rfl, g8⟩
  have B1 := B1.but g8 (fun q => q)
  have L8 := L7.but g8 (fun _ _ q => q)
  have G8 := G7.trans g8
  have c0 : w8.cell? ⟨w.heap.size, 0, none⟩ = some (.int .i64 2) := B1.cell 0
  have c1 : w8.cell? ⟨w.heap.size, 1, none⟩ = some (.int .i64 1) := B1.cell 1
  have c2 : w8.cell? ⟨w.heap.size, 2, none⟩ = some (.int .i64 3) := B1.cell 2
  have c3 : w8.cell? ⟨w.heap.size, 3, none⟩ = some (.int .i64 9) := B1.cell 3
  have c4 : w8.cell? ⟨w.heap.size, 4, none⟩ = some (.int .i64 1) := B1.cell 4
  go_wp2_with fail
  refine (to_ret (v' := .int .i64 (-1)) rfl (class_any s1 6 _ (by omega))).mono ?_
  rintro e w9 ⟨rfl, g9⟩
  have B1 := B1.but g9 (fun q => q)
  have L9 := L8.but g9 (fun _ _ q => q)
  have G9 := G8.trans g9
  have c0 : w9.cell? ⟨w.heap.size, 0, none⟩ = some (.int .i64 2) := B1.cell 0
  have c1 : w9.cell? ⟨w.heap.size, 1, none⟩ = some (.int .i64 1) := B1.cell 1
  have c2 : w9.cell? ⟨w.heap.size, 2, none⟩ = some (.int .i64 3) := B1.cell 2
  have c3 : w9.cell? ⟨w.heap.size, 3, none⟩ = some (.int .i64 9) := B1.cell 3
  have c4 : w9.cell? ⟨w.heap.size, 4, none⟩ = some (.int .i64 1) := B1.cell 4
  go_wp2_with fail
  refine (to_ret (v' := .int .i64 22) rfl (words_any s1 _)).mono ?_
  rintro e w10 ⟨rfl, g10⟩
  have B1 := B1.but g10 (fun q => q)
  have L10 := L9.but g10 (fun _ _ q => q)
  have G10 := G9.trans g10
  have c0 : w10.cell? ⟨w.heap.size, 0, none⟩ = some (.int .i64 2) := B1.cell 0
  have c1 : w10.cell? ⟨w.heap.size, 1, none⟩ = some (.int .i64 1) := B1.cell 1
  have c2 : w10.cell? ⟨w.heap.size, 2, none⟩ = some (.int .i64 3) := B1.cell 2
  have c3 : w10.cell? ⟨w.heap.size, 3, none⟩ = some (.int .i64 9) := B1.cell 3
  have c4 : w10.cell? ⟨w.heap.size, 4, none⟩ = some (.int .i64 1) := B1.cell 4
  go_wp2_with fail
  refine (to_ret (v' := .int .i64 22) rfl (base_any (some ⟨w.heap.size + 1, 0, none⟩) 2 2 [s1, s2] 2 _ L10 (by omega) (by omega) (by decide))).mono ?_
  rintro e w11 ⟨rfl, g11⟩
  have B1 := B1.but g11 (fun q => q)
  have L11 := L10.but g11 (fun _ _ q => q)
  have G11 := G10.trans g11
  have c0 : w11.cell? ⟨w.heap.size, 0, none⟩ = some (.int .i64 2) := B1.cell 0
  have c1 : w11.cell? ⟨w.heap.size, 1, none⟩ = some (.int .i64 1) := B1.cell 1
  have c2 : w11.cell? ⟨w.heap.size, 2, none⟩ = some (.int .i64 3) := B1.cell 2
  have c3 : w11.cell? ⟨w.heap.size, 3, none⟩ = some (.int .i64 9) := B1.cell 3
  have c4 : w11.cell? ⟨w.heap.size, 4, none⟩ = some (.int .i64 1) := B1.cell 4
  go_wp2_with fail
  refine (to_ret (v' := .int .i64 (-1)) rfl (base_any (some ⟨w.heap.size + 1, 0, none⟩) 2 2 [s1, s2] 3 _ L11 (by omega) (by omega) (by decide))).mono ?_
  rintro e w12 ⟨rfl, g12⟩
  have B1 := B1.but g12 (fun q => q)
  have L12 := L11.but g12 (fun _ _ q => q)
  have G12 := G11.trans g12
  have c0 : w12.cell? ⟨w.heap.size, 0, none⟩ = some (.int .i64 2) := B1.cell 0
  have c1 : w12.cell? ⟨w.heap.size, 1, none⟩ = some (.int .i64 1) := B1.cell 1
  have c2 : w12.cell? ⟨w.heap.size, 2, none⟩ = some (.int .i64 3) := B1.cell 2
  have c3 : w12.cell? ⟨w.heap.size, 3, none⟩ = some (.int .i64 9) := B1.cell 3
  have c4 : w12.cell? ⟨w.heap.size, 4, none⟩ = some (.int .i64 1) := B1.cell 4
  go_wp2_with fail
  go_ret
  exact ⟨rfl, G12⟩

set_option maxHeartbeats 8000000 in
set_option maxRecDepth 100000 in
theorem tells_any (s : Sh) (a : Option Addr) (len cap : Nat) (l : List Sh) (n m : Int) (w : World) (hl : Shs w a len l) (hlen : len ≤ 1000000000000000) (hcap : len ≤ cap) (hcap2 : cap ≤ maxLen)
    (hn : -9223372036854775808 ≤ n ∧ n ≤ 9223372036854775807) (hm : -9223372036854775808 ≤ m ∧ m ≤ 9223372036854775807) :
    Calls Try.prog 11 #[.agg (sh s), .slice a len cap, .agg #[.int .i64 n, .int .i64 m]] w fun e w' => e = .returned (.bool true) ∧ But (fun _ => False) w w' := by
  have G0 := (((But.refl (fun _ => False) w).alloc (.cells (sh s) 83)).alloc (.cells #[.int .i64 n, .int .i64 m] 85))
  by_cases hbig : 40 < len
  · go_enter Try.func11, Try.ntmps11
    go_wp2_with fail
    refine (alive_any _).mono ?_
    rintro e w1 ⟨rfl, g1⟩
    go_wp2_with fail
    go_ret
    exact ⟨rfl, G0.trans g1⟩
  obtain ⟨w2, hw2⟩ : ∃ w2, w2 = (w.alloc (.cells (sh s) 83)).alloc (.cells #[.int .i64 n, .int .i64 m] 85) := ⟨_, rfl⟩
  have B1 : Blk w2 w.heap.size (sh s) 83 := by rw [hw2]; exact (Blk.new w _ _).alloc _
  have B2 : Blk w2 (w.heap.size + 1) #[.int .i64 n, .int .i64 m] 85 := by rw [hw2]; simpa using Blk.new (w.alloc (.cells (sh s) 83)) #[.int .i64 n, .int .i64 m] 85
  have HW := Lib.hid hw2
  rw [← hw2] at G0
  have hl2 : Shs w2 a len l := hl.but G0 (fun _ _ q => q)
  have HP := Lib.hid (show ∀ w', But (fun _ => False) w2 w' → (w'.cell? ⟨w.heap.size, 0, none⟩ = some (.int .i64 s.c0) ∧ w'.cell? ⟨w.heap.size, 1, none⟩ = some (.int .i64 s.c1) ∧ w'.cell? ⟨w.heap.size, 2, none⟩ = some (.int .i64 s.c2) ∧ w'.cell? ⟨w.heap.size, 3, none⟩ = some (.int .i64 s.q) ∧ w'.cell? ⟨w.heap.size, 4, none⟩ = some (.int .i64 s.st) ∧ w'.cell? ⟨w.heap.size + 1, 0, none⟩ = some (.int .i64 n) ∧ w'.cell? ⟨w.heap.size + 1, 1, none⟩ = some (.int .i64 m)) from fun w' h => ⟨(B1.but h (fun q => q)).cell 0, (B1.but h (fun q => q)).cell 1, (B1.but h (fun q => q)).cell 2, (B1.but h (fun q => q)).cell 3, (B1.but h (fun q => q)).cell 4, (B2.but h (fun q => q)).cell 0, (B2.but h (fun q => q)).cell 1⟩)
  have q0 : w2.cell? ⟨w.heap.size + 1, 0, none⟩ = some (.int .i64 n) := B2.cell 0
  clear hw2
  go_enter Try.func11, Try.ntmps11
  go_wp2_with fail
  rw [← HW.out]
  go_region_held3 (fun w' => But (fun _ => False) w2 w' ∧ w'.cell? ⟨w.heap.size, 0, none⟩ = some (.int .i64 s.c0) ∧ w'.cell? ⟨w.heap.size, 1, none⟩ = some (.int .i64 s.c1) ∧ w'.cell? ⟨w.heap.size, 2, none⟩ = some (.int .i64 s.c2) ∧ w'.cell? ⟨w.heap.size, 3, none⟩ = some (.int .i64 s.q) ∧ w'.cell? ⟨w.heap.size, 4, none⟩ = some (.int .i64 s.st) ∧ w'.cell? ⟨w.heap.size + 1, 0, none⟩ = some (.int .i64 n) ∧ w'.cell? ⟨w.heap.size + 1, 1, none⟩ = some (.int .i64 m))
    (first | assumption | (refine keepN HP.out ?_; first | exact (But.refl _ _).drew | exact (And.left ‹But (fun _ => False) w2 _ ∧ _›).drew | exact keep_step ‹But (fun _ => False) w2 _ ∧ _› (by assumption)))
    (first | (go_at_call 53; refine (slots_any n _).mono ?_; rintro e w9 ⟨rfl, rfl⟩) | (go_at_call 54; refine (ref_slots n _).mono ?_; rintro e w9 ⟨rfl, rfl⟩) | (go_at_call 55; refine (size_any n _).mono ?_; rintro e w9 ⟨rfl, rfl⟩) | (go_at_call 56; refine (ref_size n _).mono ?_; rintro e w9 ⟨rfl, rfl⟩) | (go_at_call 57; refine (class_any s n _ hn).mono ?_; rintro e w9 ⟨rfl, g9⟩) | (go_at_call 58; refine (ref_class s n _).mono ?_; rintro e w9 ⟨rfl, g9⟩) | (go_at_call 59; refine (at_any s n _ hn).mono ?_; rintro e w9 ⟨rfl, g9⟩) | (go_at_call 60; refine (ref_at s n _).mono ?_; rintro e w9 ⟨rfl, g9⟩))
  go_wp2_with fail
  go_region_held3 (fun w' => But (fun _ => False) w2 w' ∧ w'.cell? ⟨w.heap.size, 0, none⟩ = some (.int .i64 s.c0) ∧ w'.cell? ⟨w.heap.size, 1, none⟩ = some (.int .i64 s.c1) ∧ w'.cell? ⟨w.heap.size, 2, none⟩ = some (.int .i64 s.c2) ∧ w'.cell? ⟨w.heap.size, 3, none⟩ = some (.int .i64 s.q) ∧ w'.cell? ⟨w.heap.size, 4, none⟩ = some (.int .i64 s.st) ∧ w'.cell? ⟨w.heap.size + 1, 0, none⟩ = some (.int .i64 n) ∧ w'.cell? ⟨w.heap.size + 1, 1, none⟩ = some (.int .i64 m))
    (first | assumption | (refine keepN HP.out ?_; first | exact (But.refl _ _).drew | exact (And.left ‹But (fun _ => False) w2 _ ∧ _›).drew | exact keep_step ‹But (fun _ => False) w2 _ ∧ _› (by assumption)))
    (first | (go_at_call 52; refine (alive_any _).mono ?_; rintro e w9 ⟨rfl, g9⟩) | (go_at_call 61; refine (count_any s _).mono ?_; rintro e w9 ⟨rfl, g9⟩) | (go_at_call 62; refine (ref_count s _).mono ?_; rintro e w9 ⟨rfl, g9⟩) | (go_at_call 63; refine (words_any s _).mono ?_; rintro e w9 ⟨rfl, g9⟩) | (go_at_call 64; refine (ref_words s _).mono ?_; rintro e w9 ⟨rfl, g9⟩) | (go_at_call 65; refine (right_any a len cap l _ (Shs.but hl2 (And.left ‹But (fun _ => False) w2 _ ∧ _›) (fun _ _ q => q)) hlen).mono ?_; rintro e w9 ⟨rfl, g9⟩) | (go_at_call 66; refine (ref_right a len cap l _ (Shs.but hl2 (And.left ‹But (fun _ => False) w2 _ ∧ _›) (fun _ _ q => q)) hlen).mono ?_; rintro e w9 ⟨rfl, g9⟩) | (go_at_call 67; refine (base_any a len cap l m _ (Shs.but hl2 (And.left ‹But (fun _ => False) w2 _ ∧ _›) (fun _ _ q => q)) hlen hcap hcap2).mono ?_; rintro e w9 ⟨rfl, g9⟩) | (go_at_call 68; refine (ref_base a len cap l m _ (Shs.but hl2 (And.left ‹But (fun _ => False) w2 _ ∧ _›) (fun _ _ q => q)) hlen hm).mono ?_; rintro e w9 ⟨rfl, g9⟩))
  go_wp2_with fail
  go_ret
  exact ⟨rfl, G0.trans (And.left ‹But (fun _ => False) w2 _ ∧ _›)⟩

theorem all2_ints : ∀ (k : Nat) (l : List Value), All2 (List.replicate k (.i .i64)) l → ∃ xs : List Int, xs.length = k ∧ l = xs.map (Value.int .i64) ∧ ∀ x ∈ xs, (Lit.int .i64 x).wf = true
  | 0, l, h => ⟨[], rfl, all2_nil h, fun x hx => by cases hx⟩
  | k + 1, l, h => by
    obtain ⟨v, vs, rfl, ⟨n, rfl, wf⟩, h'⟩ := all2_cons h
    obtain ⟨xs, h1, rfl, h2⟩ := all2_ints k vs h'
    exact ⟨n :: xs, by simp [h1], rfl, fun x hx => by rcases List.mem_cons.1 hx with rfl | hx; exact wf; exact h2 x hx⟩

theorem all2_sh {cs : List Value} (h : All2 [.i .i64, .i .i64, .i .i64, .i .i64, .i .i64] cs) : ∃ s : Sh, cs = (sh s).toList ∧ (Lit.int .i64 s.c0).wf = true := by
  obtain ⟨xs, h1, rfl, h2⟩ := all2_ints 5 cs h
  match xs, h1 with
  | [a, b, c, d, e], _ => exact ⟨⟨a, b, c, d, e⟩, rfl, h2 a (by simp)⟩

theorem shs_of {w : World} {a : Option Addr} {len : Nat} {V : Nat → Nat → Value} (hE : Els w a len 5 V) (hf : ∀ i, i < len → All2 [.i .i64, .i .i64, .i .i64, .i .i64, .i .i64] ((List.range 5).map (V i))) : ∃ l, Shs w a len l := by
  have each : ∀ i, ∃ s : Sh, i < len → (List.range 5).map (V i) = (sh s).toList := fun i => by
    by_cases hi : i < len
    · obtain ⟨s, hs, _⟩ := all2_sh (hf i hi); exact ⟨s, fun _ => hs⟩
    · exact ⟨⟨0, 0, 0, 0, 0⟩, fun h => absurd h hi⟩
  refine ⟨(List.range len).map fun i => Classical.choose (each i), by simp, fun i hi => ?_⟩
  obtain ⟨b, off, e, hlt, hc⟩ := hE.at_ i hi
  have hs := Classical.choose_spec (each i) hi
  refine ⟨b, off, Classical.choose (each i), e, hlt, by simp [hi], fun j hj => ?_⟩
  rw [hc j hj]
  have := congrArg (fun l => l[j]?) hs
  simp [hj] at this
  rw [← this]

theorem tells_law (w : World) (cs : Array Value) (w0 : All2 [.i .i64, .i .i64, .i .i64, .i .i64, .i .i64] cs.toList) (a : Option Addr) (len cap : Nat) (V : Nat → Nat → Value) (hE : Els w a len 5 V)
    (hf : ∀ i, i < len → All2 [.i .i64, .i .i64, .i .i64, .i .i64, .i .i64] ((List.range 5).map (V i))) (hz : len * 40 ≤ 140737488351232) (hm : len ≤ cap ∧ cap ≤ maxLen)
    (cs2 : Array Value) (w2 : All2 [.i .i64, .i .i64] cs2.toList) :
    Calls Try.prog 11 #[.agg cs, .slice a len cap, .agg cs2] w fun e w' => e = .returned (.bool true) ∧ But (fun _ => False) w w' := by
  obtain ⟨s, e1, _⟩ := all2_sh w0
  obtain rfl : cs = sh s := Array.ext' e1
  obtain ⟨xs, h1, e2, h2⟩ := all2_ints 2 _ w2
  obtain ⟨l, hl⟩ := shs_of hE hf
  match xs, h1 with
  | [n, m], _ =>
    obtain rfl : cs2 = #[.int .i64 n, .int .i64 m] := Array.ext' e2
    exact tells_any s a len cap l n m w hl (by omega) hm.1 hm.2 (bounds_i64 (h2 n (by simp))) (bounds_i64 (h2 m (by simp)))

end Conf
end Go.Proofs.Ytboajbbnnbnpaaa
