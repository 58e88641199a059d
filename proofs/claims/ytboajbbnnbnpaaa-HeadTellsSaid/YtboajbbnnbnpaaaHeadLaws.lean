/- The laws of layer 3 (head), walked: they answer true. -/
import Derived.Test.YtboajbbnnbnpaaaHeadWalks
import Derived.Test.YtboajbbnnbnpaaaReads
set_option linter.unusedVariables false
set_option linter.unusedSimpArgs false
namespace Go.Proofs.Ytboajbbnnbnpaaa
open Go.RowKit

namespace Head

set_option maxHeartbeats 400000 in
theorem ref_right (g c : Int) (u : Bool) (w : World) :
    Calls Try.prog 19 #[.agg #[.int .i64 g, .int .i64 c, .bool u]] w fun e w' => e = .returned (.bool (right g c)) ∧ But (fun _ => False) w w' := by
  by_cases h1 : 0 ≤ g
  · by_cases h2 : g ≤ 4294967295
    · by_cases h3 : 0 ≤ c
      · have E : right g c = decide (c ≤ 2147483647) := by unfold right; simp [h1, h2, h3]
        rw [E]; clear E
        go_enter Try.func19, Try.ntmps19
        go_wp2
        go_ret
        exact ⟨rfl, (But.refl _ _).alloc _⟩
      · have E : right g c = false := by unfold right; simp [h1, h2, h3]
        rw [E]; clear E
        go_enter Try.func19, Try.ntmps19
        go_wp2
        go_ret
        exact ⟨rfl, (But.refl _ _).alloc _⟩
    · have E : right g c = false := by unfold right; simp [h1, h2]
      rw [E]; clear E
      go_enter Try.func19, Try.ntmps19
      go_wp2
      go_ret
      exact ⟨rfl, (But.refl _ _).alloc _⟩
  · have E : right g c = false := by unfold right; simp [h1]
    rw [E]; clear E
    go_enter Try.func19, Try.ntmps19
    go_wp2
    go_ret
    exact ⟨rfl, (But.refl _ _).alloc _⟩

set_option maxHeartbeats 400000 in
theorem ref_encode_no (g c : Int) (u : Bool) (w : World) (h : right g c = false) :
    Calls Try.prog 16 #[.agg #[.int .i64 g, .int .i64 c, .bool u]] w fun e w' => e = .returned (.tuple #[.int .u64 0, .int .i64 1]) ∧ But (fun _ => False) w w' := by
  have H := Lib.hid h
  clear h
  go_enter Try.func16, Try.ntmps16
  go_wp2_with fail
  refine (ref_right g c u _).mono ?_
  rintro e w1 ⟨rfl, g1⟩
  rw [H.out]
  go_wp2
  go_ret2
  exact ⟨rfl, ((But.refl _ _).alloc _).trans g1⟩

set_option maxHeartbeats 400000 in
theorem ref_encode_yes (g c : Int) (u : Bool) (w : World) (h : right g c = true) :
    Calls Try.prog 16 #[.agg #[.int .i64 g, .int .i64 c, .bool u]] w fun e w' => e = .returned (.tuple #[.int .u64 (word g c u), .int .i64 0]) ∧ But (fun _ => False) w w' := by
  have H := Lib.hid h
  have hr := (right_iff g c).1 h
  clear h
  go_enter Try.func16, Try.ntmps16
  go_wp2_with fail
  refine (ref_right g c u _).mono ?_
  rintro e w1 ⟨rfl, g1⟩
  rw [H.out]
  have B1 := (Blk.new w #[.int .i64 g, .int .i64 c, .bool u] 23).but g1 (fun q => q)
  have hs : w.heap.size < w1.heap.size := B1.lt
  have c0 : w1.cell? ⟨w.heap.size, 0, none⟩ = some (.int .i64 g) := B1.cell 0
  have c1 : w1.cell? ⟨w.heap.size, 1, none⟩ = some (.int .i64 c) := B1.cell 1
  have c2 : w1.cell? ⟨w.heap.size, 2, none⟩ = some (.bool u) := B1.cell 2
  have e1 : IntKind.u64.wrap (4294967296 * g) = 4294967296 * g := by rw [IntKind.wrap_u64]; omega
  have e2 : IntKind.u64.wrap (4294967296 * g + c) = 4294967296 * g + c := by rw [IntKind.wrap_u64]; omega
  have e3 : IntKind.u64.wrap (4294967296 * g + c + 2147483648) = 4294967296 * g + c + 2147483648 := by rw [IntKind.wrap_u64]; omega
  cases u with
  | true =>
    have E := Lib.hid (show word g c true = 4294967296 * g + c + 2147483648 by unfold word; simp; omega)
    go_wp2_with fail
    go_ret2
    exact ⟨by rw [E.out]; rfl, ((But.refl _ _).alloc _).trans g1⟩
  | false =>
    have E := Lib.hid (show word g c false = 4294967296 * g + c by unfold word; simp; omega)
    go_wp2_with fail
    go_ret2
    exact ⟨by rw [E.out]; rfl, ((But.refl _ _).alloc _).trans g1⟩

set_option maxHeartbeats 400000 in
theorem ref_decode (x : Int) (w : World) (hx : 0 ≤ x ∧ x ≤ 18446744073709551615) :
    Calls Try.prog 21 #[.int .u64 x] w fun e w' => e = .returned (.agg #[.int .i64 (gen x), .int .i64 (count x), .bool (used x)]) ∧ But (fun _ => False) w w' := by
  have E1 := Lib.hid (show gen x = x / 4294967296 from rfl)
  have E2 := Lib.hid (show count x = x % 4294967296 % 2147483648 by unfold count; omega)
  by_cases hu : 2147483648 ≤ x % 4294967296
  · have U := Lib.hid (show used x = true by unfold used; simp [hu])
    go_enter Try.func21, Try.ntmps21
    go_wp2
    refine bodyPost_ret (v := .agg #[.int .i64 (x / 4294967296), .int .i64 (x % 4294967296 % 2147483648), .bool true]) (by simp [results, Try.results21, go_sem]) rfl ⟨by rw [U.out, E1.out, E2.out], ((But.refl _ _).alloc _)⟩
  · have U := Lib.hid (show used x = false by unfold used; simp [hu])
    go_enter Try.func21, Try.ntmps21
    go_wp2
    refine bodyPost_ret (v := .agg #[.int .i64 (x / 4294967296), .int .i64 (x % 4294967296 % 2147483648), .bool false]) (by simp [results, Try.results21, go_sem]) rfl ⟨by rw [U.out, E1.out, E2.out], ((But.refl _ _).alloc _)⟩

set_option maxHeartbeats 1000000 in
theorem alive_any (w : World) :
    Calls Try.prog 17 #[] w fun e w' => e = .returned (.bool true) ∧ But (fun _ => False) w w' := by
  have d1 := decode_any 10737418243
  have d2 : gen 10737418243 = 2 := by decide
  have d3 : count 10737418243 = 3 := by decide
  have d4 : used 10737418243 = true := by decide
  rw [d2, d3, d4] at d1
  have D1 := Lib.hid d1
  clear d1 d2 d3 d4
  have e1 := encode_yes 2 3 true
  rw [show word 2 3 true = 10737418243 by decide] at e1
  have E1 := Lib.hid e1
  clear e1
  have r1 := right_any 4294967295 2147483647 false
  rw [show right 4294967295 2147483647 = true by decide] at r1
  have R1 := Lib.hid r1
  have r2 := right_any 0 (-1) false
  rw [show right 0 (-1) = false by decide] at r2
  have R2 := Lib.hid r2
  clear r1 r2
  go_enter Try.func17, Try.ntmps17
  go_wp2_with fail
  refine (E1.out _ (by decide)).mono ?_
  rintro e w1 ⟨rfl, g1⟩
  go_wp2_with fail
  refine (encode_no 4294967296 0 false _ (by decide)).mono ?_
  rintro e w2 ⟨rfl, g2⟩
  go_wp2_with fail
  refine (D1.out _ (by omega)).mono ?_
  rintro e w3 ⟨rfl, g3⟩
  go_wp2_with fail
  refine (R1.out _).mono ?_
  rintro e w4 ⟨rfl, g4⟩
  go_wp2_with fail
  refine (R2.out _).mono ?_
  rintro e w5 ⟨rfl, g5⟩
  go_wp2_with fail
  go_ret
  exact ⟨rfl, (((g1.trans g2).trans g3).trans g4).trans g5⟩

set_option maxHeartbeats 1000000 in
theorem tells_any (g c : Int) (u : Bool) (x : Int) (w : World) (hx : 0 ≤ x ∧ x ≤ 18446744073709551615) :
    Calls Try.prog 3 #[.agg #[.int .i64 g, .int .i64 c, .bool u], .int .u64 x] w fun e w' => e = .returned (.bool true) ∧ But (fun _ => False) w w' := by
  cases hr : right g c with
  | true =>
    have H := Lib.hid hr
    clear hr
    go_enter Try.func3, Try.ntmps3
    go_wp2_with fail
    refine (encode_yes g c u _ H.out).mono ?_
    rintro e w1 ⟨rfl, g1⟩
    have B1 := (Blk.new w #[.int .i64 g, .int .i64 c, .bool u] 23).but g1 (fun q => q)
    have hs : w.heap.size < w1.heap.size := B1.lt
    have c0 : w1.cell? ⟨w.heap.size, 0, none⟩ = some (.int .i64 g) := B1.cell 0
    have c1 : w1.cell? ⟨w.heap.size, 1, none⟩ = some (.int .i64 c) := B1.cell 1
    have c2 : w1.cell? ⟨w.heap.size, 2, none⟩ = some (.bool u) := B1.cell 2
    go_wp2_with fail
    refine (ref_encode_yes g c u _ H.out).mono ?_
    rintro e w2 ⟨rfl, g2⟩
    have HP := Lib.hid (show ∀ w', But (fun _ => False) w2 w' → (w'.cell? ⟨w.heap.size, 0, none⟩ = some (.int .i64 g) ∧ w'.cell? ⟨w.heap.size, 1, none⟩ = some (.int .i64 c) ∧ w'.cell? ⟨w.heap.size, 2, none⟩ = some (.bool u)) from fun w' h =>
      ⟨((B1.but g2 (fun q => q)).but h (fun q => q)).cell 0, ((B1.but g2 (fun q => q)).but h (fun q => q)).cell 1, ((B1.but g2 (fun q => q)).but h (fun q => q)).cell 2⟩)
    go_wp2_with fail
    go_region_held3 (fun w' => But (fun _ => False) w2 w' ∧ w'.cell? ⟨w.heap.size, 0, none⟩ = some (.int .i64 g) ∧ w'.cell? ⟨w.heap.size, 1, none⟩ = some (.int .i64 c) ∧ w'.cell? ⟨w.heap.size, 2, none⟩ = some (.bool u))
      (first | assumption | (refine keepN HP.out ?_; first | exact (But.refl _ _).drew | exact keep_step ‹But (fun _ => False) w2 _ ∧ _› (by assumption)))
      (first | (go_at_call 17; refine (alive_any _).mono ?_; rintro e w3 ⟨rfl, g3⟩) | (go_at_call 18; refine (right_any g c u _).mono ?_; rintro e w3 ⟨rfl, g3⟩) | (go_at_call 19; refine (ref_right g c u _).mono ?_; rintro e w3 ⟨rfl, g3⟩) | (go_at_call 20; refine (decode_any x _ hx).mono ?_; rintro e w3 ⟨rfl, g3⟩) | (go_at_call 21; refine (ref_decode x _ hx).mono ?_; rintro e w3 ⟨rfl, g3⟩))
    go_wp2_with fail
    go_ret
    exact ⟨rfl, ((((But.refl _ _).alloc _).trans g1).trans g2).trans (And.left ‹But (fun _ => False) w2 _ ∧ _›)⟩
  | false =>
    have H := Lib.hid hr
    clear hr
    go_enter Try.func3, Try.ntmps3
    go_wp2_with fail
    refine (encode_no g c u _ H.out).mono ?_
    rintro e w1 ⟨rfl, g1⟩
    have B1 := (Blk.new w #[.int .i64 g, .int .i64 c, .bool u] 23).but g1 (fun q => q)
    have hs : w.heap.size < w1.heap.size := B1.lt
    have c0 : w1.cell? ⟨w.heap.size, 0, none⟩ = some (.int .i64 g) := B1.cell 0
    have c1 : w1.cell? ⟨w.heap.size, 1, none⟩ = some (.int .i64 c) := B1.cell 1
    have c2 : w1.cell? ⟨w.heap.size, 2, none⟩ = some (.bool u) := B1.cell 2
    go_wp2_with fail
    refine (ref_encode_no g c u _ H.out).mono ?_
    rintro e w2 ⟨rfl, g2⟩
    have HP := Lib.hid (show ∀ w', But (fun _ => False) w2 w' → (w'.cell? ⟨w.heap.size, 0, none⟩ = some (.int .i64 g) ∧ w'.cell? ⟨w.heap.size, 1, none⟩ = some (.int .i64 c) ∧ w'.cell? ⟨w.heap.size, 2, none⟩ = some (.bool u)) from fun w' h =>
      ⟨((B1.but g2 (fun q => q)).but h (fun q => q)).cell 0, ((B1.but g2 (fun q => q)).but h (fun q => q)).cell 1, ((B1.but g2 (fun q => q)).but h (fun q => q)).cell 2⟩)
    go_wp2_with fail
    go_region_held3 (fun w' => But (fun _ => False) w2 w' ∧ w'.cell? ⟨w.heap.size, 0, none⟩ = some (.int .i64 g) ∧ w'.cell? ⟨w.heap.size, 1, none⟩ = some (.int .i64 c) ∧ w'.cell? ⟨w.heap.size, 2, none⟩ = some (.bool u))
      (first | assumption | (refine keepN HP.out ?_; first | exact (But.refl _ _).drew | exact keep_step ‹But (fun _ => False) w2 _ ∧ _› (by assumption)))
      (first | (go_at_call 17; refine (alive_any _).mono ?_; rintro e w3 ⟨rfl, g3⟩) | (go_at_call 18; refine (right_any g c u _).mono ?_; rintro e w3 ⟨rfl, g3⟩) | (go_at_call 19; refine (ref_right g c u _).mono ?_; rintro e w3 ⟨rfl, g3⟩) | (go_at_call 20; refine (decode_any x _ hx).mono ?_; rintro e w3 ⟨rfl, g3⟩) | (go_at_call 21; refine (ref_decode x _ hx).mono ?_; rintro e w3 ⟨rfl, g3⟩))
    go_wp2_with fail
    go_ret
    exact ⟨rfl, ((((But.refl _ _).alloc _).trans g1).trans g2).trans (And.left ‹But (fun _ => False) w2 _ ∧ _›)⟩

set_option maxHeartbeats 2000000 in
theorem back_any (g c : Int) (u : Bool) (x : Int) (w : World) (hx : 0 ≤ x ∧ x ≤ 18446744073709551615) :
    Calls Try.prog 4 #[.agg #[.int .i64 g, .int .i64 c, .bool u], .int .u64 x] w fun e w' => e = .returned (.bool true) ∧ But (fun _ => False) w w' := by
  have hR := Lib.hid (right_of hx.1 (by omega))
  have hW := Lib.hid (word_of hx.1 (by omega))
  generalize hG : gen x = G at hR hW
  generalize hC : count x = C at hR hW
  generalize hU : used x = U at hR hW
  have dx := fun w => decode_any x w hx
  rw [hG, hC, hU] at dx
  have DX := Lib.hid dx
  have ex := fun w => encode_yes G C U w hR.out
  rw [hW.out] at ex
  have EX := Lib.hid ex
  have rx := fun w => right_any G C U w
  rw [hR.out] at rx
  have RX := Lib.hid rx
  clear dx ex rx hG hC hU hR hW
  cases hr : right g c with
  | true =>
    have dy := fun w => decode_any (word g c u) w (by have := word_bd (u := u) hr; omega)
    rw [gen_word hr, count_word hr, used_word hr] at dy
    have DY := Lib.hid dy
    have ey := fun w => encode_yes g c u w hr
    have EY := Lib.hid ey
    have ry := fun w => right_any g c u w
    rw [hr] at ry
    have RY := Lib.hid ry
    clear dy ey ry hr
    go_enter Try.func4, Try.ntmps4
    go_wp2_with fail
    refine (DX.out _).mono ?_
    rintro e w1 ⟨rfl, g1⟩
    have B1 := (Blk.new w #[.int .i64 g, .int .i64 c, .bool u] 23).but g1 (fun q => q)
    have hs : w.heap.size < w1.heap.size := B1.lt
    go_wp2_with fail
    refine (EX.out _).mono ?_
    rintro e w2 ⟨rfl, g2⟩
    have B2 := (Blk.new w1 #[.int .i64 G, .int .i64 C, .bool U] 23).but g2 (fun q => q)
    have B3 := (B1.alloc (.cells #[.int .i64 G, .int .i64 C, .bool U] 23)).but g2 (fun q => q)
    have hs : w1.heap.size < w2.heap.size := B2.lt
    have k0 : w2.cell? ⟨w1.heap.size, 0, none⟩ = some (.int .i64 G) := B2.cell 0
    have k1 : w2.cell? ⟨w1.heap.size, 1, none⟩ = some (.int .i64 C) := B2.cell 1
    have k2 : w2.cell? ⟨w1.heap.size, 2, none⟩ = some (.bool U) := B2.cell 2
    go_wp2_with fail
    refine (RX.out _).mono ?_
    rintro e w3 ⟨rfl, g3⟩
    have B4 := B3.but g3 (fun q => q)
    have l0 : w3.cell? ⟨w.heap.size, 0, none⟩ = some (.int .i64 g) := B4.cell 0
    have l1 : w3.cell? ⟨w.heap.size, 1, none⟩ = some (.int .i64 c) := B4.cell 1
    have l2 : w3.cell? ⟨w.heap.size, 2, none⟩ = some (.bool u) := B4.cell 2
    go_wp2_with fail
    refine (EY.out _).mono ?_
    rintro e w4 ⟨rfl, g4⟩
    have B5 := B4.but g4 (fun q => q)
    have G4 := (((((But.refl (fun _ => False) w).alloc (.cells #[.int .i64 g, .int .i64 c, .bool u] 23)).trans g1).alloc (.cells #[.int .i64 G, .int .i64 C, .bool U] 23)).trans g2).trans g3 |>.trans g4
    have HP := Lib.hid (show ∀ w', But (fun _ => False) w4 w' → (w'.cell? ⟨w.heap.size, 0, none⟩ = some (.int .i64 g) ∧ w'.cell? ⟨w.heap.size, 1, none⟩ = some (.int .i64 c) ∧ w'.cell? ⟨w.heap.size, 2, none⟩ = some (.bool u)) from fun w' h =>
      ⟨(B5.but h (fun q => q)).cell 0, (B5.but h (fun q => q)).cell 1, (B5.but h (fun q => q)).cell 2⟩)
    go_wp2_with fail
    go_region_held3 (fun w' => But (fun _ => False) w4 w' ∧ w'.cell? ⟨w.heap.size, 0, none⟩ = some (.int .i64 g) ∧ w'.cell? ⟨w.heap.size, 1, none⟩ = some (.int .i64 c) ∧ w'.cell? ⟨w.heap.size, 2, none⟩ = some (.bool u))
      (first | assumption | (refine keepN HP.out ?_; first | exact (But.refl _ _).drew | exact keep_step ‹But (fun _ => False) w4 _ ∧ _› (by assumption)))
      (first | (go_at_call 17; refine (alive_any _).mono ?_; rintro e w3 ⟨rfl, g3⟩) | (go_at_call 18; refine (RY.out _).mono ?_; rintro e w3 ⟨rfl, g3⟩) | (go_at_call 20; refine (DY.out _).mono ?_; rintro e w3 ⟨rfl, g3⟩))
    go_wp2_with fail
    go_ret
    exact ⟨rfl, G4.trans (And.left ‹But (fun _ => False) w4 _ ∧ _›)⟩
  | false =>
    have ey := fun w => encode_no g c u w hr
    have EY := Lib.hid ey
    have ry := fun w => right_any g c u w
    rw [hr] at ry
    have RY := Lib.hid ry
    clear ey ry hr
    go_enter Try.func4, Try.ntmps4
    go_wp2_with fail
    refine (DX.out _).mono ?_
    rintro e w1 ⟨rfl, g1⟩
    have B1 := (Blk.new w #[.int .i64 g, .int .i64 c, .bool u] 23).but g1 (fun q => q)
    have hs : w.heap.size < w1.heap.size := B1.lt
    go_wp2_with fail
    refine (EX.out _).mono ?_
    rintro e w2 ⟨rfl, g2⟩
    have B2 := (Blk.new w1 #[.int .i64 G, .int .i64 C, .bool U] 23).but g2 (fun q => q)
    have B3 := (B1.alloc (.cells #[.int .i64 G, .int .i64 C, .bool U] 23)).but g2 (fun q => q)
    have hs : w1.heap.size < w2.heap.size := B2.lt
    have k0 : w2.cell? ⟨w1.heap.size, 0, none⟩ = some (.int .i64 G) := B2.cell 0
    have k1 : w2.cell? ⟨w1.heap.size, 1, none⟩ = some (.int .i64 C) := B2.cell 1
    have k2 : w2.cell? ⟨w1.heap.size, 2, none⟩ = some (.bool U) := B2.cell 2
    go_wp2_with fail
    refine (RX.out _).mono ?_
    rintro e w3 ⟨rfl, g3⟩
    have B4 := B3.but g3 (fun q => q)
    have l0 : w3.cell? ⟨w.heap.size, 0, none⟩ = some (.int .i64 g) := B4.cell 0
    have l1 : w3.cell? ⟨w.heap.size, 1, none⟩ = some (.int .i64 c) := B4.cell 1
    have l2 : w3.cell? ⟨w.heap.size, 2, none⟩ = some (.bool u) := B4.cell 2
    go_wp2_with fail
    refine (EY.out _).mono ?_
    rintro e w4 ⟨rfl, g4⟩
    have B5 := B4.but g4 (fun q => q)
    have G4 := (((((But.refl (fun _ => False) w).alloc (.cells #[.int .i64 g, .int .i64 c, .bool u] 23)).trans g1).alloc (.cells #[.int .i64 G, .int .i64 C, .bool U] 23)).trans g2).trans g3 |>.trans g4
    have m0 : w4.cell? ⟨w.heap.size, 0, none⟩ = some (.int .i64 g) := B5.cell 0
    have m1 : w4.cell? ⟨w.heap.size, 1, none⟩ = some (.int .i64 c) := B5.cell 1
    have m2 : w4.cell? ⟨w.heap.size, 2, none⟩ = some (.bool u) := B5.cell 2
    go_wp2_with fail
    first
    | go_region_with (first | (go_at_call 17; refine (alive_any _).mono ?_; rintro e w5 ⟨rfl, g5⟩; have n0 := (B5.but ((But.refl _ _).drew.trans g5) (fun q => q)).cell 0; have n1 := (B5.but ((But.refl _ _).drew.trans g5) (fun q => q)).cell 1; have n2 := (B5.but ((But.refl _ _).drew.trans g5) (fun q => q)).cell 2) | (go_at_call 18; refine (RY.out _).mono ?_; rintro e w6 ⟨rfl, g6⟩))
    | fail
    all_goals go_wp2_with fail
    all_goals go_ret
    all_goals exact ⟨rfl, (G4.drew.trans g5).trans g6⟩

theorem all2_header {cs : Array Value} (h : All2 [.i .i64, .i .i64, .b] cs.toList) : ∃ g c u, cs = #[.int .i64 g, .int .i64 c, .bool u] ∧ (Lit.int .i64 g).wf = true ∧ (Lit.int .i64 c).wf = true := by
  obtain ⟨l⟩ := cs
  obtain ⟨v0, l0, e0, ⟨g, rfl, wg⟩, h1⟩ := all2_cons h
  obtain ⟨v1, l1, e1, ⟨c, rfl, wc⟩, h2⟩ := all2_cons h1
  obtain ⟨v2, l2, e2, ⟨u, rfl⟩, h3⟩ := all2_cons h2
  have e3 := all2_nil h3
  rw [e1, e2, e3] at e0
  exact ⟨g, c, u, by rw [show l = [.int .i64 g, .int .i64 c, .bool u] from e0], wg, wc⟩

theorem tells_law (w : World) (cs : Array Value) (w0 : All2 [.i .i64, .i .i64, .b] cs.toList) (x : Int) (w1 : (Lit.int .u64 x).wf = true) :
    Calls Try.prog 3 #[.agg cs, .int .u64 x] w fun e w' => e = .returned (.bool true) ∧ But (fun _ => False) w w' := by
  obtain ⟨g, c, u, rfl, _, _⟩ := all2_header w0
  exact tells_any g c u x w (bounds_u64 w1)
theorem back_law (w : World) (cs : Array Value) (w0 : All2 [.i .i64, .i .i64, .b] cs.toList) (x : Int) (w1 : (Lit.int .u64 x).wf = true) :
    Calls Try.prog 4 #[.agg cs, .int .u64 x] w fun e w' => e = .returned (.bool true) ∧ But (fun _ => False) w w' := by
  obtain ⟨g, c, u, rfl, _, _⟩ := all2_header w0
  exact back_any g c u x w (bounds_u64 w1)

end Head
end Go.Proofs.Ytboajbbnnbnpaaa
