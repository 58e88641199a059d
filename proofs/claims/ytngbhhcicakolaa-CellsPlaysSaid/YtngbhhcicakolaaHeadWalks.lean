/- The functions of package head, walked: a cell's header as a word. -/
import Derived.Test.YtngbhhcicakolaaRows
import Derived.Test.YtngbhhcicakolaaWords
import Derived.Test.YtngbhhcicakolaaHeadPure
import Derived.IntWalk
set_option linter.unusedVariables false
set_option linter.unusedSimpArgs false
namespace Go.Proofs.Ytngbhhcicakolaa
open Go.RowKit

namespace Head

set_option maxHeartbeats 400000 in
theorem right_any (g c : Int) (u : Bool) (w : World) :
    Calls Try.prog 67 #[.agg #[.int .i64 g, .int .i64 c, .bool u]] w fun e w' => e = .returned (.bool (right g c)) ∧ But (fun _ => False) w w' := by
  by_cases h1 : 0 ≤ g
  · by_cases h2 : g ≤ 4294967295
    · by_cases h3 : 0 ≤ c
      · have E : right g c = decide (c ≤ 2147483647) := by unfold right; simp [h1, h2, h3]
        rw [E]; clear E
        go_enter Try.func67, Try.ntmps67
        go_wp2
        go_ret
        exact ⟨rfl, (But.refl _ _).alloc _⟩
      · have E : right g c = false := by unfold right; simp [h1, h2, h3]
        rw [E]; clear E
        go_enter Try.func67, Try.ntmps67
        go_wp2
        go_ret
        exact ⟨rfl, (But.refl _ _).alloc _⟩
    · have E : right g c = false := by unfold right; simp [h1, h2]
      rw [E]; clear E
      go_enter Try.func67, Try.ntmps67
      go_wp2
      go_ret
      exact ⟨rfl, (But.refl _ _).alloc _⟩
  · have E : right g c = false := by unfold right; simp [h1]
    rw [E]; clear E
    go_enter Try.func67, Try.ntmps67
    go_wp2
    go_ret
    exact ⟨rfl, (But.refl _ _).alloc _⟩

set_option maxHeartbeats 400000 in
theorem lay32 (b : Nat) (T : TypeId) (x n : Int) (w : World) (hb : Blk w b #[.int .u64 x] T) (hx : 0 ≤ x ∧ x ≤ 2147483647) (hn : 0 ≤ n ∧ n ≤ 4294967295) :
    Calls Try.prog 84 #[.int .u64 n, .int .i64 32, .pointer (some ⟨b, 0, none⟩)] w fun e w' => e = .returned (.tuple #[]) ∧ Blk w' b #[.int .u64 (n * 4294967296 + x)] T ∧ But (· = b) w w' := by
  have c0 : w.cell? ⟨b, 0, none⟩ = some (.int .u64 x) := hb.cell 0
  have f0 := hb.frozen 0
  have e1 : IntKind.u64.wrap (n * 4294967296) = n * 4294967296 := by rw [IntKind.wrap_u64]; omega
  have e2 := or_add 32 x n hx.1 (by simp; omega) hn.1 (by simp; omega) (by omega)
  simp only [show (2 : Int) ^ 32 = 4294967296 from by decide] at e2
  go_enter Try.func84, Try.ntmps84
  go_wp2
  go_region
  go_end0
  refine ⟨rfl, (hb.put 0 _ ?_).drew, (But.one _ _ _).drew⟩
  show #[Value.int .u64 _] = _
  simp; omega

set_option maxHeartbeats 400000 in
theorem lay31 (b : Nat) (T : TypeId) (x n : Int) (w : World) (hb : Blk w b #[.int .u64 (n * 4294967296 + x)] T) (hx : 0 ≤ x ∧ x ≤ 2147483647) (hn : 0 ≤ n ∧ n ≤ 4294967295) :
    Calls Try.prog 84 #[.int .u64 1, .int .i64 31, .pointer (some ⟨b, 0, none⟩)] w fun e w' => e = .returned (.tuple #[]) ∧ Blk w' b #[.int .u64 (n * 4294967296 + 2147483648 + x)] T ∧ But (· = b) w w' := by
  obtain ⟨y, hy⟩ : ∃ y, y = n * 4294967296 + x := ⟨_, rfl⟩
  rw [← hy] at hb
  have e3 : Go.bits BinOp.or IntKind.u64 y 2147483648 = n * 4294967296 + 2147483648 + x := by
    rw [hy]; exact or31 x n hx hn
  have E3 := Lib.hid e3
  clear e3 hy
  have c0 : w.cell? ⟨b, 0, none⟩ = some (.int .u64 y) := hb.cell 0
  have f0 := hb.frozen 0
  go_enter Try.func84, Try.ntmps84
  go_wp2
  go_region
  go_end0
  refine ⟨rfl, (hb.put 0 _ ?_).drew, (But.one _ _ _).drew⟩
  rw [← E3.out]
  rfl

set_option maxHeartbeats 400000 in
theorem encode_no (g c : Int) (u : Bool) (w : World) (h : right g c = false) :
    Calls Try.prog 82 #[.agg #[.int .i64 g, .int .i64 c, .bool u]] w fun e w' => e = .returned (.tuple #[.int .u64 0, .int .i64 1]) ∧ But (fun _ => False) w w' := by
  have H := Lib.hid h
  clear h
  go_enter Try.func82, Try.ntmps82
  go_wp2_with fail
  refine (right_any g c u _).mono ?_
  rintro e w1 ⟨rfl, g1⟩
  rw [H.out]
  go_wp2
  go_ret2
  exact ⟨rfl, ((But.refl _ _).alloc _).trans g1⟩

set_option maxHeartbeats 400000 in
theorem encode_yes (g c : Int) (u : Bool) (w : World) (h : right g c = true) :
    Calls Try.prog 82 #[.agg #[.int .i64 g, .int .i64 c, .bool u]] w fun e w' => e = .returned (.tuple #[.int .u64 (word g c u), .int .i64 0]) ∧ But (fun _ => False) w w' := by
  have H := Lib.hid h
  have hr := (right_iff g c).1 h
  clear h
  have hmf : ∀ (fn : Fn) (first cap : Array Value) (w : World), (Instr.makeFunc fn first cap).run Try.prog w = .ok (.func fn first cap) w := fun _ _ _ _ => rfl
  go_enter Try.func82, Try.ntmps82
  go_wp2_with fail
  refine (right_any g c u _).mono ?_
  rintro e w1 ⟨rfl, g1⟩
  rw [H.out]
  have B1 := (Blk.new w #[.int .i64 g, .int .i64 c, .bool u] 47).but g1 (fun q => q)
  have hs : w.heap.size < w1.heap.size := B1.lt
  have c0 : w1.cell? ⟨w.heap.size, 0, none⟩ = some (.int .i64 g) := B1.cell 0
  have c1 : w1.cell? ⟨w.heap.size, 1, none⟩ = some (.int .i64 c) := B1.cell 1
  have c2 : w1.cell? ⟨w.heap.size, 2, none⟩ = some (.bool u) := B1.cell 2
  go_wp2_with fail
  refine (lay32 w1.heap.size 41 c g _ (Blk.new _ _ _) hr.2 hr.1).mono ?_
  rintro e w2 ⟨rfl, b2, g2⟩
  have B2 := (B1.alloc (.cells #[.int .u64 c] 41)).but g2 (fun q => by omega)
  have c3 : w2.cell? ⟨w.heap.size, 2, none⟩ = some (.bool u) := B2.cell 2
  have hS : ∀ i, i = w1.heap.size → False ∨ w1.heap.size ≤ i := fun i hi => .inr (by omega)
  have G2 := ((((But.refl (fun _ => False) w).alloc (.cells #[.int .i64 g, .int .i64 c, .bool u] 47)).trans g1).alloc (.cells #[.int .u64 c] 41)).trans' g2 (fun i hi => .inr (by omega))
  have c4 : w2.cell? ⟨w1.heap.size, 0, none⟩ = some (.int .u64 (g * 4294967296 + c)) := b2.cell 0
  cases u with
  | true =>
    have E := Lib.hid (show word g c true = g * 4294967296 + 2147483648 + c by unfold word; simp)
    go_wp2_with fail
    refine (lay31 w1.heap.size 41 c g _ b2 hr.2 hr.1).mono ?_
    rintro e w3 ⟨rfl, b3, g3⟩
    have c5 : w3.cell? ⟨w1.heap.size, 0, none⟩ = some (.int .u64 (g * 4294967296 + 2147483648 + c)) := b3.cell 0
    go_wp2_with fail
    go_ret2
    exact ⟨by rw [E.out]; rfl, G2.trans' g3 (fun i hi => .inr (by omega))⟩
  | false =>
    have E := Lib.hid (show word g c false = g * 4294967296 + c by unfold word; simp)
    go_wp2_with fail
    go_ret2
    exact ⟨by rw [E.out]; rfl, G2⟩

set_option maxHeartbeats 400000 in
theorem part32 (b : Nat) (T : TypeId) (x : Int) (w : World) (hb : Blk w b #[.int .u64 x] T) (hx : 0 ≤ x ∧ x ≤ 18446744073709551615) :
    Calls Try.prog 77 #[.int .i64 32, .int .u64 4294967295, .pointer (some ⟨b, 0, none⟩)] w fun e w' => e = .returned (.int .u64 (gen x)) ∧ w = w' := by
  have c0 : w.cell? ⟨b, 0, none⟩ = some (.int .u64 x) := hb.cell 0
  go_enter Try.func77, Try.ntmps77
  go_wp2
  go_ret
  refine ⟨ret_eq ?_, rfl⟩
  rw [← gen_bits hx]
  rfl

set_option maxHeartbeats 400000 in
theorem part0 (b : Nat) (T : TypeId) (x : Int) (w : World) (hb : Blk w b #[.int .u64 x] T) (hx : 0 ≤ x ∧ x ≤ 18446744073709551615) :
    Calls Try.prog 77 #[.int .i64 0, .int .u64 2147483647, .pointer (some ⟨b, 0, none⟩)] w fun e w' => e = .returned (.int .u64 (count x)) ∧ w = w' := by
  have c0 : w.cell? ⟨b, 0, none⟩ = some (.int .u64 x) := hb.cell 0
  go_enter Try.func77, Try.ntmps77
  go_wp2
  go_ret
  refine ⟨ret_eq ?_, rfl⟩
  rw [← count_bits hx]
  rfl

set_option maxHeartbeats 400000 in
theorem part31 (b : Nat) (T : TypeId) (x : Int) (w : World) (hb : Blk w b #[.int .u64 x] T) (hx : 0 ≤ x ∧ x ≤ 18446744073709551615) :
    Calls Try.prog 77 #[.int .i64 31, .int .u64 1, .pointer (some ⟨b, 0, none⟩)] w fun e w' => e = .returned (.int .u64 (usedN x)) ∧ w = w' := by
  have c0 : w.cell? ⟨b, 0, none⟩ = some (.int .u64 x) := hb.cell 0
  go_enter Try.func77, Try.ntmps77
  go_wp2
  go_ret
  refine ⟨ret_eq ?_, rfl⟩
  rw [← used_bits hx]
  rfl

set_option maxHeartbeats 400000 in
theorem decode_any (x : Int) (w : World) (hx : 0 ≤ x ∧ x ≤ 18446744073709551615) :
    Calls Try.prog 48 #[.int .u64 x] w fun e w' => e = .returned (.agg #[.int .i64 (gen x), .int .i64 (count x), .bool (used x)]) ∧ But (fun _ => False) w w' := by
  have hmf : ∀ (fn : Fn) (first cap : Array Value) (w : World), (Instr.makeFunc fn first cap).run Try.prog w = .ok (.func fn first cap) w := fun _ _ _ _ => rfl
  have hg := gen_bd hx
  have hc := count_bd x
  go_enter Try.func48, Try.ntmps48
  go_wp2_with fail
  refine (part32 w.heap.size 41 x _ ((Blk.new w _ _).alloc _) hx).mono ?_
  rintro e w1 ⟨rfl, rfl⟩
  go_wp2_with fail
  refine (part0 w.heap.size 41 x _ ((Blk.new w _ _).alloc _) hx).mono ?_
  rintro e w1 ⟨rfl, rfl⟩
  go_wp2_with fail
  refine (part31 w.heap.size 41 x _ ((Blk.new w _ _).alloc _) hx).mono ?_
  rintro e w1 ⟨rfl, rfl⟩
  cases hu : used x with
  | true =>
    have hn : usedN x = 1 := by unfold usedN; rw [hu]; rfl
    rw [hn]
    have U := Lib.hid hu
    clear hu hn
    go_wp2_with fail
    refine bodyPost_ret (v := .agg #[.int .i64 (gen x), .int .i64 (count x), .bool true]) (by simp [results, Try.results48, go_sem]) rfl ⟨by rw [U.out], ((But.refl _ _).alloc _).alloc _⟩
  | false =>
    have hn : usedN x = 0 := by unfold usedN; rw [hu]; rfl
    rw [hn]
    have U := Lib.hid hu
    clear hu hn
    go_wp2_with fail
    refine bodyPost_ret (v := .agg #[.int .i64 (gen x), .int .i64 (count x), .bool false]) (by simp [results, Try.results48, go_sem]) rfl ⟨by rw [U.out], ((But.refl _ _).alloc _).alloc _⟩

end Head
end Go.Proofs.Ytngbhhcicakolaa
