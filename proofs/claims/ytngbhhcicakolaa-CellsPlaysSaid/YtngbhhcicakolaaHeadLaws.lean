/- The laws of layer 3 (head), walked: they answer true. -/
import Derived.Test.YtngbhhcicakolaaHeadWalks
import Derived.Test.YtngbhhcicakolaaReads
set_option linter.unusedVariables false
set_option linter.unusedSimpArgs false
namespace Go.Proofs.Ytngbhhcicakolaa
open Go.RowKit

namespace Head

set_option maxHeartbeats 400000 in
theorem ref_right (g c : Int) (u : Bool) (w : World) :
    Calls Try.prog 81 #[.agg #[.int .i64 g, .int .i64 c, .bool u]] w fun e w' => e = .returned (.bool (right g c)) ∧ But (fun _ => False) w w' := by
  by_cases h1 : 0 ≤ g
  · by_cases h2 : g ≤ 4294967295
    · by_cases h3 : 0 ≤ c
      · have E : right g c = decide (c ≤ 2147483647) := by unfold right; simp [h1, h2, h3]
        rw [E]; clear E
        go_enter Try.func81, Try.ntmps81
        go_wp2
        go_ret
        exact ⟨rfl, (But.refl _ _).alloc _⟩
      · have E : right g c = false := by unfold right; simp [h1, h2, h3]
        rw [E]; clear E
        go_enter Try.func81, Try.ntmps81
        go_wp2
        go_ret
        exact ⟨rfl, (But.refl _ _).alloc _⟩
    · have E : right g c = false := by unfold right; simp [h1, h2]
      rw [E]; clear E
      go_enter Try.func81, Try.ntmps81
      go_wp2
      go_ret
      exact ⟨rfl, (But.refl _ _).alloc _⟩
  · have E : right g c = false := by unfold right; simp [h1]
    rw [E]; clear E
    go_enter Try.func81, Try.ntmps81
    go_wp2
    go_ret
    exact ⟨rfl, (But.refl _ _).alloc _⟩

set_option maxHeartbeats 400000 in
theorem ref_encode_no (g c : Int) (u : Bool) (w : World) (h : right g c = false) :
    Calls Try.prog 58 #[.agg #[.int .i64 g, .int .i64 c, .bool u]] w fun e w' => e = .returned (.tuple #[.int .u64 0, .int .i64 1]) ∧ But (fun _ => False) w w' := by
  have H := Lib.hid h
  clear h
  go_enter Try.func58, Try.ntmps58
  go_wp2_with fail
  refine (ref_right g c u _).mono ?_
  rintro e w1 ⟨rfl, g1⟩
  rw [H.out]
  go_wp2
  go_ret2
  exact ⟨rfl, ((But.refl _ _).alloc _).trans g1⟩

set_option maxHeartbeats 400000 in
theorem ref_encode_yes (g c : Int) (u : Bool) (w : World) (h : right g c = true) :
    Calls Try.prog 58 #[.agg #[.int .i64 g, .int .i64 c, .bool u]] w fun e w' => e = .returned (.tuple #[.int .u64 (word g c u), .int .i64 0]) ∧ But (fun _ => False) w w' := by
  have H := Lib.hid h
  have hr := (right_iff g c).1 h
  clear h
  go_enter Try.func58, Try.ntmps58
  go_wp2_with fail
  refine (ref_right g c u _).mono ?_
  rintro e w1 ⟨rfl, g1⟩
  rw [H.out]
  have B1 := (Blk.new w #[.int .i64 g, .int .i64 c, .bool u] 47).but g1 (fun q => q)
  have hs : w.heap.size < w1.heap.size := B1.lt
  have c0 : w1.cell? ⟨w.heap.size, 0, none⟩ = some (.int .i64 g) := B1.cell 0
  have c1 : w1.cell? ⟨w.heap.size, 1, none⟩ = some (.int .i64 c) := B1.cell 1
  have c2 : w1.cell? ⟨w.heap.size, 2, none⟩ = some (.bool u) := B1.cell 2
  have e1 : IntKind.u64.wrap (4294967296 * g) = 4294967296 * g := by rw [IntKind.wrap_u64]; omega
  have e2 : IntKind.u64.wrap (4294967296 * g + c) = 4294967296 * g + c := by rw [IntKind.wrap_u64]; omega
  have e3 : IntKind.u64.wrap (4294967296 * g + c + 2147483648) = 4294967296 * g + c + 2147483648 := by rw [IntKind.wrap_u64]; omega
  cases u with
  | true =>
    have E := Lib.hid (show word g c true = 4294967296 * g + c + 2147483648 by unfold word; simp; omega)
    go_wp2_with fail
    go_ret2
    exact ⟨by rw [E.out]; rfl, ((But.refl _ _).alloc _).trans g1⟩
  | false =>
    have E := Lib.hid (show word g c false = 4294967296 * g + c by unfold word; simp; omega)
    go_wp2_with fail
    go_ret2
    exact ⟨by rw [E.out]; rfl, ((But.refl _ _).alloc _).trans g1⟩

theorem all2_header {cs : Array Value} (h : All2 [.i .i64, .i .i64, .b] cs.toList) : ∃ g c u, cs = #[.int .i64 g, .int .i64 c, .bool u] ∧ (Lit.int .i64 g).wf = true ∧ (Lit.int .i64 c).wf = true := by
  obtain ⟨l⟩ := cs
  obtain ⟨v0, l0, e0, ⟨g, rfl, wg⟩, h1⟩ := all2_cons h
  obtain ⟨v1, l1, e1, ⟨c, rfl, wc⟩, h2⟩ := all2_cons h1
  obtain ⟨v2, l2, e2, ⟨u, rfl⟩, h3⟩ := all2_cons h2
  have e3 := all2_nil h3
  rw [e1, e2, e3] at e0
  exact ⟨g, c, u, by rw [show l = [.int .i64 g, .int .i64 c, .bool u] from e0], wg, wc⟩

end Head
end Go.Proofs.Ytngbhhcicakolaa
