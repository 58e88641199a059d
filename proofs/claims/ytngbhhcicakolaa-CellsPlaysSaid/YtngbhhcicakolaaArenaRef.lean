/- New of package arena, and the arena's ref, walked. -/
import Derived.Test.YtngbhhcicakolaaArenaWalks
import Derived.Laws.MakeOwn
import Derived.Laws.OwnMore
set_option linter.unusedVariables false
set_option linter.unusedSimpArgs false
namespace Go.Proofs.Ytngbhhcicakolaa
open Go.RowKit

namespace Arena

theorem infoU64 : (Try.prog.info? 41).map (fun i => (i.zero, i.size, i.bytes)) = some (some (.int .u64 0), 1, 8) := by kernel_rfl

theorem made (n : Nat) : madeCells #[.int .u64 0] n = u64s (List.replicate n 0) := by
  apply Array.ext'
  rw [toList_madeCells_one]
  unfold u64s
  simp

theorem run_mk (n : Nat) (hn : n ≤ 65536) (w : World) : (Instr.makeSlice 75 (.int .i64 n) (.int .i64 n)).run Try.prog w = .ok (.slice (some ⟨w.heap.size, 0, none⟩) n n) (w.alloc (.cells (u64s (List.replicate n 0)) 41)) := by
  obtain ⟨i0, hi, hz0, hz1, hz2⟩ := info_parts infoU64
  have h := run_make w 75 41 i0 (.int .u64 0) Try.underlying75 hi hz0 .i64 .i64 n n (by omega) (Int.le_refl _) (by rw [hz2]; omega) (by omega)
  rw [h, hz1]
  simp only [Int.toNat_natCast, Nat.mul_one]
  rw [show (Value.int .u64 0).cells = #[.int .u64 0] from rfl, made]

theorem Ar.new (T : TypeId) (w : World) (n : Nat) (hn : n ≤ 65536) : Ar T ((w.alloc (.cells (u64s (List.replicate n 0)) 41)).alloc (.cells #[.slice (some ⟨w.heap.size, 0, none⟩) n n, .int .i64 0] T)) (w.heap.size + 1) w.heap.size (List.replicate n 0) 0 := by
  refine ⟨?_, (Blk.new w _ _).alloc _, by omega, by simpa using hn, by omega⟩
  have := Blk.new (w.alloc (.cells (u64s (List.replicate n 0)) 41)) #[.slice (some ⟨w.heap.size, 0, none⟩) n n, .int .i64 0] T
  simpa using this

set_option maxHeartbeats 2000000 in
set_option maxRecDepth 100000 in
theorem new_no (n : Int) (w : World) (h : n < 0 ∨ 65536 < n) : Calls Try.prog 6 #[.int .i64 n] w fun e w' => e = .returned (.tuple #[.pointer none, .int .i64 1]) ∧ w = w' := by
  rcases h with h | h
  all_goals
    go_enter Try.func6, Try.ntmps6
    go_wp2_with fail
    go_ret2
    exact ⟨rfl, rfl⟩

set_option maxHeartbeats 2000000 in
set_option maxRecDepth 100000 in
theorem new_any (n : Nat) (w : World) (hn : n ≤ 65536) : Calls Try.prog 6 #[.int .i64 n] w fun e w' =>
    e = .returned (.tuple #[.pointer (some ⟨w.heap.size + 1, 0, none⟩), .int .i64 0]) ∧ Ar 77 w' (w.heap.size + 1) w.heap.size (List.replicate n 0) 0 ∧ But (fun _ => False) w w' := by
  have hmk := run_mk n hn
  have HA := Lib.hid (Ar.new 77 w n hn)
  go_enter Try.func6, Try.ntmps6
  go_wp2_with (simp only [hmk])
  go_ret2
  exact ⟨by simp, HA.out, ((But.refl _ _).alloc _).alloc _⟩

end Arena
end Go.Proofs.Ytngbhhcicakolaa
