/- The functions of package quota, walked: what each call does to the account's block. -/
import Derived.Test.YtboajbbnnbnpaaaRows
import Derived.Test.YtboajbbnnbnpaaaWords
import Derived.Test.YtboajbbnnbnpaaaQuotaPure
import Derived.IntWalk
set_option linter.unusedVariables false
set_option linter.unusedSimpArgs false
namespace Go.Proofs.Ytboajbbnnbnpaaa
open Go.RowKit

namespace Quota

/-- The account at block b. -/
structure Acc (w : World) (b : Nat) (n limit : Int) : Prop where
  blk : Blk w b #[.int .i64 n, .int .i64 limit] 115
  used : 0 ≤ n ∧ n ≤ limit
  lim : limit ≤ 65536

theorem Acc.but {w w' : World} {b : Nat} {n limit : Int} (h : Acc w b n limit) {S : Nat → Prop} (hb : But S w w') (hs : ¬ S b) : Acc w' b n limit :=
  ⟨h.blk.but hb hs, h.used, h.lim⟩
theorem Acc.drewN {w : World} {b : Nat} {n limit : Int} (h : Acc w b n limit) (k : Nat) : Acc (w.drewN k) b n limit := ⟨h.blk.drewN k, h.used, h.lim⟩

set_option maxHeartbeats 400000 in
theorem fits_any (b o : Nat) (n by' limit : Int) (r : Bool) (w : World) (hc : w.cell? ⟨b, o, none⟩ = some (.int .i64 n))
   (hn : 0 ≤ n ∧ n ≤ 65536) (hl : 0 ≤ limit ∧ limit ≤ 65536) (hb : -9223372036854775807 ≤ by' ∧ by' ≤ 9223372036854775807)
   (hr : (decide (by' ≤ limit - n) && decide (0 ≤ n + by')) = r) :
    Calls Try.prog 80 #[.pointer (some ⟨b, o, none⟩), .int .i64 by', .int .i64 limit] w fun e w' => e = .returned (.bool r) ∧ w = w' := by
  go_enter Try.func80, Try.ntmps80
  have HR := Lib.hid hr
  clear hr
  by_cases h : by' ≤ limit - n
  all_goals
    go_wp2
    go_ret
    refine ⟨ret_eq ?_, rfl⟩
    rw [← HR.out]
    simp [h] <;> omega

set_option maxHeartbeats 400000 in
theorem move_any (b : Nat) (n by' limit : Int) (T : TypeId) (w : World) (hb : Blk w b #[.int .i64 n, .int .i64 limit] T)
   (hn : -9223372036854775808 ≤ n + by' ∧ n + by' ≤ 9223372036854775807) :
    Calls Try.prog 81 #[.pointer (some ⟨b, 0, none⟩), .int .i64 by'] w fun e w' => e = .returned (.tuple #[]) ∧
      Blk w' b #[.int .i64 (n + by'), .int .i64 limit] T ∧ But (· = b) w w' := by
  have c0 : w.cell? ⟨b, 0, none⟩ = some (.int .i64 n) := hb.cell 0
  have f0 := hb.frozen 0
  go_enter Try.func81, Try.ntmps81
  go_wp2
  go_end0
  refine ⟨rfl, ?_, ?_⟩
  · exact hb.put 0 _ rfl
  · exact But.one _ _ _

set_option maxHeartbeats 400000 in
theorem charge_any (b : Nat) (n limit k : Int) (w : World) (ha : Acc w b n limit) (hk : -9223372036854775808 ≤ k ∧ k ≤ 9223372036854775807) :
    Calls Try.prog 26 #[.pointer (some ⟨b, 0, none⟩), .int .i64 k] w fun e w' =>
      e = .returned (.int .i64 (charge n limit k).1) ∧ Acc w' b (charge n limit k).2 limit ∧ But (· = b) w w' := by
  have c0 : w.cell? ⟨b, 0, none⟩ = some (.int .i64 n) := ha.blk.cell 0
  have c1 : w.cell? ⟨b, 1, none⟩ = some (.int .i64 limit) := ha.blk.cell 1
  have hu := ha.used
  have hl := ha.lim
  by_cases h1 : k < 0
  · have E : charge n limit k = (1, n) := by unfold charge; rw [if_pos h1]
    rw [E]; clear E
    go_enter Try.func26, Try.ntmps26
    go_wp2
    go_ret
    exact ⟨rfl, ha, But.refl _ _⟩
  · by_cases h2 : k ≤ limit - n
    · have E : charge n limit k = (0, n + k) := by unfold charge; rw [if_neg h1, if_pos h2]
      have h3 : 0 ≤ n + k := by omega
      rw [E]; clear E
      go_enter Try.func26, Try.ntmps26
      go_wp2
      go_quiet ((go_at_call 80; exact quiet_same (fits_any _ _ _ _ _ true _ c0 (by omega) (by omega) (by omega) (by simp; omega))))
      go_wp2_with (go_at_call 81; refine (move_any b n k limit _ _ (ha.blk.drewN _) (by omega)).mono ?_; rintro e w' ⟨rfl, hb, hbut⟩)
      go_ret
      exact ⟨rfl, ⟨hb, by omega, hl⟩, ((But.refl _ _).drewN _).trans hbut⟩
    · have E : charge n limit k = (7, n) := by unfold charge; rw [if_neg h1, if_neg h2]
      rw [E]; clear E
      go_enter Try.func26, Try.ntmps26
      go_wp2
      go_quiet ((go_at_call 80; exact quiet_same (fits_any _ _ _ _ _ false _ c0 (by omega) (by omega) (by omega) (by simp; omega))))
      go_wp2
      go_ret
      exact ⟨rfl, ha.drewN _, (But.refl _ _).drewN _⟩

set_option maxHeartbeats 400000 in
theorem charge_nil (k : Int) (w : World) :
    Calls Try.prog 26 #[.pointer none, .int .i64 k] w fun e w' => e = .returned (.int .i64 1) ∧ w = w' := by
  go_enter Try.func26, Try.ntmps26
  go_wp2
  go_ret
  exact ⟨rfl, rfl⟩

set_option maxHeartbeats 400000 in
theorem refund_any (b : Nat) (n limit k : Int) (w : World) (ha : Acc w b n limit) (hk : -9223372036854775808 ≤ k ∧ k ≤ 9223372036854775807) :
    Calls Try.prog 24 #[.pointer (some ⟨b, 0, none⟩), .int .i64 k] w fun e w' =>
      e = .returned (.int .i64 (refund n k).1) ∧ Acc w' b (refund n k).2 limit ∧ But (· = b) w w' := by
  have c0 : w.cell? ⟨b, 0, none⟩ = some (.int .i64 n) := ha.blk.cell 0
  have c1 : w.cell? ⟨b, 1, none⟩ = some (.int .i64 limit) := ha.blk.cell 1
  have hu := ha.used
  have hl := ha.lim
  by_cases h1 : k < 0
  · have E : refund n k = (1, n) := by unfold refund; rw [if_pos h1]
    rw [E]; clear E
    go_enter Try.func24, Try.ntmps24
    go_wp2
    go_quiet ((fail))
    go_wp2
    go_ret
    exact ⟨rfl, ha.drewN _, (But.refl _ _).drewN _⟩
  · by_cases h2 : k ≤ n
    · have E : refund n k = (0, n - k) := by unfold refund; rw [if_neg h1, if_pos h2]
      rw [E]; clear E
      have h3 : 0 ≤ n + -k := by omega
      have h4 : -k ≤ limit - n := by omega
      have e1 : IntKind.i64.wrap (-k) = -k := IntWalk.i64_in _ (by omega)
      go_enter Try.func24, Try.ntmps24
      go_wp2
      go_quiet ((go_at_call 80; exact quiet_same (fits_any _ _ _ _ _ true _ c0 (by omega) (by omega) (by omega) (by simp; omega))))
      go_wp2_with (go_at_call 81; refine (move_any b n (-k) limit _ _ (ha.blk.drewN _) (by omega)).mono ?_; rintro e w' ⟨rfl, hb, hbut⟩)
      go_ret
      exact ⟨rfl, ⟨hb, by omega, hl⟩, ((But.refl _ _).drewN _).trans hbut⟩
    · have E : refund n k = (1, n) := by unfold refund; rw [if_neg h1, if_neg h2]
      rw [E]; clear E
      have h3 : n + -k < 0 := by omega
      have h4 : -k ≤ limit - n := by omega
      have e1 : IntKind.i64.wrap (-k) = -k := IntWalk.i64_in _ (by omega)
      go_enter Try.func24, Try.ntmps24
      go_wp2
      go_quiet ((go_at_call 80; exact quiet_same (fits_any _ _ _ _ _ false _ c0 (by omega) (by omega) (by omega) (by simp; omega))))
      go_wp2
      go_ret
      exact ⟨rfl, ha.drewN _, (But.refl _ _).drewN _⟩

set_option maxHeartbeats 400000 in
theorem refund_nil (k : Int) (w : World) :
    Calls Try.prog 24 #[.pointer none, .int .i64 k] w fun e w' => e = .returned (.int .i64 1) ∧ ∃ n, w' = w.drewN n := by
  go_enter Try.func24, Try.ntmps24
  go_wp2
  go_quiet ((fail))
  go_wp2
  go_ret
  exact ⟨rfl, _, rfl⟩

set_option maxHeartbeats 400000 in
theorem used_any (b : Nat) (n limit : Int) (w : World) (ha : Acc w b n limit) :
    Calls Try.prog 28 #[.pointer (some ⟨b, 0, none⟩)] w fun e w' => e = .returned (.int .i64 n) ∧ w = w' := by
  have c0 : w.cell? ⟨b, 0, none⟩ = some (.int .i64 n) := ha.blk.cell 0
  go_enter Try.func28, Try.ntmps28
  go_wp2
  go_ret
  exact ⟨rfl, rfl⟩
set_option maxHeartbeats 400000 in
theorem used_nil (w : World) :
    Calls Try.prog 28 #[.pointer none] w fun e w' => e = .returned (.int .i64 0) ∧ w = w' := by
  go_enter Try.func28, Try.ntmps28
  go_wp2
  go_ret
  exact ⟨rfl, rfl⟩
set_option maxHeartbeats 400000 in
theorem limit_any (b : Nat) (n limit : Int) (w : World) (ha : Acc w b n limit) :
    Calls Try.prog 29 #[.pointer (some ⟨b, 0, none⟩)] w fun e w' => e = .returned (.int .i64 limit) ∧ w = w' := by
  have c0 : w.cell? ⟨b, 1, none⟩ = some (.int .i64 limit) := ha.blk.cell 1
  go_enter Try.func29, Try.ntmps29
  go_wp2
  go_ret
  exact ⟨rfl, rfl⟩
set_option maxHeartbeats 400000 in
theorem limit_nil (w : World) :
    Calls Try.prog 29 #[.pointer none] w fun e w' => e = .returned (.int .i64 0) ∧ w = w' := by
  go_enter Try.func29, Try.ntmps29
  go_wp2
  go_ret
  exact ⟨rfl, rfl⟩

set_option maxHeartbeats 400000 in
theorem new_no (limit : Int) (w : World) (h : limit < 0 ∨ 65536 < limit) :
    Calls Try.prog 23 #[.int .i64 limit] w fun e w' => e = .returned (.tuple #[.pointer none, .int .i64 1]) ∧ w = w' := by
  rcases h with h | h
  · go_enter Try.func23, Try.ntmps23
    go_wp2
    go_ret2
    exact ⟨rfl, rfl⟩
  · have h' : ¬ limit < 0 := by omega
    go_enter Try.func23, Try.ntmps23
    go_wp2
    go_ret2
    exact ⟨rfl, rfl⟩

set_option maxHeartbeats 400000 in
theorem new_yes (limit : Int) (w : World) (h : 0 ≤ limit) (h' : limit ≤ 65536) :
    Calls Try.prog 23 #[.int .i64 limit] w fun e w' => ∃ b, e = .returned (.tuple #[.pointer (some ⟨b, 0, none⟩), .int .i64 0]) ∧ Acc w' b 0 limit ∧ w.heap.size ≤ b ∧ But (fun _ => False) w w' := by
  go_enter Try.func23, Try.ntmps23
  go_wp2
  go_ret2
  exact ⟨_, rfl, ⟨Blk.new _ _ _, by omega, h'⟩, Nat.le_refl _, (But.refl _ _).alloc _⟩

end Quota
end Go.Proofs.Ytboajbbnnbnpaaa
