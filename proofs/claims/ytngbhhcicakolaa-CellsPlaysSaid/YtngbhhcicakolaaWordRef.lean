/- The document's layer 4, walked. -/
import Derived.Test.YtngbhhcicakolaaWordWalks
set_option linter.unusedVariables false
set_option linter.unusedSimpArgs false
namespace Go.Proofs.Ytngbhhcicakolaa
open Go.RowKit

namespace Word

theorem dec_small {m : Nat} (h : m < 10) : Lib.decDigits m = [UInt8.ofNat (48 + m)] := by rw [Lib.decDigits, dif_pos h]
theorem dec_big {m : Nat} (h : ¬ m < 10) : Lib.decDigits m = Lib.decDigits (m / 10) ++ [UInt8.ofNat (48 + m % 10)] := by rw [Lib.decDigits, dif_neg h]

set_option maxHeartbeats 4000000 in
set_option maxRecDepth 100000 in
theorem ref_right (k n : Int) (w : World) (hn : 0 ≤ n ∧ n ≤ 18446744073709551615) :
    Calls Try.prog 74 #[.agg #[.int .i64 k, .int .u64 n]] w fun e w' => e = .returned (.bool (vright k n)) ∧ But (fun _ => False) w w' := by
  have G0 := Lib.hid ((But.refl (fun _ => False) w).alloc (.cells #[.int .i64 k, .int .u64 n] 43))
  have B0 := Blk.new w #[.int .i64 k, .int .u64 n] 43
  have k0 := B0.cell 0
  have k1 := B0.cell 1
  have hn1 := hn.1
  have hn2 := hn.2
  clear B0
  by_cases h0 : k = 0
  · have E2 := Lib.hid (show vright k n = decide (n = 0) by unfold vright; rw [Bool.eq_iff_iff, decide_eq_true_iff, decide_eq_true_iff]; omega)
    subst h0
    by_cases hz : n = 0
    · have E3 := Lib.hid (decide_eq_true hz)
      subst hz
      go_enter Try.func74, Try.ntmps74
      go_wp2_with fail
      go_ret
      exact ⟨by rw [E2.out, E3.out]; rfl, G0.out⟩
    · have E3 := Lib.hid (decide_eq_false hz)
      have hz1 : (n == 0) = false := by simp [hz]
      clear hz
      go_enter Try.func74, Try.ntmps74
      go_wp2_with fail
      go_ret
      exact ⟨by rw [E2.out, E3.out]; rfl, G0.out⟩
  · have h00 : (k == 0) = false := by simp [h0]
    by_cases h1 : k = 1
    · have E2 := Lib.hid (show vright k n = decide (n ≤ 9223372036854775807) by unfold vright; rw [Bool.eq_iff_iff, decide_eq_true_iff, decide_eq_true_iff]; omega)
      clear h0 h00
      subst h1
      by_cases hz : n ≤ 9223372036854775807
      · have E3 := Lib.hid (decide_eq_true hz)
        go_enter Try.func74, Try.ntmps74
        go_wp2_with fail
        go_ret
        exact ⟨by rw [E2.out, E3.out]; rfl, G0.out⟩
      · have E3 := Lib.hid (decide_eq_false hz)
        have hz1 : 9223372036854775807 < n := by omega
        clear hz
        go_enter Try.func74, Try.ntmps74
        go_wp2_with fail
        go_ret
        exact ⟨by rw [E2.out, E3.out]; rfl, G0.out⟩
    · have h11 : (k == 1) = false := by simp [h1]
      by_cases h2 : k = 2
      · have E2 := Lib.hid (show vright k n = decide (n ≤ 9223372036854775806) by unfold vright; rw [Bool.eq_iff_iff, decide_eq_true_iff, decide_eq_true_iff]; omega)
        clear h0 h00 h1 h11
        subst h2
        by_cases hz : n ≤ 9223372036854775806
        · have E3 := Lib.hid (decide_eq_true hz)
          go_enter Try.func74, Try.ntmps74
          go_wp2_with fail
          go_ret
          exact ⟨by rw [E2.out, E3.out]; rfl, G0.out⟩
        · have E3 := Lib.hid (decide_eq_false hz)
          have hz1 : 9223372036854775806 < n := by omega
          clear hz
          go_enter Try.func74, Try.ntmps74
          go_wp2_with fail
          go_ret
          exact ⟨by rw [E2.out, E3.out]; rfl, G0.out⟩
      · have h22 : (k == 2) = false := by simp [h2]
        have E2 := Lib.hid (show vright k n = false by unfold vright; rw [decide_eq_false_iff_not]; omega)
        clear h0 h1 h2
        go_enter Try.func74, Try.ntmps74
        go_wp2_with fail
        go_ret
        exact ⟨by rw [E2.out]; rfl, G0.out⟩

set_option maxHeartbeats 4000000 in
set_option maxRecDepth 100000 in
theorem ref_encode (k n : Int) (w : World) (hn : 0 ≤ n ∧ n ≤ 18446744073709551615) :
    Calls Try.prog 59 #[.agg #[.int .i64 k, .int .u64 n]] w fun e w' => e = .returned (.tuple #[.int .u64 (encOf k n).1, .int .i64 (encOf k n).2]) ∧ But (fun _ => False) w w' := by
  have G0 := (But.refl (fun _ => False) w).alloc (.cells #[.int .i64 k, .int .u64 n] 43)
  have B0 := Blk.new w #[.int .i64 k, .int .u64 n] 43
  have k0 := B0.cell 0
  have k1 := B0.cell 1
  go_enter Try.func59, Try.ntmps59
  go_wp2_with fail
  refine (ref_right k n _ hn).mono ?_
  rintro e w2 ⟨rfl, g2⟩
  have B2 := B0.but g2 (fun q => q)
  have G2 := Lib.hid (G0.trans g2)
  clear k0 k1 G0 B0 g2
  obtain ⟨b, hb⟩ : ∃ b, b = w.heap.size := ⟨_, rfl⟩
  rw [← hb] at B2 ⊢
  clear hb
  have k0 : w2.cell? ⟨b, 0, none⟩ = some (.int .i64 k) := B2.cell 0
  have k1 : w2.cell? ⟨b, 1, none⟩ = some (.int .u64 n) := B2.cell 1
  cases hr : vright k n with
  | false =>
    have E := Lib.hid (show encOf k n = (0, 1) by unfold encOf; rw [hr]; rfl)
    clear hr
    go_wp2_with fail
    go_ret2
    exact ⟨by rw [E.out]; rfl, G2.out⟩
  | true =>
    have E := Lib.hid (show encOf k n = (vword k n, 0) by unfold encOf; rw [if_pos hr])
    rcases vright_parts hr with ⟨rfl, rfl⟩ | ⟨rfl, h⟩ | ⟨rfl, h⟩
    · clear hr
      go_wp2_with fail
      go_ret2
      exact ⟨by rw [E.out]; rfl, G2.out⟩
    · clear hr
      have EV := Lib.hid (show vword 1 n = 2 * n + 1 by unfold vword; rw [if_neg (by decide)])
      have hn1 := hn.1
      go_wp2_with fail
      try go_quiet (fail)
      try go_wp2_with fail
      go_ret2
      exact ⟨by rw [E.out, EV.out]; rfl, (by first | exact G2.out | exact G2.out.drewN _)⟩
    · clear hr
      have EV := Lib.hid (show vword 2 n = 2 * n + 2 by unfold vword; rw [if_neg (by decide)])
      have hn1 := hn.1
      go_wp2_with fail
      try go_quiet (fail)
      try go_wp2_with fail
      go_ret2
      exact ⟨by rw [E.out, EV.out]; rfl, (by first | exact G2.out | exact G2.out.drewN _)⟩

end Word
end Go.Proofs.Ytngbhhcicakolaa
