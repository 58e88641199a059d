/- The functions of package conf, walked: At, Words, Base. -/
import Derived.Test.YtngbhhcicakolaaConfWalks
set_option linter.unusedVariables false
set_option linter.unusedSimpArgs false
namespace Go.Proofs.Ytngbhhcicakolaa
open Go.RowKit

namespace Conf

set_option maxHeartbeats 1000000 in
set_option maxRecDepth 100000 in
theorem at_any (s : Sh) (i : Int) (w : World) (hi : -9223372036854775808 ≤ i ∧ i ≤ 9223372036854775807) : Calls Try.prog 76 #[.agg (sh s), .int .i64 i] w fun e w' => e = .returned (.int .i64 (find s i).2) ∧ But (fun _ => False) w w' := by
  have hB0 := (Blk.new w (sh s) 24)
  have k0 : (w.alloc (.cells (sh s) 24)).cell? ⟨w.heap.size, 0, none⟩ = some (.int .i64 s.c0) := hB0.cell 0
  have k1 : (w.alloc (.cells (sh s) 24)).cell? ⟨w.heap.size, 1, none⟩ = some (.int .i64 s.c1) := hB0.cell 1
  have k2 : (w.alloc (.cells (sh s) 24)).cell? ⟨w.heap.size, 2, none⟩ = some (.int .i64 s.c2) := hB0.cell 2
  have k3 : (w.alloc (.cells (sh s) 24)).cell? ⟨w.heap.size, 3, none⟩ = some (.int .i64 s.q) := hB0.cell 3
  have k4 : (w.alloc (.cells (sh s) 24)).cell? ⟨w.heap.size, 4, none⟩ = some (.int .i64 s.st) := hB0.cell 4
  go_enter Try.func76, Try.ntmps76
  go_wp2_with fail
  refine (find_any s i _ hi).mono ?_
  rintro e w1 ⟨rfl, g1⟩
  go_wp2_with fail
  go_ret
  exact ⟨rfl, ((But.refl _ _).alloc _).trans g1⟩

theorem ahead3 {s : Sh} (h : ok s = true) : ahead s 3 = words s := by unfold words; rw [if_pos h]; rfl
theorem words_no {s : Sh} (h : ok s = false) : words s = 0 := by unfold words; rw [h]; rfl

set_option maxHeartbeats 2000000 in
set_option maxRecDepth 100000 in
theorem words_any (s : Sh) (w : World) : Calls Try.prog 33 #[.agg (sh s)] w fun e w' => e = .returned (.int .i64 (words s)) ∧ But (fun _ => False) w w' := by
  have hB0 := (Blk.new w (sh s) 24)
  have k0 : (w.alloc (.cells (sh s) 24)).cell? ⟨w.heap.size, 0, none⟩ = some (.int .i64 s.c0) := hB0.cell 0
  have k1 : (w.alloc (.cells (sh s) 24)).cell? ⟨w.heap.size, 1, none⟩ = some (.int .i64 s.c1) := hB0.cell 1
  have k2 : (w.alloc (.cells (sh s) 24)).cell? ⟨w.heap.size, 2, none⟩ = some (.int .i64 s.c2) := hB0.cell 2
  have k3 : (w.alloc (.cells (sh s) 24)).cell? ⟨w.heap.size, 3, none⟩ = some (.int .i64 s.q) := hB0.cell 3
  have k4 : (w.alloc (.cells (sh s) 24)).cell? ⟨w.heap.size, 4, none⟩ = some (.int .i64 s.st) := hB0.cell 4
  cases hok : ok s with
  | false =>
    have E := Lib.hid (words_no hok)
    have O := Lib.hid hok
    clear hok
    go_enter Try.func33, Try.ntmps33
    go_wp2_with fail
    refine (share_any s _).mono ?_
    rintro e w1 ⟨rfl, g1⟩
    rw [O.out]
    go_wp2_with fail
    go_ret
    exact ⟨by rw [E.out]; rfl, ((But.refl _ _).alloc _).trans g1⟩
  | true =>
    have HAB := Lib.hid (ahead_bd hok)
    have E := Lib.hid (ahead3 hok)
    have O := Lib.hid hok
    clear hok
    go_enter Try.func33, Try.ntmps33
    go_wp2_with fail
    refine (share_any s _).mono ?_
    rintro e w1 ⟨rfl, g1⟩
    rw [O.out]
    have hB := (Blk.new w (sh s) 24).but g1 (fun h => h)
    have hs : w.heap.size < w1.heap.size := hB.lt
    have G := ((But.refl _ _).alloc _).trans g1
    go_wp2_with fail
    go_loopg [8, 3] 3 (fun k i1 a1 wr => ∃ (j : Nat), j + k = 3 ∧ i1 = .int .i64 j ∧ a1 = .int .i64 (ahead s j) ∧ Blk wr w.heap.size (sh s) 24 ∧ But (fun _ => False) w wr)
    case atStart => exact ⟨0, by omega, rfl, by simp [ahead], hB, G⟩
    case round =>
      obtain ⟨j, hj, rfl, rfl, hB, G⟩ := hrel
      have hb := HAB.out j
      by_cases hlt : j < 3
      · have hc := sh_cell hB hlt
        obtain rfl | rfl | rfl : j = 0 ∨ j = 1 ∨ j = 2 := by omega
        · have HN := Lib.hid (show size (0 : Int) = 2 from rfl)
          have hs1 := Lib.hid (show ahead s (0 + 1) = ahead s 0 + cellOf s 0 * 2 from ahead_succ s (j := 0) (by omega))
          go_wp2_with fail
          go_quiet ((go_at_call 71; exact quiet_same (size_is 0 2 HN.out _)))
          go_wp2_with fail
          go_roundg 2
          case measure => omega
          case rel => exact ⟨0 + 1, by omega, rfl, by rw [hs1.out], hB.drewN _, G.drewN _⟩
        · have HN := Lib.hid (show size (1 : Int) = 3 from rfl)
          have hs1 := Lib.hid (show ahead s (1 + 1) = ahead s 1 + cellOf s 1 * 3 from ahead_succ s (j := 1) (by omega))
          go_wp2_with fail
          go_quiet ((go_at_call 71; exact quiet_same (size_is 1 3 HN.out _)))
          go_wp2_with fail
          go_roundg 1
          case measure => omega
          case rel => exact ⟨1 + 1, by omega, rfl, by rw [hs1.out], hB.drewN _, G.drewN _⟩
        · have HN := Lib.hid (show size (2 : Int) = 5 from rfl)
          have hs1 := Lib.hid (show ahead s (2 + 1) = ahead s 2 + cellOf s 2 * 5 from ahead_succ s (j := 2) (by omega))
          go_wp2_with fail
          go_quiet ((go_at_call 71; exact quiet_same (size_is 2 5 HN.out _)))
          go_wp2_with fail
          go_roundg 0
          case measure => omega
          case rel => exact ⟨2 + 1, by omega, rfl, by rw [hs1.out], hB.drewN _, G.drewN _⟩
      · obtain rfl : j = 3 := by omega
        go_wp2_with fail
        go_ret
        exact ⟨by rw [← E.out]; rfl, G⟩

def sumTo (l : List Sh) (j : Nat) : Int := ((l.take j).map words).sum
theorem sum_succ {l : List Sh} {j : Nat} {s : Sh} (h : l[j]? = some s) : sumTo l (j + 1) = sumTo l j + words s := by
  unfold sumTo
  have hj := (List.getElem?_eq_some_iff.1 h).1
  rw [List.take_succ_eq_append_getElem hj, (List.getElem?_eq_some_iff.1 h).2]
  simp
theorem sum_bd (l : List Sh) : 0 ≤ (l.map words).sum ∧ (l.map words).sum ≤ 640 * l.length := by
  induction l with
  | nil => simp
  | cons s l ih => have := words_bd s; simp; omega

theorem sumTo_bd (l : List Sh) (j : Nat) : 0 ≤ sumTo l j ∧ sumTo l j ≤ 640 * j := by
  have h1 := sum_bd (l.take j)
  have h2 : (l.take j).length ≤ j := List.length_take_le _ _
  unfold sumTo; omega

theorem base_no {l : List Sh} {t : Int} (h : right l = false ∨ t < 1 ∨ (l.length : Int) < t) : base l t = -1 := by
  unfold base
  rw [if_neg]
  rintro ⟨h1, h2, h3⟩
  rcases h with h | h | h
  · rw [h] at h1; cases h1
  · omega
  · omega
theorem base_yes {l : List Sh} {m : Nat} (h : right l = true) (h' : m + 1 ≤ l.length) : base l ((m : Int) + 1) = sumTo l m := by
  unfold base sumTo
  rw [if_pos ⟨h, by omega, by omega⟩]
  congr 3

end Conf
end Go.Proofs.Ytngbhhcicakolaa
