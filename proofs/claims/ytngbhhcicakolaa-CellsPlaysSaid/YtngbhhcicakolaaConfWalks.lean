/- The functions of package conf, walked. -/
import Derived.Test.YtngbhhcicakolaaRows
import Derived.Test.YtngbhhcicakolaaWords
import Derived.Test.YtngbhhcicakolaaConfPure
import Derived.IntWalk
set_option linter.unusedVariables false
set_option linter.unusedSimpArgs false
namespace Go.Proofs.Ytngbhhcicakolaa
open Go.RowKit

namespace Conf

/-- A share as cells. -/
def sh (s : Sh) : Array Value := #[.int .i64 s.c0, .int .i64 s.c1, .int .i64 s.c2, .int .i64 s.q, .int .i64 s.st]

set_option maxHeartbeats 400000 in
theorem slots_any (c : Int) (w : World) : Calls Try.prog 54 #[.int .i64 c] w fun e w' => e = .returned (.int .i64 (slots c)) ∧ w = w' := by
  by_cases h0 : c < 0
  · have E := Lib.hid (show slots c = 0 by unfold slots; rw [if_neg (by omega), if_neg (by omega), if_neg (by omega)])
    go_enter Try.func54, Try.ntmps54
    go_wp2
    go_ret
    exact ⟨by rw [E.out]; rfl, rfl⟩
  by_cases h1 : 3 ≤ c
  · have E := Lib.hid (show slots c = 0 by unfold slots; rw [if_neg (by omega), if_neg (by omega), if_neg (by omega)])
    go_enter Try.func54, Try.ntmps54
    go_wp2
    go_ret
    exact ⟨by rw [E.out]; rfl, rfl⟩
  have h2 : c = 0 ∨ c = 1 ∨ c = 2 := by omega
  clear h0 h1
  rcases h2 with rfl | rfl | rfl
  all_goals
    go_enter Try.func54, Try.ntmps54
    go_wp2
    go_ret
    exact ⟨rfl, rfl⟩

theorem slots_size (c : Int) : (0 < slots c ∧ size c = slots c + 1) ∨ (slots c = 0 ∧ size c = 0) := by
  unfold slots size
  split
  · left; omega
  · split
    · left; omega
    · split
      · left; omega
      · right; omega

set_option maxHeartbeats 400000 in
theorem size_any (c : Int) (w : World) : Calls Try.prog 71 #[.int .i64 c] w fun e w' => e = .returned (.int .i64 (size c)) ∧ w = w' := by
  have hb : slots c ≤ 4 := by unfold slots; split <;> (try split) <;> (try split) <;> omega
  rcases slots_size c with ⟨h1, h2⟩ | ⟨h1, h2⟩
  · have E := Lib.hid h2
    clear h2
    go_enter Try.func71, Try.ntmps71
    go_wp2_with fail
    refine (slots_any c _).mono ?_
    rintro e w1 ⟨rfl, rfl⟩
    go_wp2_with fail
    go_ret
    exact ⟨by rw [E.out]; rfl, rfl⟩
  · have E := Lib.hid h2
    have E1 := Lib.hid h1
    clear h2 h1
    go_enter Try.func71, Try.ntmps71
    go_wp2_with fail
    refine (slots_any c _).mono ?_
    rintro e w1 ⟨rfl, rfl⟩
    rw [E1.out]
    go_wp2_with fail
    go_ret
    exact ⟨by rw [E.out]; rfl, rfl⟩

theorem size_is (c n : Int) (h : size c = n) (w : World) : Calls Try.prog 71 #[.int .i64 c] w fun e w' => e = .returned (.int .i64 n) ∧ w = w' := by
  have := size_any c w; rw [h] at this; exact this

def cellOf (s : Sh) (j : Nat) : Int := if j = 0 then s.c0 else if j = 1 then s.c1 else s.c2
theorem sh_cell {w : World} {b : Nat} {s : Sh} (h : Blk w b (sh s) 24) {j : Nat} (hj : j < 3) : w.cell? ⟨b, j, none⟩ = some (.int .i64 (cellOf s j)) := by
  rw [h.cell j]
  obtain rfl | rfl | rfl : j = 0 ∨ j = 1 ∨ j = 2 := by omega
  all_goals rfl

theorem not_ok {s : Sh} {j : Nat} (hj : j < 3) (h : fits (cellOf s j) = false) : ok s = false := by
  unfold ok
  obtain rfl | rfl | rfl : j = 0 ∨ j = 1 ∨ j = 2 := by omega
  · rw [show fits s.c0 = false from h]; rfl
  · rw [show fits s.c1 = false from h]; simp
  · rw [show fits s.c2 = false from h]; simp
theorem all_ok {s : Sh} (h : ∀ i, i < 3 → fits (cellOf s i) = true) : ok s = (decide (0 ≤ s.q) && decide (s.q ≤ 65536) && decide (1 ≤ s.st) && decide (s.st < 4294967295)) := by
  unfold ok
  rw [show fits s.c0 = true from h 0 (by omega), show fits s.c1 = true from h 1 (by omega), show fits s.c2 = true from h 2 (by omega)]; rfl
theorem not_fits {c : Int} (h : c < 0 ∨ 64 < c) : fits c = false := by unfold fits; simp; omega
theorem is_fits {c : Int} (h : 0 ≤ c) (h' : c ≤ 64) : fits c = true := by unfold fits; simp; omega

set_option maxHeartbeats 1000000 in
set_option maxRecDepth 100000 in
theorem share_any (s : Sh) (w : World) : Calls Try.prog 70 #[.agg (sh s)] w fun e w' => e = .returned (.bool (ok s)) ∧ But (fun _ => False) w w' := by
  have hB := (Blk.new w (sh s) 24)
  have k3 : (w.alloc (.cells (sh s) 24)).cell? ⟨w.heap.size, 3, none⟩ = some (.int .i64 s.q) := hB.cell 3
  have k4 : (w.alloc (.cells (sh s) 24)).cell? ⟨w.heap.size, 4, none⟩ = some (.int .i64 s.st) := hB.cell 4
  have G := (But.refl (fun _ => False) w).alloc (.cells (sh s) 24)
  go_enter Try.func70, Try.ntmps70
  go_wp2_with fail
  go_loopg [4] 3 (fun k i wr => ∃ j : Nat, j + k = 3 ∧ i = .int .i64 j ∧ wr = w.alloc (.cells (sh s) 24) ∧ ∀ i, i < j → fits (cellOf s i) = true)
  case atStart => exact ⟨0, by omega, rfl, rfl, fun i hi => by omega⟩
  case round =>
    obtain ⟨j, hj, rfl, rfl, hf⟩ := hrel
    by_cases hlt : j < 3
    · have hc := sh_cell hB hlt
      have HF := Lib.hid hf
      clear hf
      by_cases h1 : cellOf s j < 0
      · have E := Lib.hid (not_ok hlt (not_fits (.inl h1)))
        go_wp2_with fail
        go_ret
        exact ⟨by rw [E.out]; rfl, G⟩
      · by_cases h2 : 64 < cellOf s j
        · have E := Lib.hid (not_ok hlt (not_fits (.inr h2)))
          go_wp2_with fail
          go_ret
          exact ⟨by rw [E.out]; rfl, G⟩
        · have E := Lib.hid (is_fits (Int.not_lt.1 h1) (Int.not_lt.1 h2))
          go_wp2_with fail
          go_roundg (3 - (j + 1))
          case measure => omega
          case rel => exact ⟨j + 1, by omega, by go_num, rfl, fun i hi => by by_cases e : i = j; subst e; exact E.out; exact HF.out i (by omega)⟩
    · have E := Lib.hid (all_ok (fun i hi => hf i (by omega)))
      clear hf
      by_cases h1 : 0 ≤ s.q
      · by_cases h2 : s.q ≤ 65536
        · by_cases h3 : 1 ≤ s.st
          · go_wp2_with fail
            go_ret
            exact ⟨by rw [E.out]; simp [h1, h2, h3], G⟩
          · go_wp2_with fail
            go_ret
            exact ⟨by rw [E.out]; simp [h3]; omega, G⟩
        · go_wp2_with fail
          go_ret
          exact ⟨by rw [E.out]; simp [h2]; omega, G⟩
      · go_wp2_with fail
        go_ret
        exact ⟨by rw [E.out]; simp [h1]; omega, G⟩

/-- The words ahead of class j. -/
def ahead (s : Sh) (j : Nat) : Int := if j = 0 then 0 else if j = 1 then s.c0 * 2 else if j = 2 then s.c0 * 2 + s.c1 * 3 else s.c0 * 2 + s.c1 * 3 + s.c2 * 5
def less (s : Sh) (j : Nat) : Int := if j = 0 then 0 else if j = 1 then s.c0 else if j = 2 then s.c0 + s.c1 else s.c0 + s.c1 + s.c2
theorem ahead_succ (s : Sh) {j : Nat} (h : j < 3) : ahead s (j + 1) = ahead s j + cellOf s j * size j := by
  obtain rfl | rfl | rfl : j = 0 ∨ j = 1 ∨ j = 2 := by omega
  all_goals simp [ahead, cellOf, size]
theorem less_succ (s : Sh) {j : Nat} (h : j < 3) : less s (j + 1) = less s j + cellOf s j := by
  obtain rfl | rfl | rfl : j = 0 ∨ j = 1 ∨ j = 2 := by omega
  all_goals simp [less, cellOf]
theorem ahead_bd {s : Sh} (h : ok s = true) (j : Nat) : 0 ≤ ahead s j ∧ ahead s j ≤ 640 ∧ 0 ≤ less s j ∧ less s j ≤ 192 ∧ 0 ≤ cellOf s j ∧ cellOf s j ≤ 64 := by
  rw [ok_iff] at h
  unfold ahead less cellOf
  repeat' split
  all_goals omega
theorem find_at {s : Sh} (h : ok s = true) {i : Int} (h0 : 0 ≤ i) {j : Nat} (hj : j < 3) (h1 : less s j ≤ i) (h2 : i - less s j < cellOf s j) : find s i = ((j : Int), ahead s j + (i - less s j) * size j) := by
  have hb := (ok_iff s).1 h
  unfold find
  rw [if_pos ⟨h, h0⟩]
  obtain rfl | rfl | rfl : j = 0 ∨ j = 1 ∨ j = 2 := by omega
  · simp [less, cellOf] at h1 h2; rw [if_pos h2]; simp [ahead, less, size]
  · simp [less, cellOf] at h1 h2; rw [if_neg (by omega), if_pos h2]; simp [ahead, less, size]
  · simp [less, cellOf] at h1 h2; rw [if_neg (by omega), if_neg (by omega), if_pos (by omega)]; simp [ahead, less, size]; omega
theorem find_none {s : Sh} {i : Int} (h : ok s = false ∨ i < 0 ∨ (ok s = true ∧ less s 3 ≤ i)) : find s i = (-1, -1) := by
  unfold find
  by_cases hk : ok s = true ∧ 0 ≤ i
  · have hb := (ok_iff s).1 hk.1
    rw [if_pos hk]
    rcases h with h | h | ⟨_, h⟩
    · rw [h] at hk; simp at hk
    · omega
    · simp [less] at h
      rw [if_neg (by omega), if_neg (by omega), if_neg (by omega)]
  · rw [if_neg hk]

set_option maxHeartbeats 2000000 in
set_option maxRecDepth 100000 in
theorem find_any (s : Sh) (i : Int) (w : World) (hi : -9223372036854775808 ≤ i ∧ i ≤ 9223372036854775807) : Calls Try.prog 80 #[.agg (sh s), .int .i64 i] w fun e w' => e = .returned (.tuple #[.int .i64 (find s i).1, .int .i64 (find s i).2]) ∧ But (fun _ => False) w w' := by
  have hB0 := (Blk.new w (sh s) 24)
  have k0 : (w.alloc (.cells (sh s) 24)).cell? ⟨w.heap.size, 0, none⟩ = some (.int .i64 s.c0) := hB0.cell 0
  have k1 : (w.alloc (.cells (sh s) 24)).cell? ⟨w.heap.size, 1, none⟩ = some (.int .i64 s.c1) := hB0.cell 1
  have k2 : (w.alloc (.cells (sh s) 24)).cell? ⟨w.heap.size, 2, none⟩ = some (.int .i64 s.c2) := hB0.cell 2
  have k3 : (w.alloc (.cells (sh s) 24)).cell? ⟨w.heap.size, 3, none⟩ = some (.int .i64 s.q) := hB0.cell 3
  have k4 : (w.alloc (.cells (sh s) 24)).cell? ⟨w.heap.size, 4, none⟩ = some (.int .i64 s.st) := hB0.cell 4
  cases hok : ok s with
  | false =>
    have E := Lib.hid (find_none (s := s) (i := i) (.inl hok))
    have O := Lib.hid hok
    clear hok
    go_enter Try.func80, Try.ntmps80
    go_wp2_with fail
    refine (share_any s _).mono ?_
    rintro e w1 ⟨rfl, g1⟩
    rw [O.out]
    go_wp2_with fail
    go_ret2
    exact ⟨by rw [E.out]; rfl, ((But.refl _ _).alloc _).trans g1⟩
  | true =>
    have hab := ahead_bd hok
    have O := Lib.hid hok
    clear hok
    by_cases h0 : i < 0
    · have E := Lib.hid (find_none (s := s) (i := i) (.inr (.inl h0)))
      clear hab
      go_enter Try.func80, Try.ntmps80
      go_wp2_with fail
      refine (share_any s _).mono ?_
      rintro e w1 ⟨rfl, g1⟩
      rw [O.out]
      go_wp2_with fail
      go_ret2
      exact ⟨by rw [E.out]; rfl, ((But.refl _ _).alloc _).trans g1⟩
    have HAB := Lib.hid hab
    clear hab
    go_enter Try.func80, Try.ntmps80
    go_wp2_with fail
    refine (share_any s _).mono ?_
    rintro e w1 ⟨rfl, g1⟩
    rw [O.out]
    have hB := (Blk.new w (sh s) 24).but g1 (fun h => h)
    have hs : w.heap.size < w1.heap.size := hB.lt
    have G := ((But.refl _ _).alloc _).trans g1
    go_wp2_with fail
    go_loopg [15, 6, 1] 3 (fun k i1 a1 c1 wr => ∃ (j : Nat), j + k = 3 ∧ i1 = .int .i64 j ∧ a1 = .int .i64 (ahead s j) ∧ c1 = .int .i64 (i - less s j) ∧ less s j ≤ i ∧ Blk wr w.heap.size (sh s) 24 ∧ But (fun _ => False) w wr)
    case atStart => exact ⟨0, by omega, rfl, by simp [ahead], by simp [less], by simp [less]; omega, hB, G⟩
    case round =>
      obtain ⟨j, hj, rfl, rfl, rfl, hle, hB, G⟩ := hrel
      have hb := HAB.out j
      by_cases hlt : j < 3
      · have hc := sh_cell hB hlt
        obtain rfl | rfl | rfl : j = 0 ∨ j = 1 ∨ j = 2 := by omega
        · have hn : size (0 : Int) = 2 := rfl
          have HN := Lib.hid hn
          have hs1 := Lib.hid (show ahead s (0 + 1) = ahead s 0 + cellOf s 0 * 2 from ahead_succ s (j := 0) (by omega))
          have hs2 := Lib.hid (show less s (0 + 1) = less s 0 + cellOf s 0 from less_succ s (j := 0) (by omega))
          clear hn
          by_cases hin : i - less s 0 < cellOf s 0
          · have E := Lib.hid (show find s i = (0, ahead s 0 + (i - less s 0) * 2) from find_at O.out (by omega) (j := 0) (by omega) hle hin)
            have hpos : 0 ≤ i - less s 0 := by omega
            go_wp2_with fail
            refine (size_is 0 2 HN.out _).mono ?_
            rintro e w2 ⟨rfl, rfl⟩
            go_wp2_with fail
            go_ret2
            exact ⟨by rw [E.out]; rfl, G⟩
          · have hge : cellOf s 0 ≤ i - less s 0 := by omega
            go_wp2_with fail
            go_quiet ((go_at_call 71; exact quiet_same (size_is 0 2 HN.out _)))
            go_wp2_with fail
            go_roundg 2
            case measure => omega
            case rel => exact ⟨0 + 1, by omega, rfl, by rw [hs1.out], by rw [hs2.out]; congr 1; omega, by rw [hs2.out]; omega, hB.drewN _, G.drewN _⟩
        · have hn : size (1 : Int) = 3 := rfl
          have HN := Lib.hid hn
          have hs1 := Lib.hid (show ahead s (1 + 1) = ahead s 1 + cellOf s 1 * 3 from ahead_succ s (j := 1) (by omega))
          have hs2 := Lib.hid (show less s (1 + 1) = less s 1 + cellOf s 1 from less_succ s (j := 1) (by omega))
          clear hn
          by_cases hin : i - less s 1 < cellOf s 1
          · have E := Lib.hid (show find s i = (1, ahead s 1 + (i - less s 1) * 3) from find_at O.out (by omega) (j := 1) (by omega) hle hin)
            have hpos : 0 ≤ i - less s 1 := by omega
            go_wp2_with fail
            refine (size_is 1 3 HN.out _).mono ?_
            rintro e w2 ⟨rfl, rfl⟩
            go_wp2_with fail
            go_ret2
            exact ⟨by rw [E.out]; rfl, G⟩
          · have hge : cellOf s 1 ≤ i - less s 1 := by omega
            go_wp2_with fail
            go_quiet ((go_at_call 71; exact quiet_same (size_is 1 3 HN.out _)))
            go_wp2_with fail
            go_roundg 1
            case measure => omega
            case rel => exact ⟨1 + 1, by omega, rfl, by rw [hs1.out], by rw [hs2.out]; congr 1; omega, by rw [hs2.out]; omega, hB.drewN _, G.drewN _⟩
        · have hn : size (2 : Int) = 5 := rfl
          have HN := Lib.hid hn
          have hs1 := Lib.hid (show ahead s (2 + 1) = ahead s 2 + cellOf s 2 * 5 from ahead_succ s (j := 2) (by omega))
          have hs2 := Lib.hid (show less s (2 + 1) = less s 2 + cellOf s 2 from less_succ s (j := 2) (by omega))
          clear hn
          by_cases hin : i - less s 2 < cellOf s 2
          · have E := Lib.hid (show find s i = (2, ahead s 2 + (i - less s 2) * 5) from find_at O.out (by omega) (j := 2) (by omega) hle hin)
            have hpos : 0 ≤ i - less s 2 := by omega
            go_wp2_with fail
            refine (size_is 2 5 HN.out _).mono ?_
            rintro e w2 ⟨rfl, rfl⟩
            go_wp2_with fail
            go_ret2
            exact ⟨by rw [E.out]; rfl, G⟩
          · have hge : cellOf s 2 ≤ i - less s 2 := by omega
            go_wp2_with fail
            go_quiet ((go_at_call 71; exact quiet_same (size_is 2 5 HN.out _)))
            go_wp2_with fail
            go_roundg 0
            case measure => omega
            case rel => exact ⟨2 + 1, by omega, rfl, by rw [hs1.out], by rw [hs2.out]; congr 1; omega, by rw [hs2.out]; omega, hB.drewN _, G.drewN _⟩
      · have E := Lib.hid (find_none (s := s) (i := i) (.inr (.inr ⟨O.out, by rw [show 3 = j by omega]; exact hle⟩)))
        go_wp2_with fail
        go_ret2
        exact ⟨by rw [E.out]; rfl, G⟩

set_option maxHeartbeats 1000000 in
set_option maxRecDepth 100000 in
theorem class_any (s : Sh) (i : Int) (w : World) (hi : -9223372036854775808 ≤ i ∧ i ≤ 9223372036854775807) : Calls Try.prog 55 #[.agg (sh s), .int .i64 i] w fun e w' => e = .returned (.int .i64 (find s i).1) ∧ But (fun _ => False) w w' := by
  have hB0 := (Blk.new w (sh s) 24)
  have k0 : (w.alloc (.cells (sh s) 24)).cell? ⟨w.heap.size, 0, none⟩ = some (.int .i64 s.c0) := hB0.cell 0
  have k1 : (w.alloc (.cells (sh s) 24)).cell? ⟨w.heap.size, 1, none⟩ = some (.int .i64 s.c1) := hB0.cell 1
  have k2 : (w.alloc (.cells (sh s) 24)).cell? ⟨w.heap.size, 2, none⟩ = some (.int .i64 s.c2) := hB0.cell 2
  have k3 : (w.alloc (.cells (sh s) 24)).cell? ⟨w.heap.size, 3, none⟩ = some (.int .i64 s.q) := hB0.cell 3
  have k4 : (w.alloc (.cells (sh s) 24)).cell? ⟨w.heap.size, 4, none⟩ = some (.int .i64 s.st) := hB0.cell 4
  go_enter Try.func55, Try.ntmps55
  go_wp2_with fail
  refine (find_any s i _ hi).mono ?_
  rintro e w1 ⟨rfl, g1⟩
  go_wp2_with fail
  go_ret
  exact ⟨rfl, ((But.refl _ _).alloc _).trans g1⟩

theorem less3 {s : Sh} (h : ok s = true) : less s 3 = count s := by unfold count; rw [if_pos h]; rfl
theorem count_no {s : Sh} (h : ok s = false) : count s = 0 := by unfold count; rw [h]; rfl

set_option maxHeartbeats 2000000 in
set_option maxRecDepth 100000 in
theorem count_any (s : Sh) (w : World) : Calls Try.prog 34 #[.agg (sh s)] w fun e w' => e = .returned (.int .i64 (count s)) ∧ But (fun _ => False) w w' := by
  have hB0 := (Blk.new w (sh s) 24)
  have k0 : (w.alloc (.cells (sh s) 24)).cell? ⟨w.heap.size, 0, none⟩ = some (.int .i64 s.c0) := hB0.cell 0
  have k1 : (w.alloc (.cells (sh s) 24)).cell? ⟨w.heap.size, 1, none⟩ = some (.int .i64 s.c1) := hB0.cell 1
  have k2 : (w.alloc (.cells (sh s) 24)).cell? ⟨w.heap.size, 2, none⟩ = some (.int .i64 s.c2) := hB0.cell 2
  have k3 : (w.alloc (.cells (sh s) 24)).cell? ⟨w.heap.size, 3, none⟩ = some (.int .i64 s.q) := hB0.cell 3
  have k4 : (w.alloc (.cells (sh s) 24)).cell? ⟨w.heap.size, 4, none⟩ = some (.int .i64 s.st) := hB0.cell 4
  have hB := hB0
  have G := (But.refl (fun _ => False) w).alloc (.cells (sh s) 24)
  cases hok : ok s with
  | false =>
    have E := Lib.hid (count_no hok)
    have O := Lib.hid hok
    clear hok
    go_enter Try.func34, Try.ntmps34
    go_wp2_with fail
    go_loopg [3, 5] 3 (fun k n1 i1 wr => ∃ (j : Nat) (n : Int), j + k = 3 ∧ i1 = .int .i64 j ∧ n1 = .int .i64 n ∧ wr = w.alloc (.cells (sh s) 24))
    case atStart => exact ⟨0, 0, by omega, rfl, rfl, rfl⟩
    case round =>
      obtain ⟨j, n, hj, rfl, rfl, rfl⟩ := hrel
      by_cases hlt : j < 3
      · have hc := sh_cell hB hlt
        go_wp2_with fail
        go_roundg (3 - (j + 1))
        case measure => omega
        case rel => exact ⟨j + 1, _, by omega, by go_num, rfl, rfl⟩
      · go_wp2_with fail
        refine (share_any s _).mono ?_
        rintro e w1 ⟨rfl, g1⟩
        rw [O.out]
        go_wp2_with fail
        go_ret
        exact ⟨by rw [E.out]; rfl, G.trans g1⟩
  | true =>
    have hab := ahead_bd hok
    have HAB := Lib.hid hab
    have E := Lib.hid (less3 hok)
    have O := Lib.hid hok
    clear hok hab
    go_enter Try.func34, Try.ntmps34
    go_wp2_with fail
    go_loopg [3, 5] 3 (fun k n1 i1 wr => ∃ (j : Nat), j + k = 3 ∧ i1 = .int .i64 j ∧ n1 = .int .i64 (less s j) ∧ wr = w.alloc (.cells (sh s) 24))
    case atStart => exact ⟨0, by omega, rfl, by simp [less], rfl⟩
    case round =>
      obtain ⟨j, hj, rfl, rfl, rfl⟩ := hrel
      have hb := HAB.out j
      by_cases hlt : j < 3
      · have hc := sh_cell hB hlt
        have hs := Lib.hid (less_succ s hlt)
        go_wp2_with fail
        go_roundg (3 - (j + 1))
        case measure => omega
        case rel => exact ⟨j + 1, by omega, by go_num, by rw [hs.out], rfl⟩
      · obtain rfl : j = 3 := by omega
        go_wp2_with fail
        refine (share_any s _).mono ?_
        rintro e w1 ⟨rfl, g1⟩
        rw [O.out]
        go_wp2_with fail
        go_ret
        exact ⟨by rw [← E.out]; rfl, G.trans g1⟩

/-- A slice of shares. -/
structure Shs (w : World) (a : Option Addr) (len : Nat) (l : List Sh) : Prop where
  size : l.length = len
  at_ : ∀ i, i < len → ∃ b off s, a = some ⟨b, off, none⟩ ∧ b < w.heap.size ∧ l[i]? = some s ∧ ∀ j, j < 5 → w.cell? ⟨b, off + (i * 5 + j), none⟩ = (sh s)[j]?
theorem Shs.but {w w' : World} {a : Option Addr} {len : Nat} {l : List Sh} (h : Shs w a len l) {S : Nat → Prop} (hb : But S w w') (hs : ∀ k, k < w.heap.size → ¬ S k) : Shs w' a len l :=
  ⟨h.size, fun i hi => by
    obtain ⟨b, off, s, e, hlt, hg, hc⟩ := h.at_ i hi
    exact ⟨b, off, s, e, Nat.lt_of_lt_of_le hlt hb.size, hg, fun j hj => by rw [← hc j hj]; exact World.cell?_of_block (w := w) (hb.block b hlt (hs b hlt))⟩⟩

theorem right_bad {l : List Sh} {i : Nat} {s : Sh} (h : l[i]? = some s) (hs : ok s = false) : right l = false := by
  unfold right
  have : l.all ok = false := by
    rw [List.all_eq_false]
    exact ⟨s, List.mem_of_getElem? h, by simp [hs]⟩
  rw [this]; rfl
theorem right_all {l : List Sh} (h : ∀ (i : Nat) (s : Sh), l[i]? = some s → ok s = true) : right l = (decide (1 ≤ l.length) && decide (l.length ≤ 16)) := by
  unfold right
  have : l.all ok = true := by
    rw [List.all_eq_true]
    intro s hs
    obtain ⟨i, hi, rfl⟩ := List.getElem_of_mem hs
    exact h i _ (List.getElem?_eq_getElem hi)
  rw [this]; rfl

set_option maxHeartbeats 2000000 in
set_option maxRecDepth 100000 in
theorem right_any (a : Option Addr) (len cap : Nat) (l : List Sh) (w : World) (hl : Shs w a len l) (hlen : len ≤ 1000000000000000) : Calls Try.prog 69 #[.slice a len cap] w fun e w' => e = .returned (.bool (right l)) ∧ But (fun _ => False) w w' := by
  go_enter Try.func69, Try.ntmps69
  go_wp2_with fail
  go_loopg [7] len (fun k i1 wr => ∃ (j : Nat), j + k = len ∧ i1 = .int .i64 j ∧ But (fun _ => False) w wr ∧ ∀ (i : Nat) (s : Sh), i < j → l[i]? = some s → ok s = true)
  case atStart => exact ⟨0, by omega, rfl, But.refl _ _, fun i s h => by omega⟩
  case round =>
    obtain ⟨j, hj, rfl, hB, hf⟩ := hrel
    have HF := Lib.hid hf
    clear hf
    by_cases hlt : j < len
    · obtain ⟨b, off, s, rfl, hbs, hg, hc⟩ := (hl.but hB (fun _ _ q => q)).at_ j hlt
      have c0 : wr.cell? ⟨b, off + (j * 5), none⟩ = some (.int .i64 s.c0) := hc 0 (by omega)
      have c1 : wr.cell? ⟨b, off + (j * 5) + 1, none⟩ = some (.int .i64 s.c1) := hc 1 (by omega)
      have c2 : wr.cell? ⟨b, off + (j * 5) + 2, none⟩ = some (.int .i64 s.c2) := hc 2 (by omega)
      have c3 : wr.cell? ⟨b, off + (j * 5) + 3, none⟩ = some (.int .i64 s.q) := hc 3 (by omega)
      have c4 : wr.cell? ⟨b, off + (j * 5) + 4, none⟩ = some (.int .i64 s.st) := hc 4 (by omega)
      have HG := Lib.hid hg
      clear hc hg
      go_wp2_with fail
      refine (share_any s _).mono ?_
      rintro e w2 ⟨rfl, g2⟩
      cases hok : ok s with
      | false =>
        have E := Lib.hid (right_bad HG.out hok)
        clear hok
        go_wp2_with fail
        go_ret
        exact ⟨by rw [E.out]; rfl, (hB.alloc _).trans g2⟩
      | true =>
        have O := Lib.hid hok
        clear hok
        go_wp2_with fail
        go_roundg (len - (j + 1))
        case measure => omega
        case rel => exact ⟨j + 1, by omega, by go_num, (hB.alloc _).trans g2, fun i t hi ht => by
          by_cases e : i = j
          · subst e; rw [HG.out] at ht; cases ht; exact O.out
          · exact HF.out i t (by omega) ht⟩
    · have E := Lib.hid (right_all (l := l) (fun i s h => HF.out i s (by have := (List.getElem?_eq_some_iff.1 h).1; rw [hl.size] at this; omega) h))
      have HL := Lib.hid hl.size
      by_cases h1 : 1 ≤ len
      · go_wp2_with fail
        go_ret
        exact ⟨by rw [E.out, HL.out]; simp [h1]; omega, hB⟩
      · go_wp2_with fail
        go_ret
        exact ⟨by rw [E.out, HL.out]; simp [h1], hB⟩

end Conf
end Go.Proofs.Ytngbhhcicakolaa
