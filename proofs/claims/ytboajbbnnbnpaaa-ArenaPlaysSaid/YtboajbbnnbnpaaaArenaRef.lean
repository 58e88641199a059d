/- New of package arena, and the arena's ref, walked. -/
import Derived.Test.YtboajbbnnbnpaaaArenaWalks
import Derived.Laws.MakeOwn
import Derived.Laws.OwnMore
set_option linter.unusedVariables false
set_option linter.unusedSimpArgs false
namespace Go.Proofs.Ytboajbbnnbnpaaa
open Go.RowKit

namespace Arena

theorem infoU64 : (Try.prog.info? 24).map (fun i => (i.zero, i.size, i.bytes)) = some (some (.int .u64 0), 1, 8) := by kernel_rfl

theorem made (n : Nat) : madeCells #[.int .u64 0] n = u64s (List.replicate n 0) := by
  apply Array.ext'
  rw [toList_madeCells_one]
  unfold u64s
  simp

theorem run_mk (n : Nat) (hn : n ≤ 65536) (w : World) : (Instr.makeSlice 76 (.int .i64 n) (.int .i64 n)).run Try.prog w = .ok (.slice (some ⟨w.heap.size, 0, none⟩) n n) (w.alloc (.cells (u64s (List.replicate n 0)) 24)) := by
  obtain ⟨i0, hi, hz0, hz1, hz2⟩ := info_parts infoU64
  have h := run_make w 76 24 i0 (.int .u64 0) Try.underlying76 hi hz0 .i64 .i64 n n (by omega) (Int.le_refl _) (by rw [hz2]; omega) (by omega)
  rw [h, hz1]
  simp only [Int.toNat_natCast, Nat.mul_one]
  rw [show (Value.int .u64 0).cells = #[.int .u64 0] from rfl, made]

theorem Ar.new (T : TypeId) (w : World) (n : Nat) (hn : n ≤ 65536) : Ar T ((w.alloc (.cells (u64s (List.replicate n 0)) 24)).alloc (.cells #[.slice (some ⟨w.heap.size, 0, none⟩) n n, .int .i64 0] T)) (w.heap.size + 1) w.heap.size (List.replicate n 0) 0 := by
  refine ⟨?_, (Blk.new w _ _).alloc _, by omega, by simpa using hn, by omega⟩
  have := Blk.new (w.alloc (.cells (u64s (List.replicate n 0)) 24)) #[.slice (some ⟨w.heap.size, 0, none⟩) n n, .int .i64 0] T
  simpa using this

set_option maxHeartbeats 2000000 in
set_option maxRecDepth 100000 in
theorem new_no (n : Int) (w : World) (h : n < 0 ∨ 65536 < n) : Calls Try.prog 42 #[.int .i64 n] w fun e w' => e = .returned (.tuple #[.pointer none, .int .i64 1]) ∧ w = w' := by
  rcases h with h | h
  all_goals
    go_enter Try.func42, Try.ntmps42
    go_wp2_with fail
    go_ret2
    exact ⟨rfl, rfl⟩

set_option maxHeartbeats 2000000 in
set_option maxRecDepth 100000 in
theorem new_any (n : Nat) (w : World) (hn : n ≤ 65536) : Calls Try.prog 42 #[.int .i64 n] w fun e w' =>
    e = .returned (.tuple #[.pointer (some ⟨w.heap.size + 1, 0, none⟩), .int .i64 0]) ∧ Ar 122 w' (w.heap.size + 1) w.heap.size (List.replicate n 0) 0 ∧ But (fun _ => False) w w' := by
  have hmk := run_mk n hn
  have HA := Lib.hid (Ar.new 122 w n hn)
  go_enter Try.func42, Try.ntmps42
  go_wp2_with (simp only [hmk])
  go_ret2
  exact ⟨by simp, HA.out, ((But.refl _ _).alloc _).alloc _⟩

set_option maxHeartbeats 2000000 in
set_option maxRecDepth 100000 in
theorem begin_any (n : Nat) (w : World) (hn : n ≤ 65536) : Calls Try.prog 43 #[.int .i64 n] w fun e w' =>
    e = .returned (.pointer (some ⟨w.heap.size + 1, 0, none⟩)) ∧ Ar 78 w' (w.heap.size + 1) w.heap.size (List.replicate n 0) 0 ∧ But (fun _ => False) w w' := by
  have hmk := run_mk n hn
  have HA := Lib.hid (Ar.new 78 w n hn)
  go_enter Try.func43, Try.ntmps43
  go_wp2_with (simp only [hmk])
  go_ret
  exact ⟨by simp, HA.out, ((But.refl _ _).alloc _).alloc _⟩

set_option maxHeartbeats 2000000 in
set_option maxRecDepth 100000 in
theorem ref_read (b c : Nat) (l : List Int) (t i : Int) (w : World) (h : Ar 78 w b c l t) (ht : t ≤ 1000000000000) :
    Calls Try.prog 45 #[.pointer (some ⟨b, 0, none⟩), .int .i64 i] w fun e w' =>
      e = .returned (.tuple #[.int .u64 (rd l i).1, .int .i64 (rd l i).2]) ∧ Ar 78 w' b c l (by1 l i t) ∧ But (fun k => k = b) w w' := by
  have c0 : w.cell? ⟨b, 0, none⟩ = some (.slice (some ⟨c, 0, none⟩) l.length l.length) := h.blk.cell 0
  have c1 : w.cell? ⟨b, 1, none⟩ = some (.int .i64 t) := h.blk.cell 1
  have f1 := h.blk.frozen 1
  have hl := h.len
  have h0 := h.t0
  cases hr : there l i 1 with
  | false =>
    have E := Lib.hid (show rd l i = (0, 1) by unfold rd; rw [hr]; rfl)
    have E2 := Lib.hid (show by1 l i t = t by unfold by1; rw [hr]; rfl)
    have H := Lib.hid h
    rw [there_not] at hr
    clear h
    by_cases hc : i < 0
    · clear hr
      go_enter Try.func45, Try.ntmps45
      go_wp2_with fail
      go_ret2
      exact ⟨by rw [E.out]; rfl, by rw [E2.out]; exact H.out, But.refl _ _⟩
    · have hd : (l.length : Int) ≤ i := by omega
      clear hr
      go_enter Try.func45, Try.ntmps45
      go_wp2_with fail
      go_ret2
      exact ⟨by rw [E.out]; rfl, by rw [E2.out]; exact H.out, But.refl _ _⟩
  | true =>
    have E := Lib.hid (show rd l i = (nth l i.toNat, 0) by unfold rd; rw [hr]; rfl)
    have E2 := Lib.hid (show by1 l i t = t + 1 by unfold by1; rw [hr]; rfl)
    rw [there_iff] at hr
    obtain ⟨i, rfl⟩ : ∃ k : Nat, i = k := ⟨i.toNat, by omega⟩
    have hi : i < l.length := by omega
    have d0 := u64s_cell h.row hi
    have hne := h.ne
    have hne2 : c ≠ b := fun e => hne e.symm
    have H := Lib.hid h
    clear hr h
    go_enter Try.func45, Try.ntmps45
    go_wp2_with fail
    go_ret2
    refine ⟨by rw [E.out]; rfl, ?_, But.one _ _ _⟩
    rw [E2.out]
    exact ⟨H.out.blk.put 1 _ rfl, H.out.row.far hne2 _, H.out.ne, H.out.len, by omega⟩

set_option maxHeartbeats 2000000 in
set_option maxRecDepth 100000 in
theorem ref_write (b c : Nat) (l : List Int) (t i x : Int) (w : World) (h : Ar 78 w b c l t) (ht : t ≤ 1000000000000) :
    Calls Try.prog 49 #[.pointer (some ⟨b, 0, none⟩), .int .i64 i, .int .u64 x] w fun e w' =>
      e = .returned (.int .i64 (wri l i x).1) ∧ Ar 78 w' b c (wri l i x).2 (by1 l i t) ∧ But (fun k => k = b ∨ k = c) w w' := by
  have c0 : w.cell? ⟨b, 0, none⟩ = some (.slice (some ⟨c, 0, none⟩) l.length l.length) := h.blk.cell 0
  have c1 : w.cell? ⟨b, 1, none⟩ = some (.int .i64 t) := h.blk.cell 1
  have f1 := h.blk.frozen 1
  have hl := h.len
  have h0 := h.t0
  cases hr : there l i 1 with
  | false =>
    have E := Lib.hid (show wri l i x = (1, l) by unfold wri; rw [hr]; rfl)
    have E2 := Lib.hid (show by1 l i t = t by unfold by1; rw [hr]; rfl)
    have H := Lib.hid h
    rw [there_not] at hr
    clear h
    by_cases hc : i < 0
    · clear hr
      go_enter Try.func49, Try.ntmps49
      go_wp2_with fail
      go_ret
      exact ⟨by rw [E.out]; rfl, by rw [E2.out, E.out]; exact H.out, But.refl _ _⟩
    · have hd : (l.length : Int) ≤ i := by omega
      clear hr
      go_enter Try.func49, Try.ntmps49
      go_wp2_with fail
      go_ret
      exact ⟨by rw [E.out]; rfl, by rw [E2.out, E.out]; exact H.out, But.refl _ _⟩
  | true =>
    have E := Lib.hid (show wri l i x = (0, l.set i.toNat x) by unfold wri; rw [hr]; rfl)
    have E2 := Lib.hid (show by1 l i t = t + 1 by unfold by1; rw [hr]; rfl)
    rw [there_iff] at hr
    obtain ⟨i, rfl⟩ : ∃ k : Nat, i = k := ⟨i.toNat, by omega⟩
    have hi : i < l.length := by omega
    have d0 := u64s_cell h.row hi
    have fz := h.row.frozen i
    have hne := h.ne
    have hne2 : c ≠ b := fun e => hne e.symm
    have H := Lib.hid h
    clear hr h
    go_enter Try.func49, Try.ntmps49
    go_wp2_with fail
    go_ret
    refine ⟨by rw [E.out]; rfl, ?_, ((But.refl _ _).setCell (.inl (.inl rfl)) _).setCell (.inl (.inr rfl)) _⟩
    rw [E2.out, E.out]
    exact ⟨by simpa using (H.out.blk.put 1 _ rfl).far hne _, u64s_set (H.out.row.far hne2 _) i x, H.out.ne, by simpa using H.out.len, by omega⟩

set_option maxHeartbeats 4000000 in
set_option maxRecDepth 100000 in
theorem ref_zero (b c : Nat) (l : List Int) (t i n : Int) (w : World) (h : Ar 78 w b c l t) (ht : t ≤ 1000000000000) :
    Calls Try.prog 47 #[.pointer (some ⟨b, 0, none⟩), .int .i64 i, .int .i64 n] w fun e w' =>
      e = .returned (.int .i64 (zr l i n).1) ∧ Ar 78 w' b c (zr l i n).2 (byn l i n t) ∧ But (fun k => k = b ∨ k = c) w w' := by
  have c0 : w.cell? ⟨b, 0, none⟩ = some (.slice (some ⟨c, 0, none⟩) l.length l.length) := h.blk.cell 0
  have hl := h.len
  have h0 := h.t0
  cases hr : there l i n with
  | false =>
    have E := Lib.hid (show zr l i n = (1, l) by unfold zr; rw [hr]; rfl)
    have E2 := Lib.hid (show byn l i n t = t by unfold byn; rw [hr]; rfl)
    have H := Lib.hid h
    rw [there_not] at hr
    clear h
    by_cases h1 : i < 0
    · clear hr
      go_enter Try.func47, Try.ntmps47
      go_wp2_with fail
      go_ret
      exact ⟨by rw [E.out]; rfl, by rw [E2.out, E.out]; exact H.out, But.refl _ _⟩
    by_cases h2 : n < 0
    · clear hr
      go_enter Try.func47, Try.ntmps47
      go_wp2_with fail
      go_ret
      exact ⟨by rw [E.out]; rfl, by rw [E2.out, E.out]; exact H.out, But.refl _ _⟩
    by_cases h3 : (l.length : Int) < i
    · clear hr
      go_enter Try.func47, Try.ntmps47
      go_wp2_with fail
      go_ret
      exact ⟨by rw [E.out]; rfl, by rw [E2.out, E.out]; exact H.out, But.refl _ _⟩
    have h4 : (l.length : Int) - i < n := by omega
    · clear hr
      go_enter Try.func47, Try.ntmps47
      go_wp2_with fail
      go_ret
      exact ⟨by rw [E.out]; rfl, by rw [E2.out, E.out]; exact H.out, But.refl _ _⟩
  | true =>
    have E := Lib.hid (show zr l i n = (0, zeroed l i.toNat n.toNat) by unfold zr; rw [hr]; rfl)
    have E2 := Lib.hid (show byn l i n t = t + n by unfold byn; rw [hr]; rfl)
    rw [there_iff] at hr
    obtain ⟨i, rfl⟩ : ∃ k : Nat, i = k := ⟨i.toNat, by omega⟩
    obtain ⟨n, rfl⟩ : ∃ k : Nat, n = k := ⟨n.toNat, by omega⟩
    have hi : i + n ≤ l.length := by omega
    have hne := h.ne
    have hne2 : c ≠ b := fun e => hne e.symm
    have H := Lib.hid h
    clear hr h
    go_enter Try.func47, Try.ntmps47
    go_wp2_with fail
    go_loopg [7] n (fun k j1 wr => ∃ (j : Nat), j + k = n ∧ j1 = .int .i64 j ∧ Ar 78 wr b c (zeroed l i j) (t + j) ∧ But (fun k => k = b ∨ k = c) w wr)
    case atStart => exact ⟨0, by omega, rfl, by rw [zeroed_zero]; simpa using H.out, But.refl _ _⟩
    case round =>
      obtain ⟨j, hj, rfl, hA, hB⟩ := hrel
      by_cases hlt : j < n
      · have hzl := zeroed_length (l := l) (i := i) (n := j) (by omega)
        have HZ := Lib.hid (zeroed_succ (l := l) (i := i) (n := j) (by omega))
        have k0 : wr.cell? ⟨b, 0, none⟩ = some (.slice (some ⟨c, 0, none⟩) (zeroed l i j).length (zeroed l i j).length) := hA.blk.cell 0
        rw [hzl] at k0
        have k1 : wr.cell? ⟨b, 1, none⟩ = some (.int .i64 (t + j)) := hA.blk.cell 1
        have f1 := hA.blk.frozen 1
        have d0 := u64s_cell hA.row (i := i + j) (by omega)
        have fz := hA.row.frozen (i + j)
        have HA := Lib.hid hA
        clear hA c0
        go_wp2_with fail
        go_roundg (n - (j + 1))
        case measure => omega
        case rel => exact ⟨j + 1, by omega, by go_num, by
          rw [← HZ.out]
          have e1 : t + ((j + 1 : Nat) : Int) = t + j + 1 := by omega
          rw [e1]
          exact ⟨by simpa using (HA.out.blk.far hne _).put 1 _ rfl, (u64s_set HA.out.row (i + j) 0).far hne2 _, hne, by simpa using HA.out.len, by omega⟩, (hB.setCell (.inl (.inr rfl)) _).setCell (.inl (.inl rfl)) _⟩
      · obtain rfl : j = n := by omega
        have HA := Lib.hid hA
        clear hA
        go_wp2_with fail
        go_ret
        exact ⟨by rw [E.out]; rfl, by rw [E2.out, E.out]; simpa using HA.out, hB⟩

end Arena
end Go.Proofs.Ytboajbbnnbnpaaa
