/- The document's answer for layer 1 (conf), walked. -/
import Derived.Test.YtngbhhcicakolaaConfMore
import Derived.Test.YtngbhhcicakolaaLists
set_option linter.unusedVariables false
set_option linter.unusedSimpArgs false
namespace Go.Proofs.Ytngbhhcicakolaa
open Go.RowKit

namespace Conf

/-- The class of each cell, in order. -/
def cl (s : Sh) : List Int := List.replicate s.c0.toNat 0 ++ (List.replicate s.c1.toNat 1 ++ List.replicate s.c2.toNat 2)
/-- Those of the classes below j. -/
def clTo (s : Sh) (j : Nat) : List Int := if j = 0 then [] else if j = 1 then List.replicate s.c0.toNat 0 else if j = 2 then List.replicate s.c0.toNat 0 ++ List.replicate s.c1.toNat 1 else cl s
theorem clTo_succ (s : Sh) {j : Nat} (h : j < 3) : clTo s (j + 1) = clTo s j ++ List.replicate (cellOf s j).toNat (j : Int) := by
  obtain rfl | rfl | rfl : j = 0 ∨ j = 1 ∨ j = 2 := by omega
  all_goals simp [clTo, cellOf, cl]
def sizes (l : List Int) : Int := (l.map size).sum
theorem sizes_rep (n : Nat) (x : Int) : sizes (List.replicate n x) = n * size x := by
  induction n with
  | zero => simp [sizes]
  | succ n ih =>
    rw [List.replicate_succ]; unfold sizes at ih ⊢; simp [ih, Int.add_mul]; omega
theorem sizes_app (l m : List Int) : sizes (l ++ m) = sizes l + sizes m := by unfold sizes; simp
theorem cl_length {s : Sh} (h : ok s = true) : ((cl s).length : Int) = count s := by
  have hb := (ok_iff s).1 h
  unfold count cl; rw [if_pos h]; simp; omega
theorem cl_words {s : Sh} (h : ok s = true) : sizes (cl s) = words s := by
  have hb := (ok_iff s).1 h
  unfold words cl; rw [if_pos h, sizes_app, sizes_app, sizes_rep, sizes_rep, sizes_rep]
  simp [size]; omega
theorem cl_at {s : Sh} (h : ok s = true) {i : Nat} (hi : i < (cl s).length) : (find s i).2 = sizes ((cl s).take i) ∧ (find s i).1 = (cl s).getD i 0 := by
  have hb := (ok_iff s).1 h
  have hl : (cl s).length = s.c0.toNat + (s.c1.toNat + s.c2.toNat) := by simp [cl]
  rw [hl] at hi
  have ht : sizes ((cl s).take i) = ((min i s.c0.toNat : Nat) : Int) * 2 + (((min (i - s.c0.toNat) s.c1.toNat : Nat) : Int) * 3 + ((min (i - s.c0.toNat - s.c1.toNat) s.c2.toNat : Nat) : Int) * 5) := by
    unfold cl
    rw [List.take_append, List.take_append, sizes_app, sizes_app, List.take_replicate, List.take_replicate, List.take_replicate, sizes_rep, sizes_rep, sizes_rep]
    simp [size]
  rw [ht]
  unfold find cl
  rw [if_pos ⟨h, by omega⟩]
  by_cases h1 : (i : Int) < s.c0
  · rw [if_pos h1]
    refine ⟨by simp; omega, ?_⟩
    have : i < s.c0.toNat := by omega
    simp [List.getD, List.getElem?_append, this]
  · rw [if_neg h1]
    by_cases h2 : (i : Int) - s.c0 < s.c1
    · rw [if_pos h2]
      refine ⟨by simp; omega, ?_⟩
      have g1 : ¬ i < s.c0.toNat := by omega
      have g2 : i - s.c0.toNat < s.c1.toNat := by omega
      simp [List.getD, List.getElem?_append, g1, g2]
    · rw [if_neg h2, if_pos (by omega)]
      refine ⟨by simp; omega, ?_⟩
      have g1 : ¬ i < s.c0.toNat := by omega
      have g2 : ¬ i - s.c0.toNat < s.c1.toNat := by omega
      have g3 : i - s.c0.toNat - s.c1.toNat < s.c2.toNat := by omega
      simp [List.getD, List.getElem?_append, g1, g2, g3]
theorem cl_mem (s : Sh) : ∀ c ∈ cl s, c = 0 ∨ c = 1 ∨ c = 2 := by
  intro c hc; simp [cl] at hc; omega
theorem sizes_succ {l : List Int} {j : Nat} (h : j < l.length) : sizes (l.take (j + 1)) = sizes (l.take j) + size (l.getD j 0) := by
  rw [take_succ_getD h, sizes_app]; simp [sizes]
theorem sizes_bd {l : List Int} (h : ∀ c ∈ l, c = 0 ∨ c = 1 ∨ c = 2) : 0 ≤ sizes l ∧ sizes l ≤ 5 * l.length := by
  induction l with
  | nil => simp [sizes]
  | cons c l ih =>
    have h1 := ih (fun x hx => h x (by simp [hx]))
    have h2 := h c (by simp)
    unfold sizes at h1 ⊢
    simp
    rcases h2 with rfl | rfl | rfl <;> simp [size] <;> omega

set_option maxHeartbeats 400000 in
theorem ref_slots (c : Int) (w : World) : Calls Try.prog 40 #[.int .i64 c] w fun e w' => e = .returned (.int .i64 (slots c)) ∧ w = w' := by
  by_cases h : c = 0 ∨ c = 1 ∨ c = 2
  · rcases h with rfl | rfl | rfl
    all_goals
      go_enter Try.func40, Try.ntmps40
      go_wp2
      go_ret
      exact ⟨rfl, rfl⟩
  · have t0 : (c == 0) = false := by simp; omega
    have t1 : (c == 1) = false := by simp; omega
    have t2 : (c == 2) = false := by simp; omega
    have E := Lib.hid (show slots c = 0 by unfold slots; rw [if_neg (by omega), if_neg (by omega), if_neg (by omega)])
    clear h
    go_enter Try.func40, Try.ntmps40
    go_wp2
    go_ret
    exact ⟨by rw [E.out]; rfl, rfl⟩
set_option maxHeartbeats 400000 in
theorem ref_size (c : Int) (w : World) : Calls Try.prog 37 #[.int .i64 c] w fun e w' => e = .returned (.int .i64 (size c)) ∧ w = w' := by
  have hb : slots c ≤ 4 := by unfold slots; split <;> (try split) <;> (try split) <;> omega
  rcases slots_size c with ⟨h1, h2⟩ | ⟨h1, h2⟩
  · have E := Lib.hid h2
    have t0 : (slots c == 0) = false := by simp; omega
    clear h2
    go_enter Try.func37, Try.ntmps37
    go_wp2_with fail
    refine (ref_slots c _).mono ?_
    rintro e w1 ⟨rfl, rfl⟩
    go_wp2_with fail
    go_ret
    exact ⟨by rw [E.out]; rfl, rfl⟩
  · have E := Lib.hid h2
    have E1 := Lib.hid h1
    clear h2 h1
    go_enter Try.func37, Try.ntmps37
    go_wp2_with fail
    refine (ref_slots c _).mono ?_
    rintro e w1 ⟨rfl, rfl⟩
    rw [E1.out]
    go_wp2_with fail
    go_ret
    exact ⟨by rw [E.out]; rfl, rfl⟩

set_option maxHeartbeats 1000000 in
set_option maxRecDepth 100000 in
theorem ref_share (s : Sh) (w : World) : Calls Try.prog 8 #[.agg (sh s)] w fun e w' => e = .returned (.bool (ok s)) ∧ But (fun _ => False) w w' := by
  have hB := (Blk.new w (sh s) 24)
  have k3 : (w.alloc (.cells (sh s) 24)).cell? ⟨w.heap.size, 3, none⟩ = some (.int .i64 s.q) := hB.cell 3
  have k4 : (w.alloc (.cells (sh s) 24)).cell? ⟨w.heap.size, 4, none⟩ = some (.int .i64 s.st) := hB.cell 4
  have G := (But.refl (fun _ => False) w).alloc (.cells (sh s) 24)
  go_enter Try.func8, Try.ntmps8
  go_wp2_with fail
  go_loopg [3] 3 (fun k i wr => ∃ j : Nat, j + k = 3 ∧ i = .int .i64 j ∧ wr = w.alloc (.cells (sh s) 24) ∧ ∀ i, i < j → fits (cellOf s i) = true)
  case atStart => exact ⟨0, by omega, rfl, rfl, fun i hi => by omega⟩
  case round =>
    obtain ⟨j, hj, rfl, rfl, hf⟩ := hrel
    by_cases hlt : j < 3
    · have hc := sh_cell hB hlt
      have HF := Lib.hid hf
      clear hf
      by_cases h1 : cellOf s j < 0
      · have E := Lib.hid (not_ok hlt (not_fits (.inl h1)))
        go_wp2_with fail
        go_ret
        exact ⟨by rw [E.out]; rfl, G⟩
      · by_cases h2 : 64 < cellOf s j
        · have E := Lib.hid (not_ok hlt (not_fits (.inr h2)))
          go_wp2_with fail
          go_ret
          exact ⟨by rw [E.out]; rfl, G⟩
        · have E := Lib.hid (is_fits (Int.not_lt.1 h1) (Int.not_lt.1 h2))
          go_wp2_with fail
          go_roundg (3 - (j + 1))
          case measure => omega
          case rel => exact ⟨j + 1, by omega, by go_num, rfl, fun i hi => by by_cases e : i = j; subst e; exact E.out; exact HF.out i (by omega)⟩
    · have E := Lib.hid (all_ok (fun i hi => hf i (by omega)))
      clear hf
      by_cases h1 : 0 ≤ s.q
      · by_cases h2 : s.q ≤ 65536
        · by_cases h3 : 1 ≤ s.st
          · go_wp2_with fail
            go_ret
            exact ⟨by rw [E.out]; simp [h1, h2, h3]; omega, G⟩
          · go_wp2_with fail
            go_ret
            exact ⟨by rw [E.out]; simp [h3]; omega, G⟩
        · go_wp2_with fail
          go_ret
          exact ⟨by rw [E.out]; simp [h2]; omega, G⟩
      · go_wp2_with fail
        go_ret
        exact ⟨by rw [E.out]; simp [h1]; omega, G⟩


set_option maxHeartbeats 4000000 in
set_option maxRecDepth 100000 in
theorem ref_classes (s : Sh) (w : World) (hok : ok s = true) : Calls Try.prog 36 #[.agg (sh s)] w (Copied (ints (cl s)) (cl s).length w) := by
  obtain ⟨i0, hi, hz0, hz1, hz2⟩ := info_parts infoInt
  have HAB := Lib.hid (ahead_bd hok)
  have HCL := Lib.hid (show (cl s).length ≤ 192 by have := cl_length hok; have := count_bd s; omega)
  clear hok
  go_enter Try.func36, Try.ntmps36
  go_wp2_with fail
  go_loopg [3, 4] 3 (fun k u i wr => ∃ (j m : Nat) (a1 : Option Addr) (cap1 : Nat) (o1 : Option Nat), j + k = 3 ∧ i = .int .i64 j ∧ m ≤ 1000 * j ∧ u = .slice a1 m cap1 ∧ Row wr 3 1 (.slice a1 m cap1) o1 m (ints (clTo s j)) ∧ (∀ k, o1 = some k → w.heap.size + 1 ≤ k) ∧ Blk wr w.heap.size (sh s) 24 ∧ But (fun _ => False) w wr)
  case atStart => exact ⟨0, 0, none, 0, none, by omega, rfl, by omega, rfl, Row.nil _ _ _, (fun k hk => by cases hk), Blk.new _ _ _, (But.refl _ _).alloc _⟩
  case round =>
    obtain ⟨j, m, a1, cap1, o1, hj, rfl, hm, rfl, hR1, hN1, hK1, hB1⟩ := hrel
    by_cases hlt : j < 3
    · have hb := HAB.out j
      obtain ⟨C, hC⟩ : ∃ C : Nat, cellOf s j = C := ⟨(cellOf s j).toNat, by omega⟩
      have hs0 := clTo_succ s hlt
      rw [hC, Int.toNat_natCast] at hs0
      have hs := Lib.hid hs0
      have HC := Lib.hid (show ∀ wr, Blk wr w.heap.size (sh s) 24 → wr.cell? ⟨w.heap.size, j, none⟩ = some (.int .i64 (C : Int)) from fun wr h => by rw [← hC]; exact sh_cell h hlt)
      have hC64 : C ≤ 64 := by omega
      have t3 : decide ((j : Int) < 3) = true := by simp; omega
      clear hs0 hC hb
      go_wp2_with fail
      go_loopg [3, 5] C (fun k u i wr => ∃ (t m : Nat) (a1 : Option Addr) (cap1 : Nat) (o1 : Option Nat), t + k = C ∧ i = .int .i64 t ∧ m ≤ 1000 * j + t ∧ u = .slice a1 m cap1 ∧ Row wr 3 1 (.slice a1 m cap1) o1 m (ints (clTo s j ++ List.replicate t (j : Int))) ∧ (∀ k, o1 = some k → w.heap.size + 1 ≤ k) ∧ Blk wr w.heap.size (sh s) 24 ∧ But (fun _ => False) w wr)
      case atStart => exact ⟨0, m, a1, cap1, o1, by omega, rfl, by omega, rfl, by simpa using hR1, hN1, hK1, hB1⟩
      case round =>
        obtain ⟨t, m2, a2, cap2, o2, ht, rfl, hm2, rfl, hR2, hN2, hK2, hB2⟩ := hrel
        have hc := HC.out _ hK2
        by_cases hlt2 : t < C
        · have hl4 : m2 + 1 ≤ maxLen := by unfold maxLen; omega
          have hl5 : (m2 + 1) * 8 ≤ 140737488355328 := by omega
          go_wp2_with (at_builtin; refine wpList_append_row _ rfl _ _ _ rfl 3 i0 (.int .i64 0) 1 8 Try.underlying51 hi hz0 hz1 hz2 rfl (by decide) _ o2 m2 (ints (clTo s j ++ List.replicate t (j : Int))) (hR2.alloc _) rfl ⟨_, 0, none⟩ 1 1 [.int .i64 (j : Int)] rfl rfl (cell_one_new _ _ _) (by simp [Value.oneCell']) hl4 hl5 ?_; intro v3 w3 o3 hR3 hB3 hN3; obtain ⟨a3, cap3, rfl, _, _⟩ := hR3.val)
          go_roundg (C - (t + 1))
          case measure => omega
          case rel =>
            have hsz := hB2.size
            refine ⟨t + 1, m2 + 1, a3, cap3, o3, by omega, by go_num, by omega, rfl, ?_, fun k hk => ?_, ?_, ?_⟩
            · have : ints (clTo s j ++ List.replicate (t + 1) (j : Int)) = ints (clTo s j ++ List.replicate t (j : Int)) ++ [.int .i64 (j : Int)] := by simp [ints, List.replicate_succ']
              rw [this]; exact hR3
            · rcases hN3 k hk with h | h
              · exact hN2 k h
              · simp at h
                have := hK2.lt
                omega
            · exact (hK2.alloc _).but hB3 (fun h => by have := hN2 _ h; omega)
            · exact (hB2.alloc _).trans' hB3 (fun k hk => .inr (by have := hN2 k hk; omega))
        · obtain rfl : t = C := by omega
          go_wp2_with fail
          go_roundg (3 - (j + 1))
          case measure => omega
          case rel => exact ⟨j + 1, m2, a2, cap2, o2, by omega, by go_num, by omega, rfl, by rw [hs.out]; exact hR2, hN2, hK2, hB2⟩
    · obtain rfl : j = 3 := by omega
      go_wp2_with fail
      go_ret
      have hl := hR1.ints_len
      exact ⟨.slice a1 m cap1, o1, rfl, by rw [show (cl s).length = m from hl]; exact hR1, fun k hk => by have := hN1 k hk; omega, hB1⟩

set_option maxHeartbeats 2000000 in
set_option maxRecDepth 100000 in
theorem ref_count (s : Sh) (w : World) : Calls Try.prog 39 #[.agg (sh s)] w fun e w' => e = .returned (.int .i64 (count s)) ∧ But (fun _ => False) w w' := by
  have hB0 := (Blk.new w (sh s) 24)
  have k0 : (w.alloc (.cells (sh s) 24)).cell? ⟨w.heap.size, 0, none⟩ = some (.int .i64 s.c0) := hB0.cell 0
  have k1 : (w.alloc (.cells (sh s) 24)).cell? ⟨w.heap.size, 1, none⟩ = some (.int .i64 s.c1) := hB0.cell 1
  have k2 : (w.alloc (.cells (sh s) 24)).cell? ⟨w.heap.size, 2, none⟩ = some (.int .i64 s.c2) := hB0.cell 2
  have k3 : (w.alloc (.cells (sh s) 24)).cell? ⟨w.heap.size, 3, none⟩ = some (.int .i64 s.q) := hB0.cell 3
  have k4 : (w.alloc (.cells (sh s) 24)).cell? ⟨w.heap.size, 4, none⟩ = some (.int .i64 s.st) := hB0.cell 4
  cases hok : ok s with
  | false =>
    have E := Lib.hid (count_no hok)
    have O := Lib.hid hok
    clear hok
    go_enter Try.func39, Try.ntmps39
    go_wp2_with fail
    refine (ref_share s _).mono ?_
    rintro e w1 ⟨rfl, g1⟩
    rw [O.out]
    go_wp2_with fail
    go_ret
    exact ⟨by rw [E.out]; rfl, ((But.refl _ _).alloc _).trans g1⟩
  | true =>
    have E := Lib.hid (cl_length hok)
    have O := Lib.hid hok
    clear hok
    go_enter Try.func39, Try.ntmps39
    go_wp2_with fail
    refine (ref_share s _).mono ?_
    rintro e w1 ⟨rfl, g1⟩
    rw [O.out]
    have hB := hB0.but g1 (fun h => h)
    have q0 : w1.cell? ⟨w.heap.size, 0, none⟩ = some (.int .i64 s.c0) := hB.cell 0
    have q1 : w1.cell? ⟨w.heap.size, 1, none⟩ = some (.int .i64 s.c1) := hB.cell 1
    have q2 : w1.cell? ⟨w.heap.size, 2, none⟩ = some (.int .i64 s.c2) := hB.cell 2
    have q3 : w1.cell? ⟨w.heap.size, 3, none⟩ = some (.int .i64 s.q) := hB.cell 3
    have q4 : w1.cell? ⟨w.heap.size, 4, none⟩ = some (.int .i64 s.st) := hB.cell 4
    go_wp2_with fail
    refine (ref_classes s _ O.out).mono ?_
    rintro e w2 ⟨v2, o2, rfl, hR2, hN2, hB2⟩
    obtain ⟨a2, cap2, rfl, _, _⟩ := hR2.val
    go_wp2_with fail
    go_ret
    exact ⟨by rw [← E.out]; rfl, (((But.refl _ _).alloc _).trans g1).trans hB2⟩

theorem find_neg {s : Sh} (h : ok s = true) {i : Int} (hi : i < 0 ∨ ((cl s).length : Int) ≤ i) : find s i = (-1, -1) := by
  rcases hi with hi | hi
  · exact find_none (.inr (.inl hi))
  · exact find_none (.inr (.inr ⟨h, by rw [less3 h, ← cl_length h]; exact hi⟩))
theorem find_pos {s : Sh} (h : ok s = true) {i : Nat} (hi : i < (cl s).length) : 0 ≤ (find s i).1 ∧ (find s i).1 ≤ 2 ∧ 0 ≤ (find s i).2 := by
  obtain ⟨h1, h2⟩ := cl_at h hi
  have h3 := cl_mem s ((cl s).getD i 0) (by simp [List.getD, List.getElem?_eq_getElem hi])
  have h4 := sizes_bd (l := (cl s).take i) (fun c hc => cl_mem s c (List.mem_of_mem_take hc))
  rw [h1, h2]; omega

set_option maxHeartbeats 2000000 in
set_option maxRecDepth 100000 in
theorem ref_class (s : Sh) (i : Int) (w : World) : Calls Try.prog 41 #[.agg (sh s), .int .i64 i] w fun e w' => e = .returned (.int .i64 (find s i).1) ∧ But (fun _ => False) w w' := by
  have hB0 := (Blk.new w (sh s) 24)
  have k0 : (w.alloc (.cells (sh s) 24)).cell? ⟨w.heap.size, 0, none⟩ = some (.int .i64 s.c0) := hB0.cell 0
  have k1 : (w.alloc (.cells (sh s) 24)).cell? ⟨w.heap.size, 1, none⟩ = some (.int .i64 s.c1) := hB0.cell 1
  have k2 : (w.alloc (.cells (sh s) 24)).cell? ⟨w.heap.size, 2, none⟩ = some (.int .i64 s.c2) := hB0.cell 2
  have k3 : (w.alloc (.cells (sh s) 24)).cell? ⟨w.heap.size, 3, none⟩ = some (.int .i64 s.q) := hB0.cell 3
  have k4 : (w.alloc (.cells (sh s) 24)).cell? ⟨w.heap.size, 4, none⟩ = some (.int .i64 s.st) := hB0.cell 4
  cases hok : ok s with
  | false =>
    have E := Lib.hid (find_none (s := s) (i := i) (.inl hok))
    have O := Lib.hid hok
    clear hok
    go_enter Try.func41, Try.ntmps41
    go_wp2_with fail
    refine (ref_share s _).mono ?_
    rintro e w1 ⟨rfl, g1⟩
    rw [O.out]
    go_wp2_with fail
    go_ret
    exact ⟨by rw [E.out]; rfl, ((But.refl _ _).alloc _).trans g1⟩
  | true =>
    have HL := Lib.hid (show (cl s).length ≤ 192 by have := cl_length hok; have := count_bd s; omega)
    have O := Lib.hid hok
    clear hok
    go_enter Try.func41, Try.ntmps41
    go_wp2_with fail
    refine (ref_share s _).mono ?_
    rintro e w1 ⟨rfl, g1⟩
    rw [O.out]
    have hB := hB0.but g1 (fun h => h)
    have q0 : w1.cell? ⟨w.heap.size, 0, none⟩ = some (.int .i64 s.c0) := hB.cell 0
    have q1 : w1.cell? ⟨w.heap.size, 1, none⟩ = some (.int .i64 s.c1) := hB.cell 1
    have q2 : w1.cell? ⟨w.heap.size, 2, none⟩ = some (.int .i64 s.c2) := hB.cell 2
    have q3 : w1.cell? ⟨w.heap.size, 3, none⟩ = some (.int .i64 s.q) := hB.cell 3
    have q4 : w1.cell? ⟨w.heap.size, 4, none⟩ = some (.int .i64 s.st) := hB.cell 4
    go_wp2_with fail
    refine (ref_classes s _ O.out).mono ?_
    rintro e w2 ⟨v2, o2, rfl, hR2, hN2, hB2⟩
    obtain ⟨a2, cap2, rfl, _, _⟩ := hR2.val
    have hl0 := HL.out
    generalize hn : (cl s).length = n at *
    have HN := Lib.hid hn
    clear hn
    by_cases h1 : i < 0
    · have E := Lib.hid (find_neg O.out (.inl h1))
      go_wp2_with fail
      go_ret
      exact ⟨by rw [E.out]; rfl, (((But.refl _ _).alloc _).trans g1).trans hB2⟩
    by_cases h2 : (n : Int) ≤ i
    · have E := Lib.hid (find_neg O.out (i := i) (.inr (by rw [HN.out]; exact h2)))
      go_wp2_with fail
      go_ret
      exact ⟨by rw [E.out]; rfl, (((But.refl _ _).alloc _).trans g1).trans hB2⟩
    obtain ⟨j, rfl⟩ := Int.eq_ofNat_of_zero_le (Int.not_lt.1 h1)
    have hj : j < n := by omega
    have E := Lib.hid (cl_at O.out (i := j) (by rw [HN.out]; exact hj)).2
    obtain ⟨b, off, rfl, _, hc⟩ := hR2.ints_at j hj
    clear h1 h2
    generalize (cl s).getD j 0 = y at *
    go_wp2_with fail
    go_ret
    exact ⟨by rw [E.out]; rfl, (((But.refl _ _).alloc _).trans g1).trans hB2⟩

set_option maxHeartbeats 2000000 in
set_option maxRecDepth 100000 in
theorem ref_at (s : Sh) (i : Int) (w : World) : Calls Try.prog 57 #[.agg (sh s), .int .i64 i] w fun e w' => e = .returned (.int .i64 (find s i).2) ∧ But (fun _ => False) w w' := by
  have hB0 := (Blk.new w (sh s) 24)
  have k0 : (w.alloc (.cells (sh s) 24)).cell? ⟨w.heap.size, 0, none⟩ = some (.int .i64 s.c0) := hB0.cell 0
  have k1 : (w.alloc (.cells (sh s) 24)).cell? ⟨w.heap.size, 1, none⟩ = some (.int .i64 s.c1) := hB0.cell 1
  have k2 : (w.alloc (.cells (sh s) 24)).cell? ⟨w.heap.size, 2, none⟩ = some (.int .i64 s.c2) := hB0.cell 2
  have k3 : (w.alloc (.cells (sh s) 24)).cell? ⟨w.heap.size, 3, none⟩ = some (.int .i64 s.q) := hB0.cell 3
  have k4 : (w.alloc (.cells (sh s) 24)).cell? ⟨w.heap.size, 4, none⟩ = some (.int .i64 s.st) := hB0.cell 4
  by_cases hbad : ok s = false ∨ i < 0 ∨ ((cl s).length : Int) ≤ i
  · have E := Lib.hid (show find s i = (-1, -1) by
      cases hok : ok s with
      | false => exact find_none (.inl hok)
      | true => rcases hbad with h | h | h; rw [h] at hok; cases hok; exact find_neg hok (.inl h); exact find_neg hok (.inr h))
    have hr := ref_class s i
    rw [E.out] at hr
    have HR := Lib.hid hr
    clear hr hbad
    go_enter Try.func57, Try.ntmps57
    go_wp2_with fail
    refine (HR.out _).mono ?_
    rintro e w1 ⟨rfl, g1⟩
    go_wp2_with fail
    go_ret
    exact ⟨by rw [E.out]; rfl, ((But.refl _ _).alloc _).trans g1⟩
  · have hok : ok s = true := by cases h : ok s with | true => rfl | false => exact absurd (.inl h) hbad
    have h0 : 0 ≤ i := by by_cases h : i < 0; exact absurd (.inr (.inl h)) hbad; omega
    have h1 : i < (cl s).length := by by_cases h : ((cl s).length : Int) ≤ i; exact absurd (.inr (.inr h)) hbad; omega
    obtain ⟨m, rfl⟩ := Int.eq_ofNat_of_zero_le h0
    have hm : m < (cl s).length := by omega
    have hp := find_pos hok hm
    have HL := Lib.hid (show (cl s).length ≤ 192 by have := cl_length hok; have := count_bd s; omega)
    have E := Lib.hid (cl_at hok hm).1
    have O := Lib.hid hok
    have HM := Lib.hid hm
    clear hok h0 h1 hbad hm
    go_enter Try.func57, Try.ntmps57
    go_wp2_with fail
    refine (ref_class s m _).mono ?_
    rintro e w1 ⟨rfl, g1⟩
    have hB := hB0.but g1 (fun h => h)
    have q0 : w1.cell? ⟨w.heap.size, 0, none⟩ = some (.int .i64 s.c0) := hB.cell 0
    have q1 : w1.cell? ⟨w.heap.size, 1, none⟩ = some (.int .i64 s.c1) := hB.cell 1
    have q2 : w1.cell? ⟨w.heap.size, 2, none⟩ = some (.int .i64 s.c2) := hB.cell 2
    have q3 : w1.cell? ⟨w.heap.size, 3, none⟩ = some (.int .i64 s.q) := hB.cell 3
    have q4 : w1.cell? ⟨w.heap.size, 4, none⟩ = some (.int .i64 s.st) := hB.cell 4
    go_wp2_with fail
    refine (ref_classes s _ O.out).mono ?_
    rintro e w2 ⟨v2, o2, rfl, hR2, hN2, hB2⟩
    obtain ⟨a2, cap2, rfl, _, _⟩ := hR2.val
    have hl0 := HL.out
    have hm := HM.out
    generalize hn : (cl s).length = n at *
    have HN := Lib.hid hn
    have HR2 := Lib.hid hR2
    clear hn hR2
    have G := (((But.refl (fun _ => False) w).alloc (.cells (sh s) 24)).trans g1).trans hB2
    go_wp2_with fail
    go_loopg [6, 7] m (fun k u i wr => ∃ j : Nat, j + k = m ∧ u = .int .i64 (sizes ((cl s).take j)) ∧ i = .int .i64 j ∧ wr = w2)
    case atStart => exact ⟨0, by omega, rfl, rfl, rfl⟩
    case round =>
      obtain ⟨j, hj, rfl, rfl, rfl⟩ := hrel
      have hsb := sizes_bd (l := (cl s).take j) (fun c hc => cl_mem s c (List.mem_of_mem_take hc))
      have hsl : ((cl s).take j).length ≤ j := List.length_take_le _ _
      by_cases hlt : j < m
      · obtain ⟨b, off, rfl, _, hc⟩ := HR2.out.ints_at j (by omega)
        have HS := Lib.hid (sizes_succ (l := cl s) (j := j) (by rw [HN.out]; omega))
        have hsz : 0 ≤ size ((cl s).getD j 0) ∧ size ((cl s).getD j 0) ≤ 5 := by unfold size; split <;> (try split) <;> (try split) <;> omega
        generalize (cl s).getD j 0 = y at *
        go_wp2_with fail
        refine (ref_size y _).mono ?_
        rintro e w3 ⟨rfl, rfl⟩
        go_wp2_with fail
        go_roundg (m - (j + 1))
        case measure => omega
        case rel => exact ⟨j + 1, by omega, by rw [HS.out], by go_num, rfl⟩
      · obtain rfl : j = m := by omega
        go_wp2_with fail
        go_ret
        exact ⟨by rw [E.out]; rfl, G⟩

set_option maxHeartbeats 2000000 in
set_option maxRecDepth 100000 in
theorem ref_words (s : Sh) (w : World) : Calls Try.prog 9 #[.agg (sh s)] w fun e w' => e = .returned (.int .i64 (words s)) ∧ But (fun _ => False) w w' := by
  have hB0 := (Blk.new w (sh s) 24)
  have k0 : (w.alloc (.cells (sh s) 24)).cell? ⟨w.heap.size, 0, none⟩ = some (.int .i64 s.c0) := hB0.cell 0
  have k1 : (w.alloc (.cells (sh s) 24)).cell? ⟨w.heap.size, 1, none⟩ = some (.int .i64 s.c1) := hB0.cell 1
  have k2 : (w.alloc (.cells (sh s) 24)).cell? ⟨w.heap.size, 2, none⟩ = some (.int .i64 s.c2) := hB0.cell 2
  have k3 : (w.alloc (.cells (sh s) 24)).cell? ⟨w.heap.size, 3, none⟩ = some (.int .i64 s.q) := hB0.cell 3
  have k4 : (w.alloc (.cells (sh s) 24)).cell? ⟨w.heap.size, 4, none⟩ = some (.int .i64 s.st) := hB0.cell 4
  cases hok : ok s with
  | false =>
    have E := Lib.hid (show words s = 0 by unfold words; rw [hok]; rfl)
    have O := Lib.hid hok
    clear hok
    go_enter Try.func9, Try.ntmps9
    go_wp2_with fail
    refine (ref_share s _).mono ?_
    rintro e w1 ⟨rfl, g1⟩
    rw [O.out]
    go_wp2_with fail
    go_ret
    exact ⟨by rw [E.out]; rfl, ((But.refl _ _).alloc _).trans g1⟩
  | true =>
    have HL := Lib.hid (show (cl s).length ≤ 192 by have := cl_length hok; have := count_bd s; omega)
    have E := Lib.hid (cl_words hok)
    have O := Lib.hid hok
    clear hok
    go_enter Try.func9, Try.ntmps9
    go_wp2_with fail
    refine (ref_share s _).mono ?_
    rintro e w1 ⟨rfl, g1⟩
    rw [O.out]
    have hB := hB0.but g1 (fun h => h)
    have q0 : w1.cell? ⟨w.heap.size, 0, none⟩ = some (.int .i64 s.c0) := hB.cell 0
    have q1 : w1.cell? ⟨w.heap.size, 1, none⟩ = some (.int .i64 s.c1) := hB.cell 1
    have q2 : w1.cell? ⟨w.heap.size, 2, none⟩ = some (.int .i64 s.c2) := hB.cell 2
    have q3 : w1.cell? ⟨w.heap.size, 3, none⟩ = some (.int .i64 s.q) := hB.cell 3
    have q4 : w1.cell? ⟨w.heap.size, 4, none⟩ = some (.int .i64 s.st) := hB.cell 4
    go_wp2_with fail
    refine (ref_classes s _ O.out).mono ?_
    rintro e w2 ⟨v2, o2, rfl, hR2, hN2, hB2⟩
    obtain ⟨a2, cap2, rfl, _, _⟩ := hR2.val
    have hl0 := HL.out
    generalize hn : (cl s).length = n at *
    have HN := Lib.hid hn
    have HR2 := Lib.hid hR2
    clear hn hR2
    have G := (((But.refl (fun _ => False) w).alloc (.cells (sh s) 24)).trans g1).trans hB2
    go_wp2_with fail
    go_loopg [5, 6] n (fun k u i wr => ∃ j : Nat, j + k = n ∧ u = .int .i64 (sizes ((cl s).take j)) ∧ i = .int .i64 j ∧ wr = w2)
    case atStart => exact ⟨0, by omega, rfl, rfl, rfl⟩
    case round =>
      obtain ⟨j, hj, rfl, rfl, rfl⟩ := hrel
      have hsb := sizes_bd (l := (cl s).take j) (fun c hc => cl_mem s c (List.mem_of_mem_take hc))
      have hsl : ((cl s).take j).length ≤ j := List.length_take_le _ _
      by_cases hlt : j < n
      · obtain ⟨b, off, rfl, _, hc⟩ := HR2.out.ints_at j (by omega)
        have HS := Lib.hid (sizes_succ (l := cl s) (j := j) (by rw [HN.out]; omega))
        have hsz : 0 ≤ size ((cl s).getD j 0) ∧ size ((cl s).getD j 0) ≤ 5 := by unfold size; split <;> (try split) <;> (try split) <;> omega
        generalize (cl s).getD j 0 = y at *
        go_wp2_with fail
        refine (ref_size y _).mono ?_
        rintro e w3 ⟨rfl, rfl⟩
        go_wp2_with fail
        go_roundg (n - (j + 1))
        case measure => omega
        case rel => exact ⟨j + 1, by omega, by rw [HS.out], by go_num, rfl⟩
      · go_wp2_with fail
        go_ret
        have e2 : (cl s).take j = cl s := List.take_of_length_le (by rw [HN.out]; omega)
        refine ⟨ret_eq ?_, G⟩
        show Value.int .i64 (sizes ((cl s).take j)) = _
        rw [e2, E.out]


end Conf
end Go.Proofs.Ytngbhhcicakolaa
