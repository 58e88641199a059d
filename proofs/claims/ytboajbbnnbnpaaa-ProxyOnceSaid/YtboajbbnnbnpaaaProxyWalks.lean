/- The functions of package proxy walked: what each call does to the table's block. -/
import Derived.Test.YtboajbbnnbnpaaaRows
import Derived.Test.YtboajbbnnbnpaaaProxyPure
import Derived.Test.YtboajbbnnbnpaaaRow
import Derived.StillTailTactics
import Derived.IntWalk
import Derived.BigFrame
set_option linter.unusedVariables false
set_option linter.unusedSimpArgs false
namespace Go.Proofs.Ytboajbbnnbnpaaa
open Go.RowKit

namespace Proxy

/-- A table: its block is known whole. -/
structure Tb (w : World) (b : Nat) (l : List En) : Prop where
  blk : Blk w b (encs l).toArray 133
  len : l.length = 8

theorem Tb.but {w w' : World} {b : Nat} {l : List En} (h : Tb w b l) {S : Nat → Prop} (hb : But S w w') (hs : ¬ S b) : Tb w' b l := ⟨h.blk.but hb hs, h.len⟩
theorem Tb.drewN {w : World} {b : Nat} {l : List En} (h : Tb w b l) (n : Nat) : Tb (w.drewN n) b l := ⟨h.blk.drewN n, h.len⟩
theorem Tb.range {w : World} {b : Nat} {l : List En} (h : Tb w b l) : w.rangeAt b 0 (encs l) := fun j v hv => by rw [Nat.zero_add, h.blk.cell]; simpa using hv
theorem Tb.lt {w : World} {b : Nat} {l : List En} (h : Tb w b l) : b < w.heap.size := h.blk.lt
theorem Tb.cells {w : World} {b : Nat} {l : List En} (h : Tb w b l) {i : Nat} (hi : i < 8) :
    w.cell? ⟨b, i * 4, none⟩ = some (.int .i64 (ent l i).is) ∧ w.cell? ⟨b, i * 4 + 1, none⟩ = some (.int .i64 (ent l i).gen) ∧ w.cell? ⟨b, i * 4 + 2, none⟩ = some (.int .i64 (ent l i).cell) ∧ w.cell? ⟨b, i * 4 + 3, none⟩ = some (.int .i64 (ent l i).cg) := by
  have e := encs_get (l := l) (i := i) (by rw [h.len]; exact hi)
  simp only [h.blk.cell, List.getElem?_toArray]
  exact e
theorem Tb.free {w : World} {b : Nat} {l : List En} (h : Tb w b l) (i : Nat) : w.frozen? ⟨b, i, none⟩ = false := h.blk.frozen i
theorem Tb.set0 {w : World} {b : Nat} {l : List En} (h : Tb w b l) {i : Nat} (hi : i < 8) (x : Int) : Tb (w.setCell ⟨b, i * 4, none⟩ (.int .i64 x)) b (l.set i { ent l i with is := x }) :=
  ⟨h.blk.put _ _ (by rw [List.setIfInBounds_toArray, (encs_set (by rw [h.len]; exact hi)).1]), by simpa using h.len⟩
theorem Tb.set2 {w : World} {b : Nat} {l : List En} (h : Tb w b l) {i : Nat} (hi : i < 8) (x : Int) : Tb (w.setCell ⟨b, i * 4 + 2, none⟩ (.int .i64 x)) b (l.set i { ent l i with cell := x }) :=
  ⟨h.blk.put _ _ (by rw [List.setIfInBounds_toArray, (encs_set (by rw [h.len]; exact hi)).2.2.1]), by simpa using h.len⟩
theorem Tb.set3 {w : World} {b : Nat} {l : List En} (h : Tb w b l) {i : Nat} (hi : i < 8) (x : Int) : Tb (w.setCell ⟨b, i * 4 + 3, none⟩ (.int .i64 x)) b (l.set i { ent l i with cg := x }) :=
  ⟨h.blk.put _ _ (by rw [List.setIfInBounds_toArray, (encs_set (by rw [h.len]; exact hi)).2.2.2]), by simpa using h.len⟩

theorem Tb.set1 {w : World} {b : Nat} {l : List En} (h : Tb w b l) {i : Nat} (hi : i < 8) (x : Int) : Tb (w.setCell ⟨b, i * 4 + 1, none⟩ (.int .i64 x)) b (l.set i { ent l i with gen := x }) :=
  ⟨h.blk.put _ _ (by rw [List.setIfInBounds_toArray, (encs_set (by rw [h.len]; exact hi)).2.1]), by simpa using h.len⟩
theorem Tb.put {w : World} {b : Nat} {l : List En} (h : Tb w b l) {i : Nat} (hi : i < 8) (x : En) :
    Tb ((((w.setCell ⟨b, i * 4, none⟩ (.int .i64 x.is)).setCell ⟨b, i * 4 + 1, none⟩ (.int .i64 x.gen)).setCell ⟨b, i * 4 + 2, none⟩ (.int .i64 x.cell)).setCell ⟨b, i * 4 + 3, none⟩ (.int .i64 x.cg)) b (l.set i x) := by
  have h3 := (((h.set0 hi x.is).set1 hi x.gen).set2 hi x.cell).set3 hi x.cg
  have hl := h.len
  simp only [List.length_set, ent_set, hl, hi, if_true, List.set_set] at h3
  exact h3
theorem But.put4 {S : Nat → Prop} {a w : World} (h : But S a w) {b : Nat} (hb : S b ∨ a.heap.size ≤ b) (o0 o1 o2 o3 : Nat) (u0 u1 u2 u3 : Value) :
    But S a ((((w.setCell ⟨b, o0, none⟩ u0).setCell ⟨b, o1, none⟩ u1).setCell ⟨b, o2, none⟩ u2).setCell ⟨b, o3, none⟩ u3) := (((h.setCell hb _).setCell hb _).setCell hb _).setCell hb _

set_option maxHeartbeats 1000000 in
theorem fresh_any (g : Int) (w : World) : Calls Try.prog 92 #[.int .i64 g] w fun e w' => e = .returned (.agg #[.int .i64 0, .int .i64 g, .int .i64 0, .int .i64 0]) ∧ But (fun _ => False) w w' := by
  go_enter Try.func92, Try.ntmps92
  go_wp2_with fail
  exact bodyPost_ret (v := .agg #[.int .i64 0, .int .i64 g, .int .i64 0, .int .i64 0]) (by simp [results, Try.results92, go_sem]) rfl ⟨rfl, (But.refl _ _).alloc _⟩

def upTo (g : Int) (l : List En) (j : Nat) : List En := List.replicate j (freshE g) ++ l.drop j
theorem upTo_length {g : Int} {l : List En} {j : Nat} (h : j ≤ l.length) : (upTo g l j).length = l.length := by unfold upTo; simp; omega
theorem upTo_succ {g : Int} {l : List En} {j : Nat} (h : j < l.length) : (upTo g l j).set j (freshE g) = upTo g l (j + 1) := by
  unfold upTo
  rw [List.set_append_right _ _ (by simp), List.length_replicate, Nat.sub_self, List.replicate_succ']
  have e : (l.drop j).set 0 (freshE g) = freshE g :: l.drop (j + 1) := by rw [List.drop_eq_getElem_cons h]; rfl
  rw [e]; simp
theorem upTo_zero (g : Int) (l : List En) : upTo g l 0 = l := by simp [upTo]
theorem upTo_all {g : Int} {l : List En} (h : l.length = 8) : upTo g l 8 = List.replicate 8 (freshE g) := by
  unfold upTo; rw [List.drop_of_length_le (by omega)]; simp

set_option maxHeartbeats 2000000 in
set_option maxRecDepth 100000 in
theorem new_any (w : World) : Calls Try.prog 70 #[] w fun e w' => e = .returned (.pointer (some ⟨w.heap.size, 0, none⟩)) ∧ Tb w' w.heap.size news ∧ But (fun _ => False) w w' := by
  obtain ⟨b, hb⟩ : ∃ b, b = w.heap.size := ⟨_, rfl⟩
  have HT := Lib.hid (show Tb (w.alloc (.cells (encs (List.replicate 8 (⟨0, 0, 0, 0⟩ : En))).toArray 133)) b (List.replicate 8 (⟨0, 0, 0, 0⟩ : En)) from ⟨by rw [hb]; exact Blk.new _ _ _, rfl⟩)
  have HB := Lib.hid (show But (fun _ => False) w (w.alloc (.cells (encs (List.replicate 8 (⟨0, 0, 0, 0⟩ : En))).toArray 133)) from (But.refl _ _).alloc _)
  have HL := Lib.hid (show w.heap.size ≤ b by omega)
  rw [← hb]
  go_enter Try.func70, Try.ntmps70
  go_wp2_with fail
  rw [← hb]
  clear hb
  go_loopg [5] 8 (fun k i1 wr => ∃ (j : Nat), j + k = 8 ∧ i1 = .int .i64 j ∧ Tb wr b (upTo 1 (List.replicate 8 (⟨0, 0, 0, 0⟩ : En)) j) ∧ But (fun _ => False) w wr)
  case atStart => exact ⟨0, by omega, rfl, HT.out, HB.out⟩
  case round =>
    obtain ⟨j, hj, rfl, hT, hB⟩ := hrel
    by_cases hlt : j < 8
    · obtain ⟨c0, c1, c2, c3⟩ := hT.cells hlt
      have f0 := hT.free (j * 4)
      have f1 := hT.free (j * 4 + 1)
      have f2 := hT.free (j * 4 + 2)
      have f3 := hT.free (j * 4 + 3)
      have HT2 := Lib.hid hT
      clear hT
      go_wp2_with fail
      go_region_with (go_at_call 92; refine (fresh_any _ _).mono ?_; rintro e w2 ⟨rfl, h2⟩; have HT3 := Lib.hid ((HT2.out.drewN 1).but h2 (fun q => q)); obtain ⟨c0, c1, c2, c3⟩ := HT3.out.cells hlt; have f0 := HT3.out.free (j * 4); have f1 := HT3.out.free (j * 4 + 1); have f2 := HT3.out.free (j * 4 + 2); have f3 := HT3.out.free (j * 4 + 3))
      go_wp2_with fail
      go_roundg (8 - (j + 1))
      case measure => omega
      case rel => exact ⟨j + 1, by omega, by go_num, by
        rw [← upTo_succ (by simpa using hlt)]
        exact HT3.out.put hlt (freshE 1), But.put4 (hB.drew.trans h2) (.inr HL.out) _ _ _ _ _ _ _ _⟩
    · obtain rfl : j = 8 := by omega
      have HT2 := Lib.hid hT
      clear hT
      go_wp2_with fail
      go_ret
      exact ⟨rfl, HT2.out, hB⟩

set_option maxHeartbeats 2000000 in
set_option maxRecDepth 100000 in
theorem at_nil (i : Int) (w : World) : Calls Try.prog 97 #[.pointer none, .int .i64 i] w fun e w' => e = .returned (.pointer none) ∧ w = w' := by
  go_enter Try.func97, Try.ntmps97
  go_wp2_with fail
  go_ret
  exact ⟨rfl, rfl⟩

set_option maxHeartbeats 2000000 in
set_option maxRecDepth 100000 in
theorem at_no (b : Nat) (i : Int) (w : World) (h : inB i = false) : Calls Try.prog 97 #[.pointer (some ⟨b, 0, none⟩), .int .i64 i] w fun e w' => e = .returned (.pointer none) ∧ w = w' := by
  rw [inB_not] at h
  by_cases h0 : i < 0
  · clear h
    go_enter Try.func97, Try.ntmps97
    go_wp2_with fail
    go_ret
    exact ⟨rfl, rfl⟩
  · replace h : 8 ≤ i := by omega
    go_enter Try.func97, Try.ntmps97
    go_wp2_with fail
    go_ret
    exact ⟨rfl, rfl⟩

set_option maxHeartbeats 2000000 in
set_option maxRecDepth 100000 in
theorem at_yes (b i : Nat) (w : World) (h : i < 8) : Calls Try.prog 97 #[.pointer (some ⟨b, 0, none⟩), .int .i64 i] w fun e w' => e = .returned (.pointer (some ⟨b, i * 4, none⟩)) ∧ w = w' := by
  go_enter Try.func97, Try.ntmps97
  go_wp2_with fail
  go_ret
  exact ⟨by simp, rfl⟩

set_option maxHeartbeats 2000000 in
set_option maxRecDepth 100000 in
theorem gen_nil (i : Int) (w : World) : Calls Try.prog 74 #[.pointer none, .int .i64 i] w fun e w' => e = .returned (.int .i64 0) ∧ w = w' := by
  go_enter Try.func74, Try.ntmps74
  go_wp2_with fail
  refine (at_nil i _).mono ?_
  rintro e w1 ⟨rfl, rfl⟩
  go_wp2_with fail
  go_ret
  exact ⟨rfl, rfl⟩

set_option maxHeartbeats 2000000 in
set_option maxRecDepth 100000 in
theorem gen_any (b : Nat) (l : List En) (i : Int) (w : World) (h : Tb w b l) : Calls Try.prog 74 #[.pointer (some ⟨b, 0, none⟩), .int .i64 i] w fun e w' => e = .returned (.int .i64 (gen l i)) ∧ w = w' := by
  cases hi : inB i with
  | false =>
    have E := Lib.hid (gen_out (l := l) hi)
    have HI := Lib.hid hi
    clear hi
    go_enter Try.func74, Try.ntmps74
    go_wp2_with fail
    refine (at_no b i _ HI.out).mono ?_
    rintro e w1 ⟨rfl, rfl⟩
    go_wp2_with fail
    go_ret
    exact ⟨by rw [E.out]; rfl, rfl⟩
  | true =>
    rw [inB_iff] at hi
    obtain ⟨i, rfl⟩ : ∃ k : Nat, i = k := ⟨i.toNat, by omega⟩
    have E := Lib.hid (gen_in (l := l) (i := i) (by omega))
    obtain ⟨c0, c1, c2, c3⟩ := h.cells (i := i) (by omega)
    go_enter Try.func74, Try.ntmps74
    go_wp2_with fail
    refine (at_yes b i _ (by omega)).mono ?_
    rintro e w1 ⟨rfl, rfl⟩
    go_wp2_with fail
    go_ret
    exact ⟨by rw [E.out]; rfl, rfl⟩

set_option maxHeartbeats 2000000 in
set_option maxRecDepth 100000 in
theorem revoke_nil (i : Int) (w : World) : Calls Try.prog 89 #[.pointer none, .int .i64 i] w fun e w' => e = .returned (.int .i64 1) ∧ w = w' := by
  go_enter Try.func89, Try.ntmps89
  go_wp2_with fail
  refine (at_nil i _).mono ?_
  rintro e w1 ⟨rfl, rfl⟩
  go_wp2_with fail
  go_ret
  exact ⟨rfl, rfl⟩

set_option maxHeartbeats 2000000 in
set_option maxRecDepth 100000 in
theorem revoke_any (b : Nat) (l : List En) (i : Int) (w : World) (h : Tb w b l) : Calls Try.prog 89 #[.pointer (some ⟨b, 0, none⟩), .int .i64 i] w fun e w' =>
    e = .returned (.int .i64 (revoke l i).2) ∧ Tb w' b (revoke l i).1 ∧ But (fun k => k = b) w w' := by
  have HT := Lib.hid h
  cases hi : inB i with
  | false =>
    have E := Lib.hid (revoke_out (l := l) hi)
    have HI := Lib.hid hi
    clear hi h
    go_enter Try.func89, Try.ntmps89
    go_wp2_with fail
    refine (at_no b i _ HI.out).mono ?_
    rintro e w1 ⟨rfl, rfl⟩
    go_wp2_with fail
    go_ret
    exact ⟨by rw [E.out]; rfl, by rw [E.out]; exact HT.out, But.refl _ _⟩
  | true =>
    rw [inB_iff] at hi
    obtain ⟨i, rfl⟩ : ∃ k : Nat, i = k := ⟨i.toNat, by omega⟩
    obtain ⟨c0, c1, c2, c3⟩ := h.cells (i := i) (by omega)
    have f0 := h.free (i * 4)
    by_cases h1 : (ent l i).is = 1
    · have E := Lib.hid (revoke_yes (by omega) h1)
      clear h
      go_enter Try.func89, Try.ntmps89
      go_wp2_with fail
      refine (at_yes b i _ (by omega)).mono ?_
      rintro e w1 ⟨rfl, rfl⟩
      go_wp2_with fail
      go_ret
      exact ⟨by rw [E.out]; rfl, by rw [E.out]; exact HT.out.set0 (by omega) 2, But.one _ _ _⟩
    · have E := Lib.hid (revoke_no (by omega) h1)
      clear h
      go_enter Try.func89, Try.ntmps89
      go_wp2_with fail
      refine (at_yes b i _ (by omega)).mono ?_
      rintro e w1 ⟨rfl, rfl⟩
      go_wp2_with fail
      go_ret
      exact ⟨by rw [E.out]; rfl, by rw [E.out]; exact HT.out, But.refl _ _⟩

set_option maxHeartbeats 2000000 in
set_option maxRecDepth 100000 in
theorem find_nil (i g : Int) (w : World) : Calls Try.prog 98 #[.pointer none, .int .i64 i, .int .i64 g] w fun e w' => e = .returned (.tuple #[.pointer none, .int .i64 1]) ∧ w = w' := by
  go_enter Try.func98, Try.ntmps98
  go_wp2_with fail
  refine (at_nil i _).mono ?_
  rintro e w1 ⟨rfl, rfl⟩
  go_wp2_with fail
  go_ret2
  exact ⟨rfl, rfl⟩

def spot (l : List En) (b : Nat) (i g : Int) : Value := if wrong l i g = 0 then .pointer (some ⟨b, i.toNat * 4, none⟩) else .pointer none
theorem spot_no {l : List En} {b : Nat} {i g x : Int} (h : wrong l i g = x) (h2 : x ≠ 0) : spot l b i g = .pointer none := by unfold spot; rw [if_neg (by omega)]
theorem spot_yes {l : List En} {b i : Nat} {g : Int} (h : wrong l i g = 0) : spot l b i g = .pointer (some ⟨b, i * 4, none⟩) := by unfold spot; rw [if_pos h]; rfl

set_option maxHeartbeats 2000000 in
set_option maxRecDepth 100000 in
theorem find_any (b : Nat) (l : List En) (i g : Int) (w : World) (h : Tb w b l) : Calls Try.prog 98 #[.pointer (some ⟨b, 0, none⟩), .int .i64 i, .int .i64 g] w fun e w' =>
    e = .returned (.tuple #[spot l b i g, .int .i64 (wrong l i g)]) ∧ w = w' := by
  cases hi : inB i with
  | false =>
    have E := Lib.hid (wrong_out (l := l) (g := g) hi)
    have HI := Lib.hid hi
    clear hi h
    go_enter Try.func98, Try.ntmps98
    go_wp2_with fail
    refine (at_no b i _ HI.out).mono ?_
    rintro e w1 ⟨rfl, rfl⟩
    go_wp2_with fail
    go_ret2
    exact ⟨by rw [E.out, spot_no E.out (by decide)]; rfl, rfl⟩
  | true =>
    rw [inB_iff] at hi
    obtain ⟨i, rfl⟩ : ∃ k : Nat, i = k := ⟨i.toNat, by omega⟩
    obtain ⟨c0, c1, c2, c3⟩ := h.cells (i := i) (by omega)
    by_cases h1 : (ent l i).gen < g
    · have E := Lib.hid (show wrong l i g = 4 by rw [wrong_in (by omega)]; rw [if_pos h1])
      clear h
      go_enter Try.func98, Try.ntmps98
      go_wp2_with fail
      refine (at_yes b i _ (by omega)).mono ?_
      rintro e w1 ⟨rfl, rfl⟩
      go_wp2_with fail
      go_ret2
      exact ⟨by rw [E.out, spot_no E.out (by decide)]; rfl, rfl⟩
    by_cases h2 : g < (ent l i).gen
    · have E := Lib.hid (show wrong l i g = 5 by rw [wrong_in (by omega)]; rw [if_neg h1, if_pos (.inl h2)])
      clear h
      go_enter Try.func98, Try.ntmps98
      go_wp2_with fail
      refine (at_yes b i _ (by omega)).mono ?_
      rintro e w1 ⟨rfl, rfl⟩
      go_wp2_with fail
      go_ret2
      exact ⟨by rw [E.out, spot_no E.out (by decide)]; rfl, rfl⟩
    by_cases h3 : (ent l i).is = 0
    · have E := Lib.hid (show wrong l i g = 5 by rw [wrong_in (by omega)]; rw [if_neg h1, if_pos (.inr h3)])
      clear h
      go_enter Try.func98, Try.ntmps98
      go_wp2_with fail
      refine (at_yes b i _ (by omega)).mono ?_
      rintro e w1 ⟨rfl, rfl⟩
      go_wp2_with fail
      go_ret2
      exact ⟨by rw [E.out, spot_no E.out (by decide)]; rfl, rfl⟩
    · have h3b : ((ent l i).is == 0) = false := by simpa using h3
      have E := Lib.hid (show wrong l i g = 0 by rw [wrong_in (by omega)]; rw [if_neg h1, if_neg (by omega)])
      clear h
      go_enter Try.func98, Try.ntmps98
      go_wp2_with fail
      refine (at_yes b i _ (by omega)).mono ?_
      rintro e w1 ⟨rfl, rfl⟩
      go_wp2_with fail
      go_ret2
      exact ⟨by rw [E.out, spot_yes E.out]; rfl, rfl⟩

set_option maxHeartbeats 2000000 in
set_option maxRecDepth 100000 in
theorem look_nil (i g : Int) (w : World) : Calls Try.prog 76 #[.pointer none, .int .i64 i, .int .i64 g] w fun e w' => e = .returned (.tuple #[.int .i64 0, .int .i64 0, .int .i64 1]) ∧ w = w' := by
  go_enter Try.func76, Try.ntmps76
  go_wp2_with fail
  refine (find_nil i g _).mono ?_
  rintro e w1 ⟨rfl, rfl⟩
  go_wp2_with fail
  go_ret3
  exact ⟨rfl, rfl⟩

set_option maxHeartbeats 2000000 in
set_option maxRecDepth 100000 in
theorem look_any (b : Nat) (l : List En) (i g : Int) (w : World) (h : Tb w b l) : Calls Try.prog 76 #[.pointer (some ⟨b, 0, none⟩), .int .i64 i, .int .i64 g] w fun e w' =>
    e = .returned (.tuple #[.int .i64 (look l i g).1, .int .i64 (look l i g).2.1, .int .i64 (look l i g).2.2]) ∧ ∃ m, w' = w.drewN m := by
  have HT := Lib.hid h
  by_cases hw : wrong l i g = 0
  · obtain ⟨i, rfl, hi, hg, h0⟩ := wrong_ok hw
    obtain ⟨c0, c1, c2, c3⟩ := h.cells hi
    have HW := Lib.hid hw
    have HG := Lib.hid hg
    have HS := Lib.hid (spot_yes (b := b) hw)
    clear hw h hg
    by_cases h2 : (ent l i).is = 2
    · have E := Lib.hid (show look l i g = (0, 0, 6) by unfold look; rw [if_pos HW.out, Int.toNat_natCast, if_pos h2])
      go_enter Try.func76, Try.ntmps76
      go_wp2_with fail
      refine (find_any b l i g _ HT.out).mono ?_
      rintro e w1 ⟨rfl, rfl⟩
      rw [HS.out, HW.out]
      go_wp2_with fail
      go_ret3
      exact ⟨by rw [E.out]; rfl, 0, rfl⟩
    · have E := Lib.hid (show look l i g = ((ent l i).cell, (ent l i).cg, 0) by unfold look; rw [if_pos HW.out, Int.toNat_natCast, if_neg h2])
      go_enter Try.func76, Try.ntmps76
      go_wp2_with fail
      refine (find_any b l i g _ HT.out).mono ?_
      rintro e w1 ⟨rfl, rfl⟩
      rw [HS.out, HW.out]
      go_wp2_with fail
      go_quiet (fail)
      go_wp2_with fail
      go_ret3
      exact ⟨by rw [E.out]; rfl, _, rfl⟩
  · have HS := Lib.hid (spot_no (b := b) rfl hw)
    have E := Lib.hid (show look l i g = (0, 0, wrong l i g) by unfold look; rw [if_neg hw])
    rw [E.out]
    have hw2 : (wrong l i g == 0) = false := by simpa using hw
    have hw3 : (wrong l i g != 0) = true := by simpa using hw
    clear h
    go_enter Try.func76, Try.ntmps76
    go_wp2_with fail
    refine (find_any b l i g _ HT.out).mono ?_
    rintro e w1 ⟨rfl, rfl⟩
    rw [HS.out]
    go_wp2_with fail
    go_ret3
    exact ⟨rfl, 0, rfl⟩

set_option maxHeartbeats 2000000 in
set_option maxRecDepth 100000 in
theorem close_nil (i g : Int) (w : World) : Calls Try.prog 90 #[.pointer none, .int .i64 i, .int .i64 g] w fun e w' => e = .returned (.int .i64 1) ∧ w = w' := by
  go_enter Try.func90, Try.ntmps90
  go_wp2_with fail
  refine (find_nil i g _).mono ?_
  rintro e w1 ⟨rfl, rfl⟩
  go_wp2_with fail
  go_ret
  exact ⟨rfl, rfl⟩

set_option maxHeartbeats 2000000 in
set_option maxRecDepth 100000 in
theorem close_any (b : Nat) (l : List En) (i g : Int) (w : World) (h : Tb w b l) (hg2 : ∀ k, k < 8 → -9223372036854775808 ≤ (ent l k).gen ∧ (ent l k).gen ≤ 9223372036854775806) : Calls Try.prog 90 #[.pointer (some ⟨b, 0, none⟩), .int .i64 i, .int .i64 g] w fun e w' =>
    e = .returned (.int .i64 (close l i g).2) ∧ Tb w' b (close l i g).1 ∧ But (fun k => k = b) w w' := by
  have HT := Lib.hid h
  by_cases hw : wrong l i g = 0
  · obtain ⟨i, rfl, hi, hg, h0⟩ := wrong_ok hw
    obtain ⟨c0, c1, c2, c3⟩ := h.cells hi
    have f0 := h.free (i * 4)
    have f1 := h.free (i * 4 + 1)
    have f2 := h.free (i * 4 + 2)
    have f3 := h.free (i * 4 + 3)
    have hgb := hg2 i hi
    clear hg2
    have HW := Lib.hid hw
    have HG := Lib.hid hg
    have HS := Lib.hid (spot_yes (b := b) hw)
    have E := Lib.hid (show close l i g = (l.set i (freshE ((ent l i).gen + 1)), 0) by unfold close; rw [if_pos hw]; rfl)
    clear hw h hg
    go_enter Try.func90, Try.ntmps90
    go_wp2_with fail
    refine (find_any b l i g _ HT.out).mono ?_
    rintro e w1 ⟨rfl, rfl⟩
    rw [HS.out, HW.out]
    go_wp2_with fail
    refine (fresh_any _ _).mono ?_
    rintro e w2 ⟨rfl, h2⟩
    have HT3 := Lib.hid (HT.out.but h2 (fun q => q))
    clear c0 c1 c2 c3 f0 f1 f2 f3
    obtain ⟨c0, c1, c2, c3⟩ := HT3.out.cells hi
    have f0 := HT3.out.free (i * 4)
    have f1 := HT3.out.free (i * 4 + 1)
    have f2 := HT3.out.free (i * 4 + 2)
    have f3 := HT3.out.free (i * 4 + 3)
    go_wp2_with fail
    go_ret
    exact ⟨by rw [E.out]; rfl, by rw [E.out]; exact HT3.out.put hi (freshE ((ent l i).gen + 1)), But.put4 (h2.mono (fun k hk => hk.elim)) (by exact .inl rfl) _ _ _ _ _ _ _ _⟩
  · have HS := Lib.hid (spot_no (b := b) rfl hw)
    have E := Lib.hid (show close l i g = (l, wrong l i g) by unfold close; rw [if_neg hw])
    rw [E.out]
    have hw2 : (wrong l i g == 0) = false := by simpa using hw
    clear h
    go_enter Try.func90, Try.ntmps90
    go_wp2_with fail
    refine (find_any b l i g _ HT.out).mono ?_
    rintro e w1 ⟨rfl, rfl⟩
    rw [HS.out]
    go_wp2_with fail
    go_ret
    exact ⟨rfl, HT.out, But.refl _ _⟩

set_option maxHeartbeats 2000000 in
set_option maxRecDepth 100000 in
theorem grant_nil (c g : Int) (w : World) : Calls Try.prog 88 #[.pointer none, .int .i64 c, .int .i64 g] w fun e w' => e = .returned (.tuple #[.int .i64 0, .int .i64 1]) ∧ w = w' := by
  go_enter Try.func88, Try.ntmps88
  go_wp2_with fail
  go_ret2
  exact ⟨rfl, rfl⟩

set_option maxHeartbeats 4000000 in
set_option maxRecDepth 100000 in
theorem grant_any (b : Nat) (l : List En) (c g : Int) (w : World) (h : Tb w b l) : Calls Try.prog 88 #[.pointer (some ⟨b, 0, none⟩), .int .i64 c, .int .i64 g] w fun e w' =>
    e = .returned (.tuple #[.int .i64 (grant l c g).2.1, .int .i64 (grant l c g).2.2]) ∧ Tb w' b (grant l c g).1 ∧ But (fun k => k = b) w w' := by
  have HT := Lib.hid h
  cases ho : okG c g with
  | false =>
    have E := Lib.hid (grant_bad (l := l) ho)
    rw [E.out]
    rw [okG_not] at ho
    clear h
    by_cases h1 : c < 0
    · clear ho
      go_enter Try.func88, Try.ntmps88
      go_wp2_with fail
      go_ret2
      exact ⟨rfl, HT.out, But.refl _ _⟩
    by_cases h2 : 192 ≤ c
    · clear ho
      go_enter Try.func88, Try.ntmps88
      go_wp2_with fail
      go_ret2
      exact ⟨rfl, HT.out, But.refl _ _⟩
    by_cases h3 : g < 0
    · clear ho
      go_enter Try.func88, Try.ntmps88
      go_wp2_with fail
      go_ret2
      exact ⟨rfl, HT.out, But.refl _ _⟩
    · have h4 : 4294967295 < g := by omega
      clear ho
      go_enter Try.func88, Try.ntmps88
      go_wp2_with fail
      go_ret2
      exact ⟨rfl, HT.out, But.refl _ _⟩
  | true =>
    have HO := Lib.hid ho
    rw [okG_iff] at ho
    clear h
    go_enter Try.func88, Try.ntmps88
    go_wp2_with fail
    go_loopg [28] 8 (fun k i1 wr => ∃ (j : Nat), j + k = 8 ∧ i1 = .int .i64 j ∧ (∀ k, k < j → canB (ent l k) = false) ∧ w = wr)
    case atStart => exact ⟨0, by omega, rfl, fun k hk => by omega, rfl⟩
    case round =>
      obtain ⟨j, hj, rfl, hb, rfl⟩ := hrel
      have HB := Lib.hid hb
      clear hb
      by_cases hlt : j < 8
      · obtain ⟨c0, c1, c2, c3⟩ := HT.out.cells hlt
        have f0 := HT.out.free (j * 4)
        have f2 := HT.out.free (j * 4 + 2)
        have f3 := HT.out.free (j * 4 + 3)
        cases hc : canB (ent l j) with
        | true =>
          have E := Lib.hid (grant_at HO.out (slot_at (by rw [HT.out.len]; exact hlt) hc HB.out) hlt)
          rw [canB_iff] at hc
          obtain ⟨h1, h2⟩ := hc
          go_wp2_with fail
          refine (at_yes b j _ hlt).mono ?_
          rintro e w1 ⟨rfl, rfl⟩
          go_wp2_with fail
          go_ret2
          refine ⟨by rw [E.out]; rfl, ?_, (((But.refl _ _).setCell (by exact .inl rfl) _).setCell (by exact .inl rfl) _).setCell (by exact .inl rfl) _⟩
          rw [E.out]
          have h3 := ((HT.out.set0 hlt 1).set2 hlt c).set3 hlt g
          have hl := HT.out.len
          simp only [List.length_set, ent_set, hl, hlt, if_true, List.set_set] at h3
          exact h3
        | false =>
          have HC := Lib.hid hc
          rw [canB_not] at hc
          by_cases h1 : (ent l j).is = 0
          · have h2 : 4294967295 ≤ (ent l j).gen := by omega
            clear hc
            go_wp2_with fail
            refine (at_yes b j _ hlt).mono ?_
            rintro e w1 ⟨rfl, rfl⟩
            go_wp2_with fail
            go_roundg (8 - (j + 1))
            case measure => omega
            case rel => exact ⟨j + 1, by omega, by go_num, fun k hk => by
              by_cases e : k = j
              · rw [e]; exact HC.out
              · exact HB.out k (by omega), rfl⟩
          · have h1b : ((ent l j).is == 0) = false := by simpa using h1
            clear hc
            go_wp2_with fail
            refine (at_yes b j _ hlt).mono ?_
            rintro e w1 ⟨rfl, rfl⟩
            go_wp2_with fail
            go_roundg (8 - (j + 1))
            case measure => omega
            case rel => exact ⟨j + 1, by omega, by go_num, fun k hk => by
              by_cases e : k = j
              · rw [e]; exact HC.out
              · exact HB.out k (by omega), rfl⟩
      · obtain rfl : j = 8 := by omega
        have E := Lib.hid (grant_full (l := l) HO.out (by rw [slot_none (by rw [HT.out.len]; exact HB.out), HT.out.len]))
        go_wp2_with fail
        go_ret2
        exact ⟨by rw [E.out]; rfl, by rw [E.out]; exact HT.out, But.refl _ _⟩

theorem eqE (w : World) (d : Nat) (x y : En) : (Op.equalIn (d + 2) 130 (.agg (enc x).toArray) (.agg (enc y).toArray)).run Try.prog w = .ok (decide (x = y)) w := by
  obtain ⟨a, b, c, e⟩ := x
  obtain ⟨a', b', c', e'⟩ := y
  unfold enc
  go_simp
  repeat' split
  all_goals simp_all

theorem fldE (w : World) : (sizeOf 130).run Try.prog w = .ok 4 w := by go_simp
theorem partE (w : World) (x0 x1 x2 x3 x4 x5 x6 x7 : En) : 
   (part 130 (encs [x0, x1, x2, x3, x4, x5, x6, x7]).toArray 0).run Try.prog w = .ok (.agg (enc x0).toArray) w ∧
   (part 130 (encs [x0, x1, x2, x3, x4, x5, x6, x7]).toArray 4).run Try.prog w = .ok (.agg (enc x1).toArray) w ∧
   (part 130 (encs [x0, x1, x2, x3, x4, x5, x6, x7]).toArray 8).run Try.prog w = .ok (.agg (enc x2).toArray) w ∧
   (part 130 (encs [x0, x1, x2, x3, x4, x5, x6, x7]).toArray 12).run Try.prog w = .ok (.agg (enc x3).toArray) w ∧
   (part 130 (encs [x0, x1, x2, x3, x4, x5, x6, x7]).toArray 16).run Try.prog w = .ok (.agg (enc x4).toArray) w ∧
   (part 130 (encs [x0, x1, x2, x3, x4, x5, x6, x7]).toArray 20).run Try.prog w = .ok (.agg (enc x5).toArray) w ∧
   (part 130 (encs [x0, x1, x2, x3, x4, x5, x6, x7]).toArray 24).run Try.prog w = .ok (.agg (enc x6).toArray) w ∧
   (part 130 (encs [x0, x1, x2, x3, x4, x5, x6, x7]).toArray 28).run Try.prog w = .ok (.agg (enc x7).toArray) w := by
  simp only [encs, enc, List.flatMap_cons, List.flatMap_nil, List.cons_append, List.nil_append]
  refine ⟨?_, ?_, ?_, ?_, ?_, ?_, ?_, ?_⟩ <;> go_simp

theorem eqA (w : World) (d : Nat) (x0 x1 x2 x3 x4 x5 x6 x7 y0 y1 y2 y3 y4 y5 y6 y7 : En) :
   (Op.equalIn (d + 3) 131 (.agg (encs [x0, x1, x2, x3, x4, x5, x6, x7]).toArray) (.agg (encs [y0, y1, y2, y3, y4, y5, y6, y7]).toArray)).run Try.prog w = .ok (decide ([x0, x1, x2, x3, x4, x5, x6, x7] = [y0, y1, y2, y3, y4, y5, y6, y7])) w := by
  unfold Op.equalIn
  simp only [Sem.run_bind, run_underlying Try.underlying131, Result.andThen_ok, fldE]
  obtain ⟨p0, p1, p2, p3, p4, p5, p6, p7⟩ := partE w x0 x1 x2 x3 x4 x5 x6 x7
  obtain ⟨q0, q1, q2, q3, q4, q5, q6, q7⟩ := partE w y0 y1 y2 y3 y4 y5 y6 y7
  simp [Std.Legacy.Range.forIn_eq_forIn_range', List.range', p0, p1, p2, p3, p4, p5, p6, p7, q0, q1, q2, q3, q4, q5, q6, q7, eqE, Sem.run_ite]
  repeat' split
  all_goals simp_all
theorem eqT (w : World) (x0 x1 x2 x3 x4 x5 x6 x7 y0 y1 y2 y3 y4 y5 y6 y7 : En) :
   (Op.equalIn 10000 133 (.agg (encs [x0, x1, x2, x3, x4, x5, x6, x7]).toArray) (.agg (encs [y0, y1, y2, y3, y4, y5, y6, y7]).toArray)).run Try.prog w = .ok (decide ([x0, x1, x2, x3, x4, x5, x6, x7] = [y0, y1, y2, y3, y4, y5, y6, y7])) w := by
  have h := eqA w 9996 x0 x1 x2 x3 x4 x5 x6 x7 y0 y1 y2 y3 y4 y5 y6 y7
  go_simp
  rw [List.take_of_length_le (by simp [encs_length]), List.take_of_length_le (by simp [encs_length]), h]
  simp only [Result.andThen_ok]
  repeat' split
  all_goals simp_all
theorem Tb.all {w : World} {b : Nat} {x0 x1 x2 x3 x4 x5 x6 x7 : En} (h : Tb w b [x0, x1, x2, x3, x4, x5, x6, x7]) : w.cell? ⟨b, 0, none⟩ = some (.int .i64 x0.is) ∧ w.cell? ⟨b, 1, none⟩ = some (.int .i64 x0.gen) ∧ w.cell? ⟨b, 2, none⟩ = some (.int .i64 x0.cell) ∧ w.cell? ⟨b, 3, none⟩ = some (.int .i64 x0.cg) ∧ w.cell? ⟨b, 4, none⟩ = some (.int .i64 x1.is) ∧ w.cell? ⟨b, 5, none⟩ = some (.int .i64 x1.gen) ∧ w.cell? ⟨b, 6, none⟩ = some (.int .i64 x1.cell) ∧ w.cell? ⟨b, 7, none⟩ = some (.int .i64 x1.cg) ∧ w.cell? ⟨b, 8, none⟩ = some (.int .i64 x2.is) ∧ w.cell? ⟨b, 9, none⟩ = some (.int .i64 x2.gen) ∧ w.cell? ⟨b, 10, none⟩ = some (.int .i64 x2.cell) ∧ w.cell? ⟨b, 11, none⟩ = some (.int .i64 x2.cg) ∧ w.cell? ⟨b, 12, none⟩ = some (.int .i64 x3.is) ∧ w.cell? ⟨b, 13, none⟩ = some (.int .i64 x3.gen) ∧ w.cell? ⟨b, 14, none⟩ = some (.int .i64 x3.cell) ∧ w.cell? ⟨b, 15, none⟩ = some (.int .i64 x3.cg) ∧ w.cell? ⟨b, 16, none⟩ = some (.int .i64 x4.is) ∧ w.cell? ⟨b, 17, none⟩ = some (.int .i64 x4.gen) ∧ w.cell? ⟨b, 18, none⟩ = some (.int .i64 x4.cell) ∧ w.cell? ⟨b, 19, none⟩ = some (.int .i64 x4.cg) ∧ w.cell? ⟨b, 20, none⟩ = some (.int .i64 x5.is) ∧ w.cell? ⟨b, 21, none⟩ = some (.int .i64 x5.gen) ∧ w.cell? ⟨b, 22, none⟩ = some (.int .i64 x5.cell) ∧ w.cell? ⟨b, 23, none⟩ = some (.int .i64 x5.cg) ∧ w.cell? ⟨b, 24, none⟩ = some (.int .i64 x6.is) ∧ w.cell? ⟨b, 25, none⟩ = some (.int .i64 x6.gen) ∧ w.cell? ⟨b, 26, none⟩ = some (.int .i64 x6.cell) ∧ w.cell? ⟨b, 27, none⟩ = some (.int .i64 x6.cg) ∧ w.cell? ⟨b, 28, none⟩ = some (.int .i64 x7.is) ∧ w.cell? ⟨b, 29, none⟩ = some (.int .i64 x7.gen) ∧ w.cell? ⟨b, 30, none⟩ = some (.int .i64 x7.cell) ∧ w.cell? ⟨b, 31, none⟩ = some (.int .i64 x7.cg) := by
  have h0 := fun i hi => h.cells (i := i) hi
  obtain ⟨a0, b0, c0, d0⟩ := h0 0 (by omega)
  obtain ⟨a1, b1, c1, d1⟩ := h0 1 (by omega)
  obtain ⟨a2, b2, c2, d2⟩ := h0 2 (by omega)
  obtain ⟨a3, b3, c3, d3⟩ := h0 3 (by omega)
  obtain ⟨a4, b4, c4, d4⟩ := h0 4 (by omega)
  obtain ⟨a5, b5, c5, d5⟩ := h0 5 (by omega)
  obtain ⟨a6, b6, c6, d6⟩ := h0 6 (by omega)
  obtain ⟨a7, b7, c7, d7⟩ := h0 7 (by omega)
  exact ⟨a0, b0, c0, d0, a1, b1, c1, d1, a2, b2, c2, d2, a3, b3, c3, d3, a4, b4, c4, d4, a5, b5, c5, d5, a6, b6, c6, d6, a7, b7, c7, d7⟩

set_option maxHeartbeats 2000000 in
set_option maxRecDepth 100000 in
theorem start_nil (g : Int) (w : World) : Calls Try.prog 91 #[.pointer none, .int .i64 g] w fun e w' => e = .returned (.int .i64 1) ∧ But (fun _ => False) w w' := by
  go_enter Try.func91, Try.ntmps91
  go_wp2_with fail
  go_quiet (fail)
  go_wp2_with fail
  go_ret
  exact ⟨rfl, (But.refl _ _).drewN _⟩

end Proxy
end Go.Proofs.Ytboajbbnnbnpaaa
