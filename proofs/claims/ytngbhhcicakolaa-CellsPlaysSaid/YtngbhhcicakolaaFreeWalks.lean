/- The functions of package free walked. -/
import Derived.Test.YtngbhhcicakolaaFreePure
import Derived.Test.YtngbhhcicakolaaConfWalks
import Derived.Test.YtngbhhcicakolaaAppend
import Derived.Test.YtngbhhcicakolaaLists
import Derived.StillTailTactics
import Derived.BigFrame
set_option linter.unusedVariables false
set_option linter.unusedSimpArgs false
namespace Go.Proofs.Ytngbhhcicakolaa
open Go.RowKit

namespace Free

def bools (l : List Bool) : List Value := l.map Value.bool

/-- A list in memory: its header at block b, the generations at bg, what is taken at bt, each class's free cells in a row of its own. -/
structure Fo (w : World) (b bg bt : Nat) (pv : Nat → Value) (po : Nat → Option Nat) (f : Fr) : Prop where
  blk : Blk w b #[.int .i64 f.s.c0, .int .i64 f.s.c1, .int .i64 f.s.c2, .int .i64 f.s.q, .int .i64 f.s.st, pv 0, pv 1, pv 2, .int .i64 (f.r 0), .int .i64 (f.r 1), .int .i64 (f.r 2),
    .slice (some ⟨bg, 0, none⟩) (n f) (n f), .slice (some ⟨bt, 0, none⟩) (n f) (n f)] 107
  gs : Blk w bg (ints f.g).toArray 3
  ts : Blk w bt (bools f.t).toArray 4
  rows : ∀ c, c < 3 → Row w 3 1 (pv c) (po c) (f.p c).length (ints (f.p c))
  ne : b ≠ bg ∧ b ≠ bt ∧ bg ≠ bt
  far : ∀ c, c < 3 → ∀ k, po c = some k → k ≠ b ∧ k ≠ bg ∧ k ≠ bt
  apart : ∀ c d, c < 3 → d < 3 → c ≠ d → ∀ k, po c = some k → po d ≠ some k

def foot (b bg bt : Nat) (po : Nat → Option Nat) : Nat → Prop := fun k => k = b ∨ k = bg ∨ k = bt ∨ ∃ c, c < 3 ∧ po c = some k
/-- .. and the blocks that it lies in. -/
def Fob (b : Nat) (f : Fr) (w : World) (S : Nat → Prop) : Prop := ∃ bg bt pv po, Fo w b bg bt pv po f ∧ S = foot b bg bt po

theorem Fo.but {w w' : World} {b bg bt : Nat} {pv : Nat → Value} {po : Nat → Option Nat} {f : Fr} (h : Fo w b bg bt pv po f) {S : Nat → Prop} (hb : But S w w') (hs : Apart S (foot b bg bt po)) : Fo w' b bg bt pv po f :=
  ⟨h.blk.but hb (fun q => hs b q (.inl rfl)), h.gs.but hb (fun q => hs bg q (.inr (.inl rfl))), h.ts.but hb (fun q => hs bt q (.inr (.inr (.inl rfl)))), fun c hc => (h.rows c hc).but hb (fun k hk q => hs k q (.inr (.inr (.inr ⟨c, hc, hk⟩)))), h.ne, h.far, h.apart⟩
theorem Fob.but {w w' : World} {b : Nat} {f : Fr} {S T : Nat → Prop} (h : Fob b f w S) (hb : But T w w') (hs : Apart T S) : Fob b f w' S := by
  obtain ⟨bg, bt, pv, po, h, rfl⟩ := h
  exact ⟨bg, bt, pv, po, h.but hb hs, rfl⟩
theorem Fo.lt {w : World} {b bg bt : Nat} {pv : Nat → Value} {po : Nat → Option Nat} {f : Fr} (h : Fo w b bg bt pv po f) : ∀ k, foot b bg bt po k → k < w.heap.size := by
  rintro k (rfl | rfl | rfl | ⟨c, hc, e⟩)
  · exact h.blk.lt
  · exact h.gs.lt
  · exact h.ts.lt
  · exact (h.rows c hc).lt e

theorem bools_at {w : World} {T : TypeId} {b : Nat} {l : List Bool} (h : Blk w b (bools l).toArray T) {i : Nat} (hi : i < l.length) : w.cell? ⟨b, i, none⟩ = some (.bool (l.getD i false)) := by
  rw [h.cell]; unfold bools; simp [hi]
theorem ints_at' {w : World} {T : TypeId} {b : Nat} {l : List Int} (h : Blk w b (ints l).toArray T) {i : Nat} (hi : i < l.length) : w.cell? ⟨b, i, none⟩ = some (.int .i64 (l.getD i 0)) := by
  rw [h.cell]; unfold ints; simp [hi]
theorem bools_set {w : World} {T : TypeId} {b : Nat} {l : List Bool} (h : Blk w b (bools l).toArray T) (i : Nat) (x : Bool) : Blk (w.setCell ⟨b, i, none⟩ (.bool x)) b (bools (l.set i x)).toArray T :=
  h.put i _ (by unfold bools; simp)
theorem ints_set {w : World} {T : TypeId} {b : Nat} {l : List Int} (h : Blk w b (ints l).toArray T) (i : Nat) (x : Int) : Blk (w.setCell ⟨b, i, none⟩ (.int .i64 x)) b (ints (l.set i x)).toArray T :=
  h.put i _ (by unfold ints; simp)

theorem ints_dropLast (l : List Int) {k : Nat} (h : l.length = k + 1) : ints l.dropLast = (ints l).take (k * 1) := by
  unfold ints; rw [List.dropLast_eq_take, h, List.map_take]; simp

/-- The head's cell of a class written anew. -/
theorem head_set {w : World} {b bg bt : Nat} {pv : Nat → Value} {po : Nat → Option Nat} {f f' : Fr} (h : Fo w b bg bt pv po f) {c : Nat} (hc : c < 3) (v : Value) (hs : f'.s = f.s) (hr : ∀ k, k < 3 → f'.r k = f.r k) (hn : n f' = n f) :
    Blk (w.setCell ⟨b, 5 + c, none⟩ v) b #[.int .i64 f'.s.c0, .int .i64 f'.s.c1, .int .i64 f'.s.c2, .int .i64 f'.s.q, .int .i64 f'.s.st, upd pv c v 0, upd pv c v 1, upd pv c v 2, .int .i64 (f'.r 0), .int .i64 (f'.r 1), .int .i64 (f'.r 2),
    .slice (some ⟨bg, 0, none⟩) (n f') (n f'), .slice (some ⟨bt, 0, none⟩) (n f') (n f')] 107 := by
  rw [hs, hr 0 (by omega), hr 1 (by omega), hr 2 (by omega), hn]
  obtain rfl | rfl | rfl : c = 0 ∨ c = 1 ∨ c = 2 := by omega
  all_goals exact h.blk.put _ _ rfl

theorem Fo.taken1 {w : World} {b bg bt : Nat} {pv : Nat → Value} {po : Nat → Option Nat} {f : Fr} (h : Fo w b bg bt pv po f) {c : Nat} (hc : c < 3) {k : Nat} (hk : (f.p c).length = k + 1) {a : Option Addr} {cap : Nat} (hv : pv c = .slice a (k + 1) cap) {x : Nat} (hx : last (f.p c) = x) :
    Fo ((w.setCell ⟨b, 5 + c, none⟩ (.slice a k cap)).setCell ⟨bt, x, none⟩ (.bool true)).drew b bg bt (upd pv c (.slice a k cap)) po (took f c) := by
  have hne := h.ne
  refine ⟨((head_set h hc _ rfl (fun _ _ => rfl) rfl).far hne.2.1 _).drew, ((h.gs.far (fun e => hne.1 e.symm) _).far hne.2.2 _).drew, ?_, fun d hd => ?_, hne, h.far, h.apart⟩
  · have := (bools_set (h.ts.far (p := ⟨b, 5 + c, none⟩) (fun e => hne.2.1 e.symm) (.slice a k cap)) x true).drew
    unfold took
    simp only [hx, Int.toNat_natCast]
    exact this
  · have hb : ∀ {xs : List Value} {m : Nat} {v : Value}, Row w 3 1 v (po d) m xs → Row ((w.setCell ⟨b, 5 + c, none⟩ (.slice a k cap)).setCell ⟨bt, x, none⟩ (.bool true)).drew 3 1 v (po d) m xs := fun q =>
      ((q.far (p := ⟨b, 5 + c, none⟩) (fun e => (h.far d hd b e).1 rfl) _).far (p := ⟨bt, x, none⟩) (fun e => (h.far d hd bt e).2.2 rfl) _).drew
    by_cases e : d = c
    · subst e
      show Row _ _ _ (upd pv d _ d) _ (upd f.p d (f.p d).dropLast d).length (ints (upd f.p d (f.p d).dropLast d))
      rw [upd_same, upd_same, List.length_dropLast, hk, Nat.add_sub_cancel, ints_dropLast _ hk]
      have q := h.rows d hd
      rw [hv, hk] at q
      exact hb (q.firsts (by omega))
    · show Row _ _ _ (upd pv c _ d) _ (upd f.p c (f.p c).dropLast d).length (ints (upd f.p c (f.p c).dropLast d))
      rw [upd_other _ _ e, upd_other _ _ e]
      exact hb (h.rows d hd)

set_option maxHeartbeats 1000000 in
theorem class_is (c : Int) (w : World) : Calls Try.prog 79 #[.int .i64 c] w fun e w' => e = .returned (.bool (clsB c)) ∧ w = w' := by
  cases h : clsB c with
  | true =>
    rw [clsB_iff] at h
    go_enter Try.func79, Try.ntmps79
    go_wp2_with fail
    go_ret
    exact ⟨rfl, rfl⟩
  | false =>
    rw [clsB_not] at h
    by_cases h0 : c < 0
    · clear h
      go_enter Try.func79, Try.ntmps79
      go_wp2_with fail
      go_ret
      exact ⟨rfl, rfl⟩
    · replace h : 3 ≤ c := by omega
      have hd : decide (c < 3) = false := by simp; omega
      go_enter Try.func79, Try.ntmps79
      go_wp2_with fail
      go_ret
      exact ⟨rfl, rfl⟩

set_option maxHeartbeats 2000000 in
set_option maxRecDepth 100000 in
theorem take_nil (c : Int) (w : World) : Calls Try.prog 60 #[.pointer none, .int .i64 c] w fun e w' => e = .returned (.tuple #[.int .i64 0, .int .i64 1]) ∧ w = w' := by
  go_enter Try.func60, Try.ntmps60
  go_wp2_with fail
  go_ret2
  exact ⟨rfl, rfl⟩

set_option maxHeartbeats 4000000 in
set_option maxRecDepth 100000 in
theorem take_any (b : Nat) (f : Fr) (c : Int) (w : World) (S : Nat → Prop) (h : Fob b f w S) (hI : Inv f) : Calls Try.prog 60 #[.pointer (some ⟨b, 0, none⟩), .int .i64 c] w fun e w' =>
    e = .returned (.tuple #[.int .i64 (take f c).2.1, .int .i64 (take f c).2.2]) ∧ Moves (Fob b (take f c).1) S w w' := by
  obtain ⟨bg, bt, pv, po, h, rfl⟩ := h
  cases hc : clsB c with
  | false =>
    have E := Lib.hid (show take f c = (f, 0, 1) by unfold take; rw [hc]; rfl)
    have HC := Lib.hid hc
    rw [E.out]
    have H := Lib.hid h
    clear hc h
    go_enter Try.func60, Try.ntmps60
    go_wp2_with fail
    refine (class_is c _).mono ?_
    rintro e w1 ⟨rfl, rfl⟩
    rw [HC.out]
    go_wp2_with fail
    go_ret2
    exact ⟨rfl, _, ⟨bg, bt, pv, po, H.out, rfl⟩, But.refl _ _, fun k hk => .inl hk⟩
  | true =>
    have HC := Lib.hid hc
    rw [clsB_iff] at hc
    obtain ⟨c, rfl⟩ : ∃ k : Nat, c = k := ⟨c.toNat, by omega⟩
    have hc3 : c < 3 := by omega
    obtain ⟨a0, cap0, hv, hle, hmx⟩ := (h.rows c hc3).val
    have hsm := hI.small
    by_cases he : f.p c = []
    · have E := Lib.hid (show take f c = (f, 0, 8) by unfold take; rw [HC.out, Int.toNat_natCast, he]; rfl)
      rw [E.out]
      have H := Lib.hid h
      rw [he] at hv
      have hcell : w.cell? ⟨b, 5 + c, none⟩ = some (.slice a0 0 cap0) := by
        rw [h.blk.cell]
        obtain rfl | rfl | rfl : c = 0 ∨ c = 1 ∨ c = 2 := by omega
        all_goals exact congrArg some hv
      clear hv he h
      go_enter Try.func60, Try.ntmps60
      go_wp2_with fail
      refine (class_is c _).mono ?_
      rintro e w1 ⟨rfl, rfl⟩
      rw [HC.out]
      go_wp2_with fail
      go_ret2
      exact ⟨rfl, _, ⟨bg, bt, pv, po, H.out, rfl⟩, But.refl _ _, fun k hk => .inl hk⟩
    · obtain ⟨k, hk⟩ : ∃ k, (f.p c).length = k + 1 := ⟨(f.p c).length - 1, by have : (f.p c).length ≠ 0 := fun q => he (List.eq_nil_of_length_eq_zero q); omega⟩
      obtain ⟨b1, off, cap1, hv1, ho1, hlt1, hcap1, hc1, hf1⟩ := (h.rows c hc3).cells (by omega)
      have hmem : last (f.p c) ∈ f.p c := by unfold last; rw [List.getD_eq_getElem?_getD, List.getElem?_eq_getElem (by omega)]; simp
      obtain ⟨hx0, hx1, -, -, -⟩ := hI.p c hc3 _ hmem
      obtain ⟨x, hx⟩ : ∃ x : Nat, last (f.p c) = x := ⟨(last (f.p c)).toNat, by omega⟩
      have hxn : x < n f := by omega
      have hcx : w.cell? ⟨b1, off + k, none⟩ = some (.int .i64 x) := by
        rw [hc1 k (by omega), ← hx, ints_get, List.getElem?_eq_getElem (by omega)]
        unfold last
        simp [hk]
      have E := Lib.hid (show take f c = (took f c, (x : Int), 0) by unfold take; rw [HC.out, Int.toNat_natCast, if_neg he, if_pos rfl, hx])
      rw [E.out]
      rw [hk] at hv1 hcap1
      have hcell : w.cell? ⟨b, 5 + c, none⟩ = some (.slice (some ⟨b1, off, none⟩) (k + 1) cap1) := by
        rw [h.blk.cell]
        obtain rfl | rfl | rfl : c = 0 ∨ c = 1 ∨ c = 2 := by omega
        all_goals exact congrArg some hv1
      have hfr := h.blk.frozen (5 + c)
      have ht : w.cell? ⟨b, 12, none⟩ = some (.slice (some ⟨bt, 0, none⟩) (n f) (n f)) := h.blk.cell 12
      have htx := bools_at h.ts (i := x) (by rw [hI.tl]; exact hxn)
      have hfx := h.ts.frozen x
      have hne := h.ne
      have hn1 : b ≠ bt := hne.2.1
      have hk1 : k ≤ 200 := by
        have := hI.len hc3
        omega
      have hq1 : ¬ 12 = 5 + c := by omega
      have hq2 : ¬ 5 + c = 12 := by omega
      have hs1 : (0 : Int) ≤ k := by omega
      have hs2 : (k : Int) ≤ cap1 := by omega
      have H := Lib.hid h
      have HK := Lib.hid hk
      have HX := Lib.hid hx
      have HV := Lib.hid hv1
      have HO := Lib.hid ho1
      clear hv he h hk hx hv1 ho1 hc1 hmem hx0 hx1 hne
      go_enter Try.func60, Try.ntmps60
      go_wp2_with fail
      refine (class_is c _).mono ?_
      rintro e w1 ⟨rfl, rfl⟩
      rw [HC.out]
      go_wp2_with fail
      go_still_tail 13, (by kernel_rfl)
      change wpList _ _ _ _ _ w.drew
      go_wp2_with fail
      go_ret2
      exact ⟨rfl, foot b bg bt po, ⟨bg, bt, _, po, H.out.taken1 hc3 HK.out HV.out HX.out, rfl⟩, (((But.refl _ _).setCell (by exact .inl (.inl rfl)) _).setCell (by exact .inl (.inr (.inr (.inl rfl)))) _).drew, fun k hk => .inl hk⟩

theorem Fo.cellG {w : World} {b bg bt : Nat} {pv : Nat → Value} {po : Nat → Option Nat} {f : Fr} (h : Fo w b bg bt pv po f) : w.cell? ⟨b, 11, none⟩ = some (.slice (some ⟨bg, 0, none⟩) (n f) (n f)) := h.blk.cell 11
theorem Fo.cellT {w : World} {b bg bt : Nat} {pv : Nat → Value} {po : Nat → Option Nat} {f : Fr} (h : Fo w b bg bt pv po f) : w.cell? ⟨b, 12, none⟩ = some (.slice (some ⟨bt, 0, none⟩) (n f) (n f)) := h.blk.cell 12
theorem Fo.cellR {w : World} {b bg bt : Nat} {pv : Nat → Value} {po : Nat → Option Nat} {f : Fr} (h : Fo w b bg bt pv po f) {c : Nat} (hc : c < 3) : w.cell? ⟨b, 8 + c, none⟩ = some (.int .i64 (f.r c)) := by
  rw [h.blk.cell]
  obtain rfl | rfl | rfl : c = 0 ∨ c = 1 ∨ c = 2 := by omega
  all_goals rfl
theorem Fo.cellP {w : World} {b bg bt : Nat} {pv : Nat → Value} {po : Nat → Option Nat} {f : Fr} (h : Fo w b bg bt pv po f) {c : Nat} (hc : c < 3) : ∃ a cap, pv c = .slice a (f.p c).length cap ∧ (f.p c).length ≤ cap ∧ cap ≤ maxLen ∧ w.cell? ⟨b, 5 + c, none⟩ = some (.slice a (f.p c).length cap) := by
  obtain ⟨a, cap, hv, h1, h2⟩ := (h.rows c hc).val
  refine ⟨a, cap, hv, h1, h2, ?_⟩
  rw [h.blk.cell, ← hv]
  obtain rfl | rfl | rfl : c = 0 ∨ c = 1 ∨ c = 2 := by omega
  all_goals rfl
theorem Fo.gen {w : World} {b bg bt : Nat} {pv : Nat → Value} {po : Nat → Option Nat} {f : Fr} (h : Fo w b bg bt pv po f) {x : Nat} (hx : x < n f) : w.cell? ⟨bg, x, none⟩ = some (.int .i64 (genAt f x)) := ints_at' h.gs hx
theorem Fo.tak {w : World} {b bg bt : Nat} {pv : Nat → Value} {po : Nat → Option Nat} {f : Fr} (h : Fo w b bg bt pv po f) (hI : Inv f) {x : Nat} (hx : x < n f) : w.cell? ⟨bt, x, none⟩ = some (.bool (takenAt f x)) := bools_at h.ts (by rw [hI.tl]; exact hx)

set_option maxHeartbeats 4000000 in
set_option maxRecDepth 100000 in
theorem cell_nil (c : Int) (w : World) : Calls Try.prog 78 #[.pointer none, .int .i64 c] w fun e w' => e = .returned (.bool false) ∧ w = w' := by
  go_enter Try.func78, Try.ntmps78
  go_wp2_with fail
  go_ret
  exact ⟨rfl, rfl⟩

set_option maxHeartbeats 4000000 in
set_option maxRecDepth 100000 in
theorem gen_nil (c : Int) (w : World) : Calls Try.prog 62 #[.pointer none, .int .i64 c] w fun e w' => e = .returned (.int .i64 0) ∧ w = w' := by
  go_enter Try.func62, Try.ntmps62
  go_wp2_with fail
  refine (cell_nil c _).mono ?_
  rintro e w1 ⟨rfl, rfl⟩
  go_wp2_with fail
  go_ret
  exact ⟨rfl, rfl⟩

set_option maxHeartbeats 4000000 in
set_option maxRecDepth 100000 in
theorem taken_nil (c : Int) (w : World) : Calls Try.prog 51 #[.pointer none, .int .i64 c] w fun e w' => e = .returned (.bool false) ∧ w = w' := by
  go_enter Try.func51, Try.ntmps51
  go_wp2_with fail
  refine (cell_nil c _).mono ?_
  rintro e w1 ⟨rfl, rfl⟩
  go_wp2_with fail
  go_ret
  exact ⟨rfl, rfl⟩

set_option maxHeartbeats 4000000 in
set_option maxRecDepth 100000 in
theorem free_nil (c : Int) (w : World) : Calls Try.prog 52 #[.pointer none, .int .i64 c] w fun e w' => e = .returned (.int .i64 0) ∧ w = w' := by
  go_enter Try.func52, Try.ntmps52
  go_wp2_with fail
  go_ret
  exact ⟨rfl, rfl⟩

set_option maxHeartbeats 4000000 in
set_option maxRecDepth 100000 in
theorem retired_nil (c : Int) (w : World) : Calls Try.prog 53 #[.pointer none, .int .i64 c] w fun e w' => e = .returned (.int .i64 0) ∧ w = w' := by
  go_enter Try.func53, Try.ntmps53
  go_wp2_with fail
  go_ret
  exact ⟨rfl, rfl⟩

set_option maxHeartbeats 4000000 in
set_option maxRecDepth 100000 in
theorem cell_any (b bg bt : Nat) (pv : Nat → Value) (po : Nat → Option Nat) (f : Fr) (x : Int) (w : World) (h : Fo w b bg bt pv po f) : Calls Try.prog 78 #[.pointer (some ⟨b, 0, none⟩), .int .i64 x] w fun e w' => e = .returned (.bool (cellB f x)) ∧ w = w' := by
  have c11 := h.cellG
  cases hc : cellB f x with
  | true =>
    rw [cellB_iff] at hc
    clear h
    go_enter Try.func78, Try.ntmps78
    go_wp2_with fail
    go_ret
    exact ⟨rfl, rfl⟩
  | false =>
    rw [cellB_not] at hc
    by_cases h0 : x < 0
    · have hd : decide (0 ≤ x) = false := by simp; omega
      clear hc h
      go_enter Try.func78, Try.ntmps78
      go_wp2_with fail
      go_ret
      exact ⟨rfl, rfl⟩
    · replace hc : (n f : Int) ≤ x := by omega
      have hd : decide (x < (n f : Int)) = false := by simp; omega
      clear h
      go_enter Try.func78, Try.ntmps78
      go_wp2_with fail
      go_ret
      exact ⟨rfl, rfl⟩

set_option maxHeartbeats 4000000 in
set_option maxRecDepth 100000 in
theorem gen_any (b : Nat) (f : Fr) (x : Int) (w : World) (S : Nat → Prop) (h : Fob b f w S) (hI : Inv f) : Calls Try.prog 62 #[.pointer (some ⟨b, 0, none⟩), .int .i64 x] w fun e w' => e = .returned (.int .i64 (gen f x)) ∧ w = w' := by
  obtain ⟨bg, bt, pv, po, h, rfl⟩ := h
  have H := Lib.hid h
  cases hc : cellB f x with
  | false =>
    rw [show gen f x = 0 by unfold gen; rw [hc]; rfl]
    have HC := Lib.hid hc
    clear hc h
    go_enter Try.func62, Try.ntmps62
    go_wp2_with fail
    refine (cell_any b bg bt pv po f _ _ H.out).mono ?_
    rintro e w1 ⟨rfl, rfl⟩
    rw [HC.out]
    go_wp2_with fail
    go_ret
    exact ⟨rfl, rfl⟩
  | true =>
    have HC := Lib.hid hc
    rw [cellB_iff] at hc
    obtain ⟨x, rfl⟩ : ∃ k : Nat, x = k := ⟨x.toNat, by omega⟩
    have hx : x < n f := by omega
    rw [show gen f x = genAt f x by unfold gen; rw [HC.out]; rfl]
    have c11 := h.cellG
    have c12 := h.cellT
    have cx := h.gen hx
    clear h
    go_enter Try.func62, Try.ntmps62
    go_wp2_with fail
    refine (cell_any b bg bt pv po f _ _ H.out).mono ?_
    rintro e w1 ⟨rfl, rfl⟩
    rw [HC.out]
    go_wp2_with fail
    go_ret
    exact ⟨rfl, rfl⟩

set_option maxHeartbeats 4000000 in
set_option maxRecDepth 100000 in
theorem taken_any (b : Nat) (f : Fr) (x : Int) (w : World) (S : Nat → Prop) (h : Fob b f w S) (hI : Inv f) : Calls Try.prog 51 #[.pointer (some ⟨b, 0, none⟩), .int .i64 x] w fun e w' => e = .returned (.bool (taken f x)) ∧ w = w' := by
  obtain ⟨bg, bt, pv, po, h, rfl⟩ := h
  have H := Lib.hid h
  cases hc : cellB f x with
  | false =>
    rw [show taken f x = false by unfold taken; rw [hc]; rfl]
    have HC := Lib.hid hc
    clear hc h
    go_enter Try.func51, Try.ntmps51
    go_wp2_with fail
    refine (cell_any b bg bt pv po f _ _ H.out).mono ?_
    rintro e w1 ⟨rfl, rfl⟩
    rw [HC.out]
    go_wp2_with fail
    go_ret
    exact ⟨rfl, rfl⟩
  | true =>
    have HC := Lib.hid hc
    rw [cellB_iff] at hc
    obtain ⟨x, rfl⟩ : ∃ k : Nat, x = k := ⟨x.toNat, by omega⟩
    have hx : x < n f := by omega
    rw [show taken f x = takenAt f x by unfold taken; rw [HC.out]; rfl]
    have c11 := h.cellG
    have c12 := h.cellT
    have cx := h.tak hI hx
    clear h
    go_enter Try.func51, Try.ntmps51
    go_wp2_with fail
    refine (cell_any b bg bt pv po f _ _ H.out).mono ?_
    rintro e w1 ⟨rfl, rfl⟩
    rw [HC.out]
    go_wp2_with fail
    go_ret
    exact ⟨rfl, rfl⟩

set_option maxHeartbeats 4000000 in
set_option maxRecDepth 100000 in
theorem free_any (b : Nat) (f : Fr) (c : Int) (w : World) (S : Nat → Prop) (h : Fob b f w S) : Calls Try.prog 52 #[.pointer (some ⟨b, 0, none⟩), .int .i64 c] w fun e w' => e = .returned (.int .i64 (free f c)) ∧ w = w' := by
  obtain ⟨bg, bt, pv, po, h, rfl⟩ := h
  cases hc : clsB c with
  | false =>
    rw [show free f c = 0 by unfold free; rw [hc]; rfl]
    have HC := Lib.hid hc
    clear hc h
    go_enter Try.func52, Try.ntmps52
    go_wp2_with fail
    refine (class_is c _).mono ?_
    rintro e w1 ⟨rfl, rfl⟩
    rw [HC.out]
    go_wp2_with fail
    go_ret
    exact ⟨rfl, rfl⟩
  | true =>
    have HC := Lib.hid hc
    rw [clsB_iff] at hc
    obtain ⟨c, rfl⟩ : ∃ k : Nat, c = k := ⟨c.toNat, by omega⟩
    rw [show free f c = ((f.p c).length : Int) by unfold free; rw [HC.out]; rfl]
    obtain ⟨a, cap, -, -, -, c0⟩ := h.cellP (c := c) (by omega)
    have c1 := h.cellR (c := c) (by omega)
    clear h
    go_enter Try.func52, Try.ntmps52
    go_wp2_with fail
    refine (class_is c _).mono ?_
    rintro e w1 ⟨rfl, rfl⟩
    rw [HC.out]
    go_wp2_with fail
    go_ret
    exact ⟨rfl, rfl⟩

set_option maxHeartbeats 4000000 in
set_option maxRecDepth 100000 in
theorem retired_any (b : Nat) (f : Fr) (c : Int) (w : World) (S : Nat → Prop) (h : Fob b f w S) : Calls Try.prog 53 #[.pointer (some ⟨b, 0, none⟩), .int .i64 c] w fun e w' => e = .returned (.int .i64 (retired f c)) ∧ w = w' := by
  obtain ⟨bg, bt, pv, po, h, rfl⟩ := h
  cases hc : clsB c with
  | false =>
    rw [show retired f c = 0 by unfold retired; rw [hc]; rfl]
    have HC := Lib.hid hc
    clear hc h
    go_enter Try.func53, Try.ntmps53
    go_wp2_with fail
    refine (class_is c _).mono ?_
    rintro e w1 ⟨rfl, rfl⟩
    rw [HC.out]
    go_wp2_with fail
    go_ret
    exact ⟨rfl, rfl⟩
  | true =>
    have HC := Lib.hid hc
    rw [clsB_iff] at hc
    obtain ⟨c, rfl⟩ : ∃ k : Nat, c = k := ⟨c.toNat, by omega⟩
    rw [show retired f c = f.r c by unfold retired; rw [HC.out]; rfl]
    obtain ⟨a, cap, -, -, -, c0⟩ := h.cellP (c := c) (by omega)
    have c1 := h.cellR (c := c) (by omega)
    clear h
    go_enter Try.func53, Try.ntmps53
    go_wp2_with fail
    refine (class_is c _).mono ?_
    rintro e w1 ⟨rfl, rfl⟩
    rw [HC.out]
    go_wp2_with fail
    go_ret
    exact ⟨rfl, rfl⟩

/-- A cell that is given, its class's row or number aside. -/
def gave0 (f : Fr) (x : Nat) : Fr := { f with g := f.g.set x (genAt f x + 1), t := f.t.set x false }
theorem Fo.gave0 {w : World} {b bg bt : Nat} {pv : Nat → Value} {po : Nat → Option Nat} {f : Fr} (h : Fo w b bg bt pv po f) (x : Nat) :
    Fo ((w.setCell ⟨bt, x, none⟩ (.bool false)).setCell ⟨bg, x, none⟩ (.int .i64 (genAt f x + 1))) b bg bt pv po (Free.gave0 f x) := by
  have hne := h.ne
  have hn : n (Free.gave0 f x) = n f := by unfold n Free.gave0; simp
  refine ⟨?_, ?_, ?_, fun d hd => ?_, hne, h.far, h.apart⟩
  · have := (h.blk.far (p := ⟨bt, x, none⟩) hne.2.1 (.bool false)).far (p := ⟨bg, x, none⟩) hne.1 (.int .i64 (genAt f x + 1))
    rw [hn]; exact this
  · exact ints_set (h.gs.far (p := ⟨bt, x, none⟩) hne.2.2 _) x _
  · exact (bools_set h.ts x false).far (fun e => hne.2.2 e.symm) _
  · exact ((h.rows d hd).far (p := ⟨bt, x, none⟩) (fun e => (h.far d hd bt e).2.2 rfl) _).far (p := ⟨bg, x, none⟩) (fun e => (h.far d hd bg e).2.1 rfl) _
/-- One more is retired. -/
theorem Fo.retire {w : World} {b bg bt : Nat} {pv : Nat → Value} {po : Nat → Option Nat} {f : Fr} (h : Fo w b bg bt pv po f) {c : Nat} (hc : c < 3) (y : Int) :
    Fo (w.setCell ⟨b, 8 + c, none⟩ (.int .i64 y)) b bg bt pv po { f with r := upd f.r c y } := by
  have hne := h.ne
  refine ⟨?_, h.gs.far (fun e => hne.1 e.symm) _, h.ts.far (fun e => hne.2.1 e.symm) _, fun d hd => (h.rows d hd).far (p := ⟨b, 8 + c, none⟩) (fun e => (h.far d hd b e).1 rfl) _, hne, h.far, h.apart⟩
  obtain rfl | rfl | rfl : c = 0 ∨ c = 1 ∨ c = 2 := by omega
  all_goals exact h.blk.put _ _ rfl
/-- One more is free: its class's row has grown, and lies where the head says now. -/
theorem Fo.pushed {w w' : World} {b bg bt : Nat} {pv : Nat → Value} {po : Nat → Option Nat} {f : Fr} (h : Fo w b bg bt pv po f) {c : Nat} (hc : c < 3) (x : Int) (v : Value) (o : Option Nat)
    (hR : Row w' 3 1 v o ((f.p c).length + 1) (ints (f.p c ++ [x]))) (hB : But (fun k => po c = some k) w w') (hN : ∀ k, o = some k → po c = some k ∨ w.heap.size ≤ k) :
    Fo (w'.setCell ⟨b, 5 + c, none⟩ v) b bg bt (upd pv c v) (upd po c o) { f with p := upd f.p c (f.p c ++ [x]) } := by
  have hne := h.ne
  have hlt := h.lt
  have hfar := h.far c hc
  have old : ∀ k, o = some k → k ≠ b ∧ k ≠ bg ∧ k ≠ bt := fun k hk => by
    rcases hN k hk with q | q
    · exact hfar k q
    · have h1 := hlt b (.inl rfl); have h2 := hlt bg (.inr (.inl rfl)); have h3 := hlt bt (.inr (.inr (.inl rfl))); omega
  have oth : ∀ d, d < 3 → d ≠ c → ∀ k, po d = some k → o ≠ some k := fun d hd hdc k hk e => by
    rcases hN k e with q | q
    · exact h.apart c d hc hd (fun e => hdc e.symm) k q hk
    · have := hlt k (.inr (.inr (.inr ⟨d, hd, hk⟩))); omega
  refine ⟨?_, (h.gs.but hB (fun q => (hfar _ q).2.1 rfl)).far (fun e => hne.1 e.symm) _, (h.ts.but hB (fun q => (hfar _ q).2.2 rfl)).far (fun e => hne.2.1 e.symm) _, fun d hd => ?_, hne, fun d hd k hk => ?_, fun d d' hd hd' hdd k hk => ?_⟩
  · have hb := h.blk.but hB (fun q => (hfar _ q).1 rfl)
    obtain rfl | rfl | rfl : c = 0 ∨ c = 1 ∨ c = 2 := by omega
    all_goals exact hb.put _ _ rfl
  · by_cases e : d = c
    · subst e
      show Row _ _ _ (upd pv d v d) (upd po d o d) (upd f.p d _ d).length (ints (upd f.p d _ d))
      rw [upd_same, upd_same, upd_same, List.length_append]
      exact hR.far (fun q => (old b q).1 rfl) _
    · show Row _ _ _ (upd pv c v d) (upd po c o d) (upd f.p c _ d).length (ints (upd f.p c _ d))
      rw [upd_other _ _ e, upd_other _ _ e, upd_other _ _ e]
      exact ((h.rows d hd).but hB (fun k hk q => h.apart c d hc hd (fun z => e z.symm) k q hk)).far (p := ⟨b, 5 + c, none⟩) (fun q => (h.far d hd b q).1 rfl) _
  · by_cases e : d = c
    · subst e; rw [upd_same] at hk; exact old k hk
    · rw [upd_other _ _ e] at hk; exact h.far d hd k hk
  · by_cases e : d = c
    · subst e
      rw [upd_same] at hk; rw [upd_other _ _ (fun z => hdd z.symm)]
      exact fun q => oth d' hd' (fun z => hdd z.symm) k q hk
    · rw [upd_other _ _ e] at hk
      by_cases e' : d' = c
      · subst e'; rw [upd_same]; exact oth d hd e k hk
      · rw [upd_other _ _ e']; exact h.apart d d' hd hd' hdd k hk

theorem Fo.drew {w : World} {b bg bt : Nat} {pv : Nat → Value} {po : Nat → Option Nat} {f : Fr} (h : Fo w b bg bt pv po f) : Fo w.drew b bg bt pv po f := h.but (But.refl (fun _ => False) w).drew (fun _ q _ => q)
theorem gave_ret {f : Fr} {x c : Nat} {γ : Int} (hg : genAt f x = γ) (hc : cls f x = c) (h : γ + 1 = 4294967295) : gave f x = ({ gave0 f x with r := upd f.r c (f.r c + 1) }, true) := by
  unfold gave gave0; rw [hg, if_pos h, hc]; rfl
theorem gave_push {f : Fr} {x c : Nat} {γ : Int} (hg : genAt f x = γ) (hc : cls f x = c) (h : ¬ γ + 1 = 4294967295) : gave f x = ({ gave0 f x with p := upd f.p c (f.p c ++ [(x : Int)]) }, false) := by
  unfold gave gave0; rw [hg, if_neg h, hc]; rfl
theorem moved {w w2 w3 w4 : World} {b bg bt : Nat} {po : Nat → Option Nat} (g2 : But (fun _ => False) w w2) (g3 : But (fun k => k = bt ∨ k = bg) w2 w3) {S : Nat → Prop} (g4 : But S w3 w4) (hS : ∀ k, S k → foot b bg bt po k ∨ w.heap.size ≤ k) : But (foot b bg bt po) w w4 :=
  ((g2.mono (fun k hk => hk.elim)).trans' g3 (fun k hk => .inl (by rcases hk with rfl | rfl; exact .inr (.inr (.inl rfl)); exact .inr (.inl rfl)))).trans' g4 hS

set_option maxHeartbeats 4000000 in
set_option maxRecDepth 100000 in
theorem give_nil (c : Int) (w : World) : Calls Try.prog 64 #[.pointer none, .int .i64 c] w fun e w' => e = .returned (.tuple #[.bool false, .int .i64 1]) ∧ w = w' := by
  go_enter Try.func64, Try.ntmps64
  go_wp2_with fail
  refine (cell_nil c _).mono ?_
  rintro e w1 ⟨rfl, rfl⟩
  go_wp2_with fail
  go_ret2
  exact ⟨rfl, rfl⟩

set_option maxHeartbeats 4000000 in
set_option maxRecDepth 100000 in
theorem give_any (b : Nat) (f : Fr) (x : Int) (w : World) (S : Nat → Prop) (h : Fob b f w S) (hI : Inv f) (hx : -9223372036854775808 ≤ x ∧ x ≤ 9223372036854775807) : Calls Try.prog 64 #[.pointer (some ⟨b, 0, none⟩), .int .i64 x] w fun e w' =>
    e = .returned (.tuple #[.bool (give f x).2.1, .int .i64 (give f x).2.2]) ∧ Moves (Fob b (give f x).1) S w w' := by
  obtain ⟨i0, hi, hz0, hz1, hz2⟩ := info_parts infoInt
  obtain ⟨bg, bt, pv, po, h, rfl⟩ := h
  have H := Lib.hid h
  cases hc : cellB f x with
  | false =>
    have E := Lib.hid (show give f x = (f, false, 1) by unfold give; rw [hc]; rfl)
    rw [E.out]
    have HC := Lib.hid hc
    clear hc h
    go_enter Try.func64, Try.ntmps64
    go_wp2_with fail
    refine (cell_any b bg bt pv po f _ _ H.out).mono ?_
    rintro e w1 ⟨rfl, rfl⟩
    rw [HC.out]
    go_wp2_with fail
    go_ret2
    exact ⟨rfl, _, ⟨bg, bt, pv, po, H.out, rfl⟩, But.refl _ _, fun k hk => .inl hk⟩
  | true =>
    have HC := Lib.hid hc
    rw [cellB_iff] at hc
    obtain ⟨x, rfl⟩ : ∃ k : Nat, x = k := ⟨x.toNat, by omega⟩
    have hxn : x < n f := by omega
    have c11 := h.cellG
    have c12 := h.cellT
    have cx := h.tak hI hxn
    cases ht : takenAt f x with
    | false =>
      have E := Lib.hid (show give f x = (f, false, 9) by unfold give; rw [HC.out, ht]; rfl)
      rw [E.out]
      rw [ht] at cx
      clear ht h
      go_enter Try.func64, Try.ntmps64
      go_wp2_with fail
      refine (cell_any b bg bt pv po f _ _ H.out).mono ?_
      rintro e w1 ⟨rfl, rfl⟩
      rw [HC.out]
      go_wp2_with fail
      go_ret2
      exact ⟨rfl, _, ⟨bg, bt, pv, po, H.out, rfl⟩, But.refl _ _, fun k hk => .inl hk⟩
    | true =>
      have E := Lib.hid (show give f x = ((gave f x).1, (gave f x).2, 0) by unfold give; rw [HC.out, ht]; rfl)
      rw [E.out]
      have htg := hI.tg x hxn ht
      rw [ht] at cx
      have b0 := h.blk.cell 0
      have b1 := h.blk.cell 1
      have b2 := h.blk.cell 2
      have b3 := h.blk.cell 3
      have b4 := h.blk.cell 4
      obtain ⟨c, hc3, hcl⟩ := hI.cls_lt hxn
      have hgb := hI.gen_bd hxn
      have hrb := hI.r c hc3
      obtain ⟨γ, hγ⟩ : ∃ γ, genAt f x = γ := ⟨_, rfl⟩
      rw [hγ] at htg hgb
      have HG := Lib.hid hγ
      have HCL := Lib.hid hcl
      have hlen := hI.len hc3
      have hsm := hI.small
      obtain ⟨hn1, hn2, hn3⟩ := h.ne
      have hn4 : bg ≠ b := fun e => hn1 e.symm
      have hn5 : bt ≠ b := fun e => hn2 e.symm
      have hn6 : bt ≠ bg := fun e => hn3 e.symm
      have q1 : ¬ 12 = 8 + c := by omega
      have hcI : (c : Int) < 3 := by omega
      have hcI0 : (0 : Int) ≤ c := by omega
      clear ht h hγ hcl
      by_cases hg : γ + 1 = 4294967295
      · have hgB : (γ + 1 == 4294967295) = true := by simpa using hg
        have EG := Lib.hid (gave_ret HG.out HCL.out hg)
        rw [EG.out]
        clear hg
        go_enter Try.func64, Try.ntmps64
        go_wp2_with fail
        refine (cell_any b bg bt pv po f _ _ H.out).mono ?_
        rintro e w1 ⟨rfl, rfl⟩
        rw [HC.out]
        go_wp2_with fail
        refine (Conf.class_any f.s x _ hx).mono ?_
        rintro e w2 ⟨rfl, g2⟩
        rw [show (Conf.find f.s (x : Int)).1 = (c : Int) from HCL.out]
        have H2 := Lib.hid (H.out.but g2 (fun _ q _ => q))
        clear c11 c12 cx b0 b1 b2 b3 b4
        have c11 := H2.out.cellG
        have c12 := H2.out.cellT
        have cx := H2.out.tak hI hxn
        have cg := H2.out.gen hxn
        have fg := H2.out.gs.frozen x
        have ft := H2.out.ts.frozen x
        rw [HG.out] at cg
        go_wp2_with fail
        have h3 := H2.out.gave0 x
        rw [HG.out] at h3
        obtain ⟨w3, hw3⟩ : ∃ w3, w3 = (w2.setCell ⟨bt, x, none⟩ (.bool false)).setCell ⟨bg, x, none⟩ (.int .i64 (γ + 1)) := ⟨_, rfl⟩
        have g3 : But (fun k => k = bt ∨ k = bg) w2 w3 := by rw [hw3]; exact ((But.refl _ _).setCell (by exact .inl (.inl rfl)) _).setCell (by exact .inl (.inr rfl)) _
        rw [← hw3] at h3 ⊢
        have H3 := Lib.hid h3
        clear hw3 h3 c11 c12 cx cg fg ft
        have cr : w3.cell? ⟨b, 8 + c, none⟩ = some (.int .i64 (f.r c)) := H3.out.cellR hc3
        have fr := H3.out.blk.frozen (8 + c)
        go_still_tail 10, (by kernel_rfl)
        change wpList _ _ _ _ _ w3.drew
        go_wp2_with fail
        go_ret2
        exact ⟨rfl, foot b bg bt po, ⟨bg, bt, pv, po, (H3.out.retire hc3 _).drew, rfl⟩, moved g2 g3 (((But.refl (fun k => k = b) _).setCell (by exact .inl rfl) _).drew) (fun k hk => .inl (.inl hk)), fun k hk => .inl hk⟩
      · have hgB : (γ + 1 == 4294967295) = false := by simpa using hg
        have EG := Lib.hid (gave_push HG.out HCL.out hg)
        rw [EG.out]
        clear hg
        go_enter Try.func64, Try.ntmps64
        go_wp2_with fail
        refine (cell_any b bg bt pv po f _ _ H.out).mono ?_
        rintro e w1 ⟨rfl, rfl⟩
        rw [HC.out]
        go_wp2_with fail
        refine (Conf.class_any f.s x _ hx).mono ?_
        rintro e w2 ⟨rfl, g2⟩
        rw [show (Conf.find f.s (x : Int)).1 = (c : Int) from HCL.out]
        have H2 := Lib.hid (H.out.but g2 (fun _ q _ => q))
        clear c11 c12 cx b0 b1 b2 b3 b4
        have c11 := H2.out.cellG
        have c12 := H2.out.cellT
        have cx := H2.out.tak hI hxn
        have cg := H2.out.gen hxn
        have fg := H2.out.gs.frozen x
        have ft := H2.out.ts.frozen x
        rw [HG.out] at cg
        obtain ⟨a, cap, hv, hcap1, hcap2, cp⟩ := H2.out.cellP hc3
        have HV := Lib.hid hv
        clear hv
        go_wp2_with fail
        have h3 := H2.out.gave0 x
        rw [HG.out] at h3
        obtain ⟨w3, hw3⟩ : ∃ w3, w3 = (w2.setCell ⟨bt, x, none⟩ (.bool false)).setCell ⟨bg, x, none⟩ (.int .i64 (γ + 1)) := ⟨_, rfl⟩
        have g3 : But (fun k => k = bt ∨ k = bg) w2 w3 := by rw [hw3]; exact ((But.refl _ _).setCell (by exact .inl (.inl rfl)) _).setCell (by exact .inl (.inr rfl)) _
        rw [← hw3] at h3 ⊢
        have H3 := Lib.hid h3
        clear hw3 h3 c11 c12 cx cg fg ft cp
        obtain ⟨a', cap', hv', hcap1', hcap2', cp⟩ := H3.out.cellP hc3
        have e1 : a' = a ∧ cap' = cap := by have := hv'.symm.trans HV.out; simp at this; exact ⟨this.1, this.2.2⟩
        obtain ⟨rfl, rfl⟩ := e1
        clear hv'
        have fp := H3.out.blk.frozen (5 + c)
        have hbw : b < w3.heap.size := H3.out.blk.lt
        have hrow : Row (w3.alloc (.cells #[.int .i64 x] 3)).drew 3 1 (.slice a' (f.p c).length cap') (po c) (f.p c).length (ints (f.p c)) := by
          rw [← HV.out]; exact ((H3.out.rows c hc3).alloc _).drew
        have hbw : b < w3.heap.size := H3.out.blk.lt
        have hrow : Row (w3.alloc (.cells #[.int .i64 x] 3)).drew 3 1 (.slice a' (f.p c).length cap') (po c) (f.p c).length (ints (f.p c)) := by
          rw [← HV.out]; exact ((H3.out.rows c hc3).alloc _).drew
        have hcp4 : ∀ w4, But (fun k => po c = some k) w3 w4 → w4.cell? ⟨b, 5 + c, none⟩ = some (.slice a' (f.p c).length cap') := fun w4 hB => by
          rw [(H3.out.blk.but hB (fun q => (H3.out.far c hc3 b q).1 rfl)).cell, ← H3.out.blk.cell]; exact cp
        refine wp_region_any (by kernel_rfl) ?_
        change wpAny _ _ _ _ _ _ _ (World.drew _)
        refine wpAny_take (i := 0) (oi := ⟨some 60, _, _, _, _, _⟩) (v := ?_) rfl (by kernel_rfl) (by kernel_rfl) (by kernel_rfl) (fun _ _ _ h => h) (Or.inl ⟨by rfl, ?_⟩) ?_
        rotate_left
        · intro w
          go_simp
          try with_reducible rfl
        simp only [Act.put, List.setIfInBounds_toArray, List.set_cons_zero, List.set_cons_succ]
        refine wpAny_take (i := 1) (oi := ⟨some 61, _, _, _, _, _⟩) (v := ?_) rfl (by kernel_rfl) (by kernel_rfl) (by kernel_rfl) (fun _ _ _ h => h) (Or.inl ⟨by rfl, ?_⟩) ?_
        rotate_left
        · intro w
          go_simp
          try with_reducible rfl
        simp only [Act.put, List.setIfInBounds_toArray, List.set_cons_zero, List.set_cons_succ]
        refine wpAny_take (i := 2) (oi := ⟨some 62, _, _, _, _, _⟩) (v := ?_) rfl (by kernel_rfl) (by kernel_rfl) (by kernel_rfl) (fun _ _ _ h => h) (Or.inl ⟨by rfl, ?_⟩) ?_
        rotate_left
        · intro w
          go_simp
          try with_reducible rfl
        simp only [Act.put, List.setIfInBounds_toArray, List.set_cons_zero, List.set_cons_succ]
        refine wpAny_take (i := 3) (oi := ⟨some 63, _, _, _, _, _⟩) (v := ?_) rfl (by kernel_rfl) (by kernel_rfl) (by kernel_rfl) (fun _ _ _ h => h) (Or.inl ⟨by rfl, ?_⟩) ?_
        rotate_left
        · intro w
          go_simp
          try with_reducible rfl
        simp only [Act.put, List.setIfInBounds_toArray, List.set_cons_zero, List.set_cons_succ]
        refine wpAny_take (i := 4) (oi := ⟨some 64, _, _, _, _, _⟩) (v := ?_) rfl (by kernel_rfl) (by kernel_rfl) (by kernel_rfl) (fun _ _ _ h => h) (Or.inl ⟨by rfl, ?_⟩) ?_
        rotate_left
        · intro w
          go_simp
          try with_reducible rfl
        simp only [Act.put, List.setIfInBounds_toArray, List.set_cons_zero, List.set_cons_succ]
        refine wpAny_take (i := 5) (oi := ⟨some 65, _, _, _, _, _⟩) (v := ?_) rfl (by kernel_rfl) (by kernel_rfl) (by kernel_rfl) (fun _ _ _ h => h) (Or.inl ⟨by rfl, ?_⟩) ?_
        rotate_left
        · intro w
          go_simp
          try with_reducible rfl
        simp only [Act.put, List.setIfInBounds_toArray, List.set_cons_zero, List.set_cons_succ]
        refine wpAny_take (i := 6) (oi := ⟨some 66, _, _, _, _, _⟩) (v := ?_) rfl (by kernel_rfl) (by kernel_rfl) (by kernel_rfl) (fun _ _ _ h => h) (Or.inl ⟨by rfl, ?_⟩) ?_
        rotate_left
        · intro w
          go_simp
          try with_reducible rfl
        simp only [Act.put, List.setIfInBounds_toArray, List.set_cons_zero, List.set_cons_succ]
        refine wpAny_take (i := 8) (oi := ⟨some 68, _, _, _, _, _⟩) (v := ?_) rfl (by kernel_rfl) (by kernel_rfl) (by kernel_rfl) (fun _ _ _ h => h) (Or.inl ⟨by rfl, ?_⟩) ?_
        rotate_left
        · intro w
          go_simp
          try with_reducible rfl
        simp only [Act.put, List.setIfInBounds_toArray, List.set_cons_zero, List.set_cons_succ]
        refine wpAny_take (i := 11) (oi := ⟨some 71, _, _, _, _, _⟩) (v := ?_) rfl (by kernel_rfl) (by kernel_rfl) (by kernel_rfl) (fun _ _ _ h => h) (Or.inl ⟨by rfl, ?_⟩) ?_
        rotate_left
        · intro w
          go_simp
          try with_reducible rfl
        simp only [Act.put, List.setIfInBounds_toArray, List.set_cons_zero, List.set_cons_succ]
        refine wpAny_take (i := 12) (oi := ⟨some 72, _, _, _, _, _⟩) (v := ?_) rfl (by kernel_rfl) (by kernel_rfl) (by kernel_rfl) (fun _ _ _ h => h) (Or.inl ⟨by rfl, ?_⟩) ?_
        rotate_left
        · intro w
          go_simp
          try with_reducible rfl
        simp only [Act.put, List.setIfInBounds_toArray, List.set_cons_zero, List.set_cons_succ]
        refine wpAny_ready (rs := [7, 9]) (by kernel_rfl) (by simp) ?_
        refine AllReady.cons rfl (fun K hK => ?_) (AllReady.cons rfl (fun K hK => ?_) AllReady.nil)
        · go_simp
          refine hK _ _ ?_
          clear hK K
          refine wpAny_ready (rs := [9]) (by kernel_rfl) (by simp) ?_
          refine AllReady.cons rfl (fun K hK => ?_) AllReady.nil
          go_simp
          refine hK _ _ ?_
          clear hK K
          refine wpAny_ready (rs := [10]) (by kernel_rfl) (by simp) ?_
          refine AllReady.cons rfl (fun K hK => ?_) AllReady.nil
          refine step_append_row (o := ⟨some 70, _, _, _, _, _⟩) (by rfl) _ _ _ rfl 3 i0 (.int .i64 0) 1 8 Try.underlying51 hi hz0 hz1 hz2 rfl (by decide) (.slice a' (f.p c).length cap') (po c) (f.p c).length (ints (f.p c)) hrow rfl ⟨w3.heap.size, 0, none⟩ 1 1 [.int .i64 x] rfl rfl (new_src _ _ _) (by simp [Value.oneCell']) (by unfold maxLen; omega) (by omega) ?_
          intro v4 w4 o4 hR4 hB4 hN4
          obtain ⟨a4, cap4, rfl, h41, h42⟩ := hR4.val
          refine hK _ _ ?_
          clear hK K
          simp only [Act.put, List.setIfInBounds_toArray, List.set_cons_zero, List.set_cons_succ]
          refine wpAny_take (i := 13) (oi := ⟨some 73, _, _, _, _, _⟩) (v := ?_) rfl (by kernel_rfl) (by kernel_rfl) (by kernel_rfl) (fun _ _ _ h => h) (Or.inl ⟨by rfl, ?_⟩) ?_
          rotate_left
          · intro w
            go_simp
            try with_reducible rfl
          simp only [Act.put, List.setIfInBounds_toArray, List.set_cons_zero, List.set_cons_succ]
          have hB5 : But (fun k => po c = some k) w3 w4 := ((But.refl _ _).alloc _).drew.trans hB4
          have fp4 : w4.frozen? ⟨b, 5 + c, none⟩ = false := (H3.out.blk.but hB5 (fun q => (H3.out.far c hc3 b q).1 rfl)).frozen _
          have cp4 := hcp4 w4 hB5
          refine wpAny_ready (rs := [14]) (by kernel_rfl) (by simp) ?_
          refine AllReady.cons rfl (fun K hK => ?_) AllReady.nil
          go_simp
          refine hK _ _ ?_
          clear hK K
          refine wpAny_done (by kernel_rfl) ?_ _
          go_wp2_with fail
          go_ret2
          have hN5 : ∀ k, o4 = some k → po c = some k ∨ w3.heap.size ≤ k := fun k hk => by
            rcases hN4 k hk with q | q
            · exact .inl q
            · simp at q; exact .inr (by omega)
          have s2 := g2.size
          have s3 := g3.size
          have hR5 : Row w4 3 1 (.slice a4 ((f.p c).length + 1) cap4) o4 ((f.p c).length + 1) (ints (f.p c ++ [(x : Int)])) := by simpa [ints] using hR4
          exact ⟨rfl, foot b bg bt (upd po c o4), ⟨bg, bt, _, _, H3.out.pushed hc3 (x : Int) _ o4 hR5 hB5 hN5, rfl⟩,
            moved g2 g3 (S := fun k => po c = some k ∨ k = b) ((hB5.mono (fun k hk => .inl (.inl hk))).setCell (by exact .inl (.inr rfl)) _) (fun k hk => by
              rcases hk with q | rfl
              · exact .inl (.inr (.inr (.inr ⟨c, hc3, q⟩)))
              · exact .inl (.inl rfl)), fun k hk => by
            rcases hk with rfl | rfl | rfl | ⟨d, hd, e⟩
            · exact .inl (.inl rfl)
            · exact .inl (.inr (.inl rfl))
            · exact .inl (.inr (.inr (.inl rfl)))
            · by_cases z : d = c
              · subst z
                rw [upd_same] at e
                rcases hN5 k e with q | q
                · exact .inl (.inr (.inr (.inr ⟨d, hd, q⟩)))
                · exact .inr (by omega)
              · rw [upd_other _ _ z] at e
                exact .inl (.inr (.inr (.inr ⟨d, hd, e⟩)))⟩
        · go_simp
          refine hK _ _ ?_
          clear hK K
          refine wpAny_ready (rs := [7]) (by kernel_rfl) (by simp) ?_
          refine AllReady.cons rfl (fun K hK => ?_) AllReady.nil
          go_simp
          refine hK _ _ ?_
          clear hK K
          refine wpAny_ready (rs := [10]) (by kernel_rfl) (by simp) ?_
          refine AllReady.cons rfl (fun K hK => ?_) AllReady.nil
          refine step_append_row (o := ⟨some 70, _, _, _, _, _⟩) (by rfl) _ _ _ rfl 3 i0 (.int .i64 0) 1 8 Try.underlying51 hi hz0 hz1 hz2 rfl (by decide) (.slice a' (f.p c).length cap') (po c) (f.p c).length (ints (f.p c)) hrow rfl ⟨w3.heap.size, 0, none⟩ 1 1 [.int .i64 x] rfl rfl (new_src _ _ _) (by simp [Value.oneCell']) (by unfold maxLen; omega) (by omega) ?_
          intro v4 w4 o4 hR4 hB4 hN4
          obtain ⟨a4, cap4, rfl, h41, h42⟩ := hR4.val
          refine hK _ _ ?_
          clear hK K
          simp only [Act.put, List.setIfInBounds_toArray, List.set_cons_zero, List.set_cons_succ]
          refine wpAny_take (i := 13) (oi := ⟨some 73, _, _, _, _, _⟩) (v := ?_) rfl (by kernel_rfl) (by kernel_rfl) (by kernel_rfl) (fun _ _ _ h => h) (Or.inl ⟨by rfl, ?_⟩) ?_
          rotate_left
          · intro w
            go_simp
            try with_reducible rfl
          simp only [Act.put, List.setIfInBounds_toArray, List.set_cons_zero, List.set_cons_succ]
          have hB5 : But (fun k => po c = some k) w3 w4 := ((But.refl _ _).alloc _).drew.trans hB4
          have fp4 : w4.frozen? ⟨b, 5 + c, none⟩ = false := (H3.out.blk.but hB5 (fun q => (H3.out.far c hc3 b q).1 rfl)).frozen _
          have cp4 := hcp4 w4 hB5
          refine wpAny_ready (rs := [14]) (by kernel_rfl) (by simp) ?_
          refine AllReady.cons rfl (fun K hK => ?_) AllReady.nil
          go_simp
          refine hK _ _ ?_
          clear hK K
          refine wpAny_done (by kernel_rfl) ?_ _
          go_wp2_with fail
          go_ret2
          have hN5 : ∀ k, o4 = some k → po c = some k ∨ w3.heap.size ≤ k := fun k hk => by
            rcases hN4 k hk with q | q
            · exact .inl q
            · simp at q; exact .inr (by omega)
          have s2 := g2.size
          have s3 := g3.size
          have hR5 : Row w4 3 1 (.slice a4 ((f.p c).length + 1) cap4) o4 ((f.p c).length + 1) (ints (f.p c ++ [(x : Int)])) := by simpa [ints] using hR4
          exact ⟨rfl, foot b bg bt (upd po c o4), ⟨bg, bt, _, _, H3.out.pushed hc3 (x : Int) _ o4 hR5 hB5 hN5, rfl⟩,
            moved g2 g3 (S := fun k => po c = some k ∨ k = b) ((hB5.mono (fun k hk => .inl (.inl hk))).setCell (by exact .inl (.inr rfl)) _) (fun k hk => by
              rcases hk with q | rfl
              · exact .inl (.inr (.inr (.inr ⟨c, hc3, q⟩)))
              · exact .inl (.inl rfl)), fun k hk => by
            rcases hk with rfl | rfl | rfl | ⟨d, hd, e⟩
            · exact .inl (.inl rfl)
            · exact .inl (.inr (.inl rfl))
            · exact .inl (.inr (.inr (.inl rfl)))
            · by_cases z : d = c
              · subst z
                rw [upd_same] at e
                rcases hN5 k e with q | q
                · exact .inl (.inr (.inr (.inr ⟨d, hd, q⟩)))
                · exact .inr (by omega)
              · rw [upd_other _ _ z] at e
                exact .inl (.inr (.inr (.inr ⟨d, hd, e⟩)))⟩

end Free
end Go.Proofs.Ytngbhhcicakolaa
