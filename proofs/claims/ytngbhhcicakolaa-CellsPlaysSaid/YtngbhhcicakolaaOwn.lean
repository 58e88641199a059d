/- Things in memory that lie apart: what is done to one of them leaves the others as they were. -/
import Derived.Test.YtngbhhcicakolaaRow
import Derived.Test.YtngbhhcicakolaaLists
set_option linter.unusedVariables false
set_option linter.unusedSimpArgs false
namespace Go.Proofs.Ytngbhhcicakolaa
open Go.RowKit

/-- A thing in memory, and the blocks that it lies in. -/
structure Pc where
  is : World → Prop
  S : Nat → Prop
  keep : ∀ {U : Nat → Prop} {w w' : World}, is w → But U w w' → Apart U S → is w'
  lt : ∀ {w : World}, is w → ∀ k, S k → k < w.heap.size

/-- All of them are there, lie apart, and are new since w0; what was there then is as it was. -/
structure Own (w0 w : World) (L : List Pc) : Prop where
  is : ∀ (i : Nat) (h : i < L.length), L[i].is w
  apart : ∀ (i j : Nat) (hi : i < L.length) (hj : j < L.length), i ≠ j → Apart L[i].S L[j].S
  new : ∀ (i : Nat) (h : i < L.length), ∀ k, L[i].S k → w0.heap.size ≤ k
  but : But (fun _ => False) w0 w

theorem Own.nil {w0 w : World} (h : But (fun _ => False) w0 w) : Own w0 w [] :=
  ⟨fun i h => absurd h (Nat.not_lt_zero i), fun i j h => absurd h (Nat.not_lt_zero i), fun i h => absurd h (Nat.not_lt_zero i), h⟩
theorem Own.get {w0 w : World} {L : List Pc} (h : Own w0 w L) (i : Nat) {p : Pc} (hp : L[i]? = some p) : p.is w := by
  obtain ⟨hi, rfl⟩ := List.getElem?_eq_some_iff.1 hp
  exact h.is i hi
theorem Own.same {w0 w w' : World} {L : List Pc} (h : Own w0 w L) (g : But (fun _ => False) w w') : Own w0 w' L :=
  ⟨fun i hi => L[i].keep (h.is i hi) g (fun _ q _ => q), h.apart, h.new, h.but.trans g⟩
theorem Own.put {w0 w w' : World} {L : List Pc} (h : Own w0 w L) (i : Nat) {p q : Pc} (hp : L[i]? = some p) (hq : q.is w') (hb : But p.S w w') (hn : ∀ k, q.S k → p.S k ∨ w.heap.size ≤ k) : Own w0 w' (L.set i q) := by
  obtain ⟨hi, rfl⟩ := List.getElem?_eq_some_iff.1 hp
  have hz := h.but.size
  have ap : ∀ j (hj : j < L.length), i ≠ j → Apart q.S L[j].S := fun j hj ne => (h.apart i j hi hj ne).step (fun k hk => L[j].lt (h.is j hj) k hk) hn
  refine ⟨fun j hj => ?_, fun j k hj hk ne => ?_, fun j hj k hk => ?_, h.but.trans' hb (fun k hk => .inr (h.new i hi k hk))⟩
  · rw [List.length_set] at hj
    rw [List.getElem_set]
    split
    · exact hq
    · rename_i e; exact L[j].keep (h.is j hj) hb (h.apart i j hi hj e)
  · rw [List.length_set] at hj hk
    rw [List.getElem_set, List.getElem_set]
    split <;> split
    · omega
    · rename_i e1 e2; exact ap k hk e2
    · rename_i e1 e2; exact (ap j hj e1).symm
    · exact h.apart j k hj hk ne
  · rw [List.length_set] at hj
    rw [List.getElem_set] at hk
    split at hk
    · rcases hn k hk with r | r
      · exact h.new i hi k r
      · omega
    · exact h.new j hj k hk
theorem Own.add {w0 w w' : World} {L : List Pc} (h : Own w0 w L) {q : Pc} (hq : q.is w') (g : But (fun _ => False) w w') (hn : ∀ k, q.S k → w.heap.size ≤ k) : Own w0 w' (q :: L) := by
  have hz := h.but.size
  have ap : ∀ j (hj : j < L.length), Apart q.S L[j].S := fun j hj k a b => by have := hn k a; have := L[j].lt (h.is j hj) k b; omega
  refine ⟨fun i hi => ?_, fun i j hi hj ne => ?_, fun i hi k hk => ?_, h.but.trans g⟩
  · cases i with
    | zero => exact hq
    | succ i => exact (L[i]'(by simpa using hi)).keep (h.is i (by simpa using hi)) g (fun _ q _ => q)
  · cases i with
    | zero =>
      cases j with
      | zero => exact absurd rfl ne
      | succ j => exact ap j (by simpa using hj)
    | succ i =>
      cases j with
      | zero => exact (ap i (by simpa using hi)).symm
      | succ j => exact h.apart i j (by simpa using hi) (by simpa using hj) (by omega)
  · cases i with
    | zero => have := hn k hk; omega
    | succ i => exact h.new i (by simpa using hi) k hk
theorem Own.drop {w0 w : World} {L : List Pc} {q : Pc} (h : Own w0 w (q :: L)) : Own w0 w L :=
  ⟨fun i hi => h.is (i + 1) (by simpa using hi), fun i j hi hj ne => h.apart (i + 1) (j + 1) (by simpa using hi) (by simpa using hj) (by omega), fun i hi => h.new (i + 1) (by simpa using hi), h.but⟩
theorem Own.swap {w0 w : World} {p q : Pc} {L : List Pc} (h : Own w0 w (p :: q :: L)) : Own w0 w (q :: p :: L) := by
  have key : ∀ (i : Nat) (hi : i < (q :: p :: L).length), ∃ (j : Nat) (hj : j < (p :: q :: L).length), (q :: p :: L)[i] = (p :: q :: L)[j] ∧ j = (if i = 0 then 1 else if i = 1 then 0 else i) := fun i hi => by
    match i, hi with
    | 0, _ => exact ⟨1, by simp, rfl, rfl⟩
    | 1, _ => exact ⟨0, by simp, rfl, rfl⟩
    | i + 2, hi => exact ⟨i + 2, by simpa using hi, rfl, by rw [if_neg (by omega), if_neg (by omega)]⟩
  refine ⟨fun i hi => ?_, fun i k hi hk ne => ?_, fun i hi => ?_, h.but⟩
  · obtain ⟨j, hj, e, -⟩ := key i hi
    rw [e]; exact h.is j hj
  · obtain ⟨j, hj, e, ej⟩ := key i hi
    obtain ⟨l, hl, e', el⟩ := key k hk
    rw [e, e']
    exact h.apart j l hj hl (by
      intro hq
      rw [ej, el] at hq
      split at hq <;> split at hq <;> (try split at hq) <;> (try split at hq) <;> omega)
  · obtain ⟨j, hj, e, -⟩ := key i hi
    rw [e]; exact h.new j hj
theorem Own.drew {w0 w : World} {L : List Pc} (h : Own w0 w L) : Own w0 w.drew L := h.same (But.refl _ w).drew
theorem Own.drewN {w0 w : World} {L : List Pc} (h : Own w0 w L) (n : Nat) : Own w0 (w.drewN n) L := h.same ((But.refl _ w).drewN n)

/-- A slice in a block of its own. -/
def Pc.row (E : TypeId) (size : Nat) (v : Value) (o : Option Nat) (n : Nat) (xs : List Value) : Pc :=
  ⟨fun w => Row w E size v o n xs, fun k => o = some k, fun h b a => h.but b (fun k hk q => a k q hk), fun h k hk => h.lt hk⟩
/-- A block known whole. -/
def Pc.blk (b : Nat) (cs : Array Value) (T : TypeId) : Pc :=
  ⟨fun w => Blk w b cs T, fun k => k = b, fun h g a => h.but g (fun q => a b q rfl), fun h k hk => by subst hk; exact h.lt⟩

/-! ### Rows of numbers -/
def nthI (l : List Int) (m : Nat) : Int := l.getD m 0
theorem nthI_get {l : List Int} {m : Nat} (h : m < l.length) : (ints l)[m]? = some (.int .i64 (nthI l m)) := by
  unfold ints nthI
  rw [List.getElem?_map, List.getElem?_eq_getElem h, List.getD_eq_getElem?_getD, List.getElem?_eq_getElem h]
  rfl
theorem nthI_set {l : List Int} {j m : Nat} {x : Int} (h : j < l.length) : nthI (l.set j x) m = if j = m then x else nthI l m := by
  unfold nthI
  rw [List.getD_eq_getElem?_getD, List.getElem?_set, List.getD_eq_getElem?_getD]
  split
  · rename_i e; subst e; simp [h]
  · rfl
theorem nthI_push {l : List Int} {v : Int} {k : Nat} : nthI (l ++ [v]) k = if k < l.length then nthI l k else if k = l.length then v else 0 := by
  unfold nthI
  simp only [List.getD_eq_getElem?_getD, List.getElem?_append]
  split
  · rfl
  · rename_i h
    split
    · rename_i e; subst e; simp
    · rename_i e; rw [List.getElem?_eq_none (by simp; omega)]; rfl
theorem nthI_ext {l k : List Int} (h : l.length = k.length) (e : ∀ t, t < l.length → nthI l t = nthI k t) : l = k := by
  refine List.ext_getElem h (fun i h1 h2 => ?_)
  have := e i h1
  unfold nthI at this
  rw [List.getD_eq_getElem?_getD, List.getD_eq_getElem?_getD, List.getElem?_eq_getElem h1, List.getElem?_eq_getElem h2] at this
  exact this
theorem ints_push {l : List Int} {x : Int} : ints (l ++ [x]) = ints l ++ [.int .i64 x] := by simp [ints]
theorem ints_set {l : List Int} {j : Nat} {x : Int} : (ints l).set j (.int .i64 x) = ints (l.set j x) := by unfold ints; rw [List.map_set]
/-- Where the m-th one of a row of numbers lies; and it may be read, and written. -/
theorem row_nth {w : World} {a : Option Addr} {cap n : Nat} {o : Option Nat} {xs : List Int} (h : Row w 3 1 (.slice a n cap) o n (ints xs)) {m : Nat} (hm : m < n) :
    ∃ cb coff, a = some ⟨cb, coff, none⟩ ∧ o = some cb ∧ cb < w.heap.size ∧ w.cell? ⟨cb, coff + m, none⟩ = some (.int .i64 (nthI xs m)) ∧ w.frozen? ⟨cb, coff + m, none⟩ = false ∧
      ∀ w', But (fun _ => False) w w' → w'.cell? ⟨cb, coff + m, none⟩ = some (.int .i64 (nthI xs m)) := by
  have hn : xs.length = n := by have := h.len; simp [ints] at this; exact this
  obtain ⟨cb, coff, cap', e, ho, hlt, -, hc, hf⟩ := h.cells (by omega)
  simp at e
  have e2 : w.cell? ⟨cb, coff + m, none⟩ = some (.int .i64 (nthI xs m)) := by rw [hc m (by omega), nthI_get (by omega)]
  refine ⟨cb, coff, e.1, ho, hlt, e2, hf _, fun w' g => ?_⟩
  rw [World.cell?_of_block (w := w) (g.block cb hlt (fun q => q)), e2]

end Go.Proofs.Ytngbhhcicakolaa
