/- The document's Reach of layer 10, walked. -/
import Derived.Test.YtldgjmgdbaeglaaGraphRef3
set_option linter.unusedVariables false
set_option linter.unusedSimpArgs false
namespace Go.Proofs.Ytldgjmgdbaeglaa
open Go.RowKit

namespace Graph

def boolsV (l : List Bool) : List Value := l.map Value.bool
def nthB (l : List Bool) (m : Nat) : Bool := l.getD m false
theorem boolsV_length (l : List Bool) : (boolsV l).length = l.length * 1 := by simp [boolsV]
theorem nthB_get {l : List Bool} {m : Nat} (h : m < l.length) : (boolsV l)[m]? = some (.bool (nthB l m)) := by
  unfold boolsV nthB
  rw [List.getElem?_map, List.getElem?_eq_getElem h, List.getD_eq_getElem?_getD, List.getElem?_eq_getElem h]
  rfl
theorem nthB_set {l : List Bool} {j m : Nat} {x : Bool} (h : j < l.length) : nthB (l.set j x) m = if j = m then x else nthB l m := by
  unfold nthB
  rw [List.getD_eq_getElem?_getD, List.getElem?_set, List.getD_eq_getElem?_getD]
  split
  · rename_i e; subst e; simp [h]
  · rfl
theorem boolsV_set {l : List Bool} {j : Nat} {x : Bool} : (boolsV l).set j (.bool x) = boolsV (l.set j x) := by unfold boolsV; rw [List.map_set]
theorem infoBool : (Try.prog.info? 4).map (fun i => (i.zero, i.size, i.bytes)) = some (some (.bool false), 1, 1) := by kernel_rfl
theorem made_boolsV (n : Nat) : madeCells #[.bool false] n = (boolsV (List.replicate n false)).toArray := by
  apply Array.ext'; rw [toList_madeCells_one]; unfold boolsV; simp
theorem mk_boolsV (n : Nat) (hn : n ≤ 65536) (w : World) : (Instr.makeSlice 77 (.int .i64 n) (.int .i64 n)).run Try.prog w = .ok (.slice (some ⟨w.heap.size, 0, none⟩) n n) (w.alloc (.cells (boolsV (List.replicate n false)).toArray 4)) := by
  obtain ⟨i0, hi, hz0, hz1, hz2⟩ := info_parts infoBool
  have h := run_make w 77 4 i0 (.bool false) Try.underlying77 hi hz0 .i64 .i64 n n (by omega) (Int.le_refl _) (by rw [hz2]; omega) (by omega)
  rw [h, hz1]
  simp only [Int.toNat_natCast, Nat.mul_one]
  rw [show (Value.bool false).cells = #[.bool false] from rfl, made_boolsV]
theorem row_nthB {w : World} {b off cap n : Nat} {o : Option Nat} {xs : List Bool} (h : Row w 4 1 (.slice (some ⟨b, off, none⟩) n cap) o n (boolsV xs)) {m : Nat} (hm : m < n) :
    o = some b ∧ w.cell? ⟨b, off + m, none⟩ = some (.bool (nthB xs m)) ∧ w.frozen? ⟨b, off + m, none⟩ = false := by
  have hn : xs.length = n := by have := h.len; rw [boolsV_length] at this; omega
  obtain ⟨cb, coff, cap', e, ho, hlt, -, hc, hf⟩ := h.cells (by omega)
  simp at e
  obtain ⟨⟨rfl, rfl⟩, -⟩ := e
  exact ⟨ho, by rw [hc m (by omega), nthB_get (by omega)], hf _⟩

/-- One look: does i, if it is reached, point to k? -/
def look1 (l : List Nd) (i k : Nat) (s : List Bool) : List Bool := s.set k (nthB s k || (nthB s i && decide ((nd l k).id ∈ (nd l i).out)))
def innerTo (l : List Nd) (i : Nat) (s : List Bool) : Nat → List Bool
  | 0 => s
  | k + 1 => look1 l i k (innerTo l i s k)
def midTo (l : List Nd) (s : List Bool) : Nat → List Bool
  | 0 => s
  | i + 1 => innerTo l i (midTo l s i) l.length
def outTo (l : List Nd) (s : List Bool) : Nat → List Bool
  | 0 => s
  | r + 1 => midTo l (outTo l s r) l.length
def firstTo (l : List Nd) (f : List Int) (j : Nat) : List Bool := (List.range l.length).map (fun i => decide (i < j) && decide ((nd l i).id ∈ f))
def tellTo (l : List Nd) (s : List Bool) (j : Nat) : List Int := ((List.range j).filter (fun i => nthB s i)).map (fun i => (nd l i).id)
def reachR (l : List Nd) (R f : List Int) : List Int := if rightB l R = true then tellTo l (outTo l (firstTo l f l.length) l.length) l.length else []
theorem reachR_yes {l : List Nd} {R f : List Int} (h : rightB l R = true) : reachR l R f = tellTo l (outTo l (firstTo l f l.length) l.length) l.length := by unfold reachR; rw [if_pos h]
theorem reachR_no {l : List Nd} {R f : List Int} (h : rightB l R = false) : reachR l R f = [] := by unfold reachR; rw [h]; rfl
theorem innerTo_length {l : List Nd} {i : Nat} {s : List Bool} : ∀ k, (innerTo l i s k).length = s.length
  | 0 => rfl
  | k + 1 => by show (look1 l i k (innerTo l i s k)).length = _; unfold look1; rw [List.length_set]; exact innerTo_length k
theorem midTo_length {l : List Nd} {s : List Bool} : ∀ k, (midTo l s k).length = s.length
  | 0 => rfl
  | k + 1 => (innerTo_length _).trans (midTo_length k)
theorem outTo_length {l : List Nd} {s : List Bool} : ∀ k, (outTo l s k).length = s.length
  | 0 => rfl
  | k + 1 => (midTo_length _).trans (outTo_length k)
theorem firstTo_length (l : List Nd) (f : List Int) (j : Nat) : (firstTo l f j).length = l.length := by unfold firstTo; simp
theorem firstTo_zero (l : List Nd) (f : List Int) : firstTo l f 0 = List.replicate l.length false := by
  unfold firstTo
  apply List.ext_getElem (by simp)
  intro i h1 h2
  simp
theorem nthB_first {l : List Nd} {f : List Int} {j i : Nat} (h : i < l.length) : nthB (firstTo l f j) i = (decide (i < j) && decide ((nd l i).id ∈ f)) := by
  unfold nthB firstTo; rw [List.getD_eq_getElem?_getD, List.getElem?_map, List.getElem?_range h]; rfl
theorem firstTo_succ {l : List Nd} {f : List Int} {j : Nat} (h : j < l.length) : firstTo l f (j + 1) = (firstTo l f j).set j (decide ((nd l j).id ∈ f)) := by
  apply List.ext_getElem (by rw [List.length_set, firstTo_length, firstTo_length])
  intro i h1 h2
  have hi : i < l.length := by rw [firstTo_length] at h1; exact h1
  rw [List.getElem_set]
  have e1 : (firstTo l f (j + 1))[i] = (decide (i < j + 1) && decide ((nd l i).id ∈ f)) := by simp [firstTo]
  rw [e1]
  split
  · rename_i e; subst e; rw [decide_eq_true (by omega : j < j + 1), Bool.true_and]
  · rename_i e
    have e2 : (firstTo l f j)[i]'(by rw [firstTo_length]; exact hi) = (decide (i < j) && decide ((nd l i).id ∈ f)) := by simp [firstTo]
    rw [e2]
    by_cases hij : i < j
    · rw [decide_eq_true hij, decide_eq_true (by omega : i < j + 1)]
    · rw [decide_eq_false hij, decide_eq_false (by omega : ¬ i < j + 1)]
theorem tellTo_succ (l : List Nd) (s : List Bool) (j : Nat) : tellTo l s (j + 1) = if nthB s j = true then tellTo l s j ++ [(nd l j).id] else tellTo l s j := by
  unfold tellTo
  rw [List.range_succ, List.filter_append, List.map_append]
  cases h : nthB s j <;> simp [h]

end Graph
end Go.Proofs.Ytldgjmgdbaeglaa
