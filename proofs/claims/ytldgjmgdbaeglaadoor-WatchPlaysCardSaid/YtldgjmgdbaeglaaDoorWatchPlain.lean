/- The plain law of layer 23 (watch): lists of answers, laid out as cells; all that came; a tenant's log. -/
import Derived.Test.YtldgjmgdbaeglaaDoorAnswerText
import Derived.Test.YtldgjmgdbaeglaaDoorAppend
import Derived.Test.YtldgjmgdbaeglaaDoorMaps
import Derived.Test.YtldgjmgdbaeglaaDoorEls
set_option linter.unusedVariables false
set_option linter.unusedSimpArgs false
namespace Go.Proofs.YtldgjmgdbaeglaaDoor
open Go.RowKit

namespace Watch

/-- An answer: its error, its kind, its word. -/
structure Ans where
  e : Int
  k : Int
  n : Int
  deriving DecidableEq
instance : Inhabited Ans := ⟨⟨0, 0, 0⟩⟩
def Ans.ok (a : Ans) : Prop := 0 ≤ a.n ∧ a.n ≤ 18446744073709551615
def encA (a : Ans) : List Value := [.int .i64 a.e, .int .i64 a.k, .int .u64 a.n]
def encsA (l : List Ans) : List Value := l.flatMap encA
def nthA (l : List Ans) (i : Nat) : Ans := l.getD i default
abbrev valA (a : Ans) : Value := .agg #[.int .i64 a.e, .int .i64 a.k, .int .u64 a.n]

theorem encsA_length (l : List Ans) : (encsA l).length = l.length * 3 := by
  unfold encsA encA
  induction l with
  | nil => rfl
  | cons e l ih => simp [ih]; omega
theorem encsA_push (l : List Ans) (a : Ans) : encsA l ++ encA a = encsA (l ++ [a]) := by unfold encsA; simp
theorem encsA_get {l : List Ans} {i : Nat} (h : i < l.length) : (encsA l)[i * 3]? = some (.int .i64 (nthA l i).e) ∧ (encsA l)[i * 3 + 1]? = some (.int .i64 (nthA l i).k) ∧ (encsA l)[i * 3 + 2]? = some (.int .u64 (nthA l i).n) := by
  induction l generalizing i with
  | nil => simp at h
  | cons e l ih =>
    cases i with
    | zero => simp [encsA, encA, nthA]
    | succ i =>
      have h1 := ih (i := i) (by simpa using h)
      have e0 : ∀ k, (encsA (e :: l))[(i + 1) * 3 + k]? = (encsA l)[i * 3 + k]? := fun k => by
        rw [show (i + 1) * 3 + k = (i * 3 + k) + 1 + 1 + 1 by omega]; simp [encsA, encA]
      have e1 : nthA (e :: l) (i + 1) = nthA l i := by simp [nthA]
      have := e0 0
      simp only [Nat.add_zero] at this
      rw [this, e0, e0, e1]
      exact h1
theorem oneCell_A (a : Ans) : ∀ u ∈ encA a, u.oneCell' = true := fun v hv => by
  simp [encA] at hv
  rcases hv with rfl | rfl | rfl <;> rfl
theorem oneCell_As {l : List Ans} : ∀ u ∈ encsA l, u.oneCell' = true := fun v hv => by
  simp only [encsA, List.mem_flatMap] at hv
  obtain ⟨e, _, hv⟩ := hv
  exact oneCell_A e v hv
theorem nthA_take {l : List Ans} {i : Nat} (h : i < l.length) : l.take (i + 1) = l.take i ++ [nthA l i] := by
  rw [List.take_succ_eq_append_getElem h]
  unfold nthA
  rw [List.getD_eq_getElem?_getD, List.getElem?_eq_getElem h]; rfl
theorem nthA_mem {l : List Ans} {i : Nat} (h : i < l.length) : nthA l i ∈ l := by
  unfold nthA
  rw [List.getD_eq_getElem?_getD, List.getElem?_eq_getElem h]; exact List.getElem_mem h

/-- What came: a tenant, an answer. -/
structure Nt where
  t : Int
  a : Ans
  deriving DecidableEq
instance : Inhabited Nt := ⟨⟨0, default⟩⟩
def encN (x : Nt) : List Value := [.int .i64 x.t, .int .i64 x.a.e, .int .i64 x.a.k, .int .u64 x.a.n]
def encsN (l : List Nt) : List Value := l.flatMap encN
def nthN (l : List Nt) (i : Nat) : Nt := l.getD i default
theorem encsN_length (l : List Nt) : (encsN l).length = l.length * 4 := by
  unfold encsN encN
  induction l with
  | nil => rfl
  | cons e l ih => simp [ih]; omega
theorem encsN_push (l : List Nt) (a : Nt) : encsN l ++ encN a = encsN (l ++ [a]) := by unfold encsN; simp
theorem encsN_get {l : List Nt} {i : Nat} (h : i < l.length) : (encsN l)[i * 4]? = some (.int .i64 (nthN l i).t) ∧ (encsN l)[i * 4 + 1]? = some (.int .i64 (nthN l i).a.e) ∧
    (encsN l)[i * 4 + 2]? = some (.int .i64 (nthN l i).a.k) ∧ (encsN l)[i * 4 + 3]? = some (.int .u64 (nthN l i).a.n) := by
  induction l generalizing i with
  | nil => simp at h
  | cons e l ih =>
    cases i with
    | zero => simp [encsN, encN, nthN]
    | succ i =>
      have h1 := ih (i := i) (by simpa using h)
      have e0 : ∀ k, (encsN (e :: l))[(i + 1) * 4 + k]? = (encsN l)[i * 4 + k]? := fun k => by
        rw [show (i + 1) * 4 + k = (i * 4 + k) + 1 + 1 + 1 + 1 by omega]; simp [encsN, encN]
      have e1 : nthN (e :: l) (i + 1) = nthN l i := by simp [nthN]
      have := e0 0
      simp only [Nat.add_zero] at this
      rw [this, e0, e0, e0, e1]
      exact h1
theorem oneCell_N (a : Nt) : ∀ u ∈ encN a, u.oneCell' = true := fun v hv => by
  simp [encN] at hv
  rcases hv with rfl | rfl | rfl | rfl <;> rfl
theorem oneCell_Ns {l : List Nt} : ∀ u ∈ encsN l, u.oneCell' = true := fun v hv => by
  simp only [encsN, List.mem_flatMap] at hv
  obtain ⟨e, _, hv⟩ := hv
  exact oneCell_N e v hv
theorem nthN_take {l : List Nt} {i : Nat} (h : i < l.length) : l.take (i + 1) = l.take i ++ [nthN l i] := by
  rw [List.take_succ_eq_append_getElem h]
  unfold nthN
  rw [List.getD_eq_getElem?_getD, List.getElem?_eq_getElem h]; rfl

/-- A tenant's log. -/
def logOf (H : List Nt) (t : Int) : List Ans := (H.filter (fun x => decide (x.t = t))).map (·.a)
theorem logOf_nil (t : Int) : logOf [] t = [] := rfl
theorem logOf_own (H : List Nt) (x : Nt) : logOf (H ++ [x]) x.t = logOf H x.t ++ [x.a] := by unfold logOf; simp
theorem logOf_other (H : List Nt) (x : Nt) {t : Int} (h : x.t ≠ t) : logOf (H ++ [x]) t = logOf H t := by unfold logOf; simp [h]
theorem logOf_le (H : List Nt) (t : Int) : (logOf H t).length ≤ H.length := by unfold logOf; rw [List.length_map]; exact List.length_filter_le ..

/-- What is noted: of one of so many tenants, what may be an answer. -/
def may (T : Int) (x : Nt) : Bool := decide (1 ≤ x.t ∧ x.t ≤ T ∧ Answer.right x.a.e x.a.k x.a.n = true)
def note (T : Int) (H : List Nt) (x : Nt) : List Nt := if may T x = true then H ++ [x] else H
def noteE (T : Int) (x : Nt) : Int := if may T x = true then 0 else 1

theorem infoAns : (Tryd.prog.info? 42).map (fun i => (i.zero, i.size, i.bytes)) = some (some (.agg #[.int .i64 0, .int .i64 0, .int .u64 0]), 3, 24) := by kernel_rfl
theorem infoNt : (Tryd.prog.info? 70).map (fun i => (i.zero, i.size, i.bytes)) = some (some (.agg #[.int .i64 0, .int .i64 0, .int .i64 0, .int .u64 0]), 4, 32) := by kernel_rfl

/-- A slice of answers. -/
abbrev RowA (w : World) (v : Value) (o : Option Nat) (l : List Ans) : Prop := Row w 42 3 v o l.length (encsA l)
abbrev RowN (w : World) (v : Value) (o : Option Nat) (l : List Nt) : Prop := Row w 70 4 v o l.length (encsN l)

theorem rowA_at {w : World} {v : Value} {o : Option Nat} {l : List Ans} (h : RowA w v o l) {i : Nat} (hi : i < l.length) :
    ∃ c off cap, v = .slice (some ⟨c, off, none⟩) l.length cap ∧ o = some c ∧ c < w.heap.size ∧ l.length ≤ cap ∧ w.cell? ⟨c, off + i * 3, none⟩ = some (.int .i64 (nthA l i).e) ∧ w.cell? ⟨c, off + i * 3 + 1, none⟩ = some (.int .i64 (nthA l i).k) ∧ w.cell? ⟨c, off + i * 3 + 2, none⟩ = some (.int .u64 (nthA l i).n) := by
  have e := encsA_get hi
  obtain ⟨c, off, cap, rfl, ho, hlt, hcap, hc, -⟩ := h.cells (by omega)
  refine ⟨c, off, cap, rfl, ho, hlt, hcap, ?_, ?_, ?_⟩
  · rw [hc _ (by omega)]; exact e.1
  · rw [Nat.add_assoc, hc _ (by omega)]; exact e.2.1
  · rw [Nat.add_assoc, hc _ (by omega)]; exact e.2.2
theorem rowN_at {w : World} {v : Value} {o : Option Nat} {l : List Nt} (h : RowN w v o l) {i : Nat} (hi : i < l.length) :
    ∃ c off cap, v = .slice (some ⟨c, off, none⟩) l.length cap ∧ o = some c ∧ c < w.heap.size ∧ l.length ≤ cap ∧ w.cell? ⟨c, off + i * 4, none⟩ = some (.int .i64 (nthN l i).t) ∧ w.cell? ⟨c, off + i * 4 + 1, none⟩ = some (.int .i64 (nthN l i).a.e) ∧ w.cell? ⟨c, off + i * 4 + 2, none⟩ = some (.int .i64 (nthN l i).a.k) ∧ w.cell? ⟨c, off + i * 4 + 3, none⟩ = some (.int .u64 (nthN l i).a.n) := by
  have e := encsN_get hi
  obtain ⟨c, off, cap, rfl, ho, hlt, hcap, hc, -⟩ := h.cells (by omega)
  refine ⟨c, off, cap, rfl, ho, hlt, hcap, ?_, ?_, ?_, ?_⟩
  · rw [hc _ (by omega)]; exact e.1
  · rw [Nat.add_assoc, hc _ (by omega)]; exact e.2.1
  · rw [Nat.add_assoc, hc _ (by omega)]; exact e.2.2.1
  · rw [Nat.add_assoc, hc _ (by omega)]; exact e.2.2.2

end Watch
end Go.Proofs.YtldgjmgdbaeglaaDoor
