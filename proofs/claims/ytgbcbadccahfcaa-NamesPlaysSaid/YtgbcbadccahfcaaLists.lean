/- Lists of numbers in memory. -/
import Derived.Test.YtgbcbadccahfcaaRows
import Derived.Test.YtgbcbadccahfcaaRow
import Derived.Test.YtgbcbadccahfcaaMaps
import Derived.IntWalk
set_option linter.unusedVariables false
set_option linter.unusedSimpArgs false
namespace Go.Proofs.Ytgbcbadccahfcaa
open Go.RowKit

theorem zeroInt (w : World) : (zeroValue 3).run Try.prog w = .ok (.int .i64 0) w := by kernel_rfl
theorem infoInt : (Try.prog.info? 3).map (fun i => (i.zero, i.size, i.bytes)) = some (some (.int .i64 0), 1, 8) := by kernel_rfl
theorem keyI : KeyOK Try.prog 3 (fun n : Int => Value.int .i64 n) := keyInt Try.underlying3

/-- A list of numbers as cells. -/
def ints (l : List Int) : List Value := l.map (Value.int .i64)
theorem ints_length (l : List Int) : (ints l).length = l.length * 1 := by simp [ints]

theorem ints_get (l : List Int) (j : Nat) : (ints l)[j]? = (l[j]?).map (Value.int .i64) := by simp [ints]
theorem Row.ints_at {w : World} {a : Option Addr} {n cap : Nat} {o : Option Nat} {xs : List Int} (h : Row w 3 1 (.slice a n cap) o n (ints xs)) (j : Nat) (hj : j < n) :
    ∃ b off, a = some ⟨b, off, none⟩ ∧ o = some b ∧ w.cell? ⟨b, off + j, none⟩ = some (.int .i64 (xs.getD j 0)) := by
  obtain ⟨b, off, cap', hv, ho, _, _, hc, _⟩ := h.cells (by omega)
  obtain ⟨rfl, -, rfl⟩ := Value.slice.inj hv
  refine ⟨b, off, rfl, ho, ?_⟩
  have hl := h.len
  rw [ints_length] at hl
  rw [hc j (by omega), ints_get, List.getElem?_eq_getElem (by omega)]
  simp [List.getD, List.getElem?_eq_getElem (show j < xs.length by omega)]
theorem Row.ints_len {w : World} {v : Value} {n : Nat} {o : Option Nat} {xs : List Int} (h : Row w 3 1 v o n (ints xs)) : xs.length = n := by
  have hl := h.len; rw [ints_length] at hl; omega
theorem take_succ_getD {xs : List Int} {j : Nat} (h : j < xs.length) : xs.take (j + 1) = xs.take j ++ [xs.getD j 0] := by
  rw [List.take_succ_eq_append_getElem h]; simp [List.getD, List.getElem?_eq_getElem h]

theorem oneCell_ints {xs : List Int} : ∀ u ∈ ints xs, u.oneCell' = true := fun u hu => by simp [ints] at hu; obtain ⟨y, _, rfl⟩ := hu; rfl
theorem Row.src {w : World} {b off n cap : Nat} {o : Option Nat} {xs : List Value} (h : Row w 3 1 (.slice (some ⟨b, off, none⟩) n cap) o n xs) : ∀ j u, xs[j]? = some u → w.cell? ((⟨b, off, none⟩ : Addr).add j) = some u := fun j u hj => by
  have hj' : j < n * 1 := by have := (List.getElem?_eq_some_iff.1 hj).1; rw [h.len] at this; exact this
  obtain ⟨b', off', cap', hv, ho, _, _, hc, _⟩ := h.cells (by omega)
  obtain ⟨e, -, -⟩ := Value.slice.inj hv
  obtain ⟨rfl, rfl⟩ : b = b' ∧ off = off' := by simpa using e
  rw [Addr.add_lit, hc j hj', hj]

/-- A copy of a list of numbers, in new memory. -/
def Copied (xs : List Value) (n : Nat) (w : World) (e : Ending) (w' : World) : Prop := ∃ v o, e = .returned v ∧ Row w' 3 1 v o n xs ∧ (∀ k, o = some k → w.heap.size ≤ k) ∧ But (fun _ => False) w w'

/-- A new list of numbers is the first of some results. -/
def Told (xs : List Value) (n : Nat) (rest : List Value) (w : World) (e : Ending) (w' : World) : Prop :=
  ∃ v o, e = .returned (.tuple (v :: rest).toArray) ∧ Row w' 3 1 v o n xs ∧ (∀ k, o = some k → w.heap.size ≤ k) ∧ But (fun _ => False) w w'

end Go.Proofs.Ytgbcbadccahfcaa
