/- slices.Clone and slices.BinarySearch of numbers, as the walks of this place ask for them. -/
import Derived.Test.YtldgjmgdbaeglaaShelfSlices
import Derived.Test.YtldgjmgdbaeglaaGraphLists
set_option linter.unusedVariables false
set_option linter.unusedSimpArgs false
namespace Go.Proofs.Ytldgjmgdbaeglaa
open Go.RowKit

theorem clone_any (a : Option Addr) (n cap : Nat) (xs : List Int) (w : World) (h : Nums w a n xs) (hn : n ≤ 1000000000000) :
    Calls Try.prog 67 #[.slice a n cap] w (Copied (ints xs) n w) := by
  have own : ∀ (v : Value) (w' : World) (m : Nat) (vs : List Value), w'.ownsRow w.heap.size 3 1 v m vs → Below w.heap.size w w' → Copied vs m w (.returned v) w' := fun v w' m vs r1 hb => by
    obtain ⟨o, hr, ho⟩ := Row.of_owns r1
    exact ⟨v, o, rfl, hr, ho, But.of_below hb _⟩
  by_cases hm : 0 < n
  · obtain ⟨b, off, rfl, -, -⟩ := h.at_ 0 hm
    refine (Sli.slices_Clone_int b off n cap xs w (Nat.le_of_eq h.len.symm) (by omega) (fun j hj => ?_)).mono ?_
    · obtain ⟨b2, off2, e, -, hc⟩ := h.at_ j (by rw [← h.len]; exact hj)
      simp at e
      obtain ⟨rfl, rfl⟩ := e
      exact hc
    · rintro e w' ⟨v, rfl, r1, -, hb⟩
      rw [List.take_of_length_le (Nat.le_of_eq h.len)] at r1
      exact own v w' n _ r1 hb
  · obtain rfl : n = 0 := by omega
    obtain rfl : xs = [] := List.eq_nil_of_length_eq_zero h.len
    cases a with
    | none =>
      refine (Sli.slices_Clone_int_nil 0 cap w).mono ?_
      rintro e w' ⟨rfl, rfl⟩
      exact ⟨_, none, rfl, Row.nil _ _ _, fun k hk => (by cases hk), But.refl _ _⟩
    | some x =>
      refine (Sli.slices_Clone_int_zero x cap w).mono ?_
      rintro e w' ⟨v, rfl, r1, -, hb⟩
      exact own v w' 0 _ r1 hb

/-- Numbers that rise. -/
def Rises (xs : List Int) : Prop := ∀ i k, i < k → k < xs.length → nthI xs i < nthI xs k
theorem Rises.sorted {xs : List Int} (h : Rises xs) : xs.Pairwise (· ≤ ·) := by
  rw [List.pairwise_iff_getElem]
  intro i j hi hj hij
  have := h i j hij hj
  unfold nthI at this
  rw [List.getD_eq_getElem?_getD, List.getD_eq_getElem?_getD, List.getElem?_eq_getElem hi, List.getElem?_eq_getElem hj] at this
  exact Int.le_of_lt this
theorem search_any (a : Option Addr) (n cap : Nat) (xs : List Int) (x : Int) (w : World) (h : Nums w a n xs) (hn : n ≤ 1000000000000) (hr : Rises xs) :
    Calls Try.prog 68 #[.slice a n cap, .int .i64 x] w fun e w' => e = .returned (.tuple #[.int .i64 (xs.countP (· < x) : Nat), .bool (decide (x ∈ xs))]) ∧ ∃ q, w' = w.drewN q := by
  by_cases hm : 0 < n
  · obtain ⟨b, off, rfl, -, -⟩ := h.at_ 0 hm
    refine (Sli.slices_BinarySearch_int b off n cap xs x w (Nat.le_of_eq h.len.symm) (by omega) (fun j hj => ?_) (by rw [List.take_of_length_le (Nat.le_of_eq h.len)]; exact hr.sorted)).mono ?_
    · obtain ⟨b2, off2, e, -, hc⟩ := h.at_ j (by rw [← h.len]; exact hj)
      simp at e
      obtain ⟨rfl, rfl⟩ := e
      exact hc
    · rintro e w' ⟨rfl, hq⟩
      rw [List.take_of_length_le (Nat.le_of_eq h.len)]
      exact ⟨by rw [List.contains_eq_mem], hq⟩
  · obtain rfl : n = 0 := by omega
    obtain rfl : xs = [] := List.eq_nil_of_length_eq_zero h.len
    refine (Sli.slices_BinarySearch_int_empty a cap x w).mono ?_
    rintro e w' ⟨rfl, rfl⟩
    exact ⟨rfl, 0, rfl⟩

end Go.Proofs.Ytldgjmgdbaeglaa
