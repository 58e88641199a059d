/- The plain law of GraphClosed: what is reached, what is dead, and what the counts add up to. -/
import Derived.Test.YtldgjmgdbaeglaaGraphLaws
set_option linter.unusedVariables false
set_option linter.unusedSimpArgs false
namespace Go.Proofs.Ytldgjmgdbaeglaa
open Go.RowKit

namespace Graph

theorem missTo_mem {l : List Nd} {live : List Int} {x : Int} {j : Nat} : x ∈ missTo l live j ↔ ∃ i, i < j ∧ (nd l i).id ∉ live ∧ (nd l i).id = x := by
  unfold missTo
  rw [List.mem_map]
  constructor
  · rintro ⟨i, hi, e⟩
    rw [List.mem_filter, List.mem_range] at hi
    exact ⟨i, hi.1, by simpa using hi.2, e⟩
  · rintro ⟨i, hi, h, e⟩
    exact ⟨i, by rw [List.mem_filter, List.mem_range]; exact ⟨hi, by simpa using h⟩, e⟩
theorem reach_mem {l : List Nd} {R f : List Int} (hr : rightB l R = true) {i : Nat} (hi : i < l.length) : (nd l i).id ∈ reachR l R f ↔ Path l f i := by
  rw [reachR_yes hr, tellTo_mem]
  constructor
  · rintro ⟨k, hk, h, e⟩
    obtain rfl := rise_inj (right_parts hr).2.1 hk hi e
    exact (reach_iff l f hi).1 h
  · intro p
    exact ⟨i, hi, (reach_iff l f hi).2 p, rfl⟩
theorem dead_mem {l : List Nd} {R : List Int} (hr : rightB l R = true) {i : Nat} (hi : i < l.length) : (nd l i).id ∈ deadR l R ↔ ¬ Path l R i := by
  rw [deadR_yes hr, missTo_mem]
  constructor
  · rintro ⟨k, hk, h, e⟩
    obtain rfl := rise_inj (right_parts hr).2.1 hk hi e
    exact fun p => h ((reach_mem hr hi).2 p)
  · intro p
    exact ⟨i, hi, fun q => p ((reach_mem hr hi).1 q), rfl⟩

/-- Some other node, ahead of the k-th, that is reached, points to the i-th. -/
def ptTo (l : List Nd) (r : List Int) (i k : Nat) : Bool := (List.range k).any (fun q => decide ((nd l i).id ∈ (nd l q).out) && decide ((nd l q).id ∈ r) && decide (q ≠ i))
theorem ptTo_succ (l : List Nd) (r : List Int) (i k : Nat) : ptTo l r i (k + 1) = (ptTo l r i k || (decide ((nd l i).id ∈ (nd l k).out) && decide ((nd l k).id ∈ r) && decide (k ≠ i))) := by
  unfold ptTo; rw [List.range_succ, List.any_append]; simp
theorem ptTo_of {l : List Nd} {r : List Int} {i k q : Nat} (hq : q < k) (h1 : (nd l i).id ∈ (nd l q).out) (h2 : (nd l q).id ∈ r) (h3 : q ≠ i) : ptTo l r i k = true := by
  unfold ptTo
  rw [List.any_eq_true]
  exact ⟨q, by simpa using hq, by simp [h1, h2, h3]⟩

theorem closed_in {l : List Nd} {R f : List Int} (hr : rightB l R = true) {i k : Nat} (hi : i < l.length) (hk : k < l.length) (h1 : (nd l i).id ∈ (nd l k).out) (h2 : (nd l k).id ∈ reachR l R f) : (nd l i).id ∈ reachR l R f :=
  (reach_mem hr hi).2 (.step k i ((reach_mem hr hk).1 h2) hi h1)
theorem closed_gone {l : List Nd} {R : List Int} (hr : rightB l R = true) {i k : Nat} (hi : i < l.length) (hk : k < l.length) (h1 : (nd l i).id ∈ (nd l k).out) (h2 : (nd l k).id ∉ deadR l R) : (nd l i).id ∉ deadR l R := by
  rw [dead_mem hr hi]
  rw [dead_mem hr hk] at h2
  intro q
  exact h2 (fun p => q (.step k i p hi h1))
theorem closed_ask {l : List Nd} {R f : List Int} (hr : rightB l R = true) {i : Nat} (hi : i < l.length) (h1 : (nd l i).id ∈ f) : (nd l i).id ∈ reachR l R f :=
  (reach_mem hr hi).2 (.base i hi h1)
theorem closed_root {l : List Nd} {R : List Int} (hr : rightB l R = true) {i : Nat} (hi : i < l.length) (h1 : (nd l i).id ∈ R) : (nd l i).id ∉ deadR l R := by
  rw [dead_mem hr hi]; exact fun q => q (.base i hi h1)
theorem path_other {l : List Nd} {f : List Int} {i : Nat} (p : Path l f i) : (nd l i).id ∈ f ∨ ∃ k, k < l.length ∧ Path l f k ∧ (nd l i).id ∈ (nd l k).out ∧ k ≠ i := by
  induction p with
  | base i hi hf => exact .inl hf
  | step i k hpi hk ho ih =>
    by_cases c : i = k
    · subst c; exact ih
    · exact .inr ⟨i, hpi.lt, hpi, ho, c⟩
theorem closed_pt {l : List Nd} {R f : List Int} (hr : rightB l R = true) {i : Nat} (hi : i < l.length) (h1 : (nd l i).id ∈ reachR l R f) (h2 : (nd l i).id ∉ f) : ptTo l (reachR l R f) i l.length = true := by
  rcases path_other ((reach_mem hr hi).1 h1) with q | ⟨k, hk, p, ho, ne⟩
  · exact absurd q h2
  · exact ptTo_of hk ho ((reach_mem hr hk).2 p) ne
theorem closed_again {l : List Nd} {R f : List Int} (hr : rightB l R = true) : reachR l R (reachR l R f) = reachR l R f := by
  have key : ∀ i, i < l.length → (Path l (reachR l R f) i ↔ Path l f i) := fun i hi => by
    constructor
    · intro p
      induction p with
      | base i hi hf => exact (reach_mem hr hi).1 hf
      | step i k hpi hk ho ih => exact .step i k (ih hpi.lt) hk ho
    · intro p
      exact .base i hi ((reach_mem hr hi).2 p)
  conv => lhs; rw [reachR_yes hr]
  conv => rhs; rw [reachR_yes hr]
  refine tell_same _ (fun i hi => ?_)
  rw [Bool.eq_iff_iff, reach_iff l _ hi, reach_iff l _ hi, key i hi]

/-! ### The counts' sum -/
def tot (l : List Nd) (xs : List Int) : Nat → Nat
  | 0 => 0
  | j + 1 => tot l xs j + times xs (nd l j).id
theorem times_cons (x : Int) (xs : List Int) (y : Int) : times (x :: xs) y = times xs y + if x = y then 1 else 0 := by
  unfold times
  by_cases c : x = y
  · simp [List.filter_cons, c]
  · simp [List.filter_cons, c]
def one (l : List Nd) (x : Int) : Nat → Nat
  | 0 => 0
  | j + 1 => one l x j + if x = (nd l j).id then 1 else 0
theorem tot_cons (l : List Nd) (x : Int) (xs : List Int) : ∀ j, tot l (x :: xs) j = tot l xs j + one l x j
  | 0 => rfl
  | j + 1 => by
    show tot l (x :: xs) j + times (x :: xs) (nd l j).id = tot l xs j + times xs (nd l j).id + (one l x j + if x = (nd l j).id then 1 else 0)
    rw [tot_cons l x xs j, times_cons]; omega
theorem one_place {l : List Nd} (hr : riseB (idsOf l) = true) {x : Int} {i : Nat} (hi : i < l.length) (e : (nd l i).id = x) : ∀ j, j ≤ l.length → one l x j = if i < j then 1 else 0
  | 0, _ => rfl
  | j + 1, hj => by
    show one l x j + (if x = (nd l j).id then 1 else 0) = _
    rw [one_place hr hi e j (by omega)]
    by_cases c : i = j
    · subst c
      rw [if_neg (Nat.lt_irrefl i), if_pos e.symm, if_pos (Nat.lt_succ_self i)]
    · have hne : x ≠ (nd l j).id := fun q => c (rise_inj hr hi (by omega) (e.trans q))
      rw [if_neg hne]
      by_cases d : i < j
      · rw [if_pos d, if_pos (by omega)]
      · rw [if_neg d, if_neg (by omega)]
theorem tot_nil (l : List Nd) : ∀ j, tot l [] j = 0
  | 0 => rfl
  | j + 1 => by show tot l [] j + times [] (nd l j).id = 0; rw [tot_nil l j]; rfl
theorem tot_all {l : List Nd} (hr : riseB (idsOf l) = true) : ∀ xs : List Int, (∀ x, x ∈ xs → x ∈ idsOf l) → tot l xs l.length = xs.length
  | [], _ => tot_nil l _
  | x :: xs, h => by
    obtain ⟨i, hi, e, -⟩ := place_of hr (h x (by simp))
    rw [tot_cons, tot_all hr xs (fun y hy => h y (by simp [hy])), one_place hr hi e _ (Nat.le_refl _), if_pos hi]; rfl
def allTo (l : List Nd) (m : Nat) : Nat → Nat
  | 0 => 0
  | j + 1 => allTo l m j + sumTo l (nd l j).id m
def lens (l : List Nd) : Nat → Nat
  | 0 => 0
  | j + 1 => lens l j + (nd l j).out.length
theorem allTo_succ (l : List Nd) (m : Nat) : ∀ j, allTo l (m + 1) j = allTo l m j + tot l (nd l m).out j
  | 0 => rfl
  | j + 1 => by
    show allTo l (m + 1) j + (sumTo l (nd l j).id m + times (nd l m).out (nd l j).id) = allTo l m j + sumTo l (nd l j).id m + (tot l (nd l m).out j + times (nd l m).out (nd l j).id)
    rw [allTo_succ l m j]; omega
theorem allTo_zero (l : List Nd) : ∀ j, allTo l 0 j = 0
  | 0 => rfl
  | j + 1 => by show allTo l 0 j + 0 = 0; rw [allTo_zero l j]
theorem within_mem {k ids : List Int} (h : withinB k ids = true) : ∀ x, x ∈ k → x ∈ ids := fun x hx => by
  unfold withinB at h
  rw [List.all_eq_true] at h
  simpa using h x hx
theorem allTo_lens {l : List Nd} {R : List Int} (hr : rightB l R = true) : ∀ m, m ≤ l.length → allTo l m l.length = lens l m
  | 0, _ => allTo_zero l _
  | m + 1, hm => by
    rw [allTo_succ, allTo_lens hr m (by omega), tot_all (right_parts hr).2.1 _ (within_mem ((right_parts hr).1 m (by omega)))]; rfl
def gainTo (l : List Nd) (R : List Int) : Nat → Int
  | 0 => 0
  | j + 1 => gainTo l R j + countOf l R j - ((nd l j).out.length : Int)
theorem gainTo_eq (l : List Nd) (R : List Int) : ∀ j, gainTo l R j = (tot l R j : Int) + (allTo l l.length j : Int) - (lens l j : Int)
  | 0 => rfl
  | j + 1 => by
    show gainTo l R j + countOf l R j - ((nd l j).out.length : Int) = ((tot l R j + times R (nd l j).id : Nat) : Int) + ((allTo l l.length j + sumTo l (nd l j).id l.length : Nat) : Int) - ((lens l j + (nd l j).out.length : Nat) : Int)
    rw [gainTo_eq l R j]
    unfold countOf
    omega
theorem gain_all {l : List Nd} {R : List Int} (hr : rightB l R = true) : gainTo l R l.length = R.length := by
  rw [gainTo_eq, allTo_lens hr _ (Nat.le_refl _), tot_all (right_parts hr).2.1 R (within_mem (right_parts hr).2.2.2)]; omega
theorem gain_bd {l : List Nd} {R : List Int} (hl : l.length ≤ 30) (hR : R.length ≤ 30) (ho : ∀ i, i < l.length → (nd l i).out.length ≤ 1000000) : ∀ j, j ≤ l.length → -(j * 1000000 : Int) ≤ gainTo l R j ∧ gainTo l R j ≤ j * 31000000
  | 0, _ => by simp [gainTo]
  | j + 1, hj => by
    have h1 := gain_bd hl hR ho j (by omega)
    have h2 := times_le R (nd l j).id
    have h3 := sumTo_le (x := (nd l j).id) ho (j := l.length) (Nat.le_refl _)
    have h4 := ho j (by omega)
    show _ ≤ gainTo l R j + countOf l R j - ((nd l j).out.length : Int) ∧ gainTo l R j + countOf l R j - ((nd l j).out.length : Int) ≤ _
    unfold countOf
    have h5 : l.length * 1000000 ≤ 30 * 1000000 := Nat.mul_le_mul_right _ hl
    omega
theorem count_bd {l : List Nd} {R : List Int} (hl : l.length ≤ 30) (hR : R.length ≤ 30) (ho : ∀ i, i < l.length → (nd l i).out.length ≤ 1000000) (j : Nat) : 0 ≤ countOf l R j ∧ countOf l R j ≤ 31000000 := by
  have h2 := times_le R (nd l j).id
  have h3 := sumTo_le (x := (nd l j).id) ho (j := l.length) (Nat.le_refl _)
  have h5 : l.length * 1000000 ≤ 30 * 1000000 := Nat.mul_le_mul_right _ hl
  unfold countOf
  omega
theorem countsOf_nth {l : List Nd} {R : List Int} {j : Nat} (h : j < l.length) : nthI (countsOf l R) j = countOf l R j := by
  unfold nthI countsOf
  rw [List.getD_eq_getElem?_getD, List.getElem?_map, List.getElem?_range h]; rfl

end Graph
end Go.Proofs.Ytldgjmgdbaeglaa
