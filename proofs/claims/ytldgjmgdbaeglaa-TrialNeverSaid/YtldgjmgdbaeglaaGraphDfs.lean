/- The plain law of layer 10: what the program's walk with a list of things to do reaches is what paths lead to. -/
import Derived.Test.YtldgjmgdbaeglaaGraphPlain
import Derived.Test.YtldgjmgdbaeglaaGraphCounts
set_option linter.unusedVariables false
set_option linter.unusedSimpArgs false
namespace Go.Proofs.Ytldgjmgdbaeglaa
open Go.RowKit

namespace Graph

/-- What has been seen, and what is still to do. -/
structure Dfs (l : List Nd) (f : List Int) (s : List Bool) (todo : List Int) : Prop where
  len : s.length = l.length
  sound : ∀ i, i < l.length → nthB s i = true → Path l f i
  src : ∀ x, x ∈ todo → ∀ i, i < l.length → (nd l i).id = x → Path l f i
  base : ∀ i, i < l.length → (nd l i).id ∈ f → nthB s i = true ∨ (nd l i).id ∈ todo
  step : ∀ i, i < l.length → nthB s i = true → ∀ k, k < l.length → (nd l k).id ∈ (nd l i).out → nthB s k = true ∨ (nd l k).id ∈ todo

theorem dfs_start (l : List Nd) (f : List Int) : Dfs l f (List.replicate l.length false) f := by
  have hno : ∀ i, i < l.length → nthB (List.replicate l.length false) i = false := fun i hi => by unfold nthB; simp [List.getD_eq_getElem?_getD, List.getElem?_replicate, hi]
  refine ⟨by simp, fun i hi q => ?_, fun x hx i hi e => .base i hi (by rw [e]; exact hx), fun i hi h => .inr h, fun i hi q => ?_⟩
  · rw [hno i hi] at q; cases q
  · rw [hno i hi] at q; cases q

theorem Dfs.skip {l : List Nd} {f : List Int} {s : List Bool} {todo : List Int} {x : Int} (h : Dfs l f s (todo ++ [x])) (hx : ∀ i, i < l.length → (nd l i).id = x → nthB s i = true) : Dfs l f s todo := by
  have drop : ∀ k, k < l.length → nthB s k = true ∨ (nd l k).id ∈ todo ++ [x] → nthB s k = true ∨ (nd l k).id ∈ todo := fun k hk q => by
    rcases q with q | q
    · exact .inl q
    · rcases List.mem_append.1 q with z | z
      · exact .inr z
      · exact .inl (hx k hk (by simpa using z))
  exact ⟨h.len, h.sound, fun y hy => h.src y (List.mem_append_left _ hy), fun i hi q => drop i hi (h.base i hi q), fun i hi q k hk z => drop k hk (h.step i hi q k hk z)⟩

theorem Dfs.take {l : List Nd} {f : List Int} {s : List Bool} {todo : List Int} {x : Int} (hr : riseB (idsOf l) = true) (h : Dfs l f s (todo ++ [x])) {i : Nat} (hi : i < l.length) (e : (nd l i).id = x) : Dfs l f (s.set i true) (todo ++ (nd l i).out) := by
  have hp : Path l f i := h.src x (by simp) i hi e
  have at_ : ∀ k, nthB (s.set i true) k = if i = k then true else nthB s k := fun k => nthB_set (by rw [h.len]; exact hi)
  have drop : ∀ k, k < l.length → nthB s k = true ∨ (nd l k).id ∈ todo ++ [x] → nthB (s.set i true) k = true ∨ (nd l k).id ∈ todo ++ (nd l i).out := fun k hk q => by
    rw [at_]
    by_cases c : i = k
    · rw [if_pos c]; exact .inl rfl
    · rw [if_neg c]
      rcases q with q | q
      · exact .inl q
      · rcases List.mem_append.1 q with z | z
        · exact .inr (List.mem_append_left _ z)
        · exact absurd (rise_inj hr hi hk (e.trans (by simpa using z : (nd l k).id = x).symm)) c
  refine ⟨by rw [List.length_set]; exact h.len, fun k hk q => ?_, fun y hy k hk ek => ?_, fun k hk q => drop k hk (h.base k hk q), fun j hj q k hk z => ?_⟩
  · rw [at_] at q
    by_cases c : i = k
    · subst c; exact hp
    · rw [if_neg c] at q; exact h.sound k hk q
  · rcases List.mem_append.1 hy with z | z
    · exact h.src y (List.mem_append_left _ z) k hk ek
    · exact .step i k hp hk (by rw [ek]; exact z)
  · rw [at_] at q
    by_cases c : i = j
    · subst c; exact .inr (List.mem_append_right _ z)
    · rw [if_neg c] at q; exact drop k hk (h.step j hj q k hk z)

theorem Dfs.done {l : List Nd} {f : List Int} {s : List Bool} (h : Dfs l f s []) {i : Nat} (hi : i < l.length) : nthB s i = true ↔ Path l f i := by
  constructor
  · exact h.sound i hi
  · intro p
    induction p with
    | base i hi hf =>
      rcases h.base i hi hf with q | q
      · exact q
      · cases q
    | step i k hpi hk ho ih =>
      rcases h.step i hpi.lt (ih hpi.lt) k hk ho with q | q
      · exact q
      · cases q

/-- How much may still be laid in the list. -/
def weight (l : List Nd) (s : List Bool) : Nat → Nat
  | 0 => 0
  | j + 1 => weight l s j + if nthB s j = true then 0 else (nd l j).out.length + 1
theorem weight_set {l : List Nd} {s : List Bool} {i : Nat} (hi : i < s.length) (hs : nthB s i = false) : ∀ j, weight l (s.set i true) j + (if i < j then (nd l i).out.length + 1 else 0) = weight l s j
  | 0 => rfl
  | j + 1 => by
    have h1 := weight_set (l := l) hi hs j
    show weight l (s.set i true) j + (if nthB (s.set i true) j = true then 0 else (nd l j).out.length + 1) + _ = weight l s j + (if nthB s j = true then 0 else (nd l j).out.length + 1)
    rw [nthB_set hi]
    by_cases c : i = j
    · subst c
      rw [if_neg (Nat.lt_irrefl i)] at h1
      rw [if_pos rfl, if_pos rfl, if_pos (Nat.lt_succ_self i), hs, if_neg (by decide)]
      omega
    · rw [if_neg c]
      by_cases q : i < j
      · rw [if_pos q] at h1
        rw [if_pos (by omega : i < j + 1)]
        omega
      · rw [if_neg q] at h1
        rw [if_neg (by omega : ¬ i < j + 1)]
        omega

end Graph
end Go.Proofs.Ytldgjmgdbaeglaa
