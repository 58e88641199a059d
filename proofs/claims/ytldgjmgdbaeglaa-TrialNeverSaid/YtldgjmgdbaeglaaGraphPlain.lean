/- The plain law of layer 10: what the document's rounds reach is what paths lead to. -/
import Derived.Test.YtldgjmgdbaeglaaGraphRef4
set_option linter.unusedVariables false
set_option linter.unusedSimpArgs false
namespace Go.Proofs.Ytldgjmgdbaeglaa
open Go.RowKit

namespace Graph

/-- Paths lead from some numbers to node i. -/
inductive Path (l : List Nd) (f : List Int) : Nat → Prop
  | base (i : Nat) : i < l.length → (nd l i).id ∈ f → Path l f i
  | step (i k : Nat) : Path l f i → k < l.length → (nd l k).id ∈ (nd l i).out → Path l f k
theorem Path.lt {l : List Nd} {f : List Int} {i : Nat} (h : Path l f i) : i < l.length := by cases h <;> assumption

theorem look1_at {l : List Nd} {i k t : Nat} {s : List Bool} (hk : k < s.length) : nthB (look1 l i k s) t = if k = t then (nthB s k || (nthB s i && decide ((nd l k).id ∈ (nd l i).out))) else nthB s t := by
  unfold look1; rw [nthB_set hk]
theorem look1_mono {l : List Nd} {i k t : Nat} {s : List Bool} (hk : k < s.length) (h : nthB s t = true) : nthB (look1 l i k s) t = true := by
  rw [look1_at hk]; split
  · rename_i e; subst e; rw [h]; rfl
  · exact h
theorem inner_mono {l : List Nd} {i t : Nat} {s : List Bool} (h : nthB s t = true) : ∀ k, k ≤ s.length → nthB (innerTo l i s k) t = true
  | 0, _ => h
  | k + 1, hk => look1_mono (by rw [innerTo_length]; omega) (inner_mono h k (by omega))
theorem inner_hit {l : List Nd} {i k : Nat} {s : List Bool} (h : nthB s i = true) (hp : (nd l k).id ∈ (nd l i).out) : ∀ m, k < m → m ≤ s.length → nthB (innerTo l i s m) k = true
  | 0, hk, _ => absurd hk (Nat.not_lt_zero k)
  | m + 1, hk, hm => by
    show nthB (look1 l i m (innerTo l i s m)) k = true
    by_cases e : m = k
    · subst e
      rw [look1_at (by rw [innerTo_length]; omega), if_pos rfl, inner_mono h m (by omega), decide_eq_true hp]; simp
    · exact look1_mono (by rw [innerTo_length]; omega) (inner_hit h hp m (by omega) (by omega))
theorem mid_mono {l : List Nd} {t : Nat} {s : List Bool} (hl : s.length = l.length) (h : nthB s t = true) : ∀ i, nthB (midTo l s i) t = true
  | 0 => h
  | i + 1 => inner_mono (mid_mono hl h i) _ (by rw [midTo_length, hl]; exact Nat.le_refl _)
theorem mid_hit {l : List Nd} {i k : Nat} {s : List Bool} (hl : s.length = l.length) (h : nthB s i = true) (hk : k < l.length) (hp : (nd l k).id ∈ (nd l i).out) : ∀ m, i < m → nthB (midTo l s m) k = true
  | 0, hi => absurd hi (Nat.not_lt_zero i)
  | m + 1, hi => by
    show nthB (innerTo l m (midTo l s m) l.length) k = true
    by_cases e : m = i
    · subst e
      exact inner_hit (mid_mono hl h m) hp _ hk (by rw [midTo_length, hl]; exact Nat.le_refl _)
    · exact inner_mono (mid_hit hl h hk hp m (by omega)) _ (by rw [midTo_length, hl]; exact Nat.le_refl _)

/-- Sound: whatever is marked is led to. -/
def Sound (l : List Nd) (f : List Int) (s : List Bool) : Prop := s.length = l.length ∧ ∀ i, i < l.length → nthB s i = true → Path l f i
theorem Sound.look {l : List Nd} {f : List Int} {s : List Bool} {i k : Nat} (h : Sound l f s) (hi : i < l.length) (hk : k < l.length) : Sound l f (look1 l i k s) := by
  refine ⟨by unfold look1; rw [List.length_set]; exact h.1, fun t ht q => ?_⟩
  rw [look1_at (by rw [h.1]; exact hk)] at q
  split at q
  · rename_i e; subst e
    simp only [Bool.or_eq_true, Bool.and_eq_true, decide_eq_true_eq] at q
    rcases q with q | q
    · exact h.2 k hk q
    · exact .step i k (h.2 i hi q.1) hk q.2
  · exact h.2 t ht q
theorem Sound.inner {l : List Nd} {f : List Int} {s : List Bool} {i : Nat} (h : Sound l f s) (hi : i < l.length) : ∀ k, k ≤ l.length → Sound l f (innerTo l i s k)
  | 0, _ => h
  | k + 1, hk => (Sound.inner h hi k (by omega)).look hi (by omega)
theorem Sound.mid {l : List Nd} {f : List Int} {s : List Bool} (h : Sound l f s) : ∀ i, i ≤ l.length → Sound l f (midTo l s i)
  | 0, _ => h
  | i + 1, hi => (Sound.mid h i (by omega)).inner (by omega) _ (Nat.le_refl _)
theorem Sound.out {l : List Nd} {f : List Int} {s : List Bool} (h : Sound l f s) : ∀ r, Sound l f (outTo l s r)
  | 0 => h
  | r + 1 => (Sound.out h r).mid _ (Nat.le_refl _)
theorem sound_first (l : List Nd) (f : List Int) : Sound l f (firstTo l f l.length) := by
  refine ⟨firstTo_length _ _ _, fun i hi q => ?_⟩
  rw [nthB_first hi] at q
  simp only [Bool.and_eq_true, decide_eq_true_eq] at q
  exact .base i hi q.2

/-- How many are marked. -/
def many (s : List Bool) : Nat → Nat
  | 0 => 0
  | n + 1 => many s n + (if nthB s n = true then 1 else 0)
theorem many_le (s : List Bool) : ∀ n, many s n ≤ n
  | 0 => Nat.le_refl _
  | n + 1 => by have := many_le s n; show many s n + _ ≤ _; split <;> omega
theorem many_mono {s t : List Bool} : ∀ n, (∀ i, i < n → nthB s i = true → nthB t i = true) → many s n ≤ many t n
  | 0, _ => Nat.le_refl _
  | n + 1, h => by
    have h1 := many_mono n (fun i hi => h i (by omega))
    have h2 := h n (by omega)
    show many s n + _ ≤ many t n + _
    by_cases a : nthB s n = true
    · rw [if_pos a, if_pos (h2 a)]; omega
    · rw [if_neg a]; split <;> omega
theorem many_lt {s t : List Bool} : ∀ n, (∀ i, i < n → nthB s i = true → nthB t i = true) → (∃ i, i < n ∧ nthB t i = true ∧ nthB s i = false) → many s n < many t n
  | 0, _, ⟨i, hi, _⟩ => absurd hi (Nat.not_lt_zero i)
  | n + 1, h, ⟨i, hi, ht, hs⟩ => by
    show many s n + _ < many t n + _
    by_cases e : i = n
    · subst e
      have h1 := many_mono (s := s) (t := t) i (fun q hq => h q (by omega))
      rw [if_pos ht, hs, if_neg (by decide)]; omega
    · have h1 := many_lt (s := s) (t := t) n (fun q hq => h q (by omega)) ⟨i, by omega, ht, hs⟩
      have h2 := h n (by omega)
      by_cases a : nthB s n = true
      · rw [if_pos a, if_pos (h2 a)]; omega
      · rw [if_neg a]; split <;> omega
theorem many_zero {s : List Bool} : ∀ {n}, many s n = 0 → ∀ i, i < n → nthB s i = false
  | 0, _, i, hi => absurd hi (Nat.not_lt_zero i)
  | n + 1, h, i, hi => by
    have h1 : many s n = 0 ∧ nthB s n = false := by
      change many s n + _ = 0 at h
      split at h
      · omega
      · rename_i q; exact ⟨by omega, by simpa using q⟩
    by_cases e : i = n
    · subst e; exact h1.2
    · exact many_zero h1.1 i (by omega)

theorem out_mono {l : List Nd} {t : Nat} {s : List Bool} (hl : s.length = l.length) (h : nthB s t = true) : ∀ r d, nthB (outTo l s r) t = true → nthB (outTo l s (r + d)) t = true
  | _, 0, q => q
  | r, d + 1, q => mid_mono (by rw [outTo_length]; exact hl) (out_mono hl h r d q) _

/-- Some round changes nothing, or all rounds so far have marked one more each. -/
theorem rounds {l : List Nd} {s : List Bool} (hl : s.length = l.length) : ∀ r, (∃ q, q < r ∧ ∀ i, i < l.length → nthB (outTo l s (q + 1)) i = true → nthB (outTo l s q) i = true) ∨ many s l.length + r ≤ many (outTo l s r) l.length
  | 0 => .inr (Nat.le_refl _)
  | r + 1 => by
    rcases rounds hl r with ⟨q, hq, h⟩ | h
    · exact .inl ⟨q, by omega, h⟩
    · by_cases c : ∀ i, i < l.length → nthB (outTo l s (r + 1)) i = true → nthB (outTo l s r) i = true
      · exact .inl ⟨r, by omega, c⟩
      · refine .inr ?_
        have hm : ∀ i, i < l.length → nthB (outTo l s r) i = true → nthB (outTo l s (r + 1)) i = true := fun i hi q => mid_mono (by rw [outTo_length]; exact hl) q _
        have := many_lt (s := outTo l s r) (t := outTo l s (r + 1)) l.length hm (by
          simp only [Classical.not_forall] at c
          obtain ⟨i, hi, h1, h2⟩ := c
          exact ⟨i, hi, h1, by simpa using h2⟩)
        omega

/-- What is marked behind n rounds is just what paths lead to. -/
theorem reach_iff (l : List Nd) (f : List Int) {i : Nat} (hi : i < l.length) : nthB (outTo l (firstTo l f l.length) l.length) i = true ↔ Path l f i := by
  have hl := firstTo_length l f l.length
  constructor
  · exact ((sound_first l f).out l.length).2 i hi
  · intro hp
    have closed : ∀ q, (∀ i, i < l.length → nthB (outTo l (firstTo l f l.length) (q + 1)) i = true → nthB (outTo l (firstTo l f l.length) q) i = true) → ∀ {j}, Path l f j → nthB (outTo l (firstTo l f l.length) q) j = true := by
      intro q hq j hj
      induction hj with
      | base i hi hf =>
        have h0 : nthB (firstTo l f l.length) i = true := by rw [nthB_first hi, decide_eq_true hi, decide_eq_true hf]; rfl
        have := out_mono hl h0 0 q h0
        rwa [Nat.zero_add] at this
      | step i k hpi hk ho ih =>
        exact hq k hk (mid_hit (by rw [outTo_length]; exact hl) ih hk ho _ hpi.lt)
    have up : ∀ q, q ≤ l.length → nthB (outTo l (firstTo l f l.length) q) i = true → nthB (outTo l (firstTo l f l.length) l.length) i = true := by
      intro q hq h
      obtain ⟨d, hd⟩ : ∃ d, l.length = q + d := ⟨l.length - q, by omega⟩
      have mono : ∀ d, nthB (outTo l (firstTo l f l.length) (q + d)) i = true := fun d => by
        induction d with
        | zero => exact h
        | succ d ih => exact mid_mono (by rw [outTo_length]; exact hl) ih _
      have := mono d
      rwa [← hd] at this
    rcases rounds hl l.length with ⟨q, hq, hc⟩ | hm
    · exact up q (by omega) (closed q hc hp)
    · have h1 := many_le (outTo l (firstTo l f l.length) l.length) l.length
      have h2 := many_zero (s := firstTo l f l.length) (n := l.length) (by omega)
      exfalso
      clear up hm h1
      have none : ∀ {j}, Path l f j → False := by
        intro j hj
        induction hj with
        | base i hi hf =>
          have := h2 i hi
          rw [nthB_first hi, decide_eq_true hi, decide_eq_true hf] at this
          cases this
        | step i k _ _ _ ih => exact ih
      exact none hp

end Graph
end Go.Proofs.Ytldgjmgdbaeglaa
