/- The plain words of layer 11: gray places, rests, white ones; and that what is white is dead. -/
import Derived.Test.YtldgjmgdbaeglaaGraphClosed
set_option linter.unusedVariables false
set_option linter.unusedSimpArgs false
namespace Go.Proofs.Ytldgjmgdbaeglaa
open Go.RowKit

namespace Graph

def knownB (l : List Nd) (C : List Int) : Bool := withinB C (idsOf l)
def notNeg (cnt : List Int) : Bool := cnt.all (fun y => decide (0 ≤ y))
def trialB (l : List Nd) (R cnt C : List Int) : Bool := rightB l R && knownB l C && decide (cnt.length = l.length) && notNeg cnt
/-- The places of those that are reached. -/
def ksOf (l : List Nd) (C : List Int) : List Nat := (List.range l.length).filter (fun i => nthB (outTo l (firstTo l C l.length) l.length) i)
def idsAt (l : List Nd) (ks : List Nat) : List Int := ks.map (fun i => (nd l i).id)
def grayR (l : List Nd) (R C : List Int) : List Int := if knownB l C = true then reachR l R C else []
theorem gray_ks {l : List Nd} {R C : List Int} (hr : rightB l R = true) (hk : knownB l C = true) : grayR l R C = idsAt l (ksOf l C) := by
  unfold grayR; rw [if_pos hk, reachR_yes hr]; rfl
theorem gray_reach {l : List Nd} {R C : List Int} (hk : knownB l C = true) : grayR l R C = reachR l R C := by unfold grayR; rw [if_pos hk]
theorem gray_no {l : List Nd} {R C : List Int} (hk : knownB l C = false) : grayR l R C = [] := by unfold grayR; rw [hk]; rfl
theorem gray_wrong {l : List Nd} {R C : List Int} (hr : rightB l R = false) : grayR l R C = [] := by unfold grayR; rw [reachR_no hr]; split <;> rfl
theorem grayR_len (l : List Nd) (R C : List Int) : (grayR l R C).length ≤ l.length := by
  unfold grayR; split
  · exact reachR_len l R C
  · exact Nat.zero_le _

theorem ksOf_mem {l : List Nd} {C : List Int} {i : Nat} : i ∈ ksOf l C ↔ i < l.length ∧ Path l C i := by
  unfold ksOf
  rw [List.mem_filter, List.mem_range]
  constructor
  · rintro ⟨h1, h2⟩; exact ⟨h1, (reach_iff l C h1).1 h2⟩
  · rintro ⟨h1, h2⟩; exact ⟨h1, (reach_iff l C h1).2 h2⟩
theorem ksOf_len (l : List Nd) (C : List Int) : (ksOf l C).length ≤ l.length := by
  unfold ksOf
  exact Nat.le_trans (List.length_filter_le _ _) (by rw [List.length_range]; exact Nat.le_refl _)
theorem idsAt_len (l : List Nd) (ks : List Nat) : (idsAt l ks).length = ks.length := by unfold idsAt; simp
def nthK (ks : List Nat) (q : Nat) : Nat := ks.getD q 0
theorem nthK_mem {ks : List Nat} {q : Nat} (h : q < ks.length) : nthK ks q ∈ ks := by
  unfold nthK
  rw [List.getD_eq_getElem?_getD, List.getElem?_eq_getElem h]; exact List.getElem_mem h
theorem take_nthK {ks : List Nat} {q : Nat} (h : q < ks.length) : ks.take (q + 1) = ks.take q ++ [nthK ks q] := by
  unfold nthK
  rw [List.take_succ_eq_append_getElem h, List.getD_eq_getElem?_getD, List.getElem?_eq_getElem h]; rfl
theorem idsAt_nth {l : List Nd} {ks : List Nat} {q : Nat} (h : q < ks.length) : nthI (idsAt l ks) q = (nd l (nthK ks q)).id := by
  unfold nthI idsAt nthK
  rw [List.getD_eq_getElem?_getD, List.getElem?_map, List.getElem?_eq_getElem h, List.getD_eq_getElem?_getD, List.getElem?_eq_getElem h]; rfl

/-- How often nodes at some places point to a number. -/
def lessL (l : List Nd) (ks : List Nat) (x : Int) : Nat := (ks.map (fun i => times (nd l i).out x)).sum
theorem lessL_snoc (l : List Nd) (ks : List Nat) (i : Nat) (x : Int) : lessL l (ks ++ [i]) x = lessL l ks x + times (nd l i).out x := by unfold lessL; simp
theorem lessL_le {l : List Nd} {x : Int} (ho : ∀ i, i < l.length → (nd l i).out.length ≤ 1000000) : ∀ ks : List Nat, (∀ i, i ∈ ks → i < l.length) → lessL l ks x ≤ ks.length * 1000000
  | [], _ => Nat.zero_le _
  | k :: ks, h => by
    have h1 := lessL_le (x := x) ho ks (fun i hi => h i (by simp [hi]))
    have h2 := Nat.le_trans (times_le (nd l k).out x) (ho k (h k (by simp)))
    show times (nd l k).out x + lessL l ks x ≤ (ks.length + 1) * 1000000
    rw [Nat.add_mul, Nat.one_mul]; omega
def restK (l : List Nd) (ks : List Nat) (cnt : List Int) (k : Nat) : Int := nthI cnt k - (lessL l ks (nd l k).id : Int)
def restsAt (l : List Nd) (ks : List Nat) (cnt : List Int) (qs : List Nat) : List Int := qs.map (restK l ks cnt)
def restsR (l : List Nd) (R cnt C : List Int) : List Int := if trialB l R cnt C = true then restsAt l (ksOf l C) cnt (ksOf l C) else []
def heldAt (l : List Nd) (ks : List Nat) (cnt : List Int) (qs : List Nat) : List Int := idsAt l (qs.filter (fun k => decide (0 < restK l ks cnt k)))
def whiteAt (l : List Nd) (black : List Int) (qs : List Nat) : List Int := idsAt l (qs.filter (fun k => !decide ((nd l k).id ∈ black)))
def whiteR (l : List Nd) (R cnt C : List Int) : List Int := if trialB l R cnt C = true then whiteAt l (reachR l R (heldAt l (ksOf l C) cnt (ksOf l C))) (ksOf l C) else []
def whiteE (l : List Nd) (R cnt C : List Int) : Int := if trialB l R cnt C = true then 0 else 1
theorem restsAt_nth {l : List Nd} {ks : List Nat} {cnt : List Int} {qs : List Nat} {q : Nat} (h : q < qs.length) : nthI (restsAt l ks cnt qs) q = restK l ks cnt (nthK qs q) := by
  unfold nthI restsAt nthK
  rw [List.getD_eq_getElem?_getD, List.getElem?_map, List.getElem?_eq_getElem h, List.getD_eq_getElem?_getD, List.getElem?_eq_getElem h]; rfl
theorem restsAt_len (l : List Nd) (ks : List Nat) (cnt : List Int) (qs : List Nat) : (restsAt l ks cnt qs).length = qs.length := by unfold restsAt; simp
theorem restsAt_snoc (l : List Nd) (ks : List Nat) (cnt : List Int) (qs : List Nat) (k : Nat) : restsAt l ks cnt (qs ++ [k]) = restsAt l ks cnt qs ++ [restK l ks cnt k] := by unfold restsAt; simp
theorem heldAt_snoc (l : List Nd) (ks : List Nat) (cnt : List Int) (qs : List Nat) (k : Nat) : heldAt l ks cnt (qs ++ [k]) = if 0 < restK l ks cnt k then heldAt l ks cnt qs ++ [(nd l k).id] else heldAt l ks cnt qs := by
  unfold heldAt idsAt
  by_cases h : 0 < restK l ks cnt k
  · rw [if_pos h, List.filter_append]; simp [h]
  · rw [if_neg h, List.filter_append]; simp [h]
theorem whiteAt_snoc (l : List Nd) (black : List Int) (qs : List Nat) (k : Nat) : whiteAt l black (qs ++ [k]) = if (nd l k).id ∈ black then whiteAt l black qs else whiteAt l black qs ++ [(nd l k).id] := by
  unfold whiteAt idsAt
  by_cases h : (nd l k).id ∈ black
  · rw [if_pos h, List.filter_append]; simp [h]
  · rw [if_neg h, List.filter_append]; simp [h]
theorem heldAt_len (l : List Nd) (ks : List Nat) (cnt : List Int) (qs : List Nat) : (heldAt l ks cnt qs).length ≤ qs.length := by
  unfold heldAt; rw [idsAt_len]; exact List.length_filter_le _ _
theorem whiteAt_len (l : List Nd) (black : List Int) (qs : List Nat) : (whiteAt l black qs).length ≤ qs.length := by
  unfold whiteAt; rw [idsAt_len]; exact List.length_filter_le _ _
theorem restsR_len (l : List Nd) (R cnt C : List Int) : (restsR l R cnt C).length ≤ l.length := by
  unfold restsR; split
  · rw [restsAt_len]; exact ksOf_len l C
  · exact Nat.zero_le _
theorem whiteR_len (l : List Nd) (R cnt C : List Int) : (whiteR l R cnt C).length ≤ l.length := by
  unfold whiteR; split
  · exact Nat.le_trans (whiteAt_len _ _ _) (ksOf_len l C)
  · exact Nat.zero_le _
theorem trial_parts {l : List Nd} {R cnt C : List Int} (h : trialB l R cnt C = true) : rightB l R = true ∧ knownB l C = true ∧ cnt.length = l.length ∧ notNeg cnt = true := by
  unfold trialB at h
  simp only [Bool.and_eq_true, decide_eq_true_eq] at h
  exact ⟨h.1.1.1, h.1.1.2, h.1.2, h.2⟩
theorem notNeg_at {cnt : List Int} (h : notNeg cnt = true) {k : Nat} (hk : k < cnt.length) : 0 ≤ nthI cnt k := by
  unfold notNeg at h
  rw [List.all_eq_true] at h
  simpa using h _ (nthI_mem hk)
/-- The marks' places, one node after the other. -/
def marksTo (l : List Nd) (C : List Int) (j : Nat) : List Nat := (List.range j).filter (fun i => nthB (outTo l (firstTo l C l.length) l.length) i)
theorem marksTo_all (l : List Nd) (C : List Int) : marksTo l C l.length = ksOf l C := rfl
theorem marksTo_succ (l : List Nd) (C : List Int) (j : Nat) : marksTo l C (j + 1) = if nthB (outTo l (firstTo l C l.length) l.length) j = true then marksTo l C j ++ [j] else marksTo l C j := by
  unfold marksTo
  rw [List.range_succ, List.filter_append]
  by_cases h : nthB (outTo l (firstTo l C l.length) l.length) j = true
  · rw [if_pos h]; simp [h]
  · rw [if_neg h]; simp [h]
theorem mark_gray {l : List Nd} {R C : List Int} (hr : rightB l R = true) (hk : knownB l C = true) {j : Nat} (hj : j < l.length) : nthB (outTo l (firstTo l C l.length) l.length) j = decide ((nd l j).id ∈ grayR l R C) := by
  rw [Bool.eq_iff_iff, reach_iff l C hj, gray_reach hk, decide_eq_true_iff, reach_mem hr hj]
theorem marksTo_le (l : List Nd) (C : List Int) (j : Nat) : (marksTo l C j).length ≤ j := by
  unfold marksTo
  exact Nat.le_trans (List.length_filter_le _ _) (by rw [List.length_range]; exact Nat.le_refl _)
theorem marksTo_lt {l : List Nd} {C : List Int} {j i : Nat} (h : i ∈ marksTo l C j) : i < j := by
  unfold marksTo at h; rw [List.mem_filter, List.mem_range] at h; exact h.1

/-! ### Never the living -/
theorem less_sum {l : List Nd} (p : Nat → Bool) (x : Int) : ∀ j, lessL l ((List.range j).filter p) x + lessL l ((List.range j).filter (fun i => !p i)) x = sumTo l x j
  | 0 => rfl
  | j + 1 => by
    have ih := less_sum (l := l) p x j
    rw [List.range_succ, List.filter_append, List.filter_append]
    show _ = sumTo l x j + times (nd l j).out x
    cases h : p j with
    | true => simp only [List.filter_cons, h, List.filter_nil, if_true, Bool.not_true]; rw [lessL_snoc]; simp; omega
    | false => simp only [List.filter_cons, h, List.filter_nil, Bool.not_false, if_true]; rw [lessL_snoc]; simp; omega
theorem less_mem {l : List Nd} {ks : List Nat} {i : Nat} {x : Int} (h : i ∈ ks) : times (nd l i).out x ≤ lessL l ks x := by
  induction ks with
  | nil => cases h
  | cons k ks ih =>
    show _ ≤ times (nd l k).out x + lessL l ks x
    rcases List.mem_cons.1 h with rfl | q
    · omega
    · have := ih q; omega
theorem less_pos {l : List Nd} {ks : List Nat} {x : Int} (h : 0 < lessL l ks x) : ∃ i, i ∈ ks ∧ 0 < times (nd l i).out x := by
  induction ks with
  | nil => exact absurd h (Nat.lt_irrefl 0)
  | cons k ks ih =>
    have h' : 0 < times (nd l k).out x + lessL l ks x := h
    by_cases c : 0 < times (nd l k).out x
    · exact ⟨k, by simp, c⟩
    · obtain ⟨i, hi, hp⟩ := ih (by omega)
      exact ⟨i, by simp [hi], hp⟩
theorem times_pos {xs : List Int} {x : Int} : 0 < times xs x ↔ x ∈ xs := by
  unfold times
  rw [List.length_pos_iff_exists_mem]
  constructor
  · rintro ⟨y, hy⟩
    rw [List.mem_filter] at hy
    have : y = x := of_decide_eq_true hy.2
    rw [← this]; exact hy.1
  · intro h
    exact ⟨x, by rw [List.mem_filter]; exact ⟨h, decide_eq_true rfl⟩⟩
/-- Nodes that are not gray. -/
def offL (l : List Nd) (C : List Int) : List Nat := (List.range l.length).filter (fun i => !nthB (outTo l (firstTo l C l.length) l.length) i)
theorem offL_mem {l : List Nd} {C : List Int} {i : Nat} : i ∈ offL l C ↔ i < l.length ∧ ¬ Path l C i := by
  unfold offL
  rw [List.mem_filter, List.mem_range]
  constructor
  · rintro ⟨h1, h2⟩
    refine ⟨h1, fun p => ?_⟩
    rw [(reach_iff l C h1).2 p] at h2; cases h2
  · rintro ⟨h1, h2⟩
    refine ⟨h1, ?_⟩
    cases h : nthB (outTo l (firstTo l C l.length) l.length) i with
    | true => exact absurd ((reach_iff l C h1).1 h) h2
    | false => rfl
theorem count_split (l : List Nd) (R C : List Int) (k : Nat) : countOf l R k = (times R (nd l k).id : Int) + (lessL l (ksOf l C) (nd l k).id : Int) + (lessL l (offL l C) (nd l k).id : Int) := by
  have := less_sum (l := l) (fun i => nthB (outTo l (firstTo l C l.length) l.length) i) (nd l k).id l.length
  unfold countOf
  rw [← this]
  show _ = (times R (nd l k).id : Int) + (lessL l (ksOf l C) (nd l k).id : Int) + (lessL l (offL l C) (nd l k).id : Int)
  unfold ksOf offL
  omega

/-- With counts that are at least its own: what lives is held by a black one. -/
theorem live_black {l : List Nd} {R cnt C : List Int} (hge : ∀ k, k < l.length → countOf l R k ≤ nthI cnt k) {k : Nat} (p : Path l R k) (hk : k ∈ ksOf l C) : Path l (heldAt l (ksOf l C) cnt (ksOf l C)) k := by
  have held : ∀ k, k ∈ ksOf l C → 0 < restK l (ksOf l C) cnt k → Path l (heldAt l (ksOf l C) cnt (ksOf l C)) k := fun k hk hp => by
    refine .base k (ksOf_mem.1 hk).1 ?_
    unfold heldAt idsAt
    rw [List.mem_map]
    exact ⟨k, by rw [List.mem_filter]; exact ⟨hk, decide_eq_true hp⟩, rfl⟩
  induction p with
  | base k hlt hf =>
    refine held k hk ?_
    have h1 := hge k hlt
    have h2 := count_split l R C k
    have h3 : 0 < times R (nd l k).id := times_pos.2 hf
    unfold restK; omega
  | step i k hpi hlt ho ih =>
    by_cases hi : i ∈ ksOf l C
    · exact .step i k (ih hi) hlt ho
    · refine held k hk ?_
      have hoff : i ∈ offL l C := offL_mem.2 ⟨hpi.lt, fun q => hi (ksOf_mem.2 ⟨hpi.lt, q⟩)⟩
      have h1 := hge k hlt
      have h2 := count_split l R C k
      have h3 : 0 < times (nd l i).out (nd l k).id := times_pos.2 ho
      have h4 := less_mem (l := l) (x := (nd l k).id) hoff
      unfold restK; omega
theorem white_mem {l : List Nd} {R cnt C : List Int} (ht : trialB l R cnt C = true) {k : Nat} (hk : k < l.length) : (nd l k).id ∈ whiteR l R cnt C ↔ k ∈ ksOf l C ∧ ¬ Path l (heldAt l (ksOf l C) cnt (ksOf l C)) k := by
  have hr := (trial_parts ht).1
  unfold whiteR
  rw [if_pos ht]
  unfold whiteAt idsAt
  rw [List.mem_map]
  constructor
  · rintro ⟨i, hi, e⟩
    rw [List.mem_filter] at hi
    have hil := (ksOf_mem.1 hi.1).1
    obtain rfl := rise_inj (right_parts hr).2.1 hil hk e
    refine ⟨hi.1, fun p => ?_⟩
    have := (reach_mem (R := R) hr hk).2 p
    simp [this] at hi
  · rintro ⟨h1, h2⟩
    refine ⟨k, ?_, rfl⟩
    rw [List.mem_filter]
    refine ⟨h1, ?_⟩
    have : (nd l k).id ∉ reachR l R (heldAt l (ksOf l C) cnt (ksOf l C)) := fun q => h2 ((reach_mem hr hk).1 q)
    simp [this]
theorem white_dead {l : List Nd} {R cnt C : List Int} (ht : trialB l R cnt C = true) (hge : ∀ k, k < l.length → countOf l R k ≤ nthI cnt k) : ∀ x, x ∈ whiteR l R cnt C → x ∈ deadR l R := by
  intro x hx
  have hr := (trial_parts ht).1
  obtain ⟨k, hk, rfl⟩ : ∃ k, k < l.length ∧ (nd l k).id = x := by
    have hx' := hx
    unfold whiteR at hx'
    rw [if_pos ht] at hx'
    unfold whiteAt idsAt at hx'
    rw [List.mem_map] at hx'
    obtain ⟨i, hi, e⟩ := hx'
    rw [List.mem_filter] at hi
    exact ⟨i, (ksOf_mem.1 hi.1).1, e⟩
  obtain ⟨h1, h2⟩ := (white_mem ht hk).1 hx
  exact (dead_mem hr hk).2 (fun p => h2 (live_black hge p h1))
/-- With its own counts, where each dead node is gray: the white ones are the dead ones. -/
theorem white_just {l : List Nd} {R C : List Int} (ht : trialB l R (countsOf l R) C = true) (hcov : ∀ k, k < l.length → ¬ Path l R k → k ∈ ksOf l C) : whiteR l R (countsOf l R) C = deadR l R := by
  have hr := (trial_parts ht).1
  have hge : ∀ k, k < l.length → countOf l R k ≤ nthI (countsOf l R) k := fun k hk => by rw [countsOf_nth hk]; exact Int.le_refl _
  have black_live : ∀ k, Path l (heldAt l (ksOf l C) (countsOf l R) (ksOf l C)) k → Path l R k := fun k p => by
    induction p with
    | base k hk hf =>
      unfold heldAt idsAt at hf
      rw [List.mem_map] at hf
      obtain ⟨i, hi, e⟩ := hf
      rw [List.mem_filter] at hi
      have hil := (ksOf_mem.1 hi.1).1
      obtain rfl := rise_inj (right_parts hr).2.1 hil hk e
      have hp : 0 < restK l (ksOf l C) (countsOf l R) i := of_decide_eq_true hi.2
      unfold restK at hp
      rw [countsOf_nth hk, count_split l R C i] at hp
      by_cases c : 0 < times R (nd l i).id
      · exact .base i hk (times_pos.1 c)
      · obtain ⟨q, hq, hqp⟩ := less_pos (l := l) (ks := offL l C) (x := (nd l i).id) (by omega)
        have hq2 := offL_mem.1 hq
        have hql : Path l R q := by
          by_cases c2 : Path l R q
          · exact c2
          · exact absurd (ksOf_mem.1 (hcov q hq2.1 c2)).2 hq2.2
        exact .step q i hql hk (times_pos.1 hqp)
    | step i k hpi hk ho ih => exact .step i k ih hk ho
  rw [deadR_yes hr]
  unfold whiteR
  rw [if_pos ht]
  unfold whiteAt idsAt missTo ksOf
  rw [List.filter_filter]
  congr 1
  refine List.filter_congr (fun i hi => ?_)
  have hil : i < l.length := by simpa using hi
  have e1 : decide ((nd l i).id ∈ reachR l R (heldAt l (ksOf l C) (countsOf l R) (ksOf l C))) = true ↔ Path l (heldAt l (ksOf l C) (countsOf l R) (ksOf l C)) i := by rw [decide_eq_true_iff, reach_mem hr hil]
  have e2 : decide ((nd l i).id ∈ reachR l R R) = true ↔ Path l R i := by rw [decide_eq_true_iff, reach_mem hr hil]
  show (!decide ((nd l i).id ∈ reachR l R (heldAt l (ksOf l C) (countsOf l R) (ksOf l C))) && nthB (outTo l (firstTo l C l.length) l.length) i) = !decide ((nd l i).id ∈ reachR l R R)
  by_cases c : Path l R i
  · rw [e2.2 c]
    by_cases g : nthB (outTo l (firstTo l C l.length) l.length) i = true
    · rw [e1.2 (live_black hge c (ksOf_mem.2 ⟨hil, (reach_iff l C hil).1 g⟩))]; rfl
    · rw [Bool.not_eq_true] at g; rw [g, Bool.and_false]; rfl
  · have e3 : decide ((nd l i).id ∈ reachR l R R) = false := by rw [← Bool.not_eq_true]; exact fun q => c (e2.1 q)
    have e4 : decide ((nd l i).id ∈ reachR l R (heldAt l (ksOf l C) (countsOf l R) (ksOf l C))) = false := by rw [← Bool.not_eq_true]; exact fun q => c (black_live i (e1.1 q))
    rw [e3, e4, (reach_iff l C hil).2 (ksOf_mem.1 (hcov i hil c)).2]; rfl

end Graph
end Go.Proofs.Ytldgjmgdbaeglaa
