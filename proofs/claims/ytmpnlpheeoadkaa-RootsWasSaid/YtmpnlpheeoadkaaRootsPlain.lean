/- The plain law of layer 8 (roots): a set of cells as a map keeps it, and as a list that rises. -/
import Derived.Test.YtmpnlpheeoadkaaMaps
import Derived.Test.YtmpnlpheeoadkaaLists
import Derived.Lib.SlKeysI
set_option linter.unusedVariables false
set_option linter.unusedSimpArgs false
namespace Go.Proofs.Ytmpnlpheeoadkaa
open Go.RowKit

namespace Roots

abbrev kI : Int → Value := fun n : Int => Value.int .i64 n
def okc (c : Int) : Bool := decide (0 ≤ c) && decide (c ≤ 191)
theorem okc_iff (c : Int) : okc c = true ↔ 0 ≤ c ∧ c ≤ 191 := by simp [okc]
theorem okc_not (c : Int) : okc c = false ↔ c < 0 ∨ 191 < c := by rw [← Bool.not_eq_true, okc_iff]; omega
def has (l : List Int) (c : Int) : Bool := decide (c ∈ l)
theorem has_iff (l : List Int) (c : Int) : has l c = true ↔ c ∈ l := by simp [has]
theorem has_not (l : List Int) (c : Int) : has l c = false ↔ c ∉ l := by simp [has]

/-! ### As a map keeps it -/
def pairs (ks : List Int) : List (Int × Value) := ks.map (fun k => (k, Value.int .i64 k))
theorem pairs_keys (ks : List Int) : (pairs ks).map (·.1) = ks := by unfold pairs; rw [List.map_map]; simp [Function.comp_def]
theorem pairs_len (ks : List Int) : (pairs ks).length = ks.length := by simp [pairs]
theorem look_pairs (ks : List Int) (c : Int) : look (pairs ks) c = if c ∈ ks then some (.int .i64 c) else none := by
  by_cases h : c ∈ ks
  · rw [if_pos h]
    cases e : look (pairs ks) c with
    | none => exact absurd rfl (look_none.1 e (c, .int .i64 c) (List.mem_map.2 ⟨c, h, rfl⟩))
    | some v =>
      have := look_mem e
      obtain ⟨k, _, hk⟩ := List.mem_map.1 this
      simp at hk
      rw [← hk.2, hk.1]
  · rw [if_neg h]
    refine look_none.2 fun p hp => ?_
    obtain ⟨k, hk, rfl⟩ := List.mem_map.1 hp
    exact fun e => h (by rw [← show k = c from e]; exact hk)
def addK (ks : List Int) (c : Int) : List Int := if c ∈ ks then ks else ks ++ [c]
def dropK (ks : List Int) (c : Int) : List Int := ks.filter (fun x => decide (x ≠ c))
theorem put_pairs (ks : List Int) (c : Int) : put (pairs ks) c (.int .i64 c) = pairs (addK ks c) := by
  unfold put addK
  rw [look_pairs]
  by_cases h : c ∈ ks
  · rw [if_pos h, if_pos h, if_pos (by rfl)]
    unfold pairs
    rw [List.map_map]
    refine List.map_congr_left fun x _ => ?_
    simp only [Function.comp_def]
    split
    · rename_i e; rw [e]
    · rfl
  · rw [if_neg h, if_neg h, if_neg (by simp)]
    simp [pairs]
theorem del_pairs (ks : List Int) (c : Int) : del (pairs ks) c = pairs (dropK ks c) := by
  unfold del dropK pairs
  rw [List.filter_map]
  rfl

/-! ### As a list that rises -/
def Rise (l : List Int) : Prop := l.Pairwise (fun a b => a < b)
def insS (c : Int) (s : List Int × Bool) (x : Int) : List Int × Bool := if s.2 = false ∧ c < x then (s.1 ++ [c] ++ [x], true) else (s.1 ++ [x], s.2)
def insF (l : List Int) (c : Int) : List Int × Bool := l.foldl (insS c) ([], false)
def ins (l : List Int) (c : Int) : List Int := if (insF l c).2 = true then (insF l c).1 else (insF l c).1 ++ [c]
theorem insF_snoc (l : List Int) (c x : Int) : insF (l ++ [x]) c = insS c (insF l c) x := by unfold insF; rw [List.foldl_append]; rfl
theorem insF_spec (l : List Int) (c : Int) (hr : Rise l) (hc : c ∉ l) :
    ((insF l c).2 = false → (insF l c).1 = l ∧ ∀ x ∈ l, x < c) ∧ ((insF l c).2 = true → (insF l c).1.Perm (c :: l) ∧ Rise (insF l c).1 ∧ ∃ y ∈ l, c < y) := by
  suffices h : ∀ n (l : List Int), l.length = n → Rise l → c ∉ l → ((insF l c).2 = false → (insF l c).1 = l ∧ ∀ x ∈ l, x < c) ∧ ((insF l c).2 = true → (insF l c).1.Perm (c :: l) ∧ Rise (insF l c).1 ∧ ∃ y ∈ l, c < y) from h _ l rfl hr hc
  intro n
  induction n with
  | zero =>
    intro l hl _ _
    obtain rfl := List.eq_nil_of_length_eq_zero hl
    exact ⟨fun _ => ⟨rfl, by simp⟩, fun h => by cases h⟩
  | succ n ih =>
    intro l hl hr hc
    obtain ⟨m, x, rfl⟩ : ∃ m x, l = m ++ [x] := by
      rcases List.eq_nil_or_concat l with rfl | ⟨m, x, rfl⟩
      · simp at hl
      · exact ⟨m, x, by simp⟩
    obtain ⟨r1, r2, r3⟩ := List.pairwise_append.1 hr
    have hcm : c ∉ m := fun q => hc (by simp [q])
    have hcx : c ≠ x := fun q => hc (by simp [q])
    obtain ⟨i1, i2⟩ := ih m (by simp at hl; omega) r1 hcm
    rw [insF_snoc]
    cases hd : (insF m c).2 with
    | false =>
      obtain ⟨e1, e2⟩ := i1 hd
      by_cases hx : c < x
      · have e : insS c (insF m c) x = (m ++ [c] ++ [x], true) := by unfold insS; rw [if_pos ⟨hd, hx⟩, e1]
        rw [e]
        refine ⟨fun q => (by cases q), fun _ => ⟨?_, ?_, x, by simp, hx⟩⟩
        · rw [show m ++ [c] ++ [x] = m ++ ([c] ++ [x]) by simp]
          exact (List.perm_append_comm_assoc m [c] [x])
        · unfold Rise
          rw [List.pairwise_append]
          refine ⟨?_, by simp, fun a ha b hb => ?_⟩
          · rw [List.pairwise_append]
            exact ⟨r1, by simp, fun a ha b hb => by simp at hb; subst hb; exact e2 a ha⟩
          · simp at hb; subst hb
            simp at ha
            rcases ha with ha | rfl
            · exact r3 a ha _ (by simp)
            · exact hx
      · have e : insS c (insF m c) x = (m ++ [x], false) := by unfold insS; rw [if_neg (fun q => hx q.2), e1, hd]
        rw [e]
        refine ⟨fun _ => ⟨rfl, fun y hy => ?_⟩, fun q => (by cases q)⟩
        simp at hy
        rcases hy with hy | rfl
        · exact e2 y hy
        · omega
    | true =>
      obtain ⟨e1, e2, y, hy, hcy⟩ := i2 hd
      have e : insS c (insF m c) x = ((insF m c).1 ++ [x], true) := by unfold insS; rw [if_neg (fun q => by rw [hd] at q; cases q.1), hd]
      rw [e]
      have hxy : y < x := r3 y hy x (by simp)
      refine ⟨fun q => (by cases q), fun _ => ⟨?_, ?_, y, by simp [hy], hcy⟩⟩
      · have := List.Perm.append_right [x] e1
        simpa using this
      · unfold Rise
        rw [List.pairwise_append]
        refine ⟨e2, by simp, fun a ha b hb => ?_⟩
        simp at hb; subst hb
        have := (e1.mem_iff).1 ha
        simp at this
        rcases this with rfl | q
        · omega
        · exact r3 a q _ (by simp)
theorem ins_spec {l : List Int} {c : Int} (hr : Rise l) (hc : c ∉ l) : (ins l c).Perm (c :: l) ∧ Rise (ins l c) := by
  obtain ⟨h1, h2⟩ := insF_spec l c hr hc
  unfold ins
  cases hd : (insF l c).2 with
  | true => rw [if_pos rfl]; exact ⟨(h2 hd).1, (h2 hd).2.1⟩
  | false =>
    obtain ⟨e1, e2⟩ := h1 hd
    rw [if_neg (by simp), e1]
    refine ⟨by simp, ?_⟩
    unfold Rise
    rw [List.pairwise_append]
    exact ⟨hr, by simp, fun a ha b hb => by simp at hb; subst hb; exact e2 a ha⟩
theorem ins_len {l : List Int} {c : Int} (hr : Rise l) (hc : c ∉ l) : (ins l c).length = l.length + 1 := by rw [(ins_spec hr hc).1.length_eq]; simp
theorem insF_len (l : List Int) (c : Int) : (insF l c).1.length ≤ l.length + 1 ∧ ((insF l c).2 = false → (insF l c).1.length = l.length) := by
  suffices h : ∀ n (l : List Int), l.length = n → (insF l c).1.length ≤ l.length + 1 ∧ ((insF l c).2 = false → (insF l c).1.length = l.length) from h _ l rfl
  intro n
  induction n with
  | zero => intro l hl; obtain rfl := List.eq_nil_of_length_eq_zero hl; exact ⟨by simp [insF], fun _ => rfl⟩
  | succ n ih =>
    intro l hl
    obtain ⟨m, x, rfl⟩ : ∃ m x, l = m ++ [x] := by
      rcases List.eq_nil_or_concat l with rfl | ⟨m, x, rfl⟩
      · simp at hl
      · exact ⟨m, x, by simp⟩
    obtain ⟨i1, i2⟩ := ih m (by simp at hl; omega)
    rw [insF_snoc]
    unfold insS
    split
    · rename_i h; have := i2 h.1; refine ⟨by simp; omega, fun q => (by cases q)⟩
    · refine ⟨by simp; omega, fun q => ?_⟩
      have := i2 q
      simp; omega

/-- The two of them, side by side: the map's keys, and the list that rises. -/
structure Rel (ks m : List Int) : Prop where
  nodup : ks.Nodup
  rise : Rise m
  perm : m.Perm ks
  cells : ∀ c ∈ ks, 0 ≤ c ∧ c ≤ 191

theorem Rel.nil : Rel [] [] := ⟨by simp, List.Pairwise.nil, List.Perm.refl _, by simp⟩
theorem Rel.has {ks m : List Int} (h : Rel ks m) (c : Int) : has m c = has ks c := by
  unfold Roots.has
  rw [decide_eq_decide]
  exact h.perm.mem_iff
theorem Rel.len {ks m : List Int} (h : Rel ks m) : m.length = ks.length := h.perm.length_eq
theorem nodup_small : ∀ (n : Nat) (l : List Int), l.Nodup → (∀ x ∈ l, 0 ≤ x ∧ x < n) → l.length ≤ n
  | 0, l, _, h => by
    cases l with
    | nil => simp
    | cons x l => have := h x (by simp); omega
  | n + 1, l, hd, h => by
    have h1 := nodup_small n (l.erase (n : Int)) (hd.erase _) (fun x hx => by
      have h2 := h x (List.mem_of_mem_erase hx)
      have h3 : x ≠ (n : Int) := ((List.Nodup.mem_erase_iff hd).1 hx).1
      omega)
    rw [List.length_erase] at h1
    split at h1 <;> omega
theorem Rel.small {ks m : List Int} (h : Rel ks m) : ks.length ≤ 192 := nodup_small 192 ks h.nodup (fun x hx => by have := h.cells x hx; omega)
theorem Rel.sorted {ks m ss : List Int} (h : Rel ks m) (hp : ss.Perm ks) : ss.mergeSort (fun x y => decide (x ≤ y)) = m := by
  rw [mergeSort_of_perm_i (hp.trans h.perm.symm)]
  have tr : ∀ a b c : Int, leI a b = true → leI b c = true → leI a c = true := fun a b c h1 h2 => by simp only [leI, decide_eq_true_eq] at *; exact Int.le_trans h1 h2
  have to : ∀ a b : Int, (leI a b || leI b a) = true := fun a b => by simp only [leI, Bool.or_eq_true, decide_eq_true_eq]; exact Int.le_total a b
  refine List.Perm.eq_of_pairwise (le := fun a b => leI a b = true) (fun a b _ _ h1 h2 => ?_) (List.pairwise_mergeSort tr to m) (h.rise.imp (fun q => by simp only [leI, decide_eq_true_eq]; omega)) (List.mergeSort_perm m leI)
  simp only [leI, decide_eq_true_eq] at h1 h2
  exact Int.le_antisymm h1 h2

/-- Add: the map's keys, the list, what is told. -/
def addM (m : List Int) (c : Int) : List Int := if c ∈ m then m else ins m c
def dropM (m : List Int) (c : Int) : List Int := m.filter (fun x => decide (x ≠ c))
theorem Rel.add {ks m : List Int} (h : Rel ks m) {c : Int} (hc : okc c = true) : Rel (addK ks c) (addM m c) := by
  have hc' := (okc_iff c).1 hc
  have hm : c ∈ m ↔ c ∈ ks := h.perm.mem_iff
  unfold addK addM
  by_cases hk : c ∈ ks
  · rw [if_pos hk, if_pos (hm.2 hk)]; exact h
  · rw [if_neg hk, if_neg (fun q => hk (hm.1 q))]
    obtain ⟨h1, h2⟩ := ins_spec h.rise (fun q => hk (hm.1 q))
    refine ⟨?_, h2, h1.trans ((h.perm.cons c).trans ?_), fun d hd => ?_⟩
    · rw [List.nodup_append]
      exact ⟨h.nodup, by simp, fun a ha b hb => by simp at hb; subst hb; exact fun e => hk (e ▸ ha)⟩
    · simpa using (List.perm_append_comm (l₁ := [c]) (l₂ := ks))
    · simp at hd
      rcases hd with hd | rfl
      · exact h.cells d hd
      · exact hc'
theorem Rel.drop {ks m : List Int} (h : Rel ks m) (c : Int) : Rel (dropK ks c) (dropM m c) :=
  ⟨h.nodup.filter _, List.Pairwise.filter _ h.rise, h.perm.filter _, fun d hd => h.cells d ((List.mem_filter.1 hd).1)⟩
theorem dropM_snoc (m : List Int) (c x : Int) : dropM (m ++ [x]) c = if x = c then dropM m c else dropM m c ++ [x] := by
  unfold dropM; rw [List.filter_append]; by_cases h : x = c <;> simp [h]
theorem dropM_len (m : List Int) (c : Int) : (dropM m c).length ≤ m.length := List.length_filter_le _ _

end Roots
end Go.Proofs.Ytmpnlpheeoadkaa
