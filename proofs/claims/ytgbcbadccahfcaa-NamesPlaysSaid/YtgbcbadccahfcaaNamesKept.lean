/- The plain law NamesLast of layer 22: what was kept, and what the book tells. -/
import Derived.Test.YtgbcbadccahfcaaNamesAlive
import Derived.Test.YtgbcbadccahfcaaAppend
set_option linter.unusedVariables false
set_option linter.unusedSimpArgs false
namespace Go.Proofs.Ytgbcbadccahfcaa
open Go.RowKit

namespace Names
open Lex

def nm (K : List Wd) (k : Nat) : ByteArray := (K.getD k (⟨#[]⟩, 0)).1
def vl (K : List Wd) (k : Nat) : Int := (K.getD k (⟨#[]⟩, 0)).2
def cellsK (K : List Wd) : List Value := K.flatMap (fun p => [.string p.1, .int .u64 p.2])
theorem cellsK_len (K : List Wd) : (cellsK K).length = K.length * 2 := by
  unfold cellsK
  induction K with
  | nil => rfl
  | cons p K ih => rw [List.flatMap_cons, List.length_append, ih]; simp; omega
theorem cellsK_push (K : List Wd) (s : ByteArray) (n : Int) : cellsK (K ++ [(s, n)]) = cellsK K ++ [.string s, .int .u64 n] := by unfold cellsK; simp
theorem cellsK_get (K : List Wd) : ∀ (k : Nat), k < K.length → (cellsK K)[k * 2]? = some (.string (nm K k)) ∧ (cellsK K)[k * 2 + 1]? = some (.int .u64 (vl K k)) := by
  induction K with
  | nil => intro k hk; simp at hk
  | cons p K ih =>
    intro k hk
    have e : cellsK (p :: K) = .string p.1 :: .int .u64 p.2 :: cellsK K := by unfold cellsK; rw [List.flatMap_cons]; rfl
    cases k with
    | zero => rw [e]; exact ⟨rfl, rfl⟩
    | succ k =>
      have := ih k (by simpa using hk)
      rw [e, show (k + 1) * 2 = k * 2 + 2 by omega]
      simpa [nm, vl] using this
def lastVal (K : List Wd) (s : ByteArray) : Nat → Int
  | 0 => 0
  | k + 1 => if nm K k = s then vl K k else lastVal K s k
theorem nm_push {K : List Wd} {p : Wd} {k : Nat} (h : k < K.length) : nm (K ++ [p]) k = nm K k ∧ vl (K ++ [p]) k = vl K k := by
  unfold nm vl
  rw [List.getD_eq_getElem?_getD, List.getElem?_append_left h, List.getD_eq_getElem?_getD]
  exact ⟨rfl, rfl⟩
theorem nm_new (K : List Wd) (p : Wd) : nm (K ++ [p]) K.length = p.1 ∧ vl (K ++ [p]) K.length = p.2 := by
  unfold nm vl
  rw [List.getD_eq_getElem?_getD]
  simp
theorem lastVal_push {K : List Wd} {p : Wd} (t : ByteArray) : ∀ {m : Nat}, m ≤ K.length → lastVal (K ++ [p]) t m = lastVal K t m
  | 0, _ => rfl
  | m + 1, h => by
    unfold lastVal
    rw [(nm_push (p := p) (show m < K.length by omega)).1, (nm_push (p := p) (show m < K.length by omega)).2, lastVal_push t (by omega)]

/-- The book is as what was kept tells. -/
structure Kp (K L : List Wd) : Prop where
  yes : ∀ s i, i < K.length → nm K i = s → lk L s = some (lastVal K s K.length)
  no : ∀ s, (∀ i, i < K.length → nm K i ≠ s) → lk L s = none
  len : L.length ≤ K.length
theorem Kp.nil : Kp [] [] := ⟨fun s i hi => absurd hi (Nat.not_lt_zero i), fun s _ => rfl, Nat.le_refl _⟩
theorem Kp.push {K L : List Wd} (h : Kp K L) (s : ByteArray) (n : Int) : Kp (K ++ [(s, n)]) (pt L s n) := by
  have hn := nm_new K (s, n)
  refine ⟨fun t i hi e => ?_, fun t hh => ?_, ?_⟩
  · rw [lk_pt, show (K ++ [(s, n)]).length = K.length + 1 by simp]
    show _ = some (if nm (K ++ [(s, n)]) K.length = t then vl (K ++ [(s, n)]) K.length else lastVal (K ++ [(s, n)]) t K.length)
    rw [hn.1, hn.2, lastVal_push t (Nat.le_refl _)]
    by_cases q : s = t
    · rw [if_pos q, if_pos q]
    · rw [if_neg q, if_neg q]
      have hi2 : i < K.length := by
        rcases Nat.lt_or_ge i K.length with r | r
        · exact r
        · have : i = K.length := by simp at hi; omega
          rw [this, hn.1] at e
          exact absurd e q
      exact h.yes t i hi2 (by rw [← (nm_push (p := (s, n)) hi2).1]; exact e)
  · have q : s ≠ t := by
      have := hh K.length (by simp)
      rw [hn.1] at this
      exact this
    rw [lk_pt, if_neg q]
    exact h.no t (fun i hi => by rw [← (nm_push (p := (s, n)) hi).1]; exact hh i (by simp; omega))
  · have := pt_len L s n
    have := h.len
    simp; omega

def hasTo (K : List Wd) (x : List UInt8) (m : Nat) : Bool := (List.range m).any (fun k => decide ((nm K k).data.toList = x))
theorem hasTo_succ (K : List Wd) (x : List UInt8) (m : Nat) : hasTo K x (m + 1) = (hasTo K x m || decide ((nm K m).data.toList = x)) := by
  unfold hasTo
  rw [List.range_succ, List.any_append]
  simp
theorem Kp.has {K L : List Wd} (h : Kp K L) {ss : List (List UInt8)} (hS : Sorted L ss) {j : Nat} (hj : j < ss.length) : hasTo K ss[j] K.length = true := by
  have h1 : ss[j] ∈ (keys L).map (fun s => s.data.toList) := hS.perm.mem_iff.1 (List.getElem_mem hj)
  obtain ⟨s, hs, e⟩ := List.mem_map.1 h1
  have h2 := lk_mem.2 hs
  have h3 : ∃ i, i < K.length ∧ nm K i = s := by
    refine Classical.byContradiction fun q => ?_
    have := h.no s (fun i hi e => q ⟨i, hi, e⟩)
    rw [this] at h2
    cases h2
  obtain ⟨i, hi, e2⟩ := h3
  unfold hasTo
  rw [List.any_eq_true]
  exact ⟨i, List.mem_range.2 hi, by rw [e2]; simpa using e⟩
theorem Sorted.len {L : List Wd} {ss : List (List UInt8)} (h : Sorted L ss) : ss.length = L.length := by
  rw [h.perm.length_eq]
  unfold keys
  simp
theorem beq_txt (s t : ByteArray) : (s.toList == t.toList) = decide (s = t) := by
  rw [Lib.toList_data, Lib.toList_data, Bool.eq_iff_iff, beq_iff_eq, decide_eq_true_iff]
  exact ⟨data_inj, fun h => by rw [h]⟩
theorem less_txt {L : List Wd} {ss : List (List UInt8)} (h : Sorted L ss) (hn : (keys L).Nodup) {i : Nat} (hi : i + 1 < ss.length) : Op.bytesLess (⟨ss[i].toArray⟩ : ByteArray).toList (⟨ss[i + 1].toArray⟩ : ByteArray).toList = true := by
  rw [Lib.toList_data, Lib.toList_data]
  show Op.bytesLess ss[i].toArray.toList ss[i + 1].toArray.toList = true
  rw [List.toList_toArray, List.toList_toArray, bytesLess_eq, decide_eq_true_iff]
  exact List.not_le.1 (h.strict hn hi)

end Names
end Go.Proofs.Ytgbcbadccahfcaa
