/- What strconv.ParseUint tells of a line's figures, against the document's number (layer 18): plain. -/
import Derived.Test.YtpfpbbbenjljfaaDoorLexUint
set_option linter.unusedVariables false
set_option linter.unusedSimpArgs false
namespace Go.Proofs.YtpfpbbbenjljfaaDoor
open Go.RowKit

namespace Lex

/-- A text's bytes from a place on, as the library reads them: with u told so far. -/
theorem parse_from {s : ByteArray} {n : Nat} (hn : n ≤ s.size) (hf : ∀ i, i < n → figB (bt s i) = true) : ∀ (m j : Nat), j + m = n → ∀ u : Nat, (u : Int) = decTo s j → (u : Int) ≤ 18446744073709551615 →
    Lib.parseUintM 18446744073709551615 u ((s.data.toList.take n).drop j) = if decTo s n ≤ 18446744073709551615 then .ok (decTo s n).toNat else .range
  | 0, j, h, u, hu, hm => by
    obtain rfl : j = n := by omega
    rw [List.drop_eq_nil_of_le (by rw [List.length_take]; omega)]
    rw [if_pos (by omega), ← hu]
    unfold Lib.parseUintM
    simp
  | m + 1, j, h, u, hu, hm => by
    have hj : j < s.size := by omega
    have hlen : j < (s.data.toList.take n).length := by
      rw [List.length_take, Array.length_toList]
      have : s.data.size = s.size := rfl
      omega
    rw [List.drop_eq_getElem_cons hlen]
    have hx : (((s.data.toList.take n)[j]'hlen).toNat : Int) = bt s j := by
      rw [List.getElem_take, bt_in hj]
      rfl
    obtain ⟨x, hxx⟩ : ∃ x, (s.data.toList.take n)[j]'hlen = x := ⟨_, rfl⟩
    rw [hxx] at hx ⊢
    have hb := (figB_iff _).1 (hf j (by omega))
    have hd : decTo s (j + 1) = 10 * decTo s j + (bt s j - 48) := rfl
    have hmono := (decTo_mono (s := s) (m := j + 1) (n := n) (by omega) hf).2
    unfold Lib.parseUintM
    rw [if_pos ⟨by omega, by omega⟩]
    by_cases h1 : 1844674407370955162 ≤ u
    · rw [if_pos h1, if_neg (by omega)]
    · rw [if_neg h1]
      by_cases h2 : 18446744073709551615 < u * 10 + (x.toNat - 48)
      · rw [if_pos h2, if_neg (by omega)]
      · rw [if_neg h2]
        exact parse_from hn hf m (j + 1) (by omega) _ (by omega) (by omega)
/-- What ParseUint tells of the figures that a text begins with: the document's number. -/
theorem parse_figs {s : ByteArray} {n : Nat} (h0 : 0 < n) (hn : n ≤ s.size) (hf : ∀ i, i < n → figB (bt s i) = true) :
    Lib.parseUintB 64 (s.extract 0 n).data.toList = if decTo s n ≤ 18446744073709551615 then .ok (decTo s n).toNat else .range := by
  have e : (s.extract 0 n).data.toList = s.data.toList.take n := by
    rw [ByteArray.data_extract, Array.toList_extract, List.extract_eq_take_drop]
    simp
  have hne : s.data.toList.take n ≠ [] := fun q => by
    have := congrArg List.length q
    rw [List.length_take, Array.length_toList, List.length_nil, show s.data.size = s.size from rfl] at this
    omega
  rw [e]
  unfold Lib.parseUintB
  rw [if_neg hne]
  have := parse_from hn hf n 0 (by omega) 0 rfl (by decide)
  rw [List.drop_zero] at this
  exact this

/-! ### Names ahead -/
theorem NameTo.one {s : ByteArray} {n m : Nat} (h : NameTo s n) (h' : NameTo s m) : n = m := by
  rcases Nat.lt_trichotomy n m with q | q | q
  · have := h.stop (by have := h'.le; omega)
    rw [h'.all n q] at this; cases this
  · exact q
  · have := h'.stop (by have := h.le; omega)
    rw [h.all m q] at this; cases this
theorem nameTo_front {s : ByteArray} {n : Nat} (h : Front eitB s n) (hl : letB (bt s 0) = true) : NameTo s n := by
  refine ⟨h.le, fun i hi => ?_, fun q => ?_⟩
  · unfold okAt
    rcases Nat.eq_zero_or_pos i with r | r
    · subst r; rw [hl]; rfl
    · have := h.all i hi
      unfold eitB at this
      rw [decide_eq_true r, Bool.true_and]
      exact this
  · have := h.stop q
    unfold eitB at this
    rw [Bool.or_eq_false_iff] at this
    unfold okAt
    rw [this.1, this.2, Bool.and_false]
    rfl
theorem nameTo_no {s : ByteArray} (hl : letB (bt s 0) = false) : NameTo s 0 :=
  ⟨Nat.zero_le _, fun i hi => absurd hi (Nat.not_lt_zero i), fun _ => by unfold okAt; rw [hl]; rfl⟩
/-- What the program asks behind a dollar: whether the front is a name. -/
theorem nameB_pre {s : ByteArray} {n : Nat} (h : Front eitB s n) : nameB (s.extract 0 n) = (decide (0 < n) && letB (bt s 0)) := by
  rw [Bool.eq_iff_iff, Bool.and_eq_true, decide_eq_true_iff, nameB_iff, size_pre h.le]
  constructor
  · rintro ⟨h1, h2, -⟩
    rw [bt_pre h.le h1] at h2
    exact ⟨h1, h2⟩
  · rintro ⟨h1, h2⟩
    refine ⟨h1, by rw [bt_pre h.le h1]; exact h2, fun i hi => ?_⟩
    rw [bt_pre h.le hi]
    exact h.all i hi
theorem front_pos {s : ByteArray} {n : Nat} (h : Front eitB s n) (hz : 0 < s.size) (hl : letB (bt s 0) = true) : 0 < n := by
  rcases Nat.eq_zero_or_pos n with q | q
  · subst q
    have := h.stop hz
    unfold eitB at this
    rw [hl] at this
    cases this
  · exact q

end Lex
end Go.Proofs.YtpfpbbbenjljfaaDoor
