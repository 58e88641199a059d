/- Layer 18 (lexer), plain: bytes of a text, names. -/
import Derived.Lib.OthersKept
import Derived.Laws.Runes
import Derived.Laws.RangeAny
import Derived.Lib.Strings
set_option linter.unusedVariables false
set_option linter.unusedSimpArgs false
namespace Go.Proofs.YtpfpbbbenjljfaaDoor
open Go.RowKit

namespace Lex

/-- A text's byte; 0: it has none there. -/
def bt (s : ByteArray) (i : Nat) : Int := if h : i < s.size then ((s[i]'h).toNat : Int) else 0
theorem bt_in {s : ByteArray} {i : Nat} (h : i < s.size) : bt s i = ((s[i]'h).toNat : Int) := by unfold bt; rw [dif_pos h]
theorem bt_bd (s : ByteArray) (i : Nat) : 0 ≤ bt s i ∧ bt s i ≤ 255 := by
  unfold bt
  split
  · rename_i h
    have := (s[i]'h).toNat_lt
    omega
  · omega
def letB (c : Int) : Bool := decide (97 ≤ c) && decide (c ≤ 122)
def figB (c : Int) : Bool := decide (48 ≤ c) && decide (c ≤ 57)
def eitB (c : Int) : Bool := letB c || figB c
theorem letB_iff (c : Int) : letB c = true ↔ 97 ≤ c ∧ c ≤ 122 := by simp [letB]
theorem figB_iff (c : Int) : figB c = true ↔ 48 ≤ c ∧ c ≤ 57 := by simp [figB]
theorem letB_not (c : Int) : letB c = false ↔ c < 97 ∨ 122 < c := by rw [← Bool.not_eq_true, letB_iff]; omega
theorem figB_not (c : Int) : figB c = false ↔ c < 48 ∨ 57 < c := by rw [← Bool.not_eq_true, figB_iff]; omega

/-- n bytes are so, and no more from the front on. -/
structure Front (p : Int → Bool) (s : ByteArray) (n : Nat) : Prop where
  le : n ≤ s.size
  all : ∀ i, i < n → p (bt s i) = true
  stop : n < s.size → p (bt s n) = false
theorem Front.one {p : Int → Bool} {s : ByteArray} {n m : Nat} (h : Front p s n) (h' : Front p s m) : n = m := by
  rcases Nat.lt_trichotomy n m with q | q | q
  · have := h.stop (by have := h'.le; omega)
    rw [h'.all n q] at this; cases this
  · exact q
  · have := h'.stop (by have := h.le; omega)
    rw [h.all m q] at this; cases this

def nameB (s : ByteArray) : Bool := decide (0 < s.size) && letB (bt s 0) && (List.range s.size).all (fun i => eitB (bt s i))
theorem nameB_iff (s : ByteArray) : nameB s = true ↔ 0 < s.size ∧ letB (bt s 0) = true ∧ ∀ i, i < s.size → eitB (bt s i) = true := by
  unfold nameB
  simp [List.all_eq_true, and_assoc]
theorem nameB_front {s : ByteArray} {n : Nat} (h : Front eitB s n) (hz : 0 < s.size) (hl : letB (bt s 0) = true) : nameB s = decide (n = s.size) := by
  rw [Bool.eq_iff_iff, nameB_iff, decide_eq_true_iff]
  constructor
  · rintro ⟨-, -, a⟩
    rcases Nat.lt_or_ge n s.size with q | q
    · have := h.stop q
      rw [a n q] at this; cases this
    · have := h.le; omega
  · rintro rfl
    exact ⟨hz, hl, h.all⟩
theorem nameB_no {s : ByteArray} (h : s.size = 0 ∨ letB (bt s 0) = false) : nameB s = false := by
  rw [← Bool.not_eq_true, nameB_iff]
  rintro ⟨a, b, -⟩
  rcases h with h | h
  · omega
  · rw [h] at b; cases b
theorem nonempty_iff (s : ByteArray) : s.toList.isEmpty = true ↔ s.size = 0 := by
  rw [Lib.toList_data, List.isEmpty_iff]
  constructor
  · intro h
    show s.data.size = 0
    rw [← Array.length_toList, h]; rfl
  · intro h
    exact List.eq_nil_of_length_eq_zero (by rw [Array.length_toList]; exact h)

end Lex
end Go.Proofs.YtpfpbbbenjljfaaDoor
