/- The functions of package conf, walked: At, Words, Base. -/
import Derived.Test.YtldgjmgdbaeglaaConfWalks
set_option linter.unusedVariables false
set_option linter.unusedSimpArgs false
namespace Go.Proofs.Ytldgjmgdbaeglaa
open Go.RowKit

namespace Conf

theorem ahead3 {s : Sh} (h : ok s = true) : ahead s 3 = words s := by unfold words; rw [if_pos h]; rfl
theorem words_no {s : Sh} (h : ok s = false) : words s = 0 := by unfold words; rw [h]; rfl

def sumTo (l : List Sh) (j : Nat) : Int := ((l.take j).map words).sum
theorem sum_succ {l : List Sh} {j : Nat} {s : Sh} (h : l[j]? = some s) : sumTo l (j + 1) = sumTo l j + words s := by
  unfold sumTo
  have hj := (List.getElem?_eq_some_iff.1 h).1
  rw [List.take_succ_eq_append_getElem hj, (List.getElem?_eq_some_iff.1 h).2]
  simp
theorem sum_bd (l : List Sh) : 0 ≤ (l.map words).sum ∧ (l.map words).sum ≤ 640 * l.length := by
  induction l with
  | nil => simp
  | cons s l ih => have := words_bd s; simp; omega

theorem sumTo_bd (l : List Sh) (j : Nat) : 0 ≤ sumTo l j ∧ sumTo l j ≤ 640 * j := by
  have h1 := sum_bd (l.take j)
  have h2 : (l.take j).length ≤ j := List.length_take_le _ _
  unfold sumTo; omega

theorem base_no {l : List Sh} {t : Int} (h : right l = false ∨ t < 1 ∨ (l.length : Int) < t) : base l t = -1 := by
  unfold base
  rw [if_neg]
  rintro ⟨h1, h2, h3⟩
  rcases h with h | h | h
  · rw [h] at h1; cases h1
  · omega
  · omega
theorem base_yes {l : List Sh} {m : Nat} (h : right l = true) (h' : m + 1 ≤ l.length) : base l ((m : Int) + 1) = sumTo l m := by
  unfold base sumTo
  rw [if_pos ⟨h, by omega, by omega⟩]
  congr 3

end Conf
end Go.Proofs.Ytldgjmgdbaeglaa
