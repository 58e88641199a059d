/- A word's text, read: the word (layer 5): plain. -/
import Derived.Test.YtpfpbbbenjljfaaDoorHandleText
import Derived.Test.YtpfpbbbenjljfaaDoorHandleParse
set_option linter.unusedVariables false
set_option linter.unusedSimpArgs false
namespace Go.Proofs.YtpfpbbbenjljfaaDoor
open Go.RowKit

namespace Handle

/-! ### There and back -/
theorem val_fig {d : Nat} (h : d < 16) : val (fig (d : Int)).toNat = (d : Int) := (fig_val h).1 rfl
theorem text_size (x : Int) : (text x).size = 16 := by
  show (figsTo x 16).toArray.size = 16
  rw [List.size_toArray, figsTo_length]
theorem text_val {x : Int} {i : Nat} (h : i < 16) : val (byteAt (text x) i) = x / 2 ^ (4 * (15 - i)) % 16 := by
  have hs : i < (text x).size := by rw [text_size]; exact h
  rw [byteAt_in hs]
  have e : (text x)[i]'hs = fig (x / 2 ^ (4 * (15 - i)) % 16) := by
    show (figsTo x 16).toArray[i]'(by rw [List.size_toArray, figsTo_length]; exact h) = _
    simp [figsTo]
  rw [e]
  obtain ⟨d, hd⟩ : ∃ d : Nat, x / 2 ^ (4 * (15 - i)) % 16 = (d : Int) := ⟨(x / 2 ^ (4 * (15 - i)) % 16).toNat, by omega⟩
  rw [hd]
  exact val_fig (by omega)
theorem text_ok (x : Int) : okTo (text x) 16 = true := by
  rw [okTo_iff]
  intro i hi
  rw [text_val hi]; omega
theorem text_word {x : Int} (hx : 0 ≤ x ∧ x ≤ 18446744073709551615) : ∀ k, k ≤ 16 → wordTo (text x) k = x / 2 ^ (4 * (16 - k))
  | 0, _ => by
    show (0 : Int) = x / 2 ^ (4 * (16 - 0))
    rw [show (2 : Int) ^ (4 * (16 - 0)) = 18446744073709551616 by decide]; omega
  | k + 1, h => by
    have h1 := text_word hx k (by omega)
    show 16 * wordTo (text x) k + val (byteAt (text x) k) = _
    rw [h1, text_val (by omega), show 16 - (k + 1) = 15 - k by omega, show 4 * (16 - k) = 4 * (15 - k) + 4 by omega, Int.pow_add, ← Int.ediv_ediv_of_nonneg (Int.pow_nonneg (by omega))]
    show 16 * (x / 2 ^ (4 * (15 - k)) / 16) + _ = _
    omega
theorem parse_text {x : Int} (hx : 0 ≤ x ∧ x ≤ 18446744073709551615) : parse (text x) = (x, 0) := by
  rw [parse_yes (text_size x) (text_ok x), text_word hx 16 (Nat.le_refl _)]
  congr 1
  show x / 2 ^ 0 = x
  simp

end Handle
end Go.Proofs.YtpfpbbbenjljfaaDoor
