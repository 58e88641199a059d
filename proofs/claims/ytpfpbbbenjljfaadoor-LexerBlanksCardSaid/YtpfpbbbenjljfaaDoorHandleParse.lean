/- Parse of layer 5, as a plain function. -/
import Derived.Test.YtpfpbbbenjljfaaDoorHandleRefText
import Derived.Test.YtpfpbbbenjljfaaDoorHandleRune
set_option linter.unusedVariables false
set_option linter.unusedSimpArgs false
namespace Go.Proofs.YtpfpbbbenjljfaaDoor
open Go.RowKit

namespace Handle

/-- What a byte is worth; 16: it is no figure. -/
def val (b : Nat) : Int := if 48 ≤ b ∧ b ≤ 57 then (b : Int) - 48 else if 97 ≤ b ∧ b ≤ 102 then (b : Int) - 87 else 16
def byteAt (s : ByteArray) (i : Nat) : Nat := if h : i < s.size then (s[i]'h).toNat else 0
def wordTo (s : ByteArray) : Nat → Int
  | 0 => 0
  | k + 1 => 16 * wordTo s k + val (byteAt s k)
def okTo (s : ByteArray) (k : Nat) : Bool := (List.range k).all (fun i => decide (val (byteAt s i) ≠ 16))
theorem okTo_iff (s : ByteArray) (k : Nat) : okTo s k = true ↔ ∀ i, i < k → val (byteAt s i) ≠ 16 := by
  unfold okTo; simp
def parse (s : ByteArray) : Int × Int := if s.size = 16 ∧ okTo s 16 = true then (wordTo s 16, 0) else (0, 2)

theorem val_bd (b : Nat) : 0 ≤ val b ∧ val b ≤ 16 := by unfold val; split <;> (try split) <;> omega
theorem val_high {b : Nat} (h : 128 ≤ b) : val b = 16 := by unfold val; rw [if_neg (by omega), if_neg (by omega)]
theorem byteAt_in {s : ByteArray} {i : Nat} (h : i < s.size) : byteAt s i = (s[i]'h).toNat := by unfold byteAt; rw [dif_pos h]
theorem okTo_succ {s : ByteArray} {k : Nat} (h : okTo s k = true) (hv : val (byteAt s k) ≠ 16) : okTo s (k + 1) = true := by
  rw [okTo_iff] at h ⊢
  intro i hi
  by_cases e : i = k
  · subst e; exact hv
  · exact h i (by omega)
theorem okTo_zero (s : ByteArray) : okTo s 0 = true := rfl
theorem okTo_not {s : ByteArray} {k n : Nat} (hk : k < n) (hv : val (byteAt s k) = 16) : okTo s n = false := by
  rw [← Bool.not_eq_true, okTo_iff]
  intro h; exact h k hk hv
theorem wordTo_bd {s : ByteArray} : ∀ {k : Nat}, okTo s k = true → 0 ≤ wordTo s k ∧ wordTo s k < 16 ^ k
  | 0, _ => ⟨Int.le_refl _, by show (0 : Int) < 1; omega⟩
  | k + 1, h => by
    rw [okTo_iff] at h
    have h1 := wordTo_bd (k := k) ((okTo_iff s k).2 (fun i hi => h i (by omega)))
    have h2 := h k (by omega)
    have h3 := val_bd (byteAt s k)
    show 0 ≤ 16 * wordTo s k + val (byteAt s k) ∧ 16 * wordTo s k + val (byteAt s k) < 16 ^ (k + 1)
    rw [Int.pow_succ]
    omega
theorem wordTo_15 {s : ByteArray} {k : Nat} (h : okTo s k = true) (hk : k ≤ 15) : 0 ≤ wordTo s k ∧ wordTo s k ≤ 1152921504606846975 := by
  have h1 := wordTo_bd h
  have h2 : (16 : Int) ^ k ≤ 16 ^ 15 := by
    have : (16 : Nat) ^ k ≤ 16 ^ 15 := Nat.pow_le_pow_right (by omega) hk
    exact_mod_cast this
  have h3 : (16 : Int) ^ 15 = 1152921504606846976 := by decide
  omega
theorem parse_yes {s : ByteArray} (h : s.size = 16) (h1 : okTo s 16 = true) : parse s = (wordTo s 16, 0) := by unfold parse; rw [if_pos ⟨h, h1⟩]
theorem parse_len {s : ByteArray} (h : s.size ≠ 16) : parse s = (0, 2) := by unfold parse; rw [if_neg (fun q => h q.1)]
theorem parse_not {s : ByteArray} {k : Nat} (hk : k < s.size) (hv : val (byteAt s k) = 16) : parse s = (0, 2) := by
  unfold parse
  by_cases h : s.size = 16
  · rw [if_neg (fun q => by rw [okTo_not (by omega) hv] at q; exact absurd q.2 (by decide))]
  · rw [if_neg (fun q => h q.1)]

/-- A figure is a byte's just if it is worth that. -/
theorem fig_val {k b : Nat} (hk : k < 16) : ((fig (k : Int)).toNat : Int) = (b : Int) ↔ val b = (k : Int) := by
  by_cases h : k < 10
  · rw [fig_lt (by omega) (by omega)]
    unfold val
    split
    · omega
    · split <;> omega
  · rw [fig_ge (by omega) (by omega)]
    unfold val
    split
    · omega
    · split <;> omega
set_option maxRecDepth 100000 in
theorem index_figs : ∀ b : Fin 128, Lib.indexByte figures.data.toList (b.val.toUInt8) = if val b.val = 16 then -1 else val b.val := by decide

theorem or4 {a b : Int} (ha : 0 ≤ a ∧ a ≤ 1152921504606846975) (hb : 0 ≤ b ∧ b < 16) : Go.bits BinOp.or IntKind.u64 (a * 16) b = a * 16 + b :=
  or_up 4 a b (by omega) (by omega) (by omega) (by omega) (by omega)

end Handle
end Go.Proofs.YtpfpbbbenjljfaaDoor
