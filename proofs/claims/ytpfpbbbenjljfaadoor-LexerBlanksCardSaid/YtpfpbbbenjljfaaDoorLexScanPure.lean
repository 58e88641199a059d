/- The tokens of a line (layer 18): plain. -/
import Derived.Test.YtpfpbbbenjljfaaDoorLexTokPure
set_option linter.unusedVariables false
set_option linter.unusedSimpArgs false
namespace Go.Proofs.YtpfpbbbenjljfaaDoor
open Go.RowKit

namespace Lex

/-- A text from a place on. -/
def fromAt (s : ByteArray) (i : Nat) : ByteArray := s.extract i s.size
theorem fromAt_size (s : ByteArray) (i : Nat) : (fromAt s i).size = s.size - i := by unfold fromAt; rw [ByteArray.size_extract]; omega
theorem bt_fromAt (s : ByteArray) (i j : Nat) : bt (fromAt s i) j = bt s (i + j) := by
  rcases Nat.lt_or_ge (i + j) s.size with h | h
  · unfold fromAt
    have h2 : j < (s.extract i s.size).size := by rw [ByteArray.size_extract]; omega
    rw [bt_in h, bt_in h2]
    congr 2
    rw [ByteArray.getElem_extract]
  · rw [bt_out h, bt_out (by rw [fromAt_size]; omega)]
theorem fromAt_zero (s : ByteArray) : fromAt s 0 = s := by
  unfold fromAt
  exact ByteArray.extract_zero_size
theorem fromAt_fromAt (s : ByteArray) (i j : Nat) : fromAt (fromAt s i) j = fromAt s (i + j) := by
  apply ByteArray.ext_getElem
  · rw [fromAt_size, fromAt_size, fromAt_size]; omega
  · intro k h1 h2
    have a := bt_in h1
    have b := bt_in h2
    rw [bt_fromAt, bt_fromAt] at a
    rw [bt_fromAt, show i + j + k = i + (j + k) by omega, a] at b
    exact UInt8.toNat_inj.1 (by omega)
theorem tok_n (s : ByteArray) (i : Nat) (h : i < s.size) : (tok (fromAt s i)).n ≤ s.size - i := by
  have := tok_le (s := fromAt s i) (by rw [fromAt_size]; omega)
  rw [fromAt_size] at this
  exact this

/-- The tokens from a place on, behind those that were found; the place where it is wrong. -/
noncomputable def scan (s : ByteArray) (i : Nat) (l : List (Tk × Nat)) : List (Tk × Nat) × Option Nat :=
  if h : i < s.size then
    if bt s i = 32 then scan s (i + 1) l
    else if h0 : (tok (fromAt s i)).n = 0 then (l, some i)
    else scan s (i + (tok (fromAt s i)).n) (l ++ [(tok (fromAt s i), i)])
  else (l, none)
termination_by s.size - i
decreasing_by all_goals omega
theorem scan_end {s : ByteArray} {i : Nat} (h : s.size ≤ i) (l : List (Tk × Nat)) : scan s i l = (l, none) := by rw [scan, dif_neg (by omega)]
theorem scan_blank {s : ByteArray} {i : Nat} (h : i < s.size) (hb : bt s i = 32) (l : List (Tk × Nat)) : scan s i l = scan s (i + 1) l := by rw [scan, dif_pos h, if_pos hb]
theorem scan_bad {s : ByteArray} {i : Nat} (h : i < s.size) (hb : bt s i ≠ 32) (h0 : (tok (fromAt s i)).n = 0) (l : List (Tk × Nat)) : scan s i l = (l, some i) := by rw [scan, dif_pos h, if_neg hb, dif_pos h0]
theorem scan_tok {s : ByteArray} {i : Nat} (h : i < s.size) (hb : bt s i ≠ 32) (h0 : (tok (fromAt s i)).n ≠ 0) (l : List (Tk × Nat)) :
    scan s i l = scan s (i + (tok (fromAt s i)).n) (l ++ [(tok (fromAt s i), i)]) := by rw [scan, dif_pos h, if_neg hb, dif_neg h0]
/-- Blanks are passed over. -/
theorem scan_blanks {s : ByteArray} (l : List (Tk × Nat)) : ∀ (k i : Nat), i + k ≤ s.size → (∀ j, j < k → bt s (i + j) = 32) → scan s i l = scan s (i + k) l
  | 0, _, _, _ => rfl
  | k + 1, i, h, hb => by
    rw [scan_blank (s := s) (i := i) (by omega) (hb 0 (by omega)), scan_blanks l k (i + 1) (by omega) (fun j hj => by rw [show i + 1 + j = i + (j + 1) by omega]; exact hb (j + 1) (by omega))]
    congr 1
    omega
/-- What is told of a line: the tokens, where it is wrong, the error. -/
def outV : List (Tk × Nat) × Option Nat → List (Tk × Nat) × Nat × Int
  | (l, none) => (l, 0, 0)
  | (_, some i) => ([], i, 2)
noncomputable def scanV (s : ByteArray) : List (Tk × Nat) × Nat × Int := if 1000 < s.size then ([], 0, 8) else outV (scan s 0 [])

end Lex
end Go.Proofs.YtpfpbbbenjljfaaDoor
