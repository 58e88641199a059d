/- Layer 4, walked: values and words. -/
import Derived.Test.YtmpnlpheeoadkaaDoorNumText
import Derived.Test.YtmpnlpheeoadkaaDoorWords
import Derived.IntWalk
import Derived.Test.YtmpnlpheeoadkaaDoorBits
set_option linter.unusedVariables false
set_option linter.unusedSimpArgs false
namespace Go.Proofs.YtmpnlpheeoadkaaDoor
open Go.RowKit

namespace Word

def vright (k n : Int) : Bool := decide (k = 0 ∧ n = 0 ∨ k = 1 ∧ n ≤ 9223372036854775807 ∨ k = 2 ∧ n ≤ 9223372036854775806)
def vword (k n : Int) : Int := if k = 0 then 0 else 2 * n + k
theorem vright_parts {k n : Int} (h : vright k n = true) : k = 0 ∧ n = 0 ∨ k = 1 ∧ n ≤ 9223372036854775807 ∨ k = 2 ∧ n ≤ 9223372036854775806 := of_decide_eq_true h

def encOf (k n : Int) : Int × Int := if vright k n = true then (vword k n, 0) else (0, 1)

def decK (x : Int) : Int := if x = 0 then 0 else if x % 2 = 1 then 1 else 2
def decN (x : Int) : Int := if x = 0 then 0 else if x % 2 = 1 then x / 2 else x / 2 - 1

theorem decN_bd {x : Int} (hx : 0 ≤ x ∧ x ≤ 18446744073709551615) : 0 ≤ decN x ∧ decN x ≤ 18446744073709551615 := by
  unfold decN; split
  · omega
  · split <;> omega

/-- A number's numeral. -/
def numL (n : Int) : List UInt8 := Lib.decDigits n.toNat
theorem digits_len {m : Nat} (h : m < 18446744073709551616) : (Lib.decDigits m).length ≤ 20 := by
  rw [Lib.decDigits_length]
  by_cases h1 : 1 ≤ m
  · have := Lib.numDigits_eq m h1 h
    split at this <;> omega
  · obtain rfl : m = 0 := by omega
    rw [Lib.nDigits_small (by decide)]; decide
def textL (k n : Int) : List UInt8 := if vright k n = true then (if k = 1 then numL n else if k = 2 then 64 :: numL n else [110, 105, 108]) else []

end Word
end Go.Proofs.YtmpnlpheeoadkaaDoor
