/- Bits of whole numbers. -/
import Derived.Laws.BitsAllLaws
set_option linter.unusedVariables false
namespace Go.Proofs.Ytngbhhcicakolaa.Bits

/-- Bits that do not meet add up: the higher ones first. -/
theorem or_up (k : Nat) (n x : Int) (h0 : 0 ≤ x) (h1 : x < 2 ^ k) (h2 : 0 ≤ n) (h3 : n * 2 ^ k < 18446744073709551616) (h4 : x < 18446744073709551616) :
    Go.bits .or .u64 (n * 2 ^ k) x = n * 2 ^ k + x := by
  obtain ⟨x, rfl⟩ := Int.eq_ofNat_of_zero_le h0
  obtain ⟨n, rfl⟩ := Int.eq_ofNat_of_zero_le h2
  have e : ((n : Int) * 2 ^ k) = ((n * 2 ^ k : Nat) : Int) := by simp
  rw [e] at h3 ⊢
  rw [u64_or_nat _ _ (by omega) (by omega)]
  have hx : x < 2 ^ k := by
    have : ((x : Nat) : Int) < ((2 ^ k : Nat) : Int) := by simpa using h1
    omega
  have := Nat.two_pow_add_eq_or_of_lt hx n
  rw [Nat.mul_comm, ← this]
  simp
theorem and_mask (k : Nat) (x : Int) (h0 : 0 ≤ x) (h1 : x < 18446744073709551616) (hk : k ≤ 63) : Go.bits .and .u64 x (2 ^ k - 1) = x % 2 ^ k := by
  obtain ⟨x, rfl⟩ := Int.eq_ofNat_of_zero_le h0
  have hp : 1 ≤ 2 ^ k := Nat.one_le_two_pow
  have hq : 2 ^ k ≤ 2 ^ 63 := Nat.pow_le_pow_right (by omega) hk
  have e : ((2 : Int) ^ k - 1) = ((2 ^ k - 1 : Nat) : Int) := by
    rw [Int.natCast_sub hp]; simp
  rw [e, u64_and_nat _ _ (by omega) (by omega), Nat.and_two_pow_sub_one_eq_mod]
  simp
theorem or1 {a : Int} (ha : 0 ≤ a ∧ a ≤ 9223372036854775807) : Go.bits BinOp.or IntKind.u64 (a * 2) 1 = a * 2 + 1 := or_up 1 a 1 (by omega) (by omega) (by omega) (by omega) (by omega)
theorem and1 {x : Int} (h : 0 ≤ x ∧ x ≤ 18446744073709551615) : Go.bits BinOp.and IntKind.u64 x 1 = x % 2 := and_mask 1 x (by omega) (by omega) (by omega)

end Go.Proofs.Ytngbhhcicakolaa.Bits
