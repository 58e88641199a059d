/- What package head tells, as plain functions: a cell's header as a word. -/
import Derived.Laws.BitsAllLaws
set_option linter.unusedVariables false
namespace Go.Proofs.Ytngbhhcicakolaa.Head

def right (g c : Int) : Bool := decide (0 ≤ g) && decide (g ≤ 4294967295) && decide (0 ≤ c) && decide (c ≤ 2147483647)
def word (g c : Int) (u : Bool) : Int := g * 4294967296 + (if u then 2147483648 else 0) + c
def gen (w : Int) : Int := w / 4294967296
def count (w : Int) : Int := w % 2147483648
def used (w : Int) : Bool := decide (2147483648 ≤ w % 4294967296)

def usedN (w : Int) : Int := if used w = true then 1 else 0

theorem right_iff (g c : Int) : right g c = true ↔ (0 ≤ g ∧ g ≤ 4294967295) ∧ 0 ≤ c ∧ c ≤ 2147483647 := by
  unfold right; simp [and_assoc]

/-- Bits that do not meet add up. -/
theorem or_add (k : Nat) (x n : Int) (h0 : 0 ≤ x) (h1 : x < 2 ^ k) (h2 : 0 ≤ n) (h3 : n * 2 ^ k < 18446744073709551616) (h4 : x < 18446744073709551616) :
    Go.bits .or .u64 x (n * 2 ^ k) = x + n * 2 ^ k := by
  obtain ⟨x, rfl⟩ := Int.eq_ofNat_of_zero_le h0
  obtain ⟨n, rfl⟩ := Int.eq_ofNat_of_zero_le h2
  have e : ((n : Int) * 2 ^ k) = ((n * 2 ^ k : Nat) : Int) := by simp
  rw [e] at h3 ⊢
  rw [u64_or_nat _ _ (by omega) (by omega)]
  have hx : x < 2 ^ k := by
    have : ((x : Nat) : Int) < ((2 ^ k : Nat) : Int) := by simpa using h1
    omega
  have := Nat.two_pow_add_eq_or_of_lt hx n
  rw [Nat.or_comm, Nat.mul_comm, ← this]
  simp; omega

theorem or31_nat (x n : Nat) (hx : x ≤ 2147483647) : (n * 4294967296 + x) ||| 2147483648 = n * 4294967296 + 2147483648 + x := by
  have h1 := Nat.two_pow_add_eq_or_of_lt (i := 32) (b := x) (by omega) n
  have h2 := Nat.two_pow_add_eq_or_of_lt (i := 32) (b := 2147483648 + x) (by omega) n
  have h3 := Nat.two_pow_add_eq_or_of_lt (i := 31) (b := x) (by omega) 1
  simp only [Nat.reducePow, Nat.mul_one] at h1 h2 h3
  rw [show n * 4294967296 = 4294967296 * n from Nat.mul_comm _ _, h1, Nat.or_assoc, Nat.or_comm x, ← h3, ← h2]
  omega

theorem or31 (x n : Int) (hx : 0 ≤ x ∧ x ≤ 2147483647) (hn : 0 ≤ n ∧ n ≤ 4294967295) :
    Go.bits BinOp.or IntKind.u64 (n * 4294967296 + x) 2147483648 = n * 4294967296 + 2147483648 + x := by
  obtain ⟨x, rfl⟩ := Int.eq_ofNat_of_zero_le hx.1
  obtain ⟨n, rfl⟩ := Int.eq_ofNat_of_zero_le hn.1
  have e1 : ((n : Int) * 4294967296 + (x : Int)) = ((n * 4294967296 + x : Nat) : Int) := by simp
  have h := u64_or_nat (n * 4294967296 + x) 2147483648 (by omega) (by omega)
  rw [or31_nat x n (by omega)] at h
  rw [e1]
  refine Eq.trans h ?_
  simp

theorem and_mask (k : Nat) (x : Int) (h0 : 0 ≤ x) (h1 : x < 18446744073709551616) (hk : k ≤ 63) : Go.bits .and .u64 x (2 ^ k - 1) = x % 2 ^ k := by
  obtain ⟨x, rfl⟩ := Int.eq_ofNat_of_zero_le h0
  have hp : 1 ≤ 2 ^ k := Nat.one_le_two_pow
  have hq : 2 ^ k ≤ 2 ^ 63 := Nat.pow_le_pow_right (by omega) hk
  have e : ((2 : Int) ^ k - 1) = ((2 ^ k - 1 : Nat) : Int) := by
    rw [Int.natCast_sub hp]; simp
  rw [e, u64_and_nat _ _ (by omega) (by omega), Nat.and_two_pow_sub_one_eq_mod]
  simp

theorem gen_bits {x : Int} (h0 : 0 ≤ x ∧ x ≤ 18446744073709551615) : Go.bits BinOp.and IntKind.u64 (x / 4294967296) 4294967295 = gen x := by
  have := and_mask 32 (x / 4294967296) (by omega) (by omega) (by omega)
  simp only [show (2 : Int) ^ 32 = 4294967296 from by decide, show (4294967296 : Int) - 1 = 4294967295 from by decide] at this
  rw [this]; unfold gen; omega
theorem count_bits {x : Int} (h0 : 0 ≤ x ∧ x ≤ 18446744073709551615) : Go.bits BinOp.and IntKind.u64 x 2147483647 = count x := by
  have := and_mask 31 x (by omega) (by omega) (by omega)
  simp only [show (2 : Int) ^ 31 = 2147483648 from by decide, show (2147483648 : Int) - 1 = 2147483647 from by decide] at this
  rw [this]; unfold count; omega
theorem used_bits {x : Int} (h0 : 0 ≤ x ∧ x ≤ 18446744073709551615) : Go.bits BinOp.and IntKind.u64 (x / 2147483648) 1 = usedN x := by
  have := and_mask 1 (x / 2147483648) (by omega) (by omega) (by omega)
  simp only [show (2 : Int) ^ 1 = 2 from by decide, show (2 : Int) - 1 = 1 from by decide] at this
  rw [this]; unfold usedN used; simp only [decide_eq_true_eq]; split <;> omega
theorem gen_bd {x : Int} (h0 : 0 ≤ x ∧ x ≤ 18446744073709551615) : 0 ≤ gen x ∧ gen x ≤ 4294967295 := by unfold gen; omega
theorem count_bd (x : Int) : 0 ≤ count x ∧ count x ≤ 2147483647 := by unfold count; omega

theorem word_bd {g c : Int} {u : Bool} (h : right g c = true) : 0 ≤ word g c u ∧ word g c u < 18446744073709551616 := by
  rw [right_iff] at h; unfold word; split <;> omega

theorem gen_word {g c : Int} {u : Bool} (h : right g c = true) : gen (word g c u) = g := by
  rw [right_iff] at h; unfold gen word; split <;> omega
theorem count_word {g c : Int} {u : Bool} (h : right g c = true) : count (word g c u) = c := by
  rw [right_iff] at h; unfold count word; split <;> omega
theorem used_word {g c : Int} {u : Bool} (h : right g c = true) : used (word g c u) = u := by
  rw [right_iff] at h; unfold used word; cases u <;> simp <;> omega
theorem right_of {w : Int} (h0 : 0 ≤ w) (h1 : w < 18446744073709551616) : right (gen w) (count w) = true := by
  rw [right_iff]; unfold gen count; omega
theorem word_of {w : Int} (h0 : 0 ≤ w) (h1 : w < 18446744073709551616) : word (gen w) (count w) (used w) = w := by
  unfold word gen count used; simp only [decide_eq_true_eq]; split <;> omega

end Go.Proofs.Ytngbhhcicakolaa.Head
