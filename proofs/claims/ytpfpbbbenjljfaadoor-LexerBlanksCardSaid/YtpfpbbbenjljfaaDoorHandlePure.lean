/- What package handle tells, as plain functions: a handle as a word. -/
import Derived.Laws.BitsAllLaws
set_option linter.unusedVariables false
namespace Go.Proofs.YtpfpbbbenjljfaaDoor.Handle

/-- A handle: kind, tenant, index, generation. -/
structure Hd where
  k : Int
  t : Int
  i : Int
  g : Int
  deriving DecidableEq

def right (h : Hd) : Bool := (decide (h.k = 1) || decide (h.k = 2)) && decide (1 ≤ h.t) && decide (h.t ≤ 16) && decide (0 ≤ h.i) && decide (h.i ≤ 67108863) && decide (0 ≤ h.g) && decide (h.g ≤ 4294967295)
theorem right_iff (h : Hd) : right h = true ↔ (h.k = 1 ∨ h.k = 2) ∧ (1 ≤ h.t ∧ h.t ≤ 16) ∧ (0 ≤ h.i ∧ h.i ≤ 67108863) ∧ 0 ≤ h.g ∧ h.g ≤ 4294967295 := by
  unfold right; simp [and_assoc]
def word (h : Hd) : Int := 1152921504606846976 * (h.t - 1) + 288230376151711744 * h.k + 4294967296 * h.i + h.g
def raw (w : Int) : Hd := ⟨w / 288230376151711744 % 4, w / 1152921504606846976 + 1, w / 4294967296 % 67108864, w % 4294967296⟩
/-- The word, and its error. -/
def enc (h : Hd) : Int × Int := if right h = true then (word h, 0) else (0, 1)
/-- The handle, and its error. -/
def dec (w : Int) : Hd × Int := if right (raw w) = true then (raw w, 0) else (⟨0, 0, 0, 0⟩, 4)

theorem word_bd {h : Hd} (hr : right h = true) : 0 ≤ word h ∧ word h ≤ 18446744073709551615 := by
  rw [right_iff] at hr; unfold word; omega
theorem raw_bd {w : Int} (h : 0 ≤ w ∧ w ≤ 18446744073709551615) : (0 ≤ (raw w).k ∧ (raw w).k ≤ 3) ∧ (1 ≤ (raw w).t ∧ (raw w).t ≤ 16) ∧ (0 ≤ (raw w).i ∧ (raw w).i ≤ 67108863) ∧ 0 ≤ (raw w).g ∧ (raw w).g ≤ 4294967295 := by
  unfold raw; simp only; omega
theorem raw_word {h : Hd} (hr : right h = true) : raw (word h) = h := by
  rw [right_iff] at hr
  obtain ⟨k, t, i, g⟩ := h
  unfold raw word
  simp only at hr ⊢
  congr 1 <;> omega
theorem word_raw {w : Int} (h : 0 ≤ w ∧ w ≤ 18446744073709551615) : word (raw w) = w := by
  unfold raw word; simp only; omega

/-- Bits that do not meet add up: the higher ones first. -/
theorem or_up (k : Nat) (n x : Int) (h0 : 0 ≤ x) (h1 : x < 2 ^ k) (h2 : 0 ≤ n) (h3 : n * 2 ^ k < 18446744073709551616) (h4 : x < 18446744073709551616) :
    Go.bits .or .u64 (n * 2 ^ k) x = n * 2 ^ k + x := by
  obtain ⟨x, rfl⟩ := Int.eq_ofNat_of_zero_le h0
  obtain ⟨n, rfl⟩ := Int.eq_ofNat_of_zero_le h2
  have e : ((n : Int) * 2 ^ k) = ((n * 2 ^ k : Nat) : Int) := by simp
  rw [e] at h3 ⊢
  rw [u64_or_nat _ _ (by omega) (by omega)]
  have hx : x < 2 ^ k := by
    have : ((x : Nat) : Int) < ((2 ^ k : Nat) : Int) := by simpa using h1
    omega
  have := Nat.two_pow_add_eq_or_of_lt hx n
  rw [Nat.mul_comm, ← this]
  simp
theorem and_mask (k : Nat) (x : Int) (h0 : 0 ≤ x) (h1 : x < 18446744073709551616) (hk : k ≤ 63) : Go.bits .and .u64 x (2 ^ k - 1) = x % 2 ^ k := by
  obtain ⟨x, rfl⟩ := Int.eq_ofNat_of_zero_le h0
  have hp : 1 ≤ 2 ^ k := Nat.one_le_two_pow
  have hq : 2 ^ k ≤ 2 ^ 63 := Nat.pow_le_pow_right (by omega) hk
  have e : ((2 : Int) ^ k - 1) = ((2 ^ k - 1 : Nat) : Int) := by
    rw [Int.natCast_sub hp]; simp
  rw [e, u64_and_nat _ _ (by omega) (by omega), Nat.and_two_pow_sub_one_eq_mod]
  simp
theorem or60 {a b : Int} (ha : 0 ≤ a ∧ a ≤ 15) (hb : 0 ≤ b ∧ b < 1152921504606846976) : Go.bits BinOp.or IntKind.u64 (a * 1152921504606846976) b = a * 1152921504606846976 + b :=
  or_up 60 a b (by omega) (by omega) (by omega) (by omega) (by omega)
theorem or58 {a b : Int} (ha : 0 ≤ a ∧ a ≤ 63) (hb : 0 ≤ b ∧ b < 288230376151711744) : Go.bits BinOp.or IntKind.u64 (a * 288230376151711744) b = a * 288230376151711744 + b :=
  or_up 58 a b (by omega) (by omega) (by omega) (by omega) (by omega)
theorem or32 {a b : Int} (ha : 0 ≤ a ∧ a ≤ 4294967295) (hb : 0 ≤ b ∧ b < 4294967296) : Go.bits BinOp.or IntKind.u64 (a * 4294967296) b = a * 4294967296 + b :=
  or_up 32 a b (by omega) (by omega) (by omega) (by omega) (by omega)
theorem word_bits {h : Hd} (hr : right h = true) :
    Go.bits BinOp.or IntKind.u64 (Go.bits BinOp.or IntKind.u64 (Go.bits BinOp.or IntKind.u64 ((h.t - 1) * 1152921504606846976) (h.k * 288230376151711744)) (h.i * 4294967296)) h.g = word h := by
  rw [right_iff] at hr
  rw [or60 (by omega) (by omega), show (h.t - 1) * 1152921504606846976 + h.k * 288230376151711744 = ((h.t - 1) * 4 + h.k) * 288230376151711744 by omega,
    or58 (by omega) (by omega), show ((h.t - 1) * 4 + h.k) * 288230376151711744 + h.i * 4294967296 = (((h.t - 1) * 4 + h.k) * 67108864 + h.i) * 4294967296 by omega,
    or32 (by omega) (by omega)]
  unfold word; omega
theorem and2 {x : Int} (h : 0 ≤ x ∧ x ≤ 18446744073709551615) : Go.bits BinOp.and IntKind.u64 x 3 = x % 4 := and_mask 2 x (by omega) (by omega) (by omega)
theorem and26 {x : Int} (h : 0 ≤ x ∧ x ≤ 18446744073709551615) : Go.bits BinOp.and IntKind.u64 x 67108863 = x % 67108864 := and_mask 26 x (by omega) (by omega) (by omega)
theorem and32 {x : Int} (h : 0 ≤ x ∧ x ≤ 18446744073709551615) : Go.bits BinOp.and IntKind.u64 x 4294967295 = x % 4294967296 := and_mask 32 x (by omega) (by omega) (by omega)
theorem and4 {x : Int} (h : 0 ≤ x ∧ x ≤ 18446744073709551615) : Go.bits BinOp.and IntKind.u64 x 15 = x % 16 := and_mask 4 x (by omega) (by omega) (by omega)

end Go.Proofs.YtpfpbbbenjljfaaDoor.Handle
