/- Layer 4, walked: values and words. -/
import Derived.Test.YtngbhhcicakolaaNumText
import Derived.Test.YtngbhhcicakolaaWords
import Derived.IntWalk
import Derived.Test.YtngbhhcicakolaaBits
set_option linter.unusedVariables false
set_option linter.unusedSimpArgs false
namespace Go.Proofs.Ytngbhhcicakolaa
open Go.RowKit

namespace Word

def vright (k n : Int) : Bool := decide (k = 0 ∧ n = 0 ∨ k = 1 ∧ n ≤ 9223372036854775807 ∨ k = 2 ∧ n ≤ 9223372036854775806)
def vword (k n : Int) : Int := if k = 0 then 0 else 2 * n + k
/-- What typed tells of a value that is nothing, data, or a pointer. -/
def boxOf (k n : Int) : Value := if k = 1 then .iface 116 (.int .u64 n) else if k = 2 then .iface 118 (.int .u64 n) else Value.nilIface

set_option maxHeartbeats 4000000 in
set_option maxRecDepth 100000 in
theorem typed_any (k n : Int) (w : World) (hn : 0 ≤ n ∧ n ≤ 18446744073709551615) :
    Calls Try.prog 83 #[.agg #[.int .i64 k, .int .u64 n]] w fun e w' => e = .returned (.tuple #[boxOf k n, .bool (vright k n)]) ∧ But (fun _ => False) w w' := by
  have G0 := (But.refl (fun _ => False) w).alloc (.cells #[.int .i64 k, .int .u64 n] 43)
  have B0 := Blk.new w #[.int .i64 k, .int .u64 n] 43
  have k0 := B0.cell 0
  have k1 := B0.cell 1
  have hn1 := hn.1
  have hn2 := hn.2
  go_enter Try.func83, Try.ntmps83
  have fin : ∀ (b v : Value) (p : Bool), boxOf k n = b → vright k n = p → v = .bool p → Ending.returned (.tuple #[b, v]) = Ending.returned (.tuple #[boxOf k n, .bool (vright k n)]) := fun b v p h1 h2 h3 => by rw [h1, h2, h3]
  by_cases h0 : k = 0
  · have E1 := Lib.hid (show boxOf k n = Value.nilIface by unfold boxOf; rw [if_neg (by omega), if_neg (by omega)])
    have E2 := Lib.hid (show vright k n = decide (n = 0) by unfold vright; rw [Bool.eq_iff_iff, decide_eq_true_iff, decide_eq_true_iff]; omega)
    have FIN := Lib.hid fin
    clear fin
    have h00 : (k == 0) = true := by simp [h0]
    subst h0
    go_wp2_with fail
    go_quiet (fail)
    go_wp2_with fail
    go_ret2
    exact ⟨FIN.out _ _ _ E1.out E2.out rfl, G0.drewN _⟩
  · have h00 : (k == 0) = false := by simp [h0]
    by_cases h1 : k = 1
    · have E1 := Lib.hid (show boxOf k n = .iface 116 (.int .u64 n) by unfold boxOf; rw [if_pos h1])
      have E2 := Lib.hid (show vright k n = decide (n ≤ 9223372036854775807) by unfold vright; rw [Bool.eq_iff_iff, decide_eq_true_iff, decide_eq_true_iff]; omega)
      have FIN := Lib.hid fin
      clear fin h0 h00
      subst h1
      go_wp2_with fail
      go_quiet (fail)
      go_wp2_with fail
      go_ret2
      exact ⟨FIN.out _ _ _ E1.out E2.out rfl, G0.drewN _⟩
    · have h11 : (k == 1) = false := by simp [h1]
      by_cases h2 : k = 2
      · have E1 := Lib.hid (show boxOf k n = .iface 118 (.int .u64 n) by unfold boxOf; rw [if_neg h1, if_pos h2])
        have E2 := Lib.hid (show vright k n = decide (n < 9223372036854775807) by unfold vright; rw [Bool.eq_iff_iff, decide_eq_true_iff, decide_eq_true_iff]; omega)
        have FIN := Lib.hid fin
        clear fin h0 h00 h1 h11
        subst h2
        go_wp2_with fail
        go_quiet (fail)
        go_wp2_with fail
        go_ret2
        exact ⟨FIN.out _ _ _ E1.out E2.out rfl, G0.drewN _⟩
      · have h22 : (k == 2) = false := by simp [h2]
        have E1 := Lib.hid (show boxOf k n = Value.nilIface by unfold boxOf; rw [if_neg h1, if_neg h2])
        have E2 := Lib.hid (show vright k n = false by unfold vright; rw [decide_eq_false_iff_not]; omega)
        have FIN := Lib.hid fin
        clear fin
        go_wp2_with fail
        go_ret2
        exact ⟨FIN.out _ _ _ E1.out E2.out rfl, G0⟩

theorem box_nil {k n : Int} (h1 : k ≠ 1) (h2 : k ≠ 2) : boxOf k n = Value.nilIface := by unfold boxOf; rw [if_neg h1, if_neg h2]
theorem box_data (n : Int) : boxOf 1 n = .iface 116 (.int .u64 n) := by unfold boxOf; rw [if_pos rfl]
theorem box_ptr (n : Int) : boxOf 2 n = .iface 118 (.int .u64 n) := by unfold boxOf; rw [if_neg (by decide), if_pos rfl]
theorem vright_parts {k n : Int} (h : vright k n = true) : k = 0 ∧ n = 0 ∨ k = 1 ∧ n ≤ 9223372036854775807 ∨ k = 2 ∧ n ≤ 9223372036854775806 := of_decide_eq_true h

theorem as_dn (W : World) : (Instr.typeAssert .nilIface 20 116 true).run Try.prog W = .ok (.tuple #[.int .u64 0, .bool false]) W := by kernel_rfl
theorem as_dd (W : World) (n : Int) : (Instr.typeAssert (.iface 116 (.int .u64 n)) 20 116 true).run Try.prog W = .ok (.tuple #[.int .u64 n, .bool true]) W := by kernel_rfl
theorem as_dp (W : World) (n : Int) : (Instr.typeAssert (.iface 118 (.int .u64 n)) 20 116 true).run Try.prog W = .ok (.tuple #[.int .u64 0, .bool false]) W := by kernel_rfl
theorem as_pn (W : World) : (Instr.typeAssert .nilIface 20 118 true).run Try.prog W = .ok (.tuple #[.int .u64 0, .bool false]) W := by kernel_rfl
theorem as_pp (W : World) (n : Int) : (Instr.typeAssert (.iface 118 (.int .u64 n)) 20 118 true).run Try.prog W = .ok (.tuple #[.int .u64 n, .bool true]) W := by kernel_rfl

def encOf (k n : Int) : Int × Int := if vright k n = true then (vword k n, 0) else (0, 1)

set_option maxHeartbeats 4000000 in
set_option maxRecDepth 100000 in
theorem encode_any (k n : Int) (w : World) (hn : 0 ≤ n ∧ n ≤ 18446744073709551615) :
    Calls Try.prog 66 #[.agg #[.int .i64 k, .int .u64 n]] w fun e w' => e = .returned (.tuple #[.int .u64 (encOf k n).1, .int .i64 (encOf k n).2]) ∧ But (fun _ => False) w w' := by
  have G0 := (But.refl (fun _ => False) w).alloc (.cells #[.int .i64 k, .int .u64 n] 43)
  have B0 := Blk.new w #[.int .i64 k, .int .u64 n] 43
  have k0 := B0.cell 0
  have k1 := B0.cell 1
  go_enter Try.func66, Try.ntmps66
  go_wp2_with fail
  refine (typed_any k n _ hn).mono ?_
  rintro e w2 ⟨rfl, g2⟩
  have G2 := Lib.hid (G0.trans g2)
  clear G0 B0 k0 k1 g2
  cases hr : vright k n with
  | false =>
    have E := Lib.hid (show encOf k n = (0, 1) by unfold encOf; rw [hr]; rfl)
    clear hr
    go_wp2_with fail
    go_ret2
    exact ⟨by rw [E.out]; rfl, G2.out⟩
  | true =>
    have E := Lib.hid (show encOf k n = (vword k n, 0) by unfold encOf; rw [if_pos hr])
    rcases vright_parts hr with ⟨rfl, rfl⟩ | ⟨rfl, h⟩ | ⟨rfl, h⟩
    · clear hr
      rw [box_nil (by decide) (by decide)]
      have a1 := as_dn w2
      have a2 := as_pn w2
      go_wp2_with fail
      go_ret2
      exact ⟨by rw [E.out]; rfl, G2.out⟩
    · clear hr
      rw [box_data]
      have a1 := as_dd w2 n
      have ho := Bits.or1 (a := n) (by omega)
      have EV := Lib.hid (show vword 1 n = n * 2 + 1 by unfold vword; rw [if_neg (by decide)]; omega)
      go_wp2_with fail
      go_ret2
      exact ⟨by rw [E.out, EV.out]; rfl, G2.out⟩
    · clear hr
      rw [box_ptr]
      have a1 := as_dp w2 n
      have a2 := as_pp w2 n
      have EV := Lib.hid (show vword 2 n = (n + 1) * 2 by unfold vword; rw [if_neg (by decide)]; omega)
      go_wp2_with fail
      go_ret2
      exact ⟨by rw [E.out, EV.out]; rfl, G2.out⟩

def decK (x : Int) : Int := if x = 0 then 0 else if x % 2 = 1 then 1 else 2
def decN (x : Int) : Int := if x = 0 then 0 else if x % 2 = 1 then x / 2 else x / 2 - 1

set_option maxHeartbeats 4000000 in
set_option maxRecDepth 100000 in
theorem decode_any (x : Int) (w : World) (hx : 0 ≤ x ∧ x ≤ 18446744073709551615) :
    Calls Try.prog 65 #[.int .u64 x] w fun e w' => e = .returned (.agg #[.int .i64 (decK x), .int .u64 (decN x)]) ∧ But (fun _ => False) w w' := by
  have hx1 := hx.1
  have hx2 := hx.2
  have G0 := Lib.hid ((But.refl (fun _ => False) w).alloc (.cells #[.int .i64 0, .int .u64 0] 43))
  by_cases h0 : x = 0
  · have e1 : decK x = 0 := by unfold decK; rw [if_pos h0]
    have e2 : decN x = 0 := by unfold decN; rw [if_pos h0]
    rw [e1, e2]
    clear e1 e2
    subst h0
    go_enter Try.func65, Try.ntmps65
    go_wp2_with fail
    exact bodyPost_ret (v := .agg #[.int .i64 0, .int .u64 0]) (by simp [results, Try.results65, go_sem]) rfl ⟨rfl, G0.out⟩
  · have h00 : (x == 0) = false := by simp [h0]
    have ha := Bits.and1 hx
    by_cases h1 : x % 2 = 1
    · have e1 : decK x = 1 := by unfold decK; rw [if_neg h0, if_pos h1]
      have e2 : decN x = x / 2 := by unfold decN; rw [if_neg h0, if_pos h1]
      rw [e1, e2]
      have h11 : (x % 2 == 1) = true := by simp [h1]
      clear e1 e2
      go_enter Try.func65, Try.ntmps65
      go_wp2_with fail
      exact bodyPost_ret (v := .agg #[.int .i64 1, .int .u64 (x / 2)]) (by simp [results, Try.results65, go_sem]) rfl ⟨rfl, (But.refl _ _).alloc _⟩
    · have e1 : decK x = 2 := by unfold decK; rw [if_neg h0, if_neg h1]
      have e2 : decN x = x / 2 - 1 := by unfold decN; rw [if_neg h0, if_neg h1]
      rw [e1, e2]
      have h11 : (x % 2 == 1) = false := by simp [h1]
      have h22 : 1 ≤ x / 2 := by omega
      clear e1 e2
      go_enter Try.func65, Try.ntmps65
      go_wp2_with fail
      exact bodyPost_ret (v := .agg #[.int .i64 2, .int .u64 (x / 2 - 1)]) (by simp [results, Try.results65, go_sem]) rfl ⟨rfl, (But.refl _ _).alloc _⟩

theorem decN_bd {x : Int} (hx : 0 ≤ x ∧ x ≤ 18446744073709551615) : 0 ≤ decN x ∧ decN x ≤ 18446744073709551615 := by
  unfold decN; split
  · omega
  · split <;> omega

/-- A number's numeral. -/
def numL (n : Int) : List UInt8 := Lib.decDigits n.toNat
theorem digits_len {m : Nat} (h : m < 18446744073709551616) : (Lib.decDigits m).length ≤ 20 := by
  rw [Lib.decDigits_length]
  by_cases h1 : 1 ≤ m
  · have := Lib.numDigits_eq m h1 h
    split at this <;> omega
  · obtain rfl : m = 0 := by omega
    rw [Lib.nDigits_small (by decide)]; decide
def textL (k n : Int) : List UInt8 := if vright k n = true then (if k = 1 then numL n else if k = 2 then 64 :: numL n else [110, 105, 108]) else []

end Word
end Go.Proofs.Ytngbhhcicakolaa
