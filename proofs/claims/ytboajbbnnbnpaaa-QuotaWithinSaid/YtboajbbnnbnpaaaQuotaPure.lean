/- What an account tells (package quota), as plain functions. -/
namespace Go.Proofs.Ytboajbbnnbnpaaa.Quota

/-- Charge: the error, and what is used then. -/
def charge (n limit k : Int) : Int × Int := if k < 0 then (1, n) else if k ≤ limit - n then (0, n + k) else (7, n)
/-- Refund: the error, and what is used then. -/
def refund (n k : Int) : Int × Int := if k < 0 then (1, n) else if k ≤ n then (0, n - k) else (1, n)

theorem charge_bd {n limit k : Int} (h : 0 ≤ n ∧ n ≤ limit) : 0 ≤ (charge n limit k).2 ∧ (charge n limit k).2 ≤ limit := by
  unfold charge; split <;> (try split) <;> simp <;> omega
theorem refund_bd {n limit k : Int} (h : 0 ≤ n ∧ n ≤ limit) : 0 ≤ (refund n k).2 ∧ (refund n k).2 ≤ limit := by
  unfold refund; split <;> (try split) <;> simp <;> omega

end Go.Proofs.Ytboajbbnnbnpaaa.Quota
