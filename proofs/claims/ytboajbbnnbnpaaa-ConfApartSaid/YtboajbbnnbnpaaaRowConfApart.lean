/- The law ConfApart: for every input it answers true: the row, out of its walk (Conf.apart_law). -/
import Derived.Test.YtboajbbnnbnpaaaRows
import Derived.Test.YtboajbbnnbnpaaaConfApart
import Derived.Test.YtboajbbnnbnpaaaReads
import Derived.WalkKit
import Derived.ProofKit
import Derived.OpenShut
import Derived.ShutString
import Derived.ChangeOld
import Derived.Below
import Derived.SizedLaws
import Derived.Carry
namespace Go.Proofs.Ytboajbbnnbnpaaa.confApart
open Go.ChangeShapes Go.WideShapes Go.ChangeAt Go.RowKit
open Go.ChangeMaps (open_string shut_string)
set_option linter.unusedVariables false
set_option linter.unusedSimpArgs false
theorem own : ownKnob Try.prog.godebug = none := by kernel_rfl
theorem laidOut : laidOutB Try.prog = true := by kernel_rfl
set_option maxRecDepth 100000 in
theorem lifted (os : Os) (started : os.Started) (H : Type) (enc : TypeId × Value → H) :
    ReturnsInHanded {} Try.checked os 12 .any (Rows.confApartSpec.pre6 enc Try.prog Try.f12 Rows.confApartRow.domain false) (Rows.confApartSpec.post enc Try.prog Try.f12 false true false false) := by
  refine returnsInHanded_of_change_sized (C := Try.checked) own started (by kernel_rfl) Try.func12
    (ChangeSpec.witness6 (enc := enc) (C := Try.checked) false ⟨#[], #[.slice none 0 0, .agg #[.int .u8 0, .int .u8 0, .int .u8 0]], []⟩ 8 (by kernel_rfl) (by kernel_rfl) (by kernel_rfl) (by kernel_rfl)) ?_
  intro W base args ds gs before hval0 hW hcnd hsz0 _
  have hsz : (DataW.weightsEach Try.prog (Try.f12.params.toList ++ Rows.confApartSpec.plain.varTypes Try.prog) (ds ++ gs)).all (· ≤ reachBytes) = true := hsz0
  have hval : ∀ (j : Nat) t v, Try.f12.params[j]? = some t → args[j]? = some v → Value.okWide Try.prog W .any base t v := hval0
  have hW' := hW
  obtain ⟨p, q, hA0, hV, rfl, hfz, hnd⟩ := hW
  have hA : DataW.TrodAll enc Try.prog W 0 (fun _ => true) true Try.f12.params.toList args.toList ds p := hA0
  rw [Try.params12] at hA hval hsz
  obtain ⟨v0, vs0, d0, ds0, p0, q0, hargs, rfl, rfl, h0, r0⟩ := trodAll_cons hA
  obtain ⟨v1, vs1, d1, ds1, p1, q1, rfl, rfl, rfl, h1, r1⟩ := trodAll_cons r0
  obtain ⟨rfl, rfl, rfl⟩ := trodAll_nil r1
  obtain rfl : args = #[v0, v1] := by cases args; simp_all
  obtain ⟨rfl, rfl⟩ := trodVars_none hV
  have lt0 := trod_lt h0
  obtain ⟨a0, len0, cap0, V0, rfl, m0, e0, f0, y0⟩ := open_rows (P := Try.prog) (n := 9) (size := 5) (ks := [.i .i64, .i .i64, .i .i64, .i .i64, .i .i64]) Try.underlying84 (by kernel_rfl) (by kernel_rfl) (by omega) (hval 0 84 v0 rfl rfl) h0
  have z0 : len0 * 40 ≤ 140737488351232 := by
    rcases y0 with y0 | ⟨el, sp, hd, hle⟩
    · omega
    · have z := sized_slice hsz (j := 0) (t := 84) rfl (by rw [hd]; rfl) Try.underlying84
      have hb : Try.prog.bytesOf 83 = 40 := by kernel_rfl
      rw [hb] at z
      exact Nat.le_trans (Nat.mul_le_mul_right _ (by omega)) z
  obtain ⟨cs1, rfl⟩ : ∃ cs, v1 = .agg cs := by
    have h := (hval 1 91 v1 rfl rfl)
    unfold Value.okWide at h
    rw [Try.underlying91] at h
    obtain ⟨cs, e, _⟩ := h
    exact ⟨cs, e⟩
  have lt1 := trod_lt h1
  have w1 := open_flat (P := Try.prog) (n := 9) (ks := [.i .u8, .i .u8, .i .u8]) (by kernel_rfl) h1
  clear hA0 hval0 hsz0 hsz
  refine (Conf.apart_law W a0 len0 cap0 V0 e0 f0 z0 m0 cs1 w1).mono fun e W' ⟨he, but⟩ => ?_
  subst he
  have bel := but.below
  exact ⟨_, rfl, _, _, _, [], _, [], hW', trodAll_mk1 (shut_bool Try.underlying4 _), (trodAll_cons_mk (Below.trod laidOut (by kernel_rfl) (of_decide_eq_true (by kernel_rfl)) h0 bel lt0) (trodAll_cons_mk (Below.trod laidOut (by kernel_rfl) (of_decide_eq_true (by kernel_rfl)) h1 bel lt1) trodAll_mk0)), rfl, bel.frame _, fun h => by cases h⟩
theorem over : Rows.confApartRow.holds Try.pinned (OpenSpec.ofChange Rows.confApartSpec) :=
  OpenClaim.holds_of_wide 12 Try.f12 rfl rfl rfl rfl rfl rfl rfl ⟨rfl, rfl, rfl, rfl, rfl⟩ rfl rfl rfl rfl rfl (by kernel_rfl) Try.func12 (by kernel_rfl)
    (of_decide_eq_true (by kernel_rfl)) (by unfold Func.isWrapper; first | (rw [if_pos (by decide +kernel)]; kernel_rfl) | (rw [if_neg (by decide +kernel)]; exact ⟨rfl, rfl⟩))
    (fun os started H enc _ => lifted os started H enc)
theorem proved : Rows.ConfApartSaid := over
#print axioms proved
end Go.Proofs.Ytboajbbnnbnpaaa.confApart
namespace Go.Proofs.Ytboajbbnnbnpaaa
/-- The row, under a short name, for the claim. -/
theorem confApart_holds : Rows.ConfApartSaid := confApart.proved
end Go.Proofs.Ytboajbbnnbnpaaa
