/- The law TrialNever: for every input it answers true: the row, out of its walk (Graph.trial_never). -/
import Derived.Test.YtldgjmgdbaeglaaRows
import Derived.Test.YtldgjmgdbaeglaaTrialNever
import Derived.Test.YtldgjmgdbaeglaaReads
import Derived.WalkKit
import Derived.ProofKit
import Derived.OpenShut
import Derived.ShutString
import Derived.ChangeOld
import Derived.Below
import Derived.SizedLaws
import Derived.Carry
namespace Go.Proofs.Ytldgjmgdbaeglaa.trialNever
open Go.ChangeShapes Go.WideShapes Go.ChangeAt Go.RowKit
open Go.ChangeMaps (open_string shut_string)
set_option linter.unusedVariables false
set_option linter.unusedSimpArgs false
theorem own : ownKnob Try.prog.godebug = none := by kernel_rfl
theorem laidOut : laidOutB Try.prog = true := by kernel_rfl
set_option maxRecDepth 100000 in
theorem lifted (os : Os) (started : os.Started) (H : Type) (enc : TypeId × Value → H) :
    ReturnsInHanded {} Try.checked os 10 .any (Rows.trialNeverSpec.pre6 enc Try.prog Try.f10 Rows.trialNeverRow.domain false) (Rows.trialNeverSpec.post enc Try.prog Try.f10 false true false false) := by
  refine returnsInHanded_of_change_sized (C := Try.checked) own started (by kernel_rfl) Try.func10
    (ChangeSpec.witness6 (enc := enc) (C := Try.checked) false ⟨#[], #[.agg #[.slice none 0 0, .slice none 0 0], .slice none 0 0, .slice none 0 0], []⟩ 8 (by kernel_rfl) (by kernel_rfl) (by kernel_rfl) (by kernel_rfl)) ?_
  intro W base args ds gs before hval0 hW hcnd hsz0 _
  have hsz : (DataW.weightsEach Try.prog (Try.f10.params.toList ++ Rows.trialNeverSpec.plain.varTypes Try.prog) (ds ++ gs)).all (· ≤ reachBytes) = true := hsz0
  have hval : ∀ (j : Nat) t v, Try.f10.params[j]? = some t → args[j]? = some v → Value.okWide Try.prog W .any base t v := hval0
  have hW' := hW
  obtain ⟨p, q, hA0, hV, rfl, hfz, hnd⟩ := hW
  have hA : DataW.TrodAll enc Try.prog W 0 (fun _ => true) true Try.f10.params.toList args.toList ds p := hA0
  rw [Try.params10] at hA hval hsz
  obtain ⟨v0, vs0, d0, ds0, p0, q0, hargs, rfl, rfl, h0, r0⟩ := trodAll_cons hA
  obtain ⟨v1, vs1, d1, ds1, p1, q1, rfl, rfl, rfl, h1, r1⟩ := trodAll_cons r0
  obtain ⟨v2, vs2, d2, ds2, p2, q2, rfl, rfl, rfl, h2, r2⟩ := trodAll_cons r1
  obtain ⟨rfl, rfl, rfl⟩ := trodAll_nil r2
  obtain rfl : args = #[v0, v1, v2] := by cases args; simp_all
  obtain ⟨rfl, rfl⟩ := trodVars_none hV
  obtain ⟨cs0, rfl⟩ : ∃ cs, v0 = .agg cs := by
    have h := (hval 0 47 v0 rfl rfl)
    unfold Value.okWide at h
    rw [Try.underlying47] at h
    obtain ⟨cs, e, _⟩ := h
    exact ⟨cs, e⟩
  have lt0 := trod_lt h0
  obtain ⟨a0, n0, c0, l0, ra0, rn0, rc0, R0, rfl, hN0, hR0, zz0⟩ := open_graph h0
  have zz0 := zz0 (fun m hm => by have := List.all_eq_true.1 hsz _ (DataW.weights_mem_each (j := 0) (t := 47) rfl rfl m hm); have re : reachBytes = 140737488351232 := rfl; have h2 := of_decide_eq_true this; rw [re] at h2; exact h2)
  have lt1 := trod_lt h1
  obtain ⟨a1, len1, cap1, V1, rfl, m1, e1, f1, y1⟩ := open_rows (P := Try.prog) (n := 9) (size := 1) (ks := [.i .u8]) Try.underlying72 (by kernel_rfl) (by kernel_rfl) (by omega) (hval 1 72 v1 rfl rfl) h1
  have z1 : len1 * 1 ≤ 140737488351232 := by
    rcases y1 with y1 | ⟨el, sp, hd, hle⟩
    · omega
    · have z := sized_slice hsz (j := 1) (t := 72) rfl (by rw [hd]; rfl) Try.underlying72
      have hb : Try.prog.bytesOf 5 = 1 := by kernel_rfl
      rw [hb] at z
      exact Nat.le_trans (Nat.mul_le_mul_right _ (by omega)) z
  have lt2 := trod_lt h2
  obtain ⟨a2, len2, cap2, V2, rfl, m2, e2, f2, y2⟩ := open_rows (P := Try.prog) (n := 9) (size := 1) (ks := [.i .i64]) Try.underlying43 (by kernel_rfl) (by kernel_rfl) (by omega) (hval 2 43 v2 rfl rfl) h2
  have z2 : len2 * 8 ≤ 140737488351232 := by
    rcases y2 with y2 | ⟨el, sp, hd, hle⟩
    · omega
    · have z := sized_slice hsz (j := 2) (t := 43) rfl (by rw [hd]; rfl) Try.underlying43
      have hb : Try.prog.bytesOf 3 = 8 := by kernel_rfl
      rw [hb] at z
      exact Nat.le_trans (Nat.mul_le_mul_right _ (by omega)) z
  clear hA0 hval0 hsz0 hsz
  refine (Graph.trial_never W a0 n0 c0 l0 hN0 ra0 rn0 rc0 R0 hR0 zz0 a1 len1 cap1 V1 e1 f1 z1 m1 a2 len2 cap2 V2 e2 f2 z2 m2).mono fun e W' ⟨he, but⟩ => ?_
  subst he
  have bel := but.below
  exact ⟨_, rfl, _, _, _, [], _, [], hW', trodAll_mk1 (shut_bool Try.underlying4 _), (trodAll_cons_mk (Below.trod laidOut (by kernel_rfl) (of_decide_eq_true (by kernel_rfl)) h0 bel lt0) (trodAll_cons_mk (Below.trod laidOut (by kernel_rfl) (of_decide_eq_true (by kernel_rfl)) h1 bel lt1) (trodAll_cons_mk (Below.trod laidOut (by kernel_rfl) (of_decide_eq_true (by kernel_rfl)) h2 bel lt2) trodAll_mk0))), rfl, bel.frame _, fun h => by cases h⟩
theorem over : Rows.trialNeverRow.holds Try.pinned (OpenSpec.ofChange Rows.trialNeverSpec) :=
  OpenClaim.holds_of_wide 10 Try.f10 rfl rfl rfl rfl rfl rfl rfl ⟨rfl, rfl, rfl, rfl, rfl⟩ rfl rfl rfl rfl rfl (by kernel_rfl) Try.func10 (by kernel_rfl)
    (of_decide_eq_true (by kernel_rfl)) (by unfold Func.isWrapper; first | (rw [if_pos (by decide +kernel)]; kernel_rfl) | (rw [if_neg (by decide +kernel)]; exact ⟨rfl, rfl⟩))
    (fun os started H enc _ => lifted os started H enc)
theorem proved : Rows.TrialNeverSaid := over
#print axioms proved
end Go.Proofs.Ytldgjmgdbaeglaa.trialNever
namespace Go.Proofs.Ytldgjmgdbaeglaa
/-- The row, under a short name, for the claim. -/
theorem trialNever_holds : Rows.TrialNeverSaid := trialNever.proved
end Go.Proofs.Ytldgjmgdbaeglaa
