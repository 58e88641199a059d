/- The law NamesPlays: for every input it answers true: the row, out of its walk (Names.plays_law). -/
import Derived.Test.YtgbcbadccahfcaaRows
import Derived.Test.YtgbcbadccahfcaaNamesPlays
import Derived.Test.YtgbcbadccahfcaaReads
import Derived.WalkKit
import Derived.ProofKit
import Derived.OpenShut
import Derived.ShutString
import Derived.ChangeOld
import Derived.Below
import Derived.SizedLaws
import Derived.Carry
namespace Go.Proofs.Ytgbcbadccahfcaa.namesPlays
open Go.ChangeShapes Go.WideShapes Go.ChangeAt Go.RowKit
open Go.ChangeMaps (open_string shut_string)
set_option linter.unusedVariables false
set_option linter.unusedSimpArgs false
theorem own : ownKnob Try.prog.godebug = none := by kernel_rfl
theorem laidOut : laidOutB Try.prog = true := by kernel_rfl
set_option maxRecDepth 100000 in
theorem lifted (os : Os) (started : os.Started) (H : Type) (enc : TypeId × Value → H) :
    ReturnsInHanded {} Try.checked os 3 .any (Rows.namesPlaysSpec.pre6 enc Try.prog Try.f3 Rows.namesPlaysRow.domain false) (Rows.namesPlaysSpec.post enc Try.prog Try.f3 false true false false) := by
  refine returnsInHanded_of_change_sized (C := Try.checked) own started (by kernel_rfl) Try.func3
    (ChangeSpec.witness6 (enc := enc) (C := Try.checked) false ⟨#[], #[.slice none 0 0, .string ByteArray.empty, .agg #[.string ByteArray.empty, .int .i64 0, .int .i64 0, .int .u64 0, .int .u64 0, .int .i64 0, .int .i64 0, .string ByteArray.empty, .string ByteArray.empty]], []⟩ 8 (by kernel_rfl) (by kernel_rfl) (by kernel_rfl) (by kernel_rfl)) ?_
  intro W base args ds gs before hval0 hW hcnd hsz0 _
  have hsz : (DataW.weightsEach Try.prog (Try.f3.params.toList ++ Rows.namesPlaysSpec.plain.varTypes Try.prog) (ds ++ gs)).all (· ≤ reachBytes) = true := hsz0
  have hval : ∀ (j : Nat) t v, Try.f3.params[j]? = some t → args[j]? = some v → Value.okWide Try.prog W .any base t v := hval0
  have hW' := hW
  obtain ⟨p, q, hA0, hV, rfl, hfz, hnd⟩ := hW
  have hA : DataW.TrodAll enc Try.prog W 0 (fun _ => true) true Try.f3.params.toList args.toList ds p := hA0
  rw [Try.params3] at hA hval hsz
  obtain ⟨v0, vs0, d0, ds0, p0, q0, hargs, rfl, rfl, h0, r0⟩ := trodAll_cons hA
  obtain ⟨v1, vs1, d1, ds1, p1, q1, rfl, rfl, rfl, h1, r1⟩ := trodAll_cons r0
  obtain ⟨v2, vs2, d2, ds2, p2, q2, rfl, rfl, rfl, h2, r2⟩ := trodAll_cons r1
  obtain ⟨rfl, rfl, rfl⟩ := trodAll_nil r2
  obtain rfl : args = #[v0, v1, v2] := by cases args; simp_all
  obtain ⟨rfl, rfl⟩ := trodVars_none hV
  have lt0 := trod_lt h0
  obtain ⟨a0, len0, cap0, V0, rfl, m0, e0, f0, y0⟩ := open_rows (P := Try.prog) (n := 9) (size := 2) (ks := [.s, .i .u64]) Try.underlying22 (by kernel_rfl) (by kernel_rfl) (by omega) (hval 0 22 v0 rfl rfl) h0
  have z0 : len0 * 24 ≤ 140737488351232 := by
    rcases y0 with y0 | ⟨el, sp, hd, hle⟩
    · omega
    · have z := sized_slice hsz (j := 0) (t := 22) rfl (by rw [hd]; rfl) Try.underlying22
      have hb : Try.prog.bytesOf 34 = 24 := by kernel_rfl
      rw [hb] at z
      exact Nat.le_trans (Nat.mul_le_mul_right _ (by omega)) z
  obtain ⟨a1, rfl, rfl, rfl, y1⟩ := open_string Try.underlying9 (hval 1 9 v1 rfl rfl) h1
  have w1 : a1.size ≤ 140737488351232 := by
    have z := sized_string hsz (j := 1) (t := 9) rfl rfl
    rw [Array.length_toList] at z
    exact z
  obtain ⟨cs2, rfl⟩ : ∃ cs, v2 = .agg cs := by
    have h := (hval 2 28 v2 rfl rfl)
    unfold Value.okWide at h
    rw [Try.underlying28] at h
    obtain ⟨cs, e, _⟩ := h
    exact ⟨cs, e⟩
  have lt2 := trod_lt h2
  have w2 := open_flat (P := Try.prog) (n := 9) (ks := [.s, .i .i64, .i .i64, .i .u64, .i .u64, .i .i64, .i .i64, .s, .s]) (by kernel_rfl) h2
  clear hA0 hval0 hsz0 hsz
  refine (Names.plays_law W a0 len0 cap0 V0 e0 f0 z0 m0 a1 w1 cs2 w2).mono fun e W' ⟨he, but⟩ => ?_
  subst he
  have bel := but.below
  exact ⟨_, rfl, _, _, _, [], _, [], hW', trodAll_mk1 (shut_bool Try.underlying4 _), (trodAll_cons_mk (Below.trod laidOut (by kernel_rfl) (of_decide_eq_true (by kernel_rfl)) h0 bel lt0) (trodAll_cons_mk (shut_string Try.underlying9 y1) (trodAll_cons_mk (Below.trod laidOut (by kernel_rfl) (of_decide_eq_true (by kernel_rfl)) h2 bel lt2) trodAll_mk0))), rfl, bel.frame _, fun h => by cases h⟩
theorem over : Rows.namesPlaysRow.holds Try.pinned (OpenSpec.ofChange Rows.namesPlaysSpec) :=
  OpenClaim.holds_of_wide 3 Try.f3 rfl rfl rfl rfl rfl rfl rfl ⟨rfl, rfl, rfl, rfl, rfl⟩ rfl rfl rfl rfl rfl (by kernel_rfl) Try.func3 (by kernel_rfl)
    (of_decide_eq_true (by kernel_rfl)) (by unfold Func.isWrapper; first | (rw [if_pos (by decide +kernel)]; kernel_rfl) | (rw [if_neg (by decide +kernel)]; exact ⟨rfl, rfl⟩))
    (fun os started H enc _ => lifted os started H enc)
theorem proved : Rows.NamesPlaysSaid := over
#print axioms proved
end Go.Proofs.Ytgbcbadccahfcaa.namesPlays
namespace Go.Proofs.Ytgbcbadccahfcaa
/-- The row, under a short name, for the claim. -/
theorem namesPlays_holds : Rows.NamesPlaysSaid := namesPlays.proved
end Go.Proofs.Ytgbcbadccahfcaa
