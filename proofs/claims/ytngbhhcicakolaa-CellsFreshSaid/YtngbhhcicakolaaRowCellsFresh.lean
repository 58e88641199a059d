/- The law CellsFresh: for every input it answers true: the row, out of its walk (Cells.fresh_law). -/
import Derived.Test.YtngbhhcicakolaaRows
import Derived.Test.YtngbhhcicakolaaCellsFresh
import Derived.Test.YtngbhhcicakolaaReads
import Derived.WalkKit
import Derived.ProofKit
import Derived.OpenShut
import Derived.ShutString
import Derived.ChangeOld
import Derived.Below
import Derived.SizedLaws
import Derived.Carry
namespace Go.Proofs.Ytngbhhcicakolaa.cellsFresh
open Go.ChangeShapes Go.WideShapes Go.ChangeAt Go.RowKit
open Go.ChangeMaps (open_string shut_string)
set_option linter.unusedVariables false
set_option linter.unusedSimpArgs false
theorem own : ownKnob Try.prog.godebug = none := by kernel_rfl
theorem laidOut : laidOutB Try.prog = true := by kernel_rfl
set_option maxRecDepth 100000 in
theorem lifted (os : Os) (started : os.Started) (H : Type) (enc : TypeId × Value → H) :
    ReturnsInHanded {} Try.checked os 4 .any (Rows.cellsFreshSpec.pre6 enc Try.prog Try.f4 Rows.cellsFreshRow.domain false) (Rows.cellsFreshSpec.post enc Try.prog Try.f4 false true false false) := by
  refine returnsInHanded_of_change_sized (C := Try.checked) own started (by kernel_rfl) Try.func4
    (ChangeSpec.witness6 (enc := enc) (C := Try.checked) false ⟨#[], #[.agg #[.int .i64 0, .int .i64 0, .int .i64 0, .int .i64 0, .int .i64 0], .slice none 0 0, .int .u8 0], []⟩ 8 (by kernel_rfl) (by kernel_rfl) (by kernel_rfl) (by kernel_rfl)) ?_
  intro W base args ds gs before hval0 hW hcnd hsz0 _
  have hsz : (DataW.weightsEach Try.prog (Try.f4.params.toList ++ Rows.cellsFreshSpec.plain.varTypes Try.prog) (ds ++ gs)).all (· ≤ reachBytes) = true := hsz0
  have hval : ∀ (j : Nat) t v, Try.f4.params[j]? = some t → args[j]? = some v → Value.okWide Try.prog W .any base t v := hval0
  have hW' := hW
  obtain ⟨p, q, hA0, hV, rfl, hfz, hnd⟩ := hW
  have hA : DataW.TrodAll enc Try.prog W 0 (fun _ => true) true Try.f4.params.toList args.toList ds p := hA0
  rw [Try.params4] at hA hval hsz
  obtain ⟨v0, vs0, d0, ds0, p0, q0, hargs, rfl, rfl, h0, r0⟩ := trodAll_cons hA
  obtain ⟨v1, vs1, d1, ds1, p1, q1, rfl, rfl, rfl, h1, r1⟩ := trodAll_cons r0
  obtain ⟨v2, vs2, d2, ds2, p2, q2, rfl, rfl, rfl, h2, r2⟩ := trodAll_cons r1
  obtain ⟨rfl, rfl, rfl⟩ := trodAll_nil r2
  obtain rfl : args = #[v0, v1, v2] := by cases args; simp_all
  obtain ⟨rfl, rfl⟩ := trodVars_none hV
  obtain ⟨cs0, rfl⟩ : ∃ cs, v0 = .agg cs := by
    have h := (hval 0 24 v0 rfl rfl)
    unfold Value.okWide at h
    rw [Try.underlying24] at h
    obtain ⟨cs, e, _⟩ := h
    exact ⟨cs, e⟩
  have lt0 := trod_lt h0
  have w0 := open_flat (P := Try.prog) (n := 9) (ks := [.i .i64, .i .i64, .i .i64, .i .i64, .i .i64]) (by kernel_rfl) h0
  have lt1 := trod_lt h1
  obtain ⟨a1, len1, cap1, V1, rfl, m1, e1, f1, y1⟩ := open_rows (P := Try.prog) (n := 9) (size := 5) (ks := [.i .u8, .i .i64, .i .i64, .i .i64, .i .u64]) Try.underlying26 (by kernel_rfl) (by kernel_rfl) (by omega) (hval 1 26 v1 rfl rfl) h1
  have z1 : len1 * 40 ≤ 140737488351232 := by
    rcases y1 with y1 | ⟨el, sp, hd, hle⟩
    · omega
    · have z := sized_slice hsz (j := 1) (t := 26) rfl (by rw [hd]; rfl) Try.underlying26
      have hb : Try.prog.bytesOf 45 = 40 := by kernel_rfl
      rw [hb] at z
      exact Nat.le_trans (Nat.mul_le_mul_right _ (by omega)) z
  obtain ⟨a2, rfl, rfl, rfl, w2⟩ := open_int Try.underlying5 (hval 2 5 v2 rfl rfl) h2
  clear hA0 hval0 hsz0 hsz
  refine (Cells.fresh_law W cs0 w0 a1 len1 cap1 V1 e1 f1 z1 m1 a2 w2).mono fun e W' ⟨he, but⟩ => ?_
  subst he
  have bel := but.below
  exact ⟨_, rfl, _, _, _, [], _, [], hW', trodAll_mk1 (shut_bool Try.underlying4 _), (trodAll_cons_mk (Below.trod laidOut (by kernel_rfl) (of_decide_eq_true (by kernel_rfl)) h0 bel lt0) (trodAll_cons_mk (Below.trod laidOut (by kernel_rfl) (of_decide_eq_true (by kernel_rfl)) h1 bel lt1) (trodAll_cons_mk (shut_int Try.underlying5 w2) trodAll_mk0))), rfl, bel.frame _, fun h => by cases h⟩
theorem over : Rows.cellsFreshRow.holds Try.pinned (OpenSpec.ofChange Rows.cellsFreshSpec) :=
  OpenClaim.holds_of_wide 4 Try.f4 rfl rfl rfl rfl rfl rfl rfl ⟨rfl, rfl, rfl, rfl, rfl⟩ rfl rfl rfl rfl rfl (by kernel_rfl) Try.func4 (by kernel_rfl)
    (of_decide_eq_true (by kernel_rfl)) (by unfold Func.isWrapper; first | (rw [if_pos (by decide +kernel)]; kernel_rfl) | (rw [if_neg (by decide +kernel)]; exact ⟨rfl, rfl⟩))
    (fun os started H enc _ => lifted os started H enc)
theorem proved : Rows.CellsFreshSaid := over
#print axioms proved
end Go.Proofs.Ytngbhhcicakolaa.cellsFresh
namespace Go.Proofs.Ytngbhhcicakolaa
/-- The row, under a short name, for the claim. -/
theorem cellsFresh_holds : Rows.CellsFreshSaid := cellsFresh.proved
end Go.Proofs.Ytngbhhcicakolaa
