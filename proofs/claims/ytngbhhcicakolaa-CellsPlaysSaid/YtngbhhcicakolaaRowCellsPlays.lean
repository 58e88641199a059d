/- The law CellsPlays: for every input it answers true: the row, out of its walk (Cells.plays_law). -/
import Derived.Test.YtngbhhcicakolaaRows
import Derived.Test.YtngbhhcicakolaaCellsPlays
import Derived.Test.YtngbhhcicakolaaReads
import Derived.WalkKit
import Derived.ProofKit
import Derived.OpenShut
import Derived.ShutString
import Derived.ChangeOld
import Derived.Below
import Derived.SizedLaws
import Derived.Carry
namespace Go.Proofs.Ytngbhhcicakolaa.cellsPlays
open Go.ChangeShapes Go.WideShapes Go.ChangeAt Go.RowKit
open Go.ChangeMaps (open_string shut_string)
set_option linter.unusedVariables false
set_option linter.unusedSimpArgs false
theorem own : ownKnob Try.prog.godebug = none := by kernel_rfl
theorem laidOut : laidOutB Try.prog = true := by kernel_rfl
set_option maxRecDepth 100000 in
theorem lifted (os : Os) (started : os.Started) (H : Type) (enc : TypeId × Value → H) :
    ReturnsInHanded {} Try.checked os 3 .any (Rows.cellsPlaysSpec.pre6 enc Try.prog Try.f3 Rows.cellsPlaysRow.domain false) (Rows.cellsPlaysSpec.post enc Try.prog Try.f3 false true false false) := by
  refine returnsInHanded_of_change_sized (C := Try.checked) own started (by kernel_rfl) Try.func3
    (ChangeSpec.witness6 (enc := enc) (C := Try.checked) false ⟨#[], #[.agg #[.int .i64 0, .int .i64 0, .int .i64 0, .int .i64 0, .int .i64 0], .agg #[.int .i64 0, .int .i64 0], .slice none 0 0], []⟩ 8 (by kernel_rfl) (by kernel_rfl) (by kernel_rfl) (by kernel_rfl)) ?_
  intro W base args ds gs before hval0 hW hcnd hsz0 _
  have hsz : (DataW.weightsEach Try.prog (Try.f3.params.toList ++ Rows.cellsPlaysSpec.plain.varTypes Try.prog) (ds ++ gs)).all (· ≤ reachBytes) = true := hsz0
  have hval : ∀ (j : Nat) t v, Try.f3.params[j]? = some t → args[j]? = some v → Value.okWide Try.prog W .any base t v := hval0
  have hW' := hW
  obtain ⟨p, q, hA0, hV, rfl, hfz, hnd⟩ := hW
  have hA : DataW.TrodAll enc Try.prog W 0 (fun _ => true) true Try.f3.params.toList args.toList ds p := hA0
  rw [Try.params3] at hA hval hsz
  obtain ⟨v0, vs0, d0, ds0, p0, q0, hargs, rfl, rfl, h0, r0⟩ := trodAll_cons hA
  obtain ⟨v1, vs1, d1, ds1, p1, q1, rfl, rfl, rfl, h1, r1⟩ := trodAll_cons r0
  obtain ⟨v2, vs2, d2, ds2, p2, q2, rfl, rfl, rfl, h2, r2⟩ := trodAll_cons r1
  obtain ⟨rfl, rfl, rfl⟩ := trodAll_nil r2
  obtain rfl : args = #[v0, v1, v2] := by cases args; simp_all
  obtain ⟨rfl, rfl⟩ := trodVars_none hV
  obtain ⟨cs0, rfl⟩ : ∃ cs, v0 = .agg cs := by
    have h := (hval 0 24 v0 rfl rfl)
    unfold Value.okWide at h
    rw [Try.underlying24] at h
    obtain ⟨cs, e, _⟩ := h
    exact ⟨cs, e⟩
  have lt0 := trod_lt h0
  have w0 := open_flat (P := Try.prog) (n := 9) (ks := [.i .i64, .i .i64, .i .i64, .i .i64, .i .i64]) (by kernel_rfl) h0
  obtain ⟨cs1, rfl⟩ : ∃ cs, v1 = .agg cs := by
    have h := (hval 1 25 v1 rfl rfl)
    unfold Value.okWide at h
    rw [Try.underlying25] at h
    obtain ⟨cs, e, _⟩ := h
    exact ⟨cs, e⟩
  have lt1 := trod_lt h1
  have w1 := open_flat (P := Try.prog) (n := 9) (ks := [.i .i64, .i .i64]) (by kernel_rfl) h1
  have lt2 := trod_lt h2
  obtain ⟨a2, len2, cap2, V2, rfl, m2, e2, f2, y2⟩ := open_rows (P := Try.prog) (n := 9) (size := 5) (ks := [.i .u8, .i .i64, .i .i64, .i .i64, .i .u64]) Try.underlying26 (by kernel_rfl) (by kernel_rfl) (by omega) (hval 2 26 v2 rfl rfl) h2
  have z2 : len2 * 40 ≤ 140737488351232 := by
    rcases y2 with y2 | ⟨el, sp, hd, hle⟩
    · omega
    · have z := sized_slice hsz (j := 2) (t := 26) rfl (by rw [hd]; rfl) Try.underlying26
      have hb : Try.prog.bytesOf 45 = 40 := by kernel_rfl
      rw [hb] at z
      exact Nat.le_trans (Nat.mul_le_mul_right _ (by omega)) z
  clear hA0 hval0 hsz0 hsz
  refine (Cells.plays_law W cs0 w0 cs1 w1 a2 len2 cap2 V2 e2 f2 z2 m2).mono fun e W' ⟨he, but⟩ => ?_
  subst he
  have bel := but.below
  exact ⟨_, rfl, _, _, _, [], _, [], hW', trodAll_mk1 (shut_bool Try.underlying4 _), (trodAll_cons_mk (Below.trod laidOut (by kernel_rfl) (of_decide_eq_true (by kernel_rfl)) h0 bel lt0) (trodAll_cons_mk (Below.trod laidOut (by kernel_rfl) (of_decide_eq_true (by kernel_rfl)) h1 bel lt1) (trodAll_cons_mk (Below.trod laidOut (by kernel_rfl) (of_decide_eq_true (by kernel_rfl)) h2 bel lt2) trodAll_mk0))), rfl, bel.frame _, fun h => by cases h⟩
theorem over : Rows.cellsPlaysRow.holds Try.pinned (OpenSpec.ofChange Rows.cellsPlaysSpec) :=
  OpenClaim.holds_of_wide 3 Try.f3 rfl rfl rfl rfl rfl rfl rfl ⟨rfl, rfl, rfl, rfl, rfl⟩ rfl rfl rfl rfl rfl (by kernel_rfl) Try.func3 (by kernel_rfl)
    (of_decide_eq_true (by kernel_rfl)) (by unfold Func.isWrapper; first | (rw [if_pos (by decide +kernel)]; kernel_rfl) | (rw [if_neg (by decide +kernel)]; exact ⟨rfl, rfl⟩))
    (fun os started H enc _ => lifted os started H enc)
theorem proved : Rows.CellsPlaysSaid := over
#print axioms proved
end Go.Proofs.Ytngbhhcicakolaa.cellsPlays
namespace Go.Proofs.Ytngbhhcicakolaa
/-- The row, under a short name, for the claim. -/
theorem cellsPlays_holds : Rows.CellsPlaysSaid := cellsPlays.proved
end Go.Proofs.Ytngbhhcicakolaa
