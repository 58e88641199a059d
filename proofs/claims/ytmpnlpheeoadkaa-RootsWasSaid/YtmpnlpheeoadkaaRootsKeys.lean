/- A set's map as the kit's library on maps tells it; slices.Sorted(maps.Keys(..)) by the library's shelf. -/
import Derived.Test.YtmpnlpheeoadkaaRootsPlain
import Derived.Maps.OwnSet
set_option linter.unusedVariables false
set_option linter.unusedSimpArgs false
namespace Go.Proofs.Ytmpnlpheeoadkaa
open Go.RowKit Go.WideElems

namespace Roots

def keyNum : Value → Int
  | .int _ a => a
  | _ => 0

abbrev rOf : Value → Option (DataW Unit × List MemPlace) := fun _ => some (.lit (.int .i64 0), [])

/-- The map, as the kit's own library tells it. -/
theorem owns_of {w : World} {mb : Nat} {ks : List Int} (h : Mp w mb kI (pairs ks)) (hc : ∀ c ∈ ks, 0 ≤ c ∧ c ≤ 191) :
    ∃ D : DataW Unit, w.ownsMap Try.prog 3 rOf mb ks.length D ∧ Maps.size D = ks.length ∧ (intKeys D).Perm ks := by
  have hsm := h.small
  rw [pairs_len] at hsm
  obtain ⟨es, clock, hb, hst, hes⟩ := h.out
  have hlen : es.size = ks.length := by
    have := congrArg List.length hes
    simpa [pairs] using this
  have hkey : ∀ x ∈ es.toList, ∃ c ∈ ks, x.key = .int .i64 c := fun x hx => by
    have : (x.key, x.val) ∈ es.toList.map (fun e => (e.key, e.val)) := List.mem_map.2 ⟨x, hx, rfl⟩
    rw [hes] at this
    obtain ⟨p, hp, e⟩ := List.mem_map.1 this
    obtain ⟨c, hc', rfl⟩ := List.mem_map.1 hp
    simp at e
    exact ⟨c, hc', e.1.symm⟩
  have hkO : ∀ c, 0 ≤ c ∧ c ≤ 191 → keyOf Try.prog 3 (.int .i64 c) = some (.int .i64 c) := fun c hc =>
    Maps.keyOf_int_mk (P := Try.prog) (k := 3) (q := .i64) Try.underlying3 (by
      have e1 : IntKind.i64.min = -9223372036854775808 := by rfl
      have e2 : IntKind.i64.max = 9223372036854775807 := by rfl
      simp only [Lit.wf, e1, e2, decide_eq_true_eq, Bool.and_eq_true]
      omega)
  have hrd : ∀ x ∈ es.toList, rd Try.prog 3 rOf x = some (.int .i64 (keyNum x.key), .lit (.int .i64 0)) := fun x hx => by
    obtain ⟨c, hcm, e⟩ := hkey x hx
    unfold rd
    rw [e, hkO c (hc c hcm)]
    rfl
  refine ⟨_, ⟨es, clock, hb, ⟨by omega, hst, fun x hx => ⟨_, hrd x hx⟩⟩, by omega, rfl⟩, ?_, ?_⟩
  · rw [Maps.size_eq, DataW.length_sorted]
    simp [hlen]
  · have e1 : (es.toList.map (rg Try.prog 3 rOf)).map (fun p => intOf p.1) = ks := by
      rw [List.map_map]
      have : es.toList.map ((fun p : Lit × DataW Unit => intOf p.1) ∘ rg Try.prog 3 rOf) = es.toList.map ((fun p : Value × Value => keyNum p.1) ∘ (fun e => (e.key, e.val))) :=
        List.map_congr_left fun x hx => by
          simp only [Function.comp_def, rg_of (hrd x hx)]
          rfl
      rw [this, ← List.map_map, hes]
      unfold pairs
      rw [List.map_map, List.map_map]
      simp [Function.comp_def, keyNum]
    have e2 := (WideShapes.sorted_perm (es.toList.map (rg Try.prog 3 rOf))).map (fun p => intOf p.1)
    rw [e1] at e2
    exact e2

end Roots
end Go.Proofs.Ytmpnlpheeoadkaa
