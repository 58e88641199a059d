/- The document's known, right, Gray of layer 11, walked. -/
import Derived.Test.YtldgjmgdbaeglaaTrialPlain
set_option linter.unusedVariables false
set_option linter.unusedSimpArgs false
namespace Go.Proofs.Ytldgjmgdbaeglaa
open Go.RowKit

namespace Graph

/-- Is it one of the first j nodes'? -/
def isTo (l : List Nd) (x : Int) (j : Nat) : Bool := (List.range j).any (fun i => decide ((nd l i).id = x))
theorem isTo_succ (l : List Nd) (x : Int) (j : Nat) : isTo l x (j + 1) = (isTo l x j || decide ((nd l j).id = x)) := by
  unfold isTo; rw [List.range_succ, List.any_append]; simp
theorem isTo_all (l : List Nd) (x : Int) : isTo l x l.length = decide (x ∈ idsOf l) := by
  rw [Bool.eq_iff_iff, decide_eq_true_iff]
  unfold isTo
  rw [List.any_eq_true]
  constructor
  · rintro ⟨i, hi, e⟩
    have hil : i < l.length := by simpa using hi
    have e2 : (nd l i).id = x := of_decide_eq_true e
    rw [← e2, ← idsOf_nth hil]
    exact nthI_mem (by rw [idsOf_length]; exact hil)
  · intro h
    obtain ⟨i, hi, e⟩ := mem_nthI h
    rw [idsOf_length] at hi
    rw [idsOf_nth hi] at e
    exact ⟨i, by simpa using hi, decide_eq_true e⟩

set_option maxHeartbeats 4000000 in
set_option maxRecDepth 100000 in
theorem ref_known (a : Option Addr) (n cap : Nat) (l : List Nd) (ra : Option Addr) (rn rc : Nat) (ca : Option Addr) (cn cc : Nat) (C : List Int) (w : World) (h : Nodes w a n l) (hc : Nums w ca cn C) (hn : n ≤ 1000000) (hcn : cn ≤ 1000000) :
    Calls Try.prog 81 #[.agg #[.slice a n cap, .slice ra rn rc], .slice ca cn cc] w fun e w' => e = .returned (.bool (knownB l C)) ∧ But (fun _ => False) w w' := by
  have H := Lib.hid h
  have HC := Lib.hid hc
  have HL := Lib.hid h.len
  have HCL := Lib.hid hc.len
  clear h hc
  have G0 := Lib.hid ((But.refl (fun _ => False) w).alloc (.cells #[.slice a n cap, .slice ra rn rc] 47))
  have B0 := Lib.hid (Blk.new w #[.slice a n cap, .slice ra rn rc] 47)
  obtain ⟨b, hb⟩ : ∃ b, b = w.heap.size := ⟨_, rfl⟩
  rw [← hb] at B0
  go_enter Try.func81, Try.ntmps81
  go_wp2_with fail
  rw [← hb]
  obtain ⟨w2, hw2⟩ : ∃ w2, w2 = w.alloc (.cells #[.slice a n cap, .slice ra rn rc] 47) := ⟨_, rfl⟩
  rw [← hw2] at B0 G0 ⊢
  clear hw2 hb
  go_loopg [5] cn (fun k iv wr => ∃ j : Nat, j + k = cn ∧ iv = .int .i64 j ∧ (∀ t, t < j → nthI C t ∈ idsOf l) ∧ But (fun _ => False) w2 wr)
  case atStart => exact ⟨0, by omega, rfl, fun t ht => absurd ht (Nat.not_lt_zero t), But.refl _ _⟩
  case round =>
    obtain ⟨j, hj, rfl, hall, hbut⟩ := hrel
    have HA := Lib.hid hall
    have G1 := Lib.hid hbut
    clear hall hbut
    by_cases hlt : j < cn
    · go_wp2_with fail
      go_loopg [6, 7] n (fun k pv iv wz => ∃ m : Nat, m + k = n ∧ iv = .int .i64 m ∧ pv = .bool (isTo l (nthI C j) m) ∧ But (fun _ => False) w2 wz)
      case atStart => exact ⟨0, by omega, rfl, rfl, G1.out⟩
      case round =>
        clear G1
        obtain ⟨m, hm, rfl, rfl, hbut⟩ := hrel
        have G1 := Lib.hid hbut
        clear hbut
        have B1 := B0.out.but G1.out (fun q => q)
        have k0 : wr.cell? ⟨b, 0, none⟩ = some (.slice a n cap) := B1.cell 0
        have hbl := B1.lt
        clear B1
        obtain ⟨t, ht⟩ : ∃ t, isTo l (nthI C j) m = t := ⟨_, rfl⟩
        rw [ht]
        have HT := Lib.hid ht
        clear ht
        by_cases hmn : m < n
        · have HS := Lib.hid (isTo_succ l (nthI C j) m)
          cases t with
          | true =>
            have E := Lib.hid (show isTo l (nthI C j) (m + 1) = true by rw [HS.out, HT.out]; rfl)
            go_wp2_with fail
            go_quiet (fail)
            obtain ⟨w3, hw3⟩ : ∃ w3, w3 = wr.drewN nq := ⟨_, rfl⟩
            have G3 := Lib.hid (show But (fun _ => False) w2 w3 by rw [hw3]; exact G1.out.drewN nq)
            rw [← hw3]
            clear hw3 k0 hbl
            go_wp2_with fail
            go_roundg (n - (m + 1))
            case measure => omega
            case rel => exact ⟨m + 1, by omega, by go_num, by rw [E.out], G3.out⟩
          | false =>
            obtain ⟨nb, off, oa, on, oc, rfl, hnb, c0, -, -, -, -⟩ := (H.out.keep (G0.out.trans G1.out)).at_ m hmn
            obtain ⟨cb, coff, rfl, hcb, cc0⟩ := (HC.out.keep (G0.out.trans G1.out)).at_ j hlt
            obtain ⟨x, hx⟩ : ∃ x, (nd l m).id = x := ⟨_, rfl⟩
            obtain ⟨y, hy⟩ : ∃ y, nthI C j = y := ⟨_, rfl⟩
            rw [hx] at c0 HS
            rw [hy] at cc0 HS HT
            have HY := Lib.hid hy
            clear hx hy
            have E := Lib.hid (show isTo l y (m + 1) = decide (x = y) by rw [HS.out, HT.out]; rfl)
            clear HS
            go_wp2_with fail
            go_quiet (fail)
            obtain ⟨w3, hw3⟩ : ∃ w3, w3 = wr.drewN nq := ⟨_, rfl⟩
            have G3 := Lib.hid (show But (fun _ => False) w2 w3 by rw [hw3]; exact G1.out.drewN nq)
            rw [← hw3]
            clear hw3 k0 hbl c0 cc0 hnb hcb
            go_wp2_with fail
            go_roundg (n - (m + 1))
            case measure => omega
            case rel => exact ⟨m + 1, by omega, by go_num, by rw [HY.out, E.out]; rfl, G3.out⟩
        · obtain rfl : m = n := by omega
          rw [← HL.out, isTo_all] at HT
          cases t with
          | true =>
            go_wp2_with fail
            go_roundg (cn - (j + 1))
            case measure => omega
            case rel => exact ⟨j + 1, by omega, by go_num, fun t ht => by
              by_cases e : t = j
              · subst e; exact of_decide_eq_true HT.out
              · exact HA.out t (by omega), G1.out⟩
          | false =>
            have E := Lib.hid (show knownB l C = false by
              rw [← Bool.not_eq_true]
              intro q
              unfold knownB at q
              have := (withinB_iff _ _).1 q j (by rw [HCL.out]; exact hlt)
              exact absurd this (of_decide_eq_false HT.out))
            go_wp2_with fail
            go_ret
            exact ⟨by rw [E.out]; rfl, G0.out.trans G1.out⟩
    · have E := Lib.hid (show knownB l C = true by unfold knownB; exact (withinB_iff _ _).2 (fun t ht => HA.out t (by rw [HCL.out] at ht; omega)))
      go_wp2_with fail
      go_ret
      exact ⟨by rw [E.out]; rfl, G0.out.trans G1.out⟩

end Graph
end Go.Proofs.Ytldgjmgdbaeglaa
