/- The document's answer for layer 10, walked: its nodes' numbers, and whether a graph may be. -/
import Derived.Test.YtldgjmgdbaeglaaGraphLists
import Derived.Test.YtldgjmgdbaeglaaAppend
set_option linter.unusedVariables false
set_option linter.unusedSimpArgs false
namespace Go.Proofs.Ytldgjmgdbaeglaa
open Go.RowKit

namespace Graph

def idsOf (l : List Nd) : List Int := l.map Nd.id
theorem idsOf_length (l : List Nd) : (idsOf l).length = l.length := by unfold idsOf; simp
theorem idsOf_nth {l : List Nd} {i : Nat} (h : i < l.length) : nthI (idsOf l) i = (nd l i).id := by
  unfold nthI idsOf nd
  rw [List.getD_eq_getElem?_getD, List.getElem?_map, List.getD_eq_getElem?_getD, List.getElem?_eq_getElem h]; rfl
theorem idsOf_take {l : List Nd} {j : Nat} (h : j < l.length) : (idsOf l).take (j + 1) = (idsOf l).take j ++ [(nd l j).id] := by
  rw [take_succ_getD (by rw [idsOf_length]; exact h)]
  have := idsOf_nth h
  unfold nthI at this
  rw [this]
def rightB (l : List Nd) (R : List Int) : Bool := l.all (fun n => withinB n.out (idsOf l)) && riseB (idsOf l) && riseB R && withinB R (idsOf l)
theorem nd_mem {l : List Nd} {i : Nat} (h : i < l.length) : nd l i ∈ l := by
  unfold nd; rw [List.getD_eq_getElem?_getD, List.getElem?_eq_getElem h]; exact List.getElem_mem h
theorem mem_nd {l : List Nd} {x : Nd} (h : x ∈ l) : ∃ j, j < l.length ∧ nd l j = x := by
  obtain ⟨j, hj, rfl⟩ := List.getElem_of_mem h
  exact ⟨j, hj, by unfold nd; rw [List.getD_eq_getElem?_getD, List.getElem?_eq_getElem hj]; rfl⟩
theorem all_nd (l : List Nd) (p : Nd → Bool) : l.all p = true ↔ ∀ i, i < l.length → p (nd l i) = true := by
  simp only [List.all_eq_true]
  constructor
  · intro h i hi; exact h _ (nd_mem hi)
  · intro h x hx
    obtain ⟨j, hj, rfl⟩ := mem_nd hx
    exact h j hj

/-- A graph that came in, as a value's cells. -/
def gr (a : Option Addr) (n cap : Nat) (ra : Option Addr) (rn rc : Nat) : Array Value := #[.slice a n cap, .slice ra rn rc]

set_option maxHeartbeats 4000000 in
set_option maxRecDepth 100000 in
theorem ref_ids (a : Option Addr) (n cap : Nat) (l : List Nd) (ra : Option Addr) (rn rc : Nat) (w : World) (h : Nodes w a n l) (hn : n ≤ 17592186044416) :
    Calls Try.prog 73 #[.agg #[.slice a n cap, .slice ra rn rc]] w (Copied (ints (idsOf l)) n w) := by
  obtain ⟨i0, hi, hz0, hz1, hz2⟩ := info_parts infoInt
  have H := Lib.hid h
  have HL := Lib.hid h.len
  clear h
  have hO : Own w (w.alloc (.cells #[.slice a n cap, .slice ra rn rc] 47)) [Pc.row 3 1 (.slice none 0 0) none 0 (ints []), Pc.blk w.heap.size #[.slice a n cap, .slice ra rn rc] 47] := by
    have e0 : Own w w [] := Own.nil (But.refl _ _)
    have e1 := e0.add (q := Pc.blk w.heap.size #[.slice a n cap, .slice ra rn rc] 47) (Blk.new w _ _) ((But.refl _ w).alloc _) (fun k q => by have : k = w.heap.size := q; omega)
    exact e1.add (q := Pc.row 3 1 (.slice none 0 0) none 0 (ints [])) (Row.nil _ _ _) (But.refl _ _) (fun k q => by cases q)
  have k0 : (w.alloc (.cells #[.slice a n cap, .slice ra rn rc] 47)).cell? ⟨w.heap.size, 0, none⟩ = some (.slice a n cap) := (Blk.new w #[.slice a n cap, .slice ra rn rc] 47).cell 0
  go_enter Try.func73, Try.ntmps73
  go_wp2_with fail
  have HO := Lib.hid hO
  clear hO k0
  go_loopg [3, 4] n (fun k v iv wr => ∃ (j : Nat) (o : Option Nat), j + k = n ∧ iv = .int .i64 j ∧ Own w wr [Pc.row 3 1 v o j (ints ((idsOf l).take j)), Pc.blk w.heap.size #[.slice a n cap, .slice ra rn rc] 47])
  case atStart => exact ⟨0, none, by omega, rfl, by simpa using HO.out⟩
  case round =>
    clear HO
    obtain ⟨j, o, hj, rfl, hO⟩ := hrel
    have hR : Row wr 3 1 _ o j (ints ((idsOf l).take j)) := hO.get 0 rfl
    obtain ⟨av, acap, rfl, -, -⟩ := hR.val
    have HR := Lib.hid hR
    have k0 : wr.cell? ⟨w.heap.size, 0, none⟩ = some (.slice a n cap) := Blk.cell (hO.get 1 rfl) 0
    have HO := Lib.hid hO
    clear hR hO
    by_cases hlt : j < n
    · obtain ⟨b, off, oa, on, oc, rfl, hb, c0, -, -, -, -⟩ := (H.out.keep HO.out.but).at_ j hlt
      obtain ⟨y, hy⟩ : ∃ y, (nd l j).id = y := ⟨_, rfl⟩
      rw [hy] at c0
      have HY := Lib.hid (show (idsOf l).take (j + 1) = (idsOf l).take j ++ [y] by rw [← hy]; exact idsOf_take (by rw [HL.out]; exact hlt))
      clear hy
      go_wp2_with ((at_builtin; refine wpList_append_row _ rfl _ _ _ rfl 3 i0 (.int .i64 0) 1 8 Try.underlying43 hi hz0 hz1 hz2 rfl (by decide) (.slice av j acap) o j (ints ((idsOf l).take j)) (HR.out.alloc _) rfl ⟨wr.heap.size, 0, none⟩ 1 1 [.int .i64 y] rfl rfl (new_src _ _ _) (by simp [Value.oneCell']) (by unfold maxLen; omega) (by omega) ?_; intro v4 w4 o4 hR4 hB4 hN4; obtain ⟨a4, cap4, rfl, -, -⟩ := hR4.val; have O4 := Lib.hid (HO.out.put 0 (q := Pc.row 3 1 (.slice a4 (j + 1) cap4) o4 (j + 1) (ints ((idsOf l).take (j + 1)))) rfl (by show Row _ _ _ _ _ _ _; rw [HY.out, ints_push]; exact hR4) (((But.refl _ wr).alloc _).trans hB4) (fun k hk => by rcases hN4 k hk with q | q; exact .inl q; (try simp at q); exact .inr (by omega))); clear hR4 hB4 hN4))
      go_roundg (n - (j + 1))
      case measure => omega
      case rel => exact ⟨j + 1, o4, by omega, by go_num, O4.out⟩
    · obtain rfl : j = n := by omega
      go_wp2_with fail
      go_ret
      refine ⟨_, o, rfl, ?_, fun k hk => HO.out.new 0 (by simp) k hk, HO.out.but⟩
      have := HR.out
      rw [List.take_of_length_le (by rw [idsOf_length, HL.out]; exact Nat.le_refl _)] at this
      exact this

set_option maxHeartbeats 4000000 in
set_option maxRecDepth 100000 in
theorem ref_right (a : Option Addr) (n cap : Nat) (l : List Nd) (ra : Option Addr) (rn rc : Nat) (R : List Int) (w : World) (h : Nodes w a n l) (hr : Nums w ra rn R) (hn : n ≤ 17592186044416) (hrn : rn ≤ 9223372036854775807) :
    Calls Try.prog 38 #[.agg #[.slice a n cap, .slice ra rn rc]] w fun e w' => e = .returned (.bool (rightB l R)) ∧ But (fun _ => False) w w' := by
  have H := Lib.hid h
  have HR := Lib.hid hr
  have HL := Lib.hid h.len
  clear h hr
  have B0 := Blk.new w #[.slice a n cap, .slice ra rn rc] 47
  have G0 := (But.refl (fun _ => False) w).alloc (.cells #[.slice a n cap, .slice ra rn rc] 47)
  have k0 : (w.alloc (.cells #[.slice a n cap, .slice ra rn rc] 47)).cell? ⟨w.heap.size, 0, none⟩ = some (.slice a n cap) := B0.cell 0
  have k1 : (w.alloc (.cells #[.slice a n cap, .slice ra rn rc] 47)).cell? ⟨w.heap.size, 1, none⟩ = some (.slice ra rn rc) := B0.cell 1
  go_enter Try.func38, Try.ntmps38
  go_wp2_with fail
  refine (ref_ids a n cap l ra rn rc _ (H.out.keep G0) hn).mono ?_
  rintro e w2 ⟨v, o, rfl, hR2, hN2, hB2⟩
  obtain ⟨av, acap, rfl, -, -⟩ := hR2.val
  have HI := Lib.hid hR2.nums
  have B2 := Lib.hid (B0.but hB2 (fun q => q))
  have G2 := Lib.hid (G0.trans hB2)
  have H2 := Lib.hid (H.out.keep G2.out)
  have HR2 := Lib.hid (HR.out.keep G2.out)
  obtain ⟨b, hb⟩ : ∃ b, b = w.heap.size := ⟨_, rfl⟩
  rw [← hb] at B2 ⊢
  clear k0 k1 B0 G0 hR2 hN2 hB2 hb
  have k0 : w2.cell? ⟨b, 0, none⟩ = some (.slice a n cap) := B2.out.cell 0
  have k1 : w2.cell? ⟨b, 1, none⟩ = some (.slice ra rn rc) := B2.out.cell 1
  go_wp2_with fail
  go_loopg [4] n (fun k iv wr => ∃ j : Nat, j + k = n ∧ iv = .int .i64 j ∧ (∀ t, t < j → withinB (nd l t).out (idsOf l) = true) ∧ wr = w2)
  case atStart => exact ⟨0, by omega, rfl, fun t ht => absurd ht (Nat.not_lt_zero t), rfl⟩
  case round =>
    obtain ⟨j, hj, rfl, hno, rfl⟩ := hrel
    have HN := Lib.hid hno
    clear hno
    by_cases hlt : j < n
    · obtain ⟨nb, off, oa, on, oc, rfl, hnb, -, c1, ho1, ho2, hout⟩ := H2.out.at_ j hlt
      have HO := Lib.hid hout
      unfold maxLen at ho2
      have hon : on ≤ 9223372036854775807 := by omega
      clear hout
      go_wp2_with fail
      refine (within_any oa on oc _ av n acap (idsOf l) _ HO.out (by omega) HI.out (by omega)).mono ?_
      rintro e wa ⟨rfl, rfl⟩
      cases hw : withinB (nd l j).out (idsOf l) with
      | true =>
        have NXT := Lib.hid hw
        clear hw
        go_wp2_with fail
        go_roundg (n - (j + 1))
        case measure => omega
        case rel => exact ⟨j + 1, by omega, by go_num, fun t ht => by
          by_cases e : t = j
          · subst e; exact NXT.out
          · exact HN.out t (by omega), rfl⟩
      | false =>
        have E := Lib.hid (show rightB l R = false by
          unfold rightB
          have : l.all (fun n => withinB n.out (idsOf l)) = false := by
            rw [← Bool.not_eq_true, all_nd]
            intro q
            have := q j (by rw [HL.out]; exact hlt)
            rw [hw] at this; cases this
          rw [this]; rfl)
        clear hw
        go_wp2_with fail
        go_ret
        exact ⟨by rw [E.out]; rfl, G2.out⟩
    · have ALL := Lib.hid (show l.all (fun n => withinB n.out (idsOf l)) = true from (all_nd _ _).2 (fun t ht => HN.out t (by rw [HL.out] at ht; omega)))
      go_wp2_with fail
      refine (ref_rise av n acap (idsOf l) _ HI.out (by omega)).mono ?_
      rintro e w3 ⟨rfl, g3⟩
      have B3 := B2.out.but g3 (fun q => q)
      have j1 : w3.cell? ⟨b, 1, none⟩ = some (.slice ra rn rc) := B3.cell 1
      go_wp2_with fail
      refine (ref_rise ra rn rc R _ (HR2.out.keep g3) (by omega)).mono ?_
      rintro e w4 ⟨rfl, g4⟩
      have B4 := B3.but g4 (fun q => q)
      have i1 : w4.cell? ⟨b, 1, none⟩ = some (.slice ra rn rc) := B4.cell 1
      go_wp2_with fail
      refine (within_any ra rn rc R av n acap (idsOf l) _ ((HR2.out.keep g3).keep g4) (by omega) ((HI.out.keep g3).keep g4) (by omega)).mono ?_
      rintro e wa ⟨rfl, rfl⟩
      have E := Lib.hid (show rightB l R = (riseB (idsOf l) && riseB R && withinB R (idsOf l)) by unfold rightB; rw [ALL.out, Bool.true_and])
      have G4 := Lib.hid ((G2.out.trans g3).trans g4)
      clear g3 g4 B3 B4 k0 k1 j1 i1
      cases h1 : riseB (idsOf l) <;> cases h2 : riseB R <;> cases h3 : withinB R (idsOf l) <;> (
        rw [h1, h2, h3] at E
        go_wp2_with fail
        go_ret
        exact ⟨by rw [E.out]; rfl, G4.out⟩)

end Graph
end Go.Proofs.Ytldgjmgdbaeglaa
