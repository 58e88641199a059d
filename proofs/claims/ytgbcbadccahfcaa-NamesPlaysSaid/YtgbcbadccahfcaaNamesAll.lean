/- All names of a book (layer 22), walked: they rise. -/
import Derived.Test.YtgbcbadccahfcaaNamesBook
set_option linter.unusedVariables false
set_option linter.unusedSimpArgs false
namespace Go.Proofs.Ytgbcbadccahfcaa
open Go.RowKit Go.Maps Go.Sort Go.Shelf Go.WideElems

namespace Names

abbrev rOf : Value → Option (DataW Unit × List MemPlace) := fun _ => some (.lit (.int .i64 0), [])
def keyTxt : Value → List UInt8
  | .string s => s.data.toList
  | _ => []

/-- The map, as the kit's own library tells it. -/
theorem owns_of {w : World} {mb : Nat} {L : List Wd} (h : Mp w mb kS (pairs L)) (hc : ∀ s ∈ keys L, s.size ≤ 1000000000) :
    ∃ D : DataW Unit, w.ownsMap Try.prog 9 rOf mb L.length D ∧ Maps.size D = L.length ∧ (strKeys D).Perm ((keys L).map (fun s => s.data.toList)) := by
  have hsm := h.small
  have hpl : (pairs L).length = L.length := by unfold pairs; rw [List.length_map]
  rw [hpl] at hsm
  obtain ⟨es, clock, hb, hst, hes⟩ := h.out
  have hlen : es.size = L.length := by
    have := congrArg List.length hes
    simpa [pairs] using this
  have hkey : ∀ x ∈ es.toList, ∃ c ∈ keys L, x.key = .string c := fun x hx => by
    have : (x.key, x.val) ∈ es.toList.map (fun e => (e.key, e.val)) := List.mem_map.2 ⟨x, hx, rfl⟩
    rw [hes] at this
    obtain ⟨p, hp, e⟩ := List.mem_map.1 this
    obtain ⟨q, hq, rfl⟩ := List.mem_map.1 hp
    simp at e
    exact ⟨q.1, List.mem_map.2 ⟨q, hq, rfl⟩, e.1.symm⟩
  have hkO : ∀ c : ByteArray, c.size ≤ 1000000000 → keyOf Try.prog 9 (.string c) = some (.string c.data.toList) := fun c hc =>
    Go.WideMaps.keyOf_string_mk (P := Try.prog) (k := 9) Try.underlying9 (by unfold maxLen; omega)
  have hrd : ∀ x ∈ es.toList, WideElems.rd Try.prog 9 rOf x = some (.string (keyTxt x.key), .lit (.int .i64 0)) := fun x hx => by
    obtain ⟨c, hcm, e⟩ := hkey x hx
    unfold WideElems.rd
    rw [e, hkO c (hc c hcm)]
    rfl
  refine ⟨_, ⟨es, clock, hb, ⟨by omega, hst, fun x hx => ⟨_, hrd x hx⟩⟩, by omega, rfl⟩, ?_, ?_⟩
  · rw [Maps.size_eq, DataW.length_sorted]
    simp [hlen]
  · have e1 : (es.toList.map (WideElems.rg Try.prog 9 rOf)).map (fun p => strOf p.1) = (keys L).map (fun s => s.data.toList) := by
      rw [List.map_map]
      have : es.toList.map ((fun p : Lit × DataW Unit => strOf p.1) ∘ rg Try.prog 9 rOf) = es.toList.map ((fun p : Value × Value => keyTxt p.1) ∘ (fun e => (e.key, e.val))) :=
        List.map_congr_left fun x hx => by
          simp only [Function.comp_def, WideElems.rg_of (hrd x hx)]
          rfl
      rw [this, ← List.map_map, hes]
      unfold pairs keys
      rw [List.map_map, List.map_map, List.map_map]
      simp [Function.comp_def, keyTxt, kS]
    have e2 := (WideShapes.sorted_perm (es.toList.map (WideElems.rg Try.prog 9 rOf))).map (fun p => strOf p.1)
    rw [e1] at e2
    exact e2

/-- slices.Sort's two contracts, at the fence that asks nothing. -/
theorem sortsS (m : Nat) : AnyZ.SortsIn Try.prog NamesS.laysSortedS_ren Fence.wide m :=
  ⟨fun blk off cap ss W hH hblk hsz => callsIn_wide.2 (AnyM.slices_Sort_string NamesS.laysSortS blk off cap ss W hH hblk hsz),
   fun p cap W => callsIn_wide.2 (AnyM.slices_Sort_string_none NamesS.laysSortS p cap W)⟩

/-- The names that a book has, rising. -/
structure Sorted (L : List Wd) (ss : List (List UInt8)) : Prop where
  perm : ss.Perm ((keys L).map (fun s => s.data.toList))
  rise : ss.Pairwise (fun x y => x ≤ y)
theorem sorted_of {L : List Wd} {ss : List (List UInt8)} (h : ss.Perm ((keys L).map (fun s => s.data.toList))) : Sorted L (ss.mergeSort (fun x y => decide (x ≤ y))) := by
  have tr : ∀ a b c : List UInt8, leB a b = true → leB b c = true → leB a c = true := fun a b c h1 h2 => by simp only [leB, decide_eq_true_eq] at *; exact List.le_trans h1 h2
  have to : ∀ a b : List UInt8, (leB a b || leB b a) = true := fun a b => by simp only [leB, Bool.or_eq_true, decide_eq_true_eq]; exact List.le_total a b
  refine ⟨(List.mergeSort_perm ss leB).trans h, ?_⟩
  exact (List.pairwise_mergeSort tr to ss).imp (fun h => by simpa [leB] using h)
theorem data_inj {s t : ByteArray} (h : s.data.toList = t.data.toList) : s = t := by
  rcases s with ⟨x⟩
  rcases t with ⟨y⟩
  exact congrArg ByteArray.mk (Array.ext' h)
theorem Sorted.strict {L : List Wd} {ss : List (List UInt8)} (h : Sorted L ss) (hn : (keys L).Nodup) {i : Nat} (hi : i + 1 < ss.length) : ¬ ss[i + 1] ≤ ss[i] := by
  have h1 : ss[i] ≤ ss[i + 1] := List.pairwise_iff_getElem.1 h.rise i (i + 1) (by omega) hi (by omega)
  intro h2
  have he := List.le_antisymm h1 h2
  have hnd : ss.Nodup := by
    refine (List.Perm.nodup_iff h.perm).2 ?_
    exact List.pairwise_map.2 (hn.imp (fun hne e => hne (data_inj e)))
  have := List.pairwise_iff_getElem.1 hnd i (i + 1) (by omega) hi (by omega)
  exact this he

set_option maxHeartbeats 4000000 in
set_option maxRecDepth 100000 in
theorem names_any {b mb : Nat} {L : List Wd} {w : World} (h : Bk b mb L w) (hsm : L.length ≤ 100000) :
    Calls Try.prog 13 #[.pointer (some ⟨b, 0, none⟩)] w fun e w' => ∃ v o ss, e = .returned v ∧ Sorted L ss ∧ Row w' 9 1 v o ss.length (ss.map encStr) ∧ (∀ k, o = some k → w.heap.size ≤ k) ∧ But (fun _ => False) w w' := by
  obtain ⟨D0, hown, hsz, hperm⟩ := owns_of h.mp h.sz
  have hmax : Maps.size D0 ≤ maxLen := by unfold maxLen; omega
  have hbytes : Maps.size D0 * 16 ≤ 140737488355328 := by omega
  have c0 : w.cell? ⟨b, 0, none⟩ = some (.map (some mb)) := h.blk.cell 0
  have hfin : ∀ (w1 w' : World) (v : Value) (ss : List (List UInt8)), w1 = w.alloc (.cells #[.map (some mb)] 51) → ss.Perm (strKeys D0) → w'.ownsRow w1.heap.size 9 1 v ss.length ((ss.mergeSort (fun x y => decide (x ≤ y))).map encStr) →
      Below w1.heap.size w1 w' → ∃ v' o ss', Ending.returned v = Ending.returned v' ∧ Sorted L ss' ∧ Row w' 9 1 v' o ss'.length (ss'.map encStr) ∧ (∀ k, o = some k → w.heap.size ≤ k) ∧ But (fun _ => False) w w' := by
    rintro w1 w' v ss rfl hS hrow hb
    obtain ⟨o, hR, hO⟩ := Row.of_owns hrow
    have hz : w.heap.size ≤ (w.alloc (.cells #[.map (some mb)] 51)).heap.size := by simp
    refine ⟨v, o, _, rfl, sorted_of (hS.trans hperm), by rw [List.length_mergeSort]; exact hR, fun k hk => Nat.le_trans hz (hO k hk), ((But.refl _ w).alloc _).trans (But.of_below hb _)⟩
  have HF := Lib.hid hfin
  clear hfin hperm hsz hsm
  refine (callsIn_wide (n := 6)).1 ?_
  have hbl := hown.lt
  have hseq : SeqGives Fence.wide 2 Try.prog 27 #[.pointer (some ⟨w.heap.size, 0, none⟩)] encStr (fun ss => ss.Perm (strKeys D0)) (Maps.size D0) (w.alloc (.cells #[.map (some mb)] 51)) :=
    AnyZ.keys_gives (ρ := NamesS.laysKeysS_ren) { NamesS.laysKeysS with } Fence.wide _ trivial rfl (by omega) w.heap.size mb _ D0 _ (by simp) (by simp) (by
      obtain ⟨es, clock, hb, Ft, hs, hD⟩ := hown
      exact ⟨es, clock, (Below.heap_alloc _ _ mb hbl).trans hb, Ft, hs, hD⟩)
  have cK : ∀ q W, CallsIn Fence.wide 5 Try.prog 19 #[.map q] W fun e w' => e = .returned (.func (.func 27) #[] #[.pointer (some ⟨W.heap.size, 0, none⟩)]) ∧ w' = W.alloc (.cells #[.map q] 51) := fun q W => AnyZ.keys_in NamesS.laysKeysS Fence.wide 5 trivial rfl q W
  have cS := AnyZ.sorted_in NamesS.laysSortedS Fence.wide 5 trivial trivial trivial trivial rfl (by omega) (sortsS _) (enters_of Try.func26 (by kernel_rfl) rfl) 27 #[.pointer (some ⟨w.heap.size, 0, none⟩)] trivial (enters_of Try.func27 (by kernel_rfl) rfl) _ _ hmax hbytes _ hseq
  change CallsIn _ _ Try.prog 18 _ _ _ at cS
  have hfK : Fence.wide.fn 19 := trivial
  have hfS : Fence.wide.fn 18 := trivial
  clear hown hmax hbytes h
  refine callsIn_of_wp Try.func13 rfl trivial ?_ rfl
  simp only [Try.ntmps13, List.size_toArray, List.length_cons, List.length_nil, Nat.reduceAdd, Nat.reduceSub, Array.replicate_succ, Array.replicate_zero, List.push_toArray, List.append_toArray, List.nil_append, List.cons_append]
  gi_wp2_with (first
    | (gi_at_call 19; refine (cK _ _).mono ?_; rintro e w' ⟨rfl, rfl⟩)
    | (gi_at_call 18; refine cS.mono ?_; rintro e w' ⟨v, ss, rfl, hS, hrow, hnil, hb⟩))
  go_ret
  exact HF.out _ _ _ _ rfl hS hrow hb

end Names
end Go.Proofs.Ytgbcbadccahfcaa
