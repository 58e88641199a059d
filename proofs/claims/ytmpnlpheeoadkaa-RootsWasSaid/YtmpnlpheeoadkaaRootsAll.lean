/- All of a set (layer 8), walked: its cells, rising. -/
import Derived.Test.YtmpnlpheeoadkaaRootsWalks
import Derived.Test.YtmpnlpheeoadkaaRootsKeys
import Derived.Test.YtmpnlpheeoadkaaShelfKeysI
set_option linter.unusedVariables false
set_option linter.unusedSimpArgs false
namespace Go.Proofs.Ytmpnlpheeoadkaa
open Go.RowKit Go.Maps Go.Sort Go.Shelf

namespace Roots

/-- slices.Sort's two contracts, at the fence that asks nothing. -/
theorem sortsI (m : Nat) : AnyZI.SortsIn Try.prog RootsI.laysSortedI_ren Fence.wide m :=
  ⟨fun blk off cap ss W hH hblk hsz => callsIn_wide.2 (AnyM.slices_Sort_int RootsI.laysSortI blk off cap ss W hH hblk hsz),
   fun p cap W => callsIn_wide.2 (AnyM.slices_Sort_int_none RootsI.laysSortI p cap W)⟩

set_option maxHeartbeats 4000000 in
set_option maxRecDepth 100000 in
theorem all_any (b : Nat) (ks m : List Int) (w : World) (S : Nat → Prop) (h : Set_ b ks w S) (hr : Rel ks m) :
    Calls Try.prog 41 #[.pointer (some ⟨b, 0, none⟩)] w (Copied (ints m) m.length w) := by
  obtain ⟨mb, hB, hL, hne, -⟩ := h
  obtain ⟨D0, hown, hsz, hperm⟩ := owns_of hL hr.cells
  have hsmall := hr.small
  have hmax : Maps.size D0 ≤ maxLen := by unfold maxLen; omega
  have hbytes : Maps.size D0 * 8 ≤ 140737488355328 := by omega
  have c0 : w.cell? ⟨b, 0, none⟩ = some (.map (some mb)) := hB.cell 0
  have hfin : ∀ (w1 w' : World) (v : Value) (ss : List Int), w1 = w.alloc (.cells #[.map (some mb)] 139) → ss.Perm (intKeys D0) → w'.ownsRow w1.heap.size 3 1 v ss.length ((ss.mergeSort (fun x y => decide (x ≤ y))).map encZ) →
      Below w1.heap.size w1 w' → Copied (ints m) m.length w (.returned v) w' := by
    rintro w1 w' v ss rfl hS hrow hb
    obtain ⟨o, hR, hO⟩ := Row.of_owns hrow
    have e1 := hr.sorted (hS.trans hperm)
    have e2 : ss.length = m.length := by rw [(hS.trans hperm).length_eq, hr.len]
    rw [e1, e2] at hR
    have hz : w.heap.size ≤ (w.alloc (.cells #[.map (some mb)] 139)).heap.size := by simp
    exact ⟨v, o, rfl, hR, fun k hk => Nat.le_trans hz (hO k hk), ((But.refl _ w).alloc _).trans (But.of_below hb _)⟩
  have HF := Lib.hid hfin
  have HP := Lib.hid hperm
  clear hfin hperm hr hsz hsmall
  refine (callsIn_wide (n := 6)).1 ?_
  have hbl := hown.lt
  have hseq : SeqGives Fence.wide 2 Try.prog 118 #[.pointer (some ⟨w.heap.size, 0, none⟩)] encZ (fun ss => ss.Perm (intKeys D0)) (Maps.size D0) (w.alloc (.cells #[.map (some mb)] 139)) :=
    AnyZI.keys_gives (ρ := RootsI.laysKeysI_ren) { RootsI.laysKeysI with } Fence.wide _ trivial rfl (by omega) w.heap.size mb _ D0 _ (by simp) (by simp) (by
      obtain ⟨es, clock, hb, Ft, hs, hD⟩ := hown
      exact ⟨es, clock, (Below.heap_alloc _ _ mb hbl).trans hb, Ft, hs, hD⟩)
  have cK : ∀ q W, CallsIn Fence.wide 5 Try.prog 95 #[.map q] W fun e w' => e = .returned (.func (.func 118) #[] #[.pointer (some ⟨W.heap.size, 0, none⟩)]) ∧ w' = W.alloc (.cells #[.map q] 139) := fun q W => AnyZI.keys_in RootsI.laysKeysI Fence.wide 5 trivial rfl q W
  have cS := AnyZI.sorted_in RootsI.laysSortedI Fence.wide 5 trivial trivial trivial trivial rfl (by omega) (sortsI _) (enters_of Try.func117 (by kernel_rfl) rfl) 118 #[.pointer (some ⟨w.heap.size, 0, none⟩)] trivial (enters_of Try.func118 (by kernel_rfl) rfl) _ _ hmax hbytes _ hseq
  change CallsIn _ _ Try.prog 94 _ _ _ at cS
  have hfK : Fence.wide.fn 95 := trivial
  have hfS : Fence.wide.fn 94 := trivial
  clear hown hmax hbytes hL
  refine callsIn_of_wp Try.func41 rfl trivial ?_ rfl
  simp only [Try.ntmps41, List.size_toArray, List.length_cons, List.length_nil, Nat.reduceAdd, Nat.reduceSub, Array.replicate_succ, Array.replicate_zero, List.push_toArray, List.append_toArray, List.nil_append, List.cons_append]
  gi_wp2_with (first
    | (gi_at_call 95; refine (cK _ _).mono ?_; rintro e w' ⟨rfl, rfl⟩)
    | (gi_at_call 94; refine cS.mono ?_; rintro e w' ⟨v, ss, rfl, hS, hrow, hnil, hb⟩))
  go_ret
  exact HF.out _ _ _ _ rfl hS hrow hb

end Roots
end Go.Proofs.Ytmpnlpheeoadkaa
