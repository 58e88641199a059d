/- The program's places of layer 10, walked: the nodes' places by their numbers. -/
import Derived.Test.YtldgjmgdbaeglaaGraphRef
import Derived.Test.YtldgjmgdbaeglaaMaps
set_option linter.unusedVariables false
set_option linter.unusedSimpArgs false
namespace Go.Proofs.Ytldgjmgdbaeglaa
open Go.RowKit

/-- A map in a block of its own. -/
def Pc.mp (b : Nat) (L : List (Int × Value)) : Pc :=
  ⟨fun w => Mp w b (fun n : Int => Value.int .i64 n) L, fun k => k = b, fun h g a => h.but g (fun q => a b q rfl), fun h k hk => by subst hk; exact h.lt⟩

namespace Graph

def placesTo (l : List Nd) : Nat → List (Int × Value)
  | 0 => []
  | j + 1 => put (placesTo l j) (nd l j).id (.int .i64 j)
theorem put_len (L : List (Int × Value)) (x : Int) (v : Value) : (put L x v).length ≤ L.length + 1 := by
  unfold put; split
  · rw [List.length_map]; omega
  · rw [List.length_append]; simp
theorem placesTo_len (l : List Nd) : ∀ j, (placesTo l j).length ≤ j
  | 0 => Nat.le_refl _
  | j + 1 => by have := placesTo_len l j; have := put_len (placesTo l j) (nd l j).id (.int .i64 j); show (put _ _ _).length ≤ _; omega
/-- What the map tells: the last place of that number. -/
theorem places_look {l : List Nd} {x : Int} : ∀ j, (look (placesTo l j) x = none ∧ ∀ i, i < j → (nd l i).id ≠ x) ∨ ∃ i, i < j ∧ (nd l i).id = x ∧ look (placesTo l j) x = some (.int .i64 (i : Int))
  | 0 => .inl ⟨rfl, fun i hi => absurd hi (Nat.not_lt_zero i)⟩
  | j + 1 => by
    show (look (put _ _ _) x = none ∧ _) ∨ ∃ i, _ ∧ _ ∧ look (put _ _ _) x = _
    rw [look_put]
    by_cases h : (nd l j).id = x
    · rw [if_pos h]; exact .inr ⟨j, by omega, h, rfl⟩
    · rw [if_neg h]
      rcases places_look (l := l) (x := x) j with ⟨h1, h2⟩ | ⟨i, h1, h2, h3⟩
      · refine .inl ⟨h1, fun i hi => ?_⟩
        by_cases e : i = j
        · subst e; exact h
        · exact h2 i (by omega)
      · exact .inr ⟨i, by omega, h2, h3⟩

set_option maxHeartbeats 4000000 in
set_option maxRecDepth 100000 in
theorem places_any (a : Option Addr) (n cap : Nat) (l : List Nd) (ra : Option Addr) (rn rc : Nat) (w : World) (h : Nodes w a n l) (hn : n ≤ 1000000) :
    Calls Try.prog 66 #[.agg #[.slice a n cap, .slice ra rn rc]] w fun e w' => ∃ mb, e = .returned (.map (some mb)) ∧ Mp w' mb (fun n : Int => Value.int .i64 n) (placesTo l n) ∧ w.heap.size ≤ mb ∧ But (fun _ => False) w w' := by
  have hmm := @run_makeMap Try.prog
  have H := Lib.hid h
  have HL := Lib.hid h.len
  clear h
  go_enter Try.func66, Try.ntmps66
  go_wp2_with fail
  have hO : Own w ((w.alloc (.cells #[.slice a n cap, .slice ra rn rc] 47)).alloc (.map #[] 0)) [Pc.mp (w.heap.size + 1) (placesTo l 0), Pc.blk w.heap.size #[.slice a n cap, .slice ra rn rc] 47] := by
    have e0 : Own w w [] := Own.nil (But.refl _ _)
    have e1 := e0.add (q := Pc.blk w.heap.size #[.slice a n cap, .slice ra rn rc] 47) (Blk.new w _ _) ((But.refl _ w).alloc _) (fun k q => by have : k = w.heap.size := q; omega)
    exact e1.add (q := Pc.mp (w.heap.size + 1) (placesTo l 0)) (by have := Mp.new (w.alloc (.cells #[.slice a n cap, .slice ra rn rc] 47)) (fun n : Int => Value.int .i64 n); rw [show (w.alloc (.cells #[.slice a n cap, .slice ra rn rc] 47)).heap.size = w.heap.size + 1 by simp] at this; exact this) ((But.refl _ _).alloc _) (fun k q => by have : k = w.heap.size + 1 := q; simp; omega)
  have HO := Lib.hid hO
  obtain ⟨mb, hmb⟩ : ∃ mb, mb = w.heap.size + 1 := ⟨_, rfl⟩
  rw [← hmb] at HO ⊢
  have HMB := Lib.hid (show w.heap.size ≤ mb by omega)
  clear hO hmm hmb
  go_loopg [10] n (fun k iv wr => ∃ j : Nat, j + k = n ∧ iv = .int .i64 j ∧ Own w wr [Pc.mp mb (placesTo l j), Pc.blk w.heap.size #[.slice a n cap, .slice ra rn rc] 47])
  case atStart => exact ⟨0, by omega, rfl, HO.out⟩
  case round =>
    clear HO
    obtain ⟨j, hj, rfl, hO⟩ := hrel
    have HO := Lib.hid hO
    clear hO
    by_cases hlt : j < n
    · obtain ⟨b, off, oa, on, oc, rfl, hb, c0, c1, -, -, -⟩ := (H.out.keep HO.out.but).at_ j hlt
      obtain ⟨y, hy⟩ : ∃ y, (nd l j).id = y := ⟨_, rfl⟩
      rw [hy] at c0
      have HY := Lib.hid hy
      clear hy
      have HMP := Lib.hid (show Mp wr mb (fun n : Int => Value.int .i64 n) (placesTo l j) from HO.out.get 0 rfl)
      have hpl := placesTo_len l j
      go_wp2_with (at_mapUpdate; refine wpList_update (HMP.out.alloc _) rfl _ _ _ _ rfl keyI Try.underlying85 rfl y rfl (by unfold maxLen; omega) ?_; intro w3 hL3 hB3; have O3 := Lib.hid (HO.out.put 0 (q := Pc.mp mb (placesTo l (j + 1))) rfl (by show Mp _ _ _ _; show Mp w3 mb _ (put (placesTo l j) (nd l j).id (.int .i64 j)); rw [HY.out]; exact hL3) (((But.refl _ wr).alloc _).trans hB3) (fun k hk => .inl hk)); clear hL3 hB3)
      go_roundg (n - (j + 1))
      case measure => omega
      case rel => exact ⟨j + 1, by omega, by go_num, O3.out⟩
    · obtain rfl : j = n := by omega
      go_wp2_with fail
      go_ret
      exact ⟨mb, rfl, HO.out.get 0 rfl, HMB.out, HO.out.but⟩

end Graph
end Go.Proofs.Ytldgjmgdbaeglaa
