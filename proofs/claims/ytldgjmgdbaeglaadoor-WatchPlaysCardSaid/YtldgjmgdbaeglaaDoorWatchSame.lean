/- The document's Same and Log (layer 23), walked. -/
import Derived.Test.YtldgjmgdbaeglaaDoorWatchNotes
set_option linter.unusedVariables false
set_option linter.unusedSimpArgs false
namespace Go.Proofs.YtldgjmgdbaeglaaDoor
open Go.RowKit

namespace Watch

theorem eqAns (w : World) (x y : Ans) : (Op.equalIn 10000 42 (.agg #[.int .i64 x.e, .int .i64 x.k, .int .u64 x.n]) (.agg #[.int .i64 y.e, .int .i64 y.k, .int .u64 y.n])).run Tryd.prog w = .ok (decide (x = y)) w := by
  rw [Answer.eqA]
  congr 1
  rw [decide_eq_decide]
  cases x; cases y; simp

set_option maxHeartbeats 4000000 in
set_option maxRecDepth 100000 in
theorem same_any (v v' : Value) (o o' : Option Nat) (xs ys : List Ans) (w : World) (hR : RowA w v o xs) (hR' : RowA w v' o' ys) (hn : xs.length ≤ 1000) (hn' : ys.length ≤ 1000) :
    Calls Tryd.prog 21 #[v, v'] w fun e w' => e = .returned (.bool (decide (xs = ys))) ∧ But (fun _ => False) w w' := by
  obtain ⟨a, cap, hv, hcap, hcap2⟩ := hR.val
  obtain ⟨a', cap', hv', hcap', hcap2'⟩ := hR'.val
  subst hv
  subst hv'
  by_cases hne : xs.length = ys.length
  · have HR := Lib.hid hR
    have HR' := Lib.hid hR'
    obtain ⟨n, hxn⟩ : ∃ n, n = xs.length := ⟨_, rfl⟩
    have HXN := Lib.hid hxn
    have HYN := Lib.hid (hxn.trans hne)
    rw [← hne, ← hxn] at hcap' ⊢
    rw [← hxn] at hcap hn
    clear hR hR' hne hxn hn'
    go_enter Tryd.func21, Tryd.ntmps21
    go_wp2_with fail
    go_loopg [5] n (fun k i wr => ∃ j m : Nat, j + k = n ∧ i = .int .i64 j ∧ xs.take j = ys.take j ∧ wr = w.drewN m)
    case atStart => exact ⟨0, 0, by omega, rfl, by simp, rfl⟩
    case round =>
      obtain ⟨j, m, hj, rfl, he, rfl⟩ := hrel
      have HE := Lib.hid he
      clear he
      by_cases hlt : j < n
      · obtain ⟨c, off, cp, e1, -, -, -, p0, p1, p2⟩ := rowA_at HR.out (i := j) (by rw [← HXN.out]; exact hlt)
        obtain ⟨rfl, -, -⟩ := Value.slice.inj e1
        obtain ⟨c', off', cp', e2, -, -, -, q0, q1, q2⟩ := rowA_at HR'.out (i := j) (by rw [← HYN.out]; exact hlt)
        obtain ⟨rfl, -, -⟩ := Value.slice.inj e2
        clear e1 e2
        have H1 := Lib.hid (nthA_take (l := xs) (i := j) (by rw [← HXN.out]; exact hlt))
        have H2 := Lib.hid (nthA_take (l := ys) (i := j) (by rw [← HYN.out]; exact hlt))
        have HXY := Lib.hid (show (nthA xs j = nthA ys j) ∨ xs ≠ ys by
          by_cases h : xs = ys
          · left; rw [h]
          · right; exact h)
        generalize nthA xs j = y at *
        generalize nthA ys j = z at *
        have eq0 := fun w => eqAns w y z
        by_cases hy : y = z
        · rw [decide_eq_true hy] at eq0
          have HY := Lib.hid hy
          clear hy
          go_wp2_with fail
          go_quiet ((fail))
          go_wp2_with fail
          go_roundg (n - (j + 1))
          case measure => omega
          case rel => exact ⟨j + 1, _, by omega, by go_num, by rw [H1.out, H2.out, HE.out, HY.out], rfl⟩
        · rw [decide_eq_false hy] at eq0
          have HN := Lib.hid (show xs ≠ ys from HXY.out.resolve_left hy)
          clear hy
          go_wp2_with fail
          go_quiet ((fail))
          go_wp2_with fail
          go_ret
          exact ⟨by rw [decide_eq_false HN.out]; rfl, ((But.refl _ w).drewN _).drewN _⟩
      · have hjn : j = n := by omega
        have HALL := Lib.hid (show xs = ys by
          have h := HE.out
          rw [List.take_of_length_le (by rw [← HXN.out]; omega), List.take_of_length_le (by rw [← HYN.out]; omega)] at h
          exact h)
        clear hjn
        go_wp2_with fail
        go_ret
        exact ⟨by rw [decide_eq_true HALL.out]; rfl, (But.refl _ w).drewN _⟩
  · have HN := Lib.hid (show xs ≠ ys from fun h => hne (by rw [h]))
    have hne2 : ¬ (xs.length : Int) = (ys.length : Int) := by omega
    have hne3 : ((xs.length : Int) == (ys.length : Int)) = false := beq_eq_false_iff_ne.2 hne2
    have hne4 : ((xs.length : Int) != (ys.length : Int)) = true := bne_iff_ne.2 hne2
    clear hne hR hR'
    generalize xs.length = p at *
    generalize ys.length = q at *
    go_enter Tryd.func21, Tryd.ntmps21
    go_wp2_with fail
    go_ret
    exact ⟨by rw [decide_eq_false HN.out]; rfl, But.refl _ w⟩

theorem logOf_take {H : List Nt} {j : Nat} (h : j < H.length) (t : Int) : logOf (H.take (j + 1)) t = if (nthN H j).t = t then logOf (H.take j) t ++ [(nthN H j).a] else logOf (H.take j) t := by
  rw [nthN_take h]
  split
  · rename_i e; subst e; exact logOf_own _ _
  · rename_i e; exact logOf_other _ _ e

set_option maxHeartbeats 4000000 in
set_option maxRecDepth 100000 in
theorem ref_log (v : Value) (o : Option Nat) (H : List Nt) (t : Int) (w : World) (hR : RowN w v o H) (hn : H.length ≤ 1000) :
    Calls Tryd.prog 20 #[v, .int .i64 t] w fun e w' => ∃ v' o', e = .returned v' ∧ RowA w' v' o' (logOf H t) ∧ (∀ c, o' = some c → w.heap.size ≤ c) ∧ But (fun _ => False) w w' := by
  obtain ⟨a, cap, hv, hcap, hcap2⟩ := hR.val
  subst hv
  have HR := Lib.hid hR
  obtain ⟨n, hxn⟩ : ∃ n, n = H.length := ⟨_, rfl⟩
  have HXN := Lib.hid hxn
  rw [← hxn] at hcap hn ⊢
  clear hR hxn
  obtain ⟨i0, hi, hz0, hz1, hz2⟩ := info_parts infoAns
  go_enter Tryd.func20, Tryd.ntmps20
  go_wp2_with fail
  go_loopg [5, 6] n (fun k u i wr => ∃ (j : Nat) (ob : Option Nat), j + k = n ∧ i = .int .i64 j ∧ RowA wr u ob (logOf (H.take j) t) ∧ (∀ c, ob = some c → w.heap.size ≤ c) ∧ But (fun _ => False) w wr)
  case atStart => exact ⟨0, none, by omega, rfl, Row.nil _ _ _, (fun k hk => by cases hk), But.refl _ _⟩
  case round =>
    obtain ⟨j, ob, hj, rfl, hU, hO, hB⟩ := hrel
    have HU := Lib.hid hU
    have HO := Lib.hid hO
    have HB := Lib.hid hB
    obtain ⟨ua, uc, hu, huc, huc2⟩ := hU.val
    subst hu
    have hlen : (logOf (H.take j) t).length ≤ 1000 := by
      have h1 := logOf_le (H.take j) t
      have h2 := List.length_take_le j H
      omega
    clear hU hO hB
    by_cases hlt : j < n
    · have HRw := Lib.hid (HR.out.but HB.out (fun _ _ q => q))
      obtain ⟨c, off, cp, e1, -, p4, -, p0, p1, p2, p3⟩ := rowN_at HRw.out (i := j) (by rw [← HXN.out]; exact hlt)
      obtain ⟨rfl, -, -⟩ := Value.slice.inj e1
      clear e1
      have HT := Lib.hid (logOf_take (H := H) (j := j) (by rw [← HXN.out]; exact hlt) t)
      generalize nthN H j = x at *
      obtain ⟨xt, ⟨xe, xk, xn⟩⟩ := x
      by_cases ht : xt = t
      · subst ht
        have HT2 := Lib.hid (show logOf (H.take (j + 1)) xt = logOf (H.take j) xt ++ [⟨xe, xk, xn⟩] by rw [HT.out]; exact if_pos rfl)
        obtain ⟨g, hg⟩ : ∃ g, g = logOf (H.take j) xt := ⟨_, rfl⟩
        rw [← hg] at HU HT2 hlen huc ⊢
        obtain ⟨m, hm⟩ : ∃ m, m = g.length := ⟨_, rfl⟩
        have HM := Lib.hid hm
        unfold RowA at HU
        rw [← hm] at HU hlen huc ⊢
        clear hg hm HT
        go_wp2_with (at_builtin; refine wpList_append_row _ rfl _ _ _ rfl 42 i0 (.agg #[.int .i64 0, .int .i64 0, .int .u64 0]) 3 24 Tryd.underlying47 hi hz0 hz1 hz2 rfl (by decide) _ ob m (encsA g) (HU.out.alloc _) rfl ⟨wr.heap.size, 0, none⟩ 1 1 (encA ⟨xe, xk, xn⟩) rfl rfl (new_src _ _ _) (oneCell_A _) (by unfold maxLen; omega) (by omega) ?_; intro v2 w2 o2 hR2 hB2 hN2; have HR2 := Lib.hid hR2; have HB2 := Lib.hid hB2; have HN2 := Lib.hid hN2; clear hR2 hB2 hN2)
        go_roundg (n - (j + 1))
        case measure => omega
        case rel =>
          exact ⟨j + 1, o2, by omega, by go_num, by rw [HT2.out]; unfold RowA; rw [← encsA_push, List.length_append, ← HM.out]; exact HR2.out, (fun k hk => by
            rcases HN2.out k hk with q | q
            · exact HO.out k q
            · have := HB.out.size; simp at q; omega), (HB.out.alloc _).trans' HB2.out (fun k hk => .inr (HO.out k hk))⟩
      · have ht0 : (xt == t) = false := by simpa using ht
        have HT2 := Lib.hid (show logOf (H.take (j + 1)) t = logOf (H.take j) t by rw [HT.out]; exact if_neg ht)
        clear HT ht
        go_wp2_with fail
        go_roundg (n - (j + 1))
        case measure => omega
        case rel => exact ⟨j + 1, ob, by omega, by go_num, by rw [HT2.out]; exact HU.out, HO.out, HB.out⟩
    · have HALL := Lib.hid (show logOf (H.take j) t = logOf H t by rw [List.take_of_length_le (by rw [← HXN.out]; omega)])
      go_wp2_with fail
      go_ret
      exact ⟨_, ob, rfl, by rw [← HALL.out]; exact HU.out, HO.out, HB.out⟩

end Watch
end Go.Proofs.YtldgjmgdbaeglaaDoor
