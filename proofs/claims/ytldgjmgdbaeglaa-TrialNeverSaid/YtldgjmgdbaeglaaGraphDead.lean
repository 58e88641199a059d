/- The program's Dead of layer 10, walked. -/
import Derived.Test.YtldgjmgdbaeglaaGraphReach
import Derived.Test.YtldgjmgdbaeglaaGraphRef6
set_option linter.unusedVariables false
set_option linter.unusedSimpArgs false
namespace Go.Proofs.Ytldgjmgdbaeglaa
open Go.RowKit

namespace Graph

theorem tellTo_len (l : List Nd) (s : List Bool) (j : Nat) : (tellTo l s j).length ≤ j := by
  unfold tellTo
  rw [List.length_map]
  exact Nat.le_trans (List.length_filter_le _ _) (by rw [List.length_range]; exact Nat.le_refl _)
theorem reachR_len (l : List Nd) (R f : List Int) : (reachR l R f).length ≤ l.length := by
  unfold reachR
  split
  · exact tellTo_len _ _ _
  · exact Nat.zero_le _
theorem tellTo_mem {l : List Nd} {s : List Bool} {x : Int} {j : Nat} : x ∈ tellTo l s j ↔ ∃ i, i < j ∧ nthB s i = true ∧ (nd l i).id = x := by
  unfold tellTo
  rw [List.mem_map]
  constructor
  · rintro ⟨i, hi, e⟩
    rw [List.mem_filter, List.mem_range] at hi
    exact ⟨i, hi.1, hi.2, e⟩
  · rintro ⟨i, hi, h, e⟩
    exact ⟨i, by rw [List.mem_filter, List.mem_range]; exact ⟨hi, h⟩, e⟩
theorem rises_push {xs : List Int} {x : Int} (h : Rises xs) (hx : ∀ y, y ∈ xs → y < x) : Rises (xs ++ [x]) := fun i k hik hk => by
  rw [List.length_append] at hk
  simp only [List.length_cons, List.length_nil] at hk
  rw [nthI_push, nthI_push, if_pos (by omega)]
  by_cases c : k < xs.length
  · rw [if_pos c]; exact h i k hik c
  · rw [if_neg c, if_pos (by omega)]
    exact hx _ (nthI_mem (by omega))
theorem tell_rises {l : List Nd} {s : List Bool} (hr : riseB (idsOf l) = true) : ∀ j, j ≤ l.length → Rises (tellTo l s j)
  | 0, _ => fun i k hik hk => absurd hk (Nat.not_lt_zero k)
  | j + 1, hj => by
    rw [tellTo_succ]
    split
    · refine rises_push (tell_rises hr j (by omega)) (fun y hy => ?_)
      obtain ⟨i, hi, -, rfl⟩ := tellTo_mem.1 hy
      exact rise_lt hr hi (by omega)
    · exact tell_rises hr j (by omega)
theorem reach_rises (l : List Nd) (R f : List Int) : Rises (reachR l R f) := by
  cases h : rightB l R with
  | true => rw [reachR_yes h]; exact tell_rises (right_parts h).2.1 _ (Nat.le_refl _)
  | false => rw [reachR_no h]; exact fun i k hik hk => absurd hk (Nat.not_lt_zero k)

/-- What Dead has gathered. -/
def lostTo (l : List Nd) (R live : List Int) (j : Nat) : List Int := if rightB l R = true then missTo l live j else []
theorem lostTo_dead (l : List Nd) (R : List Int) : lostTo l R (reachR l R R) l.length = deadR l R := by
  unfold lostTo deadR; rfl
theorem lostTo_in {l : List Nd} {R live : List Int} {j : Nat} (h : (nd l j).id ∈ live) : lostTo l R live (j + 1) = lostTo l R live j := by
  unfold lostTo; rw [missTo_succ, if_pos h]
theorem lostTo_out {l : List Nd} {R live : List Int} {j : Nat} (h : (nd l j).id ∉ live) (hr : rightB l R = true) : lostTo l R live (j + 1) = lostTo l R live j ++ [(nd l j).id] := by
  unfold lostTo; rw [missTo_succ, if_neg h, if_pos hr, if_pos hr]
theorem lostTo_wrong {l : List Nd} {R live : List Int} {j k : Nat} (hr : rightB l R = false) : lostTo l R live j = lostTo l R live k := by
  unfold lostTo; rw [hr]; rfl

set_option maxHeartbeats 8000000 in
set_option maxRecDepth 100000 in
theorem dead_any (a : Option Addr) (n cap : Nat) (l : List Nd) (ra : Option Addr) (rn rc : Nat) (R : List Int) (w : World) (h : Nodes w a n l) (hr : Nums w ra rn R)
    (hn : n ≤ 65536) (hrn : rn ≤ 1000000) (ho : ∀ i, i < n → (nd l i).out.length ≤ 1000000) :
    Calls Try.prog 33 #[.agg #[.slice a n cap, .slice ra rn rc]] w fun e w' => ∃ m, Copied (ints (deadR l R)) m w e w' := by
  obtain ⟨i0, hi, hz0, hz1, hz2⟩ := info_parts infoInt
  have H := Lib.hid h
  have HR := Lib.hid hr
  have HL := Lib.hid h.len
  have OUT := Lib.hid ho
  have HLN := h.len
  have hlen := reachR_len l R R
  rw [h.len] at hlen
  have HLEN := Lib.hid hlen
  clear h hr ho HLN hlen
  have O0 := boxed.start (w := w) (a := a) (n := n) (cap := cap) (ra := ra) (rn := rn) (rc := rc) (But.refl _ _)
  obtain ⟨k0, k1, -⟩ := boxed.cells O0
  go_enter Try.func33, Try.ntmps33
  go_wp2_with fail
  refine (reach_any a n cap l ra rn rc R ra rn rc R _ (H.out.keep O0.but) (HR.out.keep O0.but) (HR.out.keep O0.but) hn hrn hrn OUT.out).mono ?_
  rintro e w3 ⟨lm, lv, lo, rfl, hRl, hNl, hBl⟩
  obtain ⟨la, lcap, rfl, -, -⟩ := hRl.val
  have LV := Lib.hid hRl.nums
  have hlm : lm ≤ 1000000 := by have := hRl.nums.len; have := HLEN.out; omega
  have O3 := Lib.hid (O0.same hBl)
  obtain ⟨b, hb⟩ : ∃ b, b = w.heap.size := ⟨_, rfl⟩
  rw [← hb] at O3 ⊢
  clear k0 k1 hRl hNl hBl O0 hb
  obtain ⟨k0, k1, hbl⟩ := boxed.cells O3.out
  have BX := Lib.hid (show Blk w3 b #[.slice a n cap, .slice ra rn rc] 47 from O3.out.get 1 rfl)
  obtain ⟨live, hlive⟩ : ∃ live, reachR l R R = live := ⟨_, rfl⟩
  have HRI := Lib.hid (show Rises live from by rw [← hlive]; exact reach_rises l R R)
  rw [hlive] at LV
  have HLV := Lib.hid (show lostTo l R live n = deadR l R by rw [← hlive, ← HL.out]; exact lostTo_dead l R)
  have H3 := Lib.hid (H.out.keep O3.out.but)
  have HR3 := Lib.hid (HR.out.keep O3.out.but)
  have G3 := Lib.hid O3.out.but
  clear hlive O3
  have OA : Own w3 w3 [Pc.row 3 1 (.slice none 0 0) none 0 (ints (lostTo l R live 0))] := (Own.nil (But.refl _ _)).add (q := Pc.row 3 1 (.slice none 0 0) none 0 (ints (lostTo l R live 0))) (by have e : lostTo l R live 0 = [] := by { unfold lostTo; split <;> rfl }; rw [e]; exact Row.nil _ _ _) (But.refl _ _) (fun k q => by cases q)
  have OA := Lib.hid OA
  go_wp2_with fail
  go_loopg [4, 16] n (fun k v iv wr => ∃ (m q : Nat) (o : Option Nat), m + k = n ∧ iv = .int .i64 m ∧ q ≤ m ∧ Own w3 wr [Pc.row 3 1 v o q (ints (lostTo l R live m))])
  case atStart => exact ⟨0, 0, none, by omega, rfl, Nat.le_refl _, OA.out⟩
  case round =>
    clear OA k0 k1 hbl
    obtain ⟨m, q, o, hm, rfl, hqm, hO⟩ := hrel
    have hRw : Row wr 3 1 _ o q (ints (lostTo l R live m)) := hO.get 0 rfl
    obtain ⟨av, acap, rfl, -, -⟩ := hRw.val
    have HRW := Lib.hid hRw
    have HO := Lib.hid hO
    have B1 := BX.out.but hO.but (fun q => q)
    have k0 : wr.cell? ⟨b, 0, none⟩ = some (.slice a n cap) := B1.cell 0
    have k1 : wr.cell? ⟨b, 1, none⟩ = some (.slice ra rn rc) := B1.cell 1
    have hbl := B1.lt
    have HB1 := Lib.hid B1
    clear hRw hO B1
    by_cases hmn : m < n
    · obtain ⟨nb, off, oa, on, oc, rfl, hnb, c0, c1, -, -, -⟩ := (H3.out.keep HO.out.but).at_ m hmn
      obtain ⟨x, hx⟩ : ∃ x, (nd l m).id = x := ⟨_, rfl⟩
      rw [hx] at c0
      have G1 := (But.refl (fun _ => False) wr).alloc (.cells #[.int .i64 x, .slice oa on oc] 54)
      have LV2 := Lib.hid ((LV.out.keep HO.out.but).keep G1)
      have NB := Lib.hid (Blk.new wr #[.int .i64 x, .slice oa on oc] 54)
      have GG1 := Lib.hid G1
      have HX := Lib.hid hx
      clear hx G1
      go_wp2_with fail
      refine (search_any la lm lcap live x _ LV2.out (by omega) HRI.out).mono ?_
      rintro e wa ⟨rfl, qd, hqd⟩
      have G2 := Lib.hid (show But (fun _ => False) wr wa from by rw [hqd]; exact GG1.out.drewN qd)
      have NB2 := Lib.hid (show Blk wa wr.heap.size #[.int .i64 x, .slice oa on oc] 54 from by rw [hqd]; exact NB.out.drewN qd)
      have HO2 := Lib.hid (HO.out.same G2.out)
      have HB2 := Lib.hid (HB1.out.but G2.out (fun q => q))
      clear hqd NB GG1
      have k0 : wa.cell? ⟨b, 0, none⟩ = some (.slice (some ⟨nb, off, none⟩) n cap) := HB2.out.cell 0
      have k1 : wa.cell? ⟨b, 1, none⟩ = some (.slice ra rn rc) := HB2.out.cell 1
      have hbl2 := HB2.out.lt
      by_cases hx : x ∈ live
      · have HT2 := Lib.hid (show lostTo l R live (m + 1) = lostTo l R live m from lostTo_in (by rw [HX.out]; exact hx))
        rw [decide_eq_true hx]
        clear hx
        go_wp2_with fail
        go_roundg (n - (m + 1))
        case measure => omega
        case rel => exact ⟨m + 1, q, o, by omega, by go_num, by omega, by rw [HT2.out]; exact HO2.out⟩
      · rw [decide_eq_false hx]
        have HXN := Lib.hid (show (nd l m).id ∉ live from by rw [HX.out]; exact hx)
        clear hx
        go_wp2_with fail
        refine (right_any (some ⟨nb, off, none⟩) n cap l ra rn rc R _ (H3.out.keep HO2.out.but) (HR3.out.keep HO2.out.but) (by omega) hrn OUT.out).mono ?_
        rintro e wc ⟨rfl, gc⟩
        have HO3 := Lib.hid (HO2.out.same gc)
        have RW3 := Lib.hid (show Row wc 3 1 (.slice av q acap) o q (ints (lostTo l R live m)) from HO3.out.get 0 rfl)
        have NB3 := NB2.out.but gc (fun q => q)
        have d0 : wc.cell? ⟨wr.heap.size, 0, none⟩ = some (.int .i64 x) := NB3.cell 0
        have hnl := NB3.lt
        clear gc NB3 k0 k1 c0 c1
        cases hrt : rightB l R with
        | true =>
          have HT2 := Lib.hid (show lostTo l R live (m + 1) = lostTo l R live m ++ [x] from by rw [lostTo_out HXN.out hrt, HX.out])
          clear hrt
          go_wp2_with ((at_builtin; refine wpList_append_row _ rfl _ _ _ rfl 3 i0 (.int .i64 0) 1 8 Try.underlying43 hi hz0 hz1 hz2 rfl (by decide) (.slice av q acap) o q (ints (lostTo l R live m)) (RW3.out.alloc _) rfl ⟨wc.heap.size, 0, none⟩ 1 1 [.int .i64 x] rfl rfl (new_src _ _ _) (by simp [Value.oneCell']) (by unfold maxLen; omega) (by omega) ?_; intro v4 w4 o4 hR4 hB4 hN4; obtain ⟨a4, cap4, rfl, -, -⟩ := hR4.val; have O5 := Lib.hid (HO3.out.put 0 (q := Pc.row 3 1 (.slice a4 (q + 1) cap4) o4 (q + 1) (ints (lostTo l R live (m + 1)))) rfl (by show Row _ _ _ _ _ _ _; rw [HT2.out, ints_push]; exact hR4) (((But.refl _ wc).alloc _).trans hB4) (fun k hk => by rcases hN4 k hk with z | z; exact .inl z; (try simp at z); exact .inr (by omega))); clear hR4 hB4 hN4))
          go_roundg (n - (m + 1))
          case measure => omega
          case rel => exact ⟨m + 1, q + 1, o4, by omega, by go_num, by omega, O5.out⟩
        | false =>
          have HT2 := Lib.hid (show lostTo l R live (m + 1) = lostTo l R live m from lostTo_wrong hrt)
          clear hrt
          go_wp2_with fail
          go_roundg (n - (m + 1))
          case measure => omega
          case rel => exact ⟨m + 1, q, o, by omega, by go_num, by omega, by rw [HT2.out]; exact HO3.out⟩
    · obtain rfl : m = n := by omega
      go_wp2_with fail
      go_ret
      refine ⟨q, ?_⟩
      rw [← HLV.out]
      have hz := G3.out.size
      exact ⟨_, o, rfl, HRW.out, fun k hk => by have := HO.out.new 0 (by simp) k hk; omega, G3.out.trans HO.out.but⟩

end Graph
end Go.Proofs.Ytldgjmgdbaeglaa
