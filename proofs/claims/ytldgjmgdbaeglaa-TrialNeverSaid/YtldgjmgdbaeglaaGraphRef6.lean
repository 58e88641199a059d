/- The document's Dead of layer 10, walked. -/
import Derived.Test.YtldgjmgdbaeglaaGraphRef5
set_option linter.unusedVariables false
set_option linter.unusedSimpArgs false
namespace Go.Proofs.Ytldgjmgdbaeglaa
open Go.RowKit

namespace Graph

/-- The numbers of the first j nodes that are none of some. -/
def missTo (l : List Nd) (live : List Int) (j : Nat) : List Int := ((List.range j).filter (fun i => !decide ((nd l i).id ∈ live))).map (fun i => (nd l i).id)
theorem missTo_succ (l : List Nd) (live : List Int) (j : Nat) : missTo l live (j + 1) = if (nd l j).id ∈ live then missTo l live j else missTo l live j ++ [(nd l j).id] := by
  unfold missTo
  rw [List.range_succ, List.filter_append, List.map_append]
  by_cases h : (nd l j).id ∈ live <;> simp [h]
def deadR (l : List Nd) (R : List Int) : List Int := if rightB l R = true then missTo l (reachR l R R) l.length else []
theorem deadR_yes {l : List Nd} {R : List Int} (h : rightB l R = true) : deadR l R = missTo l (reachR l R R) l.length := by unfold deadR; rw [if_pos h]
theorem deadR_no {l : List Nd} {R : List Int} (h : rightB l R = false) : deadR l R = [] := by unfold deadR; rw [h]; rfl

set_option maxHeartbeats 4000000 in
set_option maxRecDepth 100000 in
theorem ref_dead (a : Option Addr) (n cap : Nat) (l : List Nd) (ra : Option Addr) (rn rc : Nat) (R : List Int) (w : World) (h : Nodes w a n l) (hr : Nums w ra rn R)
    (hn : n ≤ 65536) (hrn : rn ≤ 1000000) (ho : ∀ i, i < n → (nd l i).out.length ≤ 1000000) (hm : (reachR l R R).length ≤ 1000000) :
    Calls Try.prog 34 #[.agg #[.slice a n cap, .slice ra rn rc]] w fun e w' => ∃ m, Copied (ints (deadR l R)) m w e w' := by
  obtain ⟨i0, hi, hz0, hz1, hz2⟩ := info_parts infoInt
  have H := Lib.hid h
  have HR := Lib.hid hr
  have HL := Lib.hid h.len
  have OUT := Lib.hid ho
  have HM := Lib.hid hm
  clear h hr ho hm
  have G0 := (But.refl (fun _ => False) w).alloc (.cells #[.slice a n cap, .slice ra rn rc] 47)
  have O0 := boxed.start (w := w) (a := a) (n := n) (cap := cap) (ra := ra) (rn := rn) (rc := rc) (But.refl _ _)
  obtain ⟨k0, k1, -⟩ := boxed.cells O0
  go_enter Try.func34, Try.ntmps34
  go_wp2_with fail
  refine (ref_right a n cap l ra rn rc R _ (H.out.keep G0) (HR.out.keep G0) (by omega) (by omega)).mono ?_
  rintro e w2 ⟨rfl, g2⟩
  have O2 := Lib.hid (O0.same g2)
  obtain ⟨b, hb⟩ : ∃ b, b = w.heap.size := ⟨_, rfl⟩
  rw [← hb] at O2 ⊢
  clear k0 k1 O0 G0 g2 hb
  cases hrt : rightB l R with
  | false =>
    have HRT := Lib.hid hrt
    clear hrt
    go_wp2_with fail
    go_ret
    refine ⟨0, ?_⟩
    rw [deadR_no HRT.out]
    exact boxed.copied O2.out
  | true =>
    have HRT := Lib.hid hrt
    obtain ⟨k0, k1, hbl⟩ := boxed.cells O2.out
    clear hrt
    go_wp2_with fail
    refine (ref_reach a n cap l ra rn rc R ra rn rc R _ (H.out.keep O2.out.but) (HR.out.keep O2.out.but) (HR.out.keep O2.out.but) hn hrn hrn OUT.out).mono ?_
    rintro e w3 ⟨lm, lv, lo, rfl, hRl, hNl, hBl⟩
    obtain ⟨la, lcap, rfl, -, -⟩ := hRl.val
    have LV := Lib.hid hRl.nums
    have hlm : lm ≤ 1000000 := by have := hRl.nums.len; have := HM.out; omega
    have O3 := Lib.hid (O2.out.same hBl)
    clear k0 k1 hbl hRl hNl hBl
    obtain ⟨k0, k1, hbl⟩ := boxed.cells O3.out
    have BX := Lib.hid (show Blk w3 b #[.slice a n cap, .slice ra rn rc] 47 from O3.out.get 1 rfl)
    obtain ⟨live, hlive⟩ : ∃ live, reachR l R R = live := ⟨_, rfl⟩
    rw [hlive] at LV
    have HLV := Lib.hid (show deadR l R = missTo l live l.length by rw [deadR_yes HRT.out, hlive])
    have H3 := Lib.hid (H.out.keep O3.out.but)
    have G3 := Lib.hid O3.out.but
    clear hlive O3 O2
    have OA : Own w3 w3 [Pc.row 3 1 (.slice none 0 0) none 0 (ints (missTo l live 0))] := (Own.nil (But.refl _ _)).add (q := Pc.row 3 1 (.slice none 0 0) none 0 (ints (missTo l live 0))) (Row.nil _ _ _) (But.refl _ _) (fun k q => by cases q)
    have OA := Lib.hid OA
    go_wp2_with fail
    go_loopg [5, 6] n (fun k v iv wr => ∃ (m q : Nat) (o : Option Nat), m + k = n ∧ iv = .int .i64 m ∧ q ≤ m ∧ Own w3 wr [Pc.row 3 1 v o q (ints (missTo l live m))])
    case atStart => exact ⟨0, 0, none, by omega, rfl, Nat.le_refl _, OA.out⟩
    case round =>
      clear OA k0 k1 hbl
      obtain ⟨m, q, o, hm, rfl, hqm, hO⟩ := hrel
      have hRw : Row wr 3 1 _ o q (ints (missTo l live m)) := hO.get 0 rfl
      obtain ⟨av, acap, rfl, -, -⟩ := hRw.val
      have HRW := Lib.hid hRw
      have HO := Lib.hid hO
      have B1 := BX.out.but hO.but (fun q => q)
      have k0 : wr.cell? ⟨b, 0, none⟩ = some (.slice a n cap) := B1.cell 0
      have k1 : wr.cell? ⟨b, 1, none⟩ = some (.slice ra rn rc) := B1.cell 1
      have hbl := B1.lt
      clear hRw hO B1
      by_cases hmn : m < n
      · obtain ⟨nb, off, oa, on, oc, rfl, hnb, c0, -, -, -, -⟩ := (H3.out.keep HO.out.but).at_ m hmn
        obtain ⟨x, hx⟩ : ∃ x, (nd l m).id = x := ⟨_, rfl⟩
        rw [hx] at c0
        have HT := Lib.hid (missTo_succ l live m)
        rw [hx] at HT
        clear hx
        have LV2 := Lib.hid (LV.out.keep HO.out.but)
        go_wp2_with fail
        refine (has_any la lm lcap live x _ LV2.out (by omega)).mono ?_
        rintro e wa ⟨rfl, rfl⟩
        by_cases hx : x ∈ live
        · have HT2 := Lib.hid (show missTo l live (m + 1) = missTo l live m by rw [HT.out, if_pos hx])
          rw [decide_eq_true hx]
          clear hx HT
          go_wp2_with fail
          go_roundg (n - (m + 1))
          case measure => omega
          case rel => exact ⟨m + 1, q, o, by omega, by go_num, by omega, by rw [HT2.out]; exact HO.out⟩
        · have HT2 := Lib.hid (show missTo l live (m + 1) = missTo l live m ++ [x] by rw [HT.out, if_neg hx])
          rw [decide_eq_false hx]
          clear hx HT
          go_wp2_with ((at_builtin; refine wpList_append_row _ rfl _ _ _ rfl 3 i0 (.int .i64 0) 1 8 Try.underlying43 hi hz0 hz1 hz2 rfl (by decide) (.slice av q acap) o q (ints (missTo l live m)) (HRW.out.alloc _) rfl ⟨wr.heap.size, 0, none⟩ 1 1 [.int .i64 x] rfl rfl (new_src _ _ _) (by simp [Value.oneCell']) (by unfold maxLen; omega) (by omega) ?_; intro v4 w4 o4 hR4 hB4 hN4; obtain ⟨a4, cap4, rfl, -, -⟩ := hR4.val; have O5 := Lib.hid (HO.out.put 0 (q := Pc.row 3 1 (.slice a4 (q + 1) cap4) o4 (q + 1) (ints (missTo l live (m + 1)))) rfl (by show Row _ _ _ _ _ _ _; rw [HT2.out, ints_push]; exact hR4) (((But.refl _ wr).alloc _).trans hB4) (fun k hk => by rcases hN4 k hk with z | z; exact .inl z; (try simp at z); exact .inr (by omega))); clear hR4 hB4 hN4))
          go_roundg (n - (m + 1))
          case measure => omega
          case rel => exact ⟨m + 1, q + 1, o4, by omega, by go_num, by omega, O5.out⟩
      · obtain rfl : m = n := by omega
        go_wp2_with fail
        go_ret
        refine ⟨q, ?_⟩
        rw [HLV.out, HL.out]
        have hz := G3.out.size
        exact ⟨_, o, rfl, HRW.out, fun k hk => by have := HO.out.new 0 (by simp) k hk; omega, G3.out.trans HO.out.but⟩

end Graph
end Go.Proofs.Ytldgjmgdbaeglaa
