/- The program's White of layer 11, walked. -/
import Derived.Test.YtldgjmgdbaeglaaTrialRests
set_option linter.unusedVariables false
set_option linter.unusedSimpArgs false
namespace Go.Proofs.Ytldgjmgdbaeglaa
open Go.RowKit

namespace Graph

def holding (hv : Value) (ho : Option Nat) (hn : Nat) (hs : List Int) (gv : Value) (gn : Nat) (go : Option Nat) (gs : List Int) (rv : Value) (sn : Nat) (ro : Option Nat) (rs : List Int) (b : Nat) (a : Option Addr) (n cap : Nat) (ra : Option Addr) (rn rc : Nat) : List Pc :=
  [Pc.row 3 1 hv ho hn (ints hs), Pc.row 3 1 gv go gn (ints gs), Pc.row 3 1 rv ro sn (ints rs), Pc.blk b #[.slice a n cap, .slice ra rn rc] 47]
theorem holding.box {w w2 : World} {hv : Value} {ho : Option Nat} {hn : Nat} {hs : List Int} {gv : Value} {gn : Nat} {go : Option Nat} {gs : List Int} {rv : Value} {sn : Nat} {ro : Option Nat} {rs : List Int} {b : Nat} {a : Option Addr} {n cap : Nat} {ra : Option Addr} {rn rc : Nat}
    (h : Own w w2 (holding hv ho hn hs gv gn go gs rv sn ro rs b a n cap ra rn rc)) : w2.cell? ⟨b, 0, none⟩ = some (.slice a n cap) ∧ w2.cell? ⟨b, 1, none⟩ = some (.slice ra rn rc) ∧ b < w2.heap.size := by
  have h1 : Blk w2 b #[.slice a n cap, .slice ra rn rc] 47 := h.get 3 rfl
  exact ⟨h1.cell 0, h1.cell 1, h1.lt⟩

set_option maxHeartbeats 8000000 in
set_option maxRecDepth 100000 in
theorem white_any (a : Option Addr) (n cap : Nat) (l : List Nd) (ra : Option Addr) (rn rc : Nat) (R : List Int) (ca : Option Addr) (cn cc : Nat) (cnt : List Int) (da : Option Addr) (dn dc : Nat) (C : List Int) (w : World)
    (h : Nodes w a n l) (hr : Nums w ra rn R) (hc : Nums w ca cn cnt) (hd : Nums w da dn C) (hn : n ≤ 65536) (hrn : rn ≤ 1000000) (ho : ∀ i, i < n → (nd l i).out.length ≤ 1000000) (hcn : cn ≤ 1000000) (hdn : dn ≤ 1000000) (hcb : ∀ k, nthI cnt k ≤ 9223372036854775807) :
    Calls Try.prog 56 #[.agg #[.slice a n cap, .slice ra rn rc], .slice ca cn cc, .slice da dn dc] w fun e w' => ∃ m, Told (ints (whiteR l R cnt C)) m [.int .i64 (whiteE l R cnt C)] w e w' := by
  obtain ⟨i0, hi, hz0, hz1, hz2⟩ := info_parts infoInt
  have H := Lib.hid h
  have HR := Lib.hid hr
  have HC := Lib.hid hc
  have HD := Lib.hid hd
  have HL := Lib.hid h.len
  have HCL := Lib.hid hc.len
  have OUT := Lib.hid ho
  have HCB := Lib.hid hcb
  clear h hr hc hd ho hcb
  have O0 := boxed.start (w := w) (a := a) (n := n) (cap := cap) (ra := ra) (rn := rn) (rc := rc) (But.refl _ _)
  obtain ⟨k0, k1, -⟩ := boxed.cells O0
  go_enter Try.func56, Try.ntmps56
  go_wp2_with fail
  refine (trial_right a n cap l ra rn rc R ca cn cc cnt da dn dc C _ (H.out.keep O0.but) (HR.out.keep O0.but) (HC.out.keep O0.but) (HD.out.keep O0.but) (by omega) hrn OUT.out hcn hdn).mono ?_
  rintro e w2 ⟨rfl, g2⟩
  have O2 := Lib.hid (O0.same g2)
  obtain ⟨b, hb⟩ : ∃ b, b = w.heap.size := ⟨_, rfl⟩
  rw [← hb] at O2 ⊢
  clear k0 k1 O0 g2 hb
  cases htr : trialB l R cnt C with
  | false =>
    have E := Lib.hid (show whiteR l R cnt C = [] by unfold whiteR; rw [htr]; rfl)
    have E2 := Lib.hid (show whiteE l R cnt C = 1 by unfold whiteE; rw [htr]; rfl)
    clear htr
    go_wp2_with fail
    go_ret2
    refine ⟨0, .slice none 0 0, none, ?_, by rw [E.out]; exact Row.nil _ _ _, fun k hk => (by cases hk), O2.out.but⟩
    rw [E2.out]; rfl
  | true =>
    have TP := Lib.hid (trial_parts htr)
    have RP := Lib.hid (right_parts TP.out.1)
    have HTR := Lib.hid htr
    have ER := Lib.hid (show restsR l R cnt C = restsAt l (ksOf l C) cnt (ksOf l C) by unfold restsR; rw [if_pos htr])
    have E := Lib.hid (show whiteR l R cnt C = whiteAt l (reachR l R (heldAt l (ksOf l C) cnt (ksOf l C))) (ksOf l C) by unfold whiteR; rw [if_pos htr])
    have E2 := Lib.hid (show whiteE l R cnt C = 0 by unfold whiteE; rw [if_pos htr])
    obtain ⟨k0, k1, hbl⟩ := boxed.cells O2.out
    clear htr
    go_wp2_with fail
    refine (rests_any a n cap l ra rn rc R ca cn cc cnt da dn dc C _ (H.out.keep O2.out.but) (HR.out.keep O2.out.but) (HC.out.keep O2.out.but) (HD.out.keep O2.out.but) hn hrn OUT.out hcn hdn HCB.out).mono ?_
    rintro e w3 ⟨sn, v3, ro, rfl, hR3, hN3, g3⟩
    obtain ⟨rva, rcap, rfl, -, -⟩ := hR3.val
    rw [ER.out] at hR3
    have O3 := Lib.hid (O2.out.drop.add (q := Pc.row 3 1 (.slice rva sn rcap) ro sn (ints (restsAt l (ksOf l C) cnt (ksOf l C)))) hR3 g3 (fun k hk => hN3 k hk))
    have hB3 : Blk w3 b #[.slice a n cap, .slice ra rn rc] 47 := O3.out.get 1 rfl
    clear k0 k1 hbl
    have k0 : w3.cell? ⟨b, 0, none⟩ = some (.slice a n cap) := hB3.cell 0
    have k1 : w3.cell? ⟨b, 1, none⟩ = some (.slice ra rn rc) := hB3.cell 1
    have hbl := hB3.lt
    have hsn : (ksOf l C).length = sn := by rw [← hR3.ints_len, restsAt_len]
    have HSN := Lib.hid hsn
    clear hR3 hN3 g3 hB3 O2 hsn ER
    go_wp2_with fail
    refine (gray_any a n cap l ra rn rc R da dn dc C _ (H.out.keep O3.out.but) (HR.out.keep O3.out.but) (HD.out.keep O3.out.but) hn hrn OUT.out hdn).mono ?_
    rintro e w5 ⟨gn, v5, go, rfl, hR5, hN5, g5⟩
    obtain ⟨gva, gcap, rfl, -, -⟩ := hR5.val
    rw [gray_ks TP.out.1 TP.out.2.1] at hR5
    have O5 := Lib.hid (O3.out.add (q := Pc.row 3 1 (.slice gva gn gcap) go gn (ints (idsAt l (ksOf l C)))) hR5 g5 (fun k hk => hN5 k hk))
    obtain ⟨ks, hks⟩ : ∃ ks, ksOf l C = ks := ⟨_, rfl⟩
    rw [hks] at hR5 E O5 HSN
    have KIN := Lib.hid (show ∀ i, i ∈ ks → i < n from fun i hi => by rw [← hks] at hi; rw [← HL.out]; exact (ksOf_mem.1 hi).1)
    have KLN := Lib.hid (show ks.length ≤ n by rw [← hks, ← HL.out]; exact ksOf_len l C)
    have hgn : ks.length = gn := by rw [← hR5.ints_len, idsAt_len]
    have hgb : gn ≤ n := by rw [← hgn]; exact KLN.out
    obtain rfl : sn = gn := by rw [← hgn]; exact HSN.out.symm
    have HGN := Lib.hid hgn
    have OA := Lib.hid (show Own w w5 (holding (.slice none 0 0) none 0 (heldAt l ks cnt (ks.take 0)) (.slice gva sn gcap) sn go (idsAt l ks) (.slice rva sn rcap) sn ro (restsAt l ks cnt ks) b a n cap ra rn rc) from O5.out.add (q := Pc.row 3 1 (.slice none 0 0) none 0 (ints [])) (Row.nil _ _ _) (But.refl _ _) (fun k q => by cases q))
    clear hR5 hN5 g5 hks hgn k0 k1 hbl O5 O3 HSN
    go_wp2_with fail
    go_loopg [9, 33] sn (fun k v iv wz => ∃ (q m : Nat) (oz : Option Nat), q + k = sn ∧ iv = .int .i64 q ∧ m ≤ q ∧ Own w wz (holding v oz m (heldAt l ks cnt (ks.take q)) (.slice gva sn gcap) sn go (idsAt l ks) (.slice rva sn rcap) sn ro (restsAt l ks cnt ks) b a n cap ra rn rc))
    case atStart => exact ⟨0, 0, none, by omega, rfl, Nat.le_refl _, OA.out⟩
    case round =>
      clear OA
      obtain ⟨q, m, oz, hq, rfl, hmq, hO⟩ := hrel
      have hRw : Row wr 3 1 _ oz m (ints (heldAt l ks cnt (ks.take q))) := hO.get 0 rfl
      obtain ⟨av, acap, rfl, -, -⟩ := hRw.val
      obtain ⟨k0, k1, hbl⟩ := holding.box hO
      have HRW := Lib.hid hRw
      have HO := Lib.hid hO
      clear hRw hO
      by_cases hqn : q < sn
      · have hqk : q < ks.length := by rw [HGN.out]; exact hqn
        obtain ⟨gb, goff, rfl, -, hgl, cg, -, -⟩ := row_nth (show Row wr 3 1 (.slice gva sn gcap) go sn (ints (idsAt l ks)) from HO.out.get 1 rfl) hqn
        obtain ⟨rb, roff, rfl, -, hrl, cr, -, -⟩ := row_nth (show Row wr 3 1 (.slice rva sn rcap) ro sn (ints (restsAt l ks cnt ks)) from HO.out.get 2 rfl) hqn
        rw [idsAt_nth hqk] at cg
        rw [restsAt_nth hqk] at cr
        have TK := Lib.hid (heldAt_snoc l ks cnt (ks.take q) (nthK ks q))
        rw [← take_nthK hqk] at TK
        obtain ⟨y, hy⟩ : ∃ y, (nd l (nthK ks q)).id = y := ⟨_, rfl⟩
        obtain ⟨v, hv⟩ : ∃ v, restK l ks cnt (nthK ks q) = v := ⟨_, rfl⟩
        rw [hy] at cg TK
        rw [hv] at cr TK
        clear hy hv
        by_cases hp : 0 < v
        · have TK2 := Lib.hid (show heldAt l ks cnt (ks.take (q + 1)) = heldAt l ks cnt (ks.take q) ++ [y] by rw [TK.out, if_pos hp])
          clear TK
          go_wp2_with ((at_builtin; refine wpList_append_row _ rfl _ _ _ rfl 3 i0 (.int .i64 0) 1 8 Try.underlying43 hi hz0 hz1 hz2 rfl (by decide) (.slice av m acap) oz m (ints (heldAt l ks cnt (ks.take q))) (HRW.out.alloc _) rfl ⟨wr.heap.size, 0, none⟩ 1 1 [.int .i64 y] rfl rfl (new_src _ _ _) (by simp [Value.oneCell']) (by unfold maxLen; omega) (by omega) ?_; intro v4 w4 o4 hR4 hB4 hN4; obtain ⟨a4, cap4, rfl, -, -⟩ := hR4.val; have O5 := Lib.hid (HO.out.put 0 (q := Pc.row 3 1 (.slice a4 (m + 1) cap4) o4 (m + 1) (ints (heldAt l ks cnt (ks.take (q + 1))))) rfl (by show Row _ _ _ _ _ _ _; rw [TK2.out, ints_push]; exact hR4) (((But.refl _ wr).alloc _).trans hB4) (fun k hk => by rcases hN4 k hk with z | z; exact .inl z; (try simp at z); exact .inr (by omega))); clear hR4 hB4 hN4))
          go_roundg (sn - (q + 1))
          case measure => omega
          case rel => exact ⟨q + 1, m + 1, o4, by omega, by go_num, by omega, O5.out⟩
        · have TK2 := Lib.hid (show heldAt l ks cnt (ks.take (q + 1)) = heldAt l ks cnt (ks.take q) by rw [TK.out, if_neg hp])
          clear TK
          have hp2 : v ≤ 0 := by omega
          clear hp
          go_wp2_with fail
          go_roundg (sn - (q + 1))
          case measure => omega
          case rel => exact ⟨q + 1, m, oz, by omega, by go_num, by omega, by rw [TK2.out]; exact HO.out⟩
      · obtain rfl : q = sn := by omega
        have TALL := Lib.hid (show ks.take q = ks from List.take_of_length_le (by rw [HGN.out]; exact Nat.le_refl _))
        rw [TALL.out] at HO HRW
        clear hqn
        go_wp2_with fail
        refine (reach_any a n cap l ra rn rc R av m acap (heldAt l ks cnt ks) _ (H.out.keep HO.out.but) (HR.out.keep HO.out.but) HRW.out.nums hn hrn (by omega) OUT.out).mono ?_
        rintro e w6 ⟨bn, v6, bo, rfl, hR6, hN6, g6⟩
        obtain ⟨bva, bcap, rfl, -, -⟩ := hR6.val
        have hbn : bn ≤ 65536 := by have := reachR_len l R (heldAt l ks cnt ks); rw [hR6.ints_len, HL.out] at this; omega
        have HRI := Lib.hid (reach_rises l R (heldAt l ks cnt ks))
        obtain ⟨black, hbk⟩ : ∃ black, reachR l R (heldAt l ks cnt ks) = black := ⟨_, rfl⟩
        rw [hbk] at hR6 HRI E
        have GR6 : Row w6 3 1 (.slice gva q gcap) go q (ints (idsAt l ks)) := (HO.out.same g6).get 1 rfl
        have O6 : Own w w6 [Pc.row 3 1 (.slice none 0 0) none 0 (ints (whiteAt l black (ks.take 0))), Pc.row 3 1 (.slice bva bn bcap) bo bn (ints black), Pc.row 3 1 (.slice gva q gcap) go q (ints (idsAt l ks))] := by
          have e0 : Own w w6 [] := Own.nil (HO.out.but.trans g6)
          have hz := HO.out.but.size
          have e1 := (HO.out.drop).add (q := Pc.row 3 1 (.slice bva bn bcap) bo bn (ints black)) hR6 g6 (fun k hk => hN6 k hk)
          have e2 := e1.add (q := Pc.row 3 1 (.slice none 0 0) none 0 (ints [])) (Row.nil _ _ _) (But.refl _ _) (fun k q => by cases q)
          exact ⟨fun i hi => by
            match i, hi with
            | 0, _ => exact e2.get 0 rfl
            | 1, _ => exact e2.get 1 rfl
            | 2, _ => exact e2.get 2 rfl, fun i j hi hj ne => by
            have hi' : i < 3 := hi
            have hj' : j < 3 := hj
            have := e2.apart i j (by simp; omega) (by simp; omega) ne
            match i, j, hi', hj', this with
            | 0, 0, _, _, h => exact h
            | 0, 1, _, _, h => exact h
            | 0, 2, _, _, h => exact h
            | 1, 0, _, _, h => exact h
            | 1, 1, _, _, h => exact h
            | 1, 2, _, _, h => exact h
            | 2, 0, _, _, h => exact h
            | 2, 1, _, _, h => exact h
            | 2, 2, _, _, h => exact h, fun i hi k hk => by
            match i, hi with
            | 0, _ => exact e2.new 0 (by simp) k hk
            | 1, _ => exact e2.new 1 (by simp) k hk
            | 2, _ => exact e2.new 2 (by simp) k hk, e2.but⟩
        have O6 := Lib.hid O6
        clear hR6 hN6 g6 hbk GR6 HO HRW k0 k1 hbl
        go_wp2_with fail
        go_loopg [10, 53] q (fun k v iv wz => ∃ (t m : Nat) (oz : Option Nat), t + k = q ∧ iv = .int .i64 t ∧ m ≤ t ∧ Own w wz [Pc.row 3 1 v oz m (ints (whiteAt l black (ks.take t))), Pc.row 3 1 (.slice bva bn bcap) bo bn (ints black), Pc.row 3 1 (.slice gva q gcap) go q (ints (idsAt l ks))])
        case atStart => exact ⟨0, 0, none, by omega, rfl, Nat.le_refl _, O6.out⟩
        case round =>
          clear O6
          obtain ⟨t, m2, oy, ht, rfl, hmt, hO⟩ := hrel
          have hRw : Row wr 3 1 _ oy m2 (ints (whiteAt l black (ks.take t))) := hO.get 0 rfl
          obtain ⟨av2, acap2, rfl, -, -⟩ := hRw.val
          have HRW := Lib.hid hRw
          have HO := Lib.hid hO
          clear hRw hO
          by_cases htn : t < q
          · have hqk : t < ks.length := by rw [HGN.out]; exact htn
            obtain ⟨gb, goff, rfl, -, hgl, cg, -, -⟩ := row_nth (show Row wr 3 1 (.slice gva q gcap) go q (ints (idsAt l ks)) from HO.out.get 2 rfl) htn
            rw [idsAt_nth hqk] at cg
            have TK := Lib.hid (whiteAt_snoc l black (ks.take t) (nthK ks t))
            rw [← take_nthK hqk] at TK
            obtain ⟨y, hy⟩ : ∃ y, (nd l (nthK ks t)).id = y := ⟨_, rfl⟩
            rw [hy] at cg TK
            clear hy
            have BNH := Lib.hid (show Row wr 3 1 (.slice bva bn bcap) bo bn (ints black) from HO.out.get 1 rfl).nums
            go_wp2_with fail
            refine (search_any bva bn bcap black y _ BNH.out (by omega) HRI.out).mono ?_
            rintro e w7 ⟨rfl, qd, hqd⟩
            have HO7 := Lib.hid (show Own w w7 _ from by rw [hqd]; exact HO.out.drewN qd)
            have HRW7 := Lib.hid (show Row w7 3 1 (.slice av2 m2 acap2) oy m2 (ints (whiteAt l black (ks.take t))) from HO7.out.get 0 rfl)
            clear hqd HO HRW BNH cg hgl
            by_cases hx : y ∈ black
            · have TK2 := Lib.hid (show whiteAt l black (ks.take (t + 1)) = whiteAt l black (ks.take t) by rw [TK.out, if_pos hx])
              rw [decide_eq_true hx]
              clear hx TK
              go_wp2_with fail
              go_roundg (q - (t + 1))
              case measure => omega
              case rel => exact ⟨t + 1, m2, oy, by omega, by go_num, by omega, by rw [TK2.out]; exact HO7.out⟩
            · have TK2 := Lib.hid (show whiteAt l black (ks.take (t + 1)) = whiteAt l black (ks.take t) ++ [y] by rw [TK.out, if_neg hx])
              rw [decide_eq_false hx]
              clear hx TK
              go_wp2_with ((at_builtin; refine wpList_append_row _ rfl _ _ _ rfl 3 i0 (.int .i64 0) 1 8 Try.underlying43 hi hz0 hz1 hz2 rfl (by decide) (.slice av2 m2 acap2) oy m2 (ints (whiteAt l black (ks.take t))) (HRW7.out.alloc _) rfl ⟨w7.heap.size, 0, none⟩ 1 1 [.int .i64 y] rfl rfl (new_src _ _ _) (by simp [Value.oneCell']) (by unfold maxLen; omega) (by omega) ?_; intro v4 w4 o4 hR4 hB4 hN4; obtain ⟨a4, cap4, rfl, -, -⟩ := hR4.val; have O5 := Lib.hid (HO7.out.put 0 (q := Pc.row 3 1 (.slice a4 (m2 + 1) cap4) o4 (m2 + 1) (ints (whiteAt l black (ks.take (t + 1))))) rfl (by show Row _ _ _ _ _ _ _; rw [TK2.out, ints_push]; exact hR4) (((But.refl _ w7).alloc _).trans hB4) (fun k hk => by rcases hN4 k hk with z | z; exact .inl z; (try simp at z); exact .inr (by omega))); clear hR4 hB4 hN4))
              go_roundg (q - (t + 1))
              case measure => omega
              case rel => exact ⟨t + 1, m2 + 1, o4, by omega, by go_num, by omega, O5.out⟩
          · obtain rfl : t = q := by omega
            go_wp2_with fail
            go_ret2
            refine ⟨m2, .slice av2 m2 acap2, oy, ?_, ?_, fun k hk => HO.out.new 0 (by simp) k hk, HO.out.but⟩
            · rw [E2.out]; rfl
            · rw [E.out]
              have hfin := HRW.out
              rw [TALL.out] at hfin
              exact hfin

end Graph
end Go.Proofs.Ytldgjmgdbaeglaa
