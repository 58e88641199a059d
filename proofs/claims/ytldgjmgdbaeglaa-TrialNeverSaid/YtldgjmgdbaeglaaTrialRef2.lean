/- The document's right, Gray, Rests of layer 11, walked. -/
import Derived.Test.YtldgjmgdbaeglaaTrialRef
set_option linter.unusedVariables false
set_option linter.unusedSimpArgs false
namespace Go.Proofs.Ytldgjmgdbaeglaa
open Go.RowKit

namespace Graph

set_option maxHeartbeats 4000000 in
set_option maxRecDepth 100000 in
theorem ref_gray (a : Option Addr) (n cap : Nat) (l : List Nd) (ra : Option Addr) (rn rc : Nat) (R : List Int) (da : Option Addr) (dn dc : Nat) (C : List Int) (w : World)
    (h : Nodes w a n l) (hr : Nums w ra rn R) (hd : Nums w da dn C) (hn : n ≤ 65536) (hrn : rn ≤ 1000000) (ho : ∀ i, i < n → (nd l i).out.length ≤ 1000000) (hdn : dn ≤ 1000000) :
    Calls Try.prog 53 #[.agg #[.slice a n cap, .slice ra rn rc], .slice da dn dc] w fun e w' => ∃ m, Copied (ints (grayR l R C)) m w e w' := by
  have H := Lib.hid h
  have HR := Lib.hid hr
  have HD := Lib.hid hd
  have OUT := Lib.hid ho
  clear h hr hd ho
  have O0 := boxed.start (w := w) (a := a) (n := n) (cap := cap) (ra := ra) (rn := rn) (rc := rc) (But.refl _ _)
  obtain ⟨k0, k1, -⟩ := boxed.cells O0
  go_enter Try.func53, Try.ntmps53
  go_wp2_with fail
  refine (ref_right a n cap l ra rn rc R _ (H.out.keep O0.but) (HR.out.keep O0.but) (by omega) (by omega)).mono ?_
  rintro e w2 ⟨rfl, g2⟩
  have O2 := Lib.hid (O0.same g2)
  obtain ⟨b, hb⟩ : ∃ b, b = w.heap.size := ⟨_, rfl⟩
  rw [← hb] at O2 ⊢
  clear k0 k1 O0 g2 hb
  obtain ⟨k0, k1, hbl⟩ := boxed.cells O2.out
  go_wp2_with fail
  refine (ref_known a n cap l ra rn rc da dn dc C _ (H.out.keep O2.out.but) (HD.out.keep O2.out.but) (by omega) hdn).mono ?_
  rintro e w3 ⟨rfl, g3⟩
  have O3 := Lib.hid (O2.out.same g3)
  clear k0 k1 hbl g3 O2
  obtain ⟨k0, k1, hbl⟩ := boxed.cells O3.out
  have fin : grayR l R C = [] → ∃ m, Copied (ints (grayR l R C)) m w (.returned (.slice none 0 0)) w3 := fun e => ⟨0, _, none, rfl, by rw [e]; exact Row.nil _ _ _, fun k hk => (by cases hk), O3.out.but⟩
  have FIN := Lib.hid fin
  clear fin
  cases hrt : rightB l R with
  | false =>
    have E := Lib.hid (gray_wrong (C := C) hrt)
    clear hrt
    go_wp2_with fail
    go_ret
    exact FIN.out E.out
  | true =>
    clear hrt
    cases hk : knownB l C with
    | false =>
      have E := Lib.hid (gray_no (R := R) hk)
      clear hk
      go_wp2_with fail
      go_ret
      exact FIN.out E.out
    | true =>
      have E := Lib.hid (gray_reach (R := R) hk)
      clear hk
      go_wp2_with fail
      refine (ref_reach a n cap l ra rn rc R da dn dc C _ (H.out.keep O3.out.but) (HR.out.keep O3.out.but) (HD.out.keep O3.out.but) hn hrn hdn OUT.out).mono ?_
      rintro e w4 ⟨m, v, o, rfl, hR, hN, g4⟩
      go_wp2_with fail
      go_ret
      have hz := O3.out.but.size
      exact ⟨m, v, o, rfl, by rw [E.out]; exact hR, fun k hk => by have := hN k hk; omega, O3.out.but.trans g4⟩

set_option maxHeartbeats 4000000 in
set_option maxRecDepth 100000 in
theorem ref_trial (a : Option Addr) (n cap : Nat) (l : List Nd) (ra : Option Addr) (rn rc : Nat) (R : List Int) (ca : Option Addr) (cn cc : Nat) (cnt : List Int) (da : Option Addr) (dn dc : Nat) (C : List Int) (w : World)
    (h : Nodes w a n l) (hr : Nums w ra rn R) (hc : Nums w ca cn cnt) (hd : Nums w da dn C) (hn : n ≤ 1000000) (hrn : rn ≤ 1000000) (ho : ∀ i, i < n → (nd l i).out.length ≤ 1000000) (hcn : cn ≤ 1000000) (hdn : dn ≤ 1000000) :
    Calls Try.prog 84 #[.agg #[.slice a n cap, .slice ra rn rc], .slice ca cn cc, .slice da dn dc] w fun e w' => e = .returned (.bool (trialB l R cnt C)) ∧ But (fun _ => False) w w' := by
  have H := Lib.hid h
  have HR := Lib.hid hr
  have HC := Lib.hid hc
  have HD := Lib.hid hd
  have HL := Lib.hid h.len
  have HCL := Lib.hid hc.len
  have OUT := Lib.hid ho
  clear h hr hc hd ho
  have O0 := boxed.start (w := w) (a := a) (n := n) (cap := cap) (ra := ra) (rn := rn) (rc := rc) (But.refl _ _)
  obtain ⟨k0, k1, -⟩ := boxed.cells O0
  go_enter Try.func84, Try.ntmps84
  go_wp2_with fail
  refine (ref_right a n cap l ra rn rc R _ (H.out.keep O0.but) (HR.out.keep O0.but) (by omega) (by omega)).mono ?_
  rintro e w2 ⟨rfl, g2⟩
  have O2 := Lib.hid (O0.same g2)
  obtain ⟨b, hb⟩ : ∃ b, b = w.heap.size := ⟨_, rfl⟩
  rw [← hb] at O2 ⊢
  clear k0 k1 O0 g2 hb
  obtain ⟨k0, k1, hbl⟩ := boxed.cells O2.out
  go_wp2_with fail
  refine (ref_known a n cap l ra rn rc da dn dc C _ (H.out.keep O2.out.but) (HD.out.keep O2.out.but) (by omega) hdn).mono ?_
  rintro e w3 ⟨rfl, g3⟩
  have O3 := Lib.hid (O2.out.same g3)
  clear k0 k1 hbl g3 O2
  obtain ⟨k0, k1, hbl⟩ := boxed.cells O3.out
  have G3 := Lib.hid O3.out.but
  cases hrt : rightB l R with
  | false =>
    have E := Lib.hid (show trialB l R cnt C = false by unfold trialB; rw [hrt]; rfl)
    clear hrt
    go_wp2_with fail
    go_ret
    exact ⟨by rw [E.out]; rfl, G3.out⟩
  | true =>
    have HRT := Lib.hid hrt
    clear hrt
    cases hk : knownB l C with
    | false =>
      have E := Lib.hid (show trialB l R cnt C = false by unfold trialB; rw [hk, Bool.and_false]; rfl)
      clear hk
      go_wp2_with fail
      go_ret
      exact ⟨by rw [E.out]; rfl, G3.out⟩
    | true =>
      have HK := Lib.hid hk
      clear hk
      by_cases hcl : cn = n
      · have HCN := Lib.hid (show decide (cnt.length = l.length) = true from decide_eq_true (by rw [HCL.out, HL.out]; exact hcl))
        subst hcl
        go_wp2_with fail
        go_loopg [9] cn (fun k iv wr => ∃ j : Nat, j + k = cn ∧ iv = .int .i64 j ∧ (∀ t, t < j → 0 ≤ nthI cnt t) ∧ wr = w3)
        case atStart => exact ⟨0, by omega, rfl, fun t ht => absurd ht (Nat.not_lt_zero t), rfl⟩
        case round =>
          obtain ⟨j, hj, rfl, hall, rfl⟩ := hrel
          have HA := Lib.hid hall
          clear hall
          by_cases hlt : j < cn
          · obtain ⟨cb, coff, rfl, hcb, cc0⟩ := (HC.out.keep G3.out).at_ j hlt
            obtain ⟨y, hy⟩ : ∃ y, nthI cnt j = y := ⟨_, rfl⟩
            rw [hy] at cc0
            have HY := Lib.hid hy
            clear hy
            by_cases hneg : y < 0
            · have E := Lib.hid (show trialB l R cnt C = false by
                rw [← Bool.not_eq_true]
                intro q
                have := notNeg_at (trial_parts q).2.2.2 (k := j) (by rw [HCL.out]; exact hlt)
                rw [HY.out] at this; omega)
              go_wp2_with fail
              go_ret
              exact ⟨by rw [E.out]; rfl, G3.out⟩
            · have hneg2 : 0 ≤ y := by omega
              clear hneg
              have HY2 := Lib.hid (show 0 ≤ nthI cnt j by rw [HY.out]; exact hneg2)
              go_wp2_with fail
              go_roundg (cn - (j + 1))
              case measure => omega
              case rel => exact ⟨j + 1, by omega, by go_num, fun t ht => by
                by_cases e : t = j
                · subst e; exact HY2.out
                · exact HA.out t (by omega), rfl⟩
          · have E := Lib.hid (show trialB l R cnt C = true by
              unfold trialB
              rw [HRT.out, HK.out, HCN.out]
              show notNeg cnt = true
              unfold notNeg
              rw [List.all_eq_true]
              intro y hy
              obtain ⟨t, ht, rfl⟩ := mem_nthI hy
              exact decide_eq_true (HA.out t (by rw [HCL.out] at ht; omega)))
            go_wp2_with fail
            go_ret
            exact ⟨by rw [E.out]; rfl, G3.out⟩
      · have E := Lib.hid (show trialB l R cnt C = false by
          unfold trialB
          rw [show decide (cnt.length = l.length) = false from decide_eq_false (by rw [HCL.out, HL.out]; exact hcl)]; simp)
        have hd1 : ((cn : Int) == (n : Int)) = false := by rw [beq_eq_false_iff_ne]; omega
        have hd2 : ((cn : Int) != (n : Int)) = true := by simp [bne, hd1]
        have hd3 : (cn == n) = false := by rw [beq_eq_false_iff_ne]; exact hcl
        have hd4 : (cn != n) = true := by simp [bne, hd3]
        clear hcl
        go_wp2_with fail
        go_ret
        exact ⟨by rw [E.out]; rfl, G3.out⟩

def gathered (ov : Value) (oo : Option Nat) (on : Nat) (os : List Int) (gv : Value) (gn : Nat) (go : Option Nat) (gs : List Int) (b : Nat) (a : Option Addr) (n cap : Nat) (ra : Option Addr) (rn rc : Nat) : List Pc :=
  [Pc.row 3 1 ov oo on (ints os), Pc.row 3 1 gv go gn (ints gs), Pc.blk b #[.slice a n cap, .slice ra rn rc] 47]
theorem gathered.box {w w2 : World} {ov : Value} {oo : Option Nat} {on : Nat} {os : List Int} {gv : Value} {gn : Nat} {go : Option Nat} {gs : List Int} {b : Nat} {a : Option Addr} {n cap : Nat} {ra : Option Addr} {rn rc : Nat}
    (h : Own w w2 (gathered ov oo on os gv gn go gs b a n cap ra rn rc)) : w2.cell? ⟨b, 0, none⟩ = some (.slice a n cap) ∧ w2.cell? ⟨b, 1, none⟩ = some (.slice ra rn rc) ∧ b < w2.heap.size := by
  have h1 : Blk w2 b #[.slice a n cap, .slice ra rn rc] 47 := h.get 2 rfl
  exact ⟨h1.cell 0, h1.cell 1, h1.lt⟩

set_option maxHeartbeats 8000000 in
set_option maxRecDepth 100000 in
theorem ref_rests (a : Option Addr) (n cap : Nat) (l : List Nd) (ra : Option Addr) (rn rc : Nat) (R : List Int) (ca : Option Addr) (cn cc : Nat) (cnt : List Int) (da : Option Addr) (dn dc : Nat) (C : List Int) (w : World)
    (h : Nodes w a n l) (hr : Nums w ra rn R) (hc : Nums w ca cn cnt) (hd : Nums w da dn C) (hn : n ≤ 65536) (hrn : rn ≤ 1000000) (ho : ∀ i, i < n → (nd l i).out.length ≤ 1000000) (hcn : cn ≤ 1000000) (hdn : dn ≤ 1000000) (hcb : ∀ k, nthI cnt k ≤ 9223372036854775807) :
    Calls Try.prog 55 #[.agg #[.slice a n cap, .slice ra rn rc], .slice ca cn cc, .slice da dn dc] w fun e w' => ∃ m, Copied (ints (restsR l R cnt C)) m w e w' := by
  obtain ⟨i0, hi, hz0, hz1, hz2⟩ := info_parts infoInt
  have H := Lib.hid h
  have HR := Lib.hid hr
  have HC := Lib.hid hc
  have HD := Lib.hid hd
  have HL := Lib.hid h.len
  have HCL := Lib.hid hc.len
  have OUT := Lib.hid ho
  have HCB := Lib.hid hcb
  clear h hr hc hd ho hcb
  have O0 := boxed.start (w := w) (a := a) (n := n) (cap := cap) (ra := ra) (rn := rn) (rc := rc) (But.refl _ _)
  obtain ⟨k0, k1, -⟩ := boxed.cells O0
  go_enter Try.func55, Try.ntmps55
  go_wp2_with fail
  refine (ref_trial a n cap l ra rn rc R ca cn cc cnt da dn dc C _ (H.out.keep O0.but) (HR.out.keep O0.but) (HC.out.keep O0.but) (HD.out.keep O0.but) (by omega) hrn OUT.out hcn hdn).mono ?_
  rintro e w2 ⟨rfl, g2⟩
  have O2 := Lib.hid (O0.same g2)
  obtain ⟨b, hb⟩ : ∃ b, b = w.heap.size := ⟨_, rfl⟩
  rw [← hb] at O2 ⊢
  clear k0 k1 O0 g2 hb
  cases htr : trialB l R cnt C with
  | false =>
    have E := Lib.hid (show restsR l R cnt C = [] by unfold restsR; rw [htr]; rfl)
    clear htr
    go_wp2_with fail
    go_ret
    refine ⟨0, ?_⟩
    rw [E.out]
    exact boxed.copied O2.out
  | true =>
    have TP := Lib.hid (trial_parts htr)
    have E := Lib.hid (show restsR l R cnt C = restsAt l (ksOf l C) cnt (ksOf l C) by unfold restsR; rw [if_pos htr])
    have hcn2 : cn = n := by rw [← HCL.out, ← HL.out]; exact TP.out.2.2.1
    subst hcn2
    obtain ⟨k0, k1, hbl⟩ := boxed.cells O2.out
    clear htr
    go_wp2_with fail
    refine (ref_gray a cn cap l ra rn rc R da dn dc C _ (H.out.keep O2.out.but) (HR.out.keep O2.out.but) (HD.out.keep O2.out.but) hn hrn OUT.out hdn).mono ?_
    rintro e w3 ⟨gn, v3, go, rfl, hR3, hN3, g3⟩
    obtain ⟨gva, gcap, rfl, -, -⟩ := hR3.val
    obtain ⟨gs, hgs⟩ : ∃ gs, grayR l R C = gs := ⟨_, rfl⟩
    rw [hgs] at hR3
    have hgn : gn ≤ 65536 := by have := grayR_len l R C; rw [hgs, hR3.ints_len, HL.out] at this; omega
    have O3 := Lib.hid (show Own w w3 (gathered (.slice none 0 0) none 0 (restsAt l (ksOf l C) cnt (marksTo l C 0)) (.slice gva gn gcap) gn go gs b a cn cap ra rn rc) from
      (O2.out.drop.add (q := Pc.row 3 1 (.slice gva gn gcap) go gn (ints gs)) hR3 g3 (fun k hk => hN3 k hk)).add (q := Pc.row 3 1 (.slice none 0 0) none 0 (ints [])) (Row.nil _ _ _) (But.refl _ _) (fun k q => by cases q))
    have MG := Lib.hid (show ∀ j, j < cn → nthB (outTo l (firstTo l C l.length) l.length) j = decide ((nd l j).id ∈ gs) from fun j hj => by rw [← hgs]; exact mark_gray TP.out.1 TP.out.2.1 (by rw [HL.out]; exact hj))
    clear k0 k1 hbl hR3 hN3 g3 hgs O2
    obtain ⟨k0, k1, hbl⟩ := gathered.box O3.out
    go_wp2_with fail
    go_loopg [9, 10] cn (fun k v iv wz => ∃ (j m : Nat) (oz : Option Nat), j + k = cn ∧ iv = .int .i64 j ∧ m ≤ j ∧ Own w wz (gathered v oz m (restsAt l (ksOf l C) cnt (marksTo l C j)) (.slice gva gn gcap) gn go gs b a cn cap ra rn rc))
    case atStart => exact ⟨0, 0, none, by omega, rfl, Nat.le_refl _, O3.out⟩
    case round =>
      clear O3 k0 k1 hbl
      obtain ⟨j, m, oz, hj, rfl, hmj, hO⟩ := hrel
      have hRw : Row wr 3 1 _ oz m (ints (restsAt l (ksOf l C) cnt (marksTo l C j))) := hO.get 0 rfl
      obtain ⟨av, acap, rfl, -, -⟩ := hRw.val
      obtain ⟨k0, k1, hbl⟩ := gathered.box hO
      have HO := Lib.hid hO
      clear hRw hO
      by_cases hlt : j < cn
      · obtain ⟨nb, off, oa, on, oc, rfl, hnb, c0, -, -, -, -⟩ := (H.out.keep HO.out.but).at_ j hlt
        obtain ⟨x, hx⟩ : ∃ x, (nd l j).id = x := ⟨_, rfl⟩
        rw [hx] at c0
        have HX := Lib.hid hx
        have GN := Lib.hid (show Row wr 3 1 (.slice gva gn gcap) go gn (ints gs) from HO.out.get 1 rfl).nums
        have MK := Lib.hid (marksTo_succ l C j)
        rw [MG.out j hlt, hx] at MK
        clear hx
        go_wp2_with fail
        refine (has_any gva gn gcap gs x _ GN.out (by omega)).mono ?_
        rintro e wa ⟨rfl, rfl⟩
        by_cases hin : x ∈ gs
        · have MK2 := Lib.hid (show marksTo l C (j + 1) = marksTo l C j ++ [j] by rw [MK.out, if_pos (decide_eq_true hin)])
          rw [decide_eq_true hin]
          clear hin MK
          obtain ⟨cb, coff, rfl, hcb, cc0⟩ := (HC.out.keep HO.out.but).at_ j hlt
          have hy1 := HCB.out j
          have hy2 := notNeg_at TP.out.2.2.2 (k := j) (by rw [HCL.out]; exact hlt)
          obtain ⟨cj, hcj⟩ : ∃ cj, nthI cnt j = cj := ⟨_, rfl⟩
          rw [hcj] at hy1 hy2 cc0
          have HCJ := Lib.hid hcj
          clear hcj
          obtain ⟨wq, rfl⟩ : ∃ wq : World, wq = wr := ⟨_, rfl⟩
          go_wp2_with fail
          go_loopg [12, 13] cn (fun k nv iv wz => ∃ i q : Nat, i + k = cn ∧ iv = .int .i64 i ∧ nv = .int .i64 (cj - (lessL l (marksTo l C i) x : Int)) ∧ wz = wq.drewN q)
          case atStart => exact ⟨0, 0, by omega, rfl, by simp [lessL, marksTo], rfl⟩
          case round =>
            clear k0 k1 hbl c0 cc0 hcb hnb
            obtain ⟨i, q, hi2, rfl, rfl, hwz⟩ := hrel
            have HO2 := Lib.hid (show Own w wr _ by rw [hwz]; exact HO.out.drewN q)
            have HWZ := Lib.hid hwz
            clear hwz
            obtain ⟨k0, k1, hbl⟩ := gathered.box HO2.out
            by_cases hin : i < cn
            · obtain ⟨nb2, off2, oa2, on2, oc2, e2, hnb2, d0, d1, -, -, hout2⟩ := (H.out.keep HO2.out.but).at_ i hin
              simp at e2
              obtain ⟨rfl, rfl⟩ := e2
              obtain ⟨y, hy⟩ : ∃ y, (nd l i).id = y := ⟨_, rfl⟩
              rw [hy] at d0
              have hol := OUT.out i hin
              rw [hout2.len] at hol
              have OO := Lib.hid hout2
              have GN2 := Lib.hid (show Row wr 3 1 (.slice gva gn gcap) go gn (ints gs) from HO2.out.get 1 rfl).nums
              have MI := Lib.hid (marksTo_succ l C i)
              rw [MG.out i hin, hy] at MI
              have hs1 := lessL_le (l := l) (x := x) (fun z hz => OUT.out z (by rw [HL.out] at hz; exact hz)) (marksTo l C i) (fun z hz => by have := marksTo_lt hz; rw [HL.out]; omega)
              have hs2 := marksTo_le l C i
              have ht1 := times_le (nd l i).out x
              rw [hout2.len] at ht1
              clear hout2 hy
              obtain ⟨f2, hf2, c0⟩ : ∃ f2, f2 = off + j * 2 ∧ wr.cell? ⟨nb, f2, none⟩ = some (.int .i64 x) := by
                obtain ⟨nb3, off3, oa3, on3, oc3, e3, hnb3, d3, -, -, -, -⟩ := (H.out.keep HO2.out.but).at_ j hlt
                simp at e3
                obtain ⟨rfl, rfl⟩ := e3
                exact ⟨_, rfl, by rw [d3, HX.out]⟩
              subst hf2
              go_wp2_with fail
              refine (has_any gva gn gcap gs y _ GN2.out (by omega)).mono ?_
              rintro e wa ⟨rfl, rfl⟩
              obtain ⟨le, hle⟩ : ∃ le, lessL l (marksTo l C i) x = le := ⟨_, rfl⟩
              obtain ⟨ti, hti⟩ : ∃ ti, times (nd l i).out x = ti := ⟨_, rfl⟩
              have hls := lessL_snoc l (marksTo l C i) i x
              rw [hle] at hs1
              rw [hti] at ht1
              rw [hle, hti] at hls
              have hs3 : le ≤ 65536000000 := by
                have : (marksTo l C i).length * 1000000 ≤ 65536 * 1000000 := Nat.mul_le_mul_right _ (by omega)
                omega
              rw [hle]
              by_cases hyg : y ∈ gs
              · have ML := Lib.hid (show lessL l (marksTo l C (i + 1)) x = le + ti by rw [MI.out, if_pos (decide_eq_true hyg)]; exact hls)
                have RT := Lib.hid (show ∀ wz, Nums wz oa2 on2 (nd l i).out → Calls Try.prog 69 #[.slice oa2 on2 oc2, .int .i64 x] wz fun e w' => e = .returned (.int .i64 (ti : Int)) ∧ wz = w' from fun wz hz => by rw [← hti]; exact ref_times oa2 on2 oc2 _ x wz hz (by omega))
                rw [decide_eq_true hyg]
                clear hyg MI hls hle hti hs1 hs2
                have hw1 : IntKind.i64.wrap (cj - le - ti) = cj - le - ti := IntWalk.i64_in _ (by omega)
                go_wp2_with fail
                go_quiet ((go_at_call 69; exact quiet_same (RT.out _ (OO.out.keep ((But.refl _ _).drewN _)))))
                obtain ⟨w8, hw8⟩ : ∃ w8, w8 = wr.drewN nq := ⟨_, rfl⟩
                have HW8 := Lib.hid (show w8 = wq.drewN (q + nq) by rw [hw8, HWZ.out]; simp)
                rw [← hw8]
                clear hw8 k0 k1 hbl d0 d1 c0 hw1
                go_wp2_with fail
                go_roundg (cn - (i + 1))
                case measure => omega
                case rel => exact ⟨i + 1, q + nq, by omega, by go_num, by rw [ML.out]; exact congrArg (Value.int .i64) (by omega), HW8.out⟩
              · have ML := Lib.hid (show lessL l (marksTo l C (i + 1)) x = le by rw [MI.out, if_neg (by simpa using hyg)]; exact hle)
                rw [decide_eq_false hyg]
                clear hyg MI hls hle hti hs1 hs2
                go_wp2_with fail
                go_roundg (cn - (i + 1))
                case measure => omega
                case rel => exact ⟨i + 1, q, by omega, by go_num, by rw [ML.out], HWZ.out⟩
            · obtain rfl : i = cn := by omega
              have hrk : cj - (lessL l (marksTo l C i) x : Int) = restK l (ksOf l C) cnt j := by unfold restK; rw [← marksTo_all, HL.out, HX.out, HCJ.out]
              rw [hrk]
              have TK := Lib.hid (show restsAt l (ksOf l C) cnt (marksTo l C (j + 1)) = restsAt l (ksOf l C) cnt (marksTo l C j) ++ [restK l (ksOf l C) cnt j] by rw [MK2.out, restsAt_snoc])
              obtain ⟨v, hv⟩ : ∃ v, restK l (ksOf l C) cnt j = v := ⟨_, rfl⟩
              rw [hv] at TK ⊢
              have HRW := Lib.hid (show Row wr 3 1 (.slice av m acap) oz m (ints (restsAt l (ksOf l C) cnt (marksTo l C j))) from HO2.out.get 0 rfl)
              clear hv hrk hy1 hy2
              go_wp2_with ((at_builtin; refine wpList_append_row _ rfl _ _ _ rfl 3 i0 (.int .i64 0) 1 8 Try.underlying43 hi hz0 hz1 hz2 rfl (by decide) (.slice av m acap) oz m (ints (restsAt l (ksOf l C) cnt (marksTo l C j))) (HRW.out.alloc _) rfl ⟨wr.heap.size, 0, none⟩ 1 1 [.int .i64 v] rfl rfl (new_src _ _ _) (by simp [Value.oneCell']) (by unfold maxLen; omega) (by omega) ?_; intro v4 w4 o4 hR4 hB4 hN4; obtain ⟨a4, cap4, rfl, -, -⟩ := hR4.val; have O5 := Lib.hid (HO2.out.put 0 (q := Pc.row 3 1 (.slice a4 (m + 1) cap4) o4 (m + 1) (ints (restsAt l (ksOf l C) cnt (marksTo l C (j + 1))))) rfl (by show Row _ _ _ _ _ _ _; rw [TK.out, ints_push]; exact hR4) (((But.refl _ wr).alloc _).trans hB4) (fun k hk => by rcases hN4 k hk with z | z; exact .inl z; (try simp at z); exact .inr (by omega))); clear hR4 hB4 hN4))
              go_roundg (i - (j + 1))
              case measure => omega
              case rel => exact ⟨j + 1, m + 1, o4, by omega, by go_num, by omega, O5.out⟩
        · have MK2 := Lib.hid (show marksTo l C (j + 1) = marksTo l C j by rw [MK.out, if_neg (by simpa using hin)])
          rw [decide_eq_false hin]
          clear hin MK
          go_wp2_with fail
          go_roundg (cn - (j + 1))
          case measure => omega
          case rel => exact ⟨j + 1, m, oz, by omega, by go_num, by omega, by rw [MK2.out]; exact HO.out⟩
      · obtain rfl : j = cn := by omega
        have HRW := Lib.hid (show Row wr 3 1 (.slice av m acap) oz m (ints (restsAt l (ksOf l C) cnt (marksTo l C j))) from HO.out.get 0 rfl)
        go_wp2_with fail
        go_ret
        refine ⟨m, ?_⟩
        rw [E.out]
        have hfin := HRW.out
        rw [show marksTo l C j = ksOf l C by rw [← marksTo_all, HL.out]] at hfin
        exact ⟨_, oz, rfl, hfin, fun k hk => HO.out.new 0 (by simp [gathered]) k hk, HO.out.but⟩

end Graph
end Go.Proofs.Ytldgjmgdbaeglaa
