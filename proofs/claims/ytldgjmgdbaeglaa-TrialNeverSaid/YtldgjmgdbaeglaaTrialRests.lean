/- The program's Rests of layer 11, walked. -/
import Derived.Test.YtldgjmgdbaeglaaTrialWalks
set_option linter.unusedVariables false
set_option linter.unusedSimpArgs false
namespace Go.Proofs.Ytldgjmgdbaeglaa
open Go.RowKit

theorem Own.swap {w0 w : World} {p q : Pc} {L : List Pc} (h : Own w0 w (p :: q :: L)) : Own w0 w (q :: p :: L) := by
  refine ⟨fun i hi => ?_, fun i j hi hj ne => ?_, fun i hi k hk => ?_, h.but⟩
  · match i, hi with
    | 0, _ => exact h.get 1 rfl
    | 1, _ => exact h.get 0 rfl
    | i + 2, hi => exact h.is (i + 2) hi
  · match i, j, hi, hj, ne with
    | 0, 0, _, _, ne => exact absurd rfl ne
    | 1, 1, _, _, ne => exact absurd rfl ne
    | 0, 1, _, _, _ => exact h.apart 1 0 (by simp) (by simp) (by decide)
    | 1, 0, _, _, _ => exact h.apart 0 1 (by simp) (by simp) (by decide)
    | 0, j + 2, _, hj, _ => exact h.apart 1 (j + 2) (by simp) hj (by omega)
    | 1, j + 2, _, hj, _ => exact h.apart 0 (j + 2) (by simp) hj (by omega)
    | i + 2, 0, hi, _, _ => exact h.apart (i + 2) 1 hi (by simp) (by omega)
    | i + 2, 1, hi, _, _ => exact h.apart (i + 2) 0 hi (by simp) (by omega)
    | i + 2, j + 2, hi, hj, ne => exact h.apart (i + 2) (j + 2) hi hj ne
  · match i, hi with
    | 0, _ => exact h.new 1 (by simp) k hk
    | 1, _ => exact h.new 0 (by simp) k hk
    | i + 2, hi => exact h.new (i + 2) hi k hk

namespace Graph

/-- The rests so far: each node's count, less c. -/
def Rst (l : List Nd) (cnt s : List Int) (c : Nat → Nat) : Prop := s.length = l.length ∧ ∀ k, k < l.length → nthI s k = nthI cnt k - (c k : Int)
theorem Rst.next {l : List Nd} {cnt s : List Int} {base : Nat → Nat} {xs : List Int} {m i : Nat} (hr : riseB (idsOf l) = true) (h : Rst l cnt s (fun k => base k + times (xs.take m) (nd l k).id)) (hm : m < xs.length) (hi : i < l.length) (e : (nd l i).id = nthI xs m) :
    Rst l cnt (s.set i (nthI s i - 1)) (fun k => base k + times (xs.take (m + 1)) (nd l k).id) := by
  refine ⟨by rw [List.length_set]; exact h.1, fun k hk => ?_⟩
  rw [nthI_set (by rw [h.1]; exact hi)]
  show (if i = k then nthI s i - 1 else nthI s k) = nthI cnt k - ((base k + times (xs.take (m + 1)) (nd l k).id : Nat) : Int)
  rw [times_take hm, ← e]
  have e1 : ∀ t, t < l.length → nthI s t = nthI cnt t - ((base t + times (xs.take m) (nd l t).id : Nat) : Int) := h.2
  by_cases q : i = k
  · subst q
    rw [if_pos rfl, if_pos rfl, e1 i hi]; omega
  · rw [if_neg q, if_neg (fun z => q (rise_inj hr hi hk z)), e1 k hk]; omega

def tries (rva : Option Addr) (rcap : Nat) (ro : Option Nat) (s : List Int) (gva : Option Addr) (gn gcap : Nat) (go : Option Nat) (gs : List Int) (mb : Nat) (L : List (Int × Value)) (b : Nat) (a : Option Addr) (n cap : Nat) (ra : Option Addr) (rn rc : Nat) : List Pc :=
  [Pc.row 3 1 (.slice rva n rcap) ro n (ints s), Pc.row 3 1 (.slice gva gn gcap) go gn (ints gs), Pc.mp mb L, Pc.blk b #[.slice a n cap, .slice ra rn rc] 47]
theorem tries.put {w w2 : World} {rb roff rcap : Nat} {ro : Option Nat} {s : List Int} {gva : Option Addr} {gn gcap : Nat} {go : Option Nat} {gs : List Int} {mb : Nat} {L : List (Int × Value)} {b : Nat} {a : Option Addr} {n cap : Nat} {ra : Option Addr} {rn rc : Nat}
    (h : Own w w2 (tries (some ⟨rb, roff, none⟩) rcap ro s gva gn gcap go gs mb L b a n cap ra rn rc)) {m : Nat} (hm : m < n) (x : Int) : Own w (w2.setCell ⟨rb, roff + m, none⟩ (.int .i64 x)) (tries (some ⟨rb, roff, none⟩) rcap ro (s.set m x) gva gn gcap go gs mb L b a n cap ra rn rc) := by
  have h1 : Row w2 3 1 (.slice (some ⟨rb, roff, none⟩) n rcap) ro n (ints s) := h.get 0 rfl
  obtain ⟨cb, coff, e, ho, -, -, -, -⟩ := row_nth h1 hm
  simp at e
  obtain ⟨rfl, rfl⟩ := e
  have h2 := h1.set (j := m) (by omega) (.int .i64 x)
  rw [ints_set] at h2
  exact h.put 0 (q := Pc.row 3 1 (.slice (some ⟨rb, roff, none⟩) n rcap) ro n (ints (s.set m x))) rfl h2 ((But.one rb (roff + m) (.int .i64 x)).mono (fun k hk => .inl (by subst hk; exact ho))) (fun k q => .inl q)
theorem tries.box {w w2 : World} {rva : Option Addr} {rcap : Nat} {ro : Option Nat} {s : List Int} {gva : Option Addr} {gn gcap : Nat} {go : Option Nat} {gs : List Int} {mb : Nat} {L : List (Int × Value)} {b : Nat} {a : Option Addr} {n cap : Nat} {ra : Option Addr} {rn rc : Nat}
    (h : Own w w2 (tries rva rcap ro s gva gn gcap go gs mb L b a n cap ra rn rc)) : w2.cell? ⟨b, 0, none⟩ = some (.slice a n cap) ∧ w2.cell? ⟨b, 1, none⟩ = some (.slice ra rn rc) ∧ b < w2.heap.size := by
  have h1 : Blk w2 b #[.slice a n cap, .slice ra rn rc] 47 := h.get 3 rfl
  exact ⟨h1.cell 0, h1.cell 1, h1.lt⟩

set_option maxHeartbeats 8000000 in
set_option maxRecDepth 100000 in
theorem rests_any (a : Option Addr) (n cap : Nat) (l : List Nd) (ra : Option Addr) (rn rc : Nat) (R : List Int) (ca : Option Addr) (cn cc : Nat) (cnt : List Int) (da : Option Addr) (dn dc : Nat) (C : List Int) (w : World)
    (h : Nodes w a n l) (hr : Nums w ra rn R) (hc : Nums w ca cn cnt) (hd : Nums w da dn C) (hn : n ≤ 65536) (hrn : rn ≤ 1000000) (ho : ∀ i, i < n → (nd l i).out.length ≤ 1000000) (hcn : cn ≤ 1000000) (hdn : dn ≤ 1000000) (hcb : ∀ k, nthI cnt k ≤ 9223372036854775807) :
    Calls Try.prog 54 #[.agg #[.slice a n cap, .slice ra rn rc], .slice ca cn cc, .slice da dn dc] w fun e w' => ∃ m, Copied (ints (restsR l R cnt C)) m w e w' := by
  obtain ⟨i0, hi, hz0, hz1, hz2⟩ := info_parts infoInt
  have H := Lib.hid h
  have HR := Lib.hid hr
  have HC := Lib.hid hc
  have HD := Lib.hid hd
  have HL := Lib.hid h.len
  have HCL := Lib.hid hc.len
  have OUT := Lib.hid ho
  have HCB := Lib.hid hcb
  clear h hr hc hd ho hcb
  have O0 := boxed.start (w := w) (a := a) (n := n) (cap := cap) (ra := ra) (rn := rn) (rc := rc) (But.refl _ _)
  obtain ⟨k0, k1, -⟩ := boxed.cells O0
  go_enter Try.func54, Try.ntmps54
  go_wp2_with fail
  refine (trial_right a n cap l ra rn rc R ca cn cc cnt da dn dc C _ (H.out.keep O0.but) (HR.out.keep O0.but) (HC.out.keep O0.but) (HD.out.keep O0.but) (by omega) hrn OUT.out hcn hdn).mono ?_
  rintro e w2 ⟨rfl, g2⟩
  have O2 := Lib.hid (O0.same g2)
  obtain ⟨b, hb⟩ : ∃ b, b = w.heap.size := ⟨_, rfl⟩
  rw [← hb] at O2 ⊢
  clear k0 k1 O0 g2 hb
  cases htr : trialB l R cnt C with
  | false =>
    have E := Lib.hid (show restsR l R cnt C = [] by unfold restsR; rw [htr]; rfl)
    clear htr
    go_wp2_with fail
    go_ret
    refine ⟨0, ?_⟩
    rw [E.out]
    exact boxed.copied O2.out
  | true =>
    have TP := Lib.hid (trial_parts htr)
    have RP := Lib.hid (right_parts TP.out.1)
    have E := Lib.hid (show restsR l R cnt C = restsAt l (ksOf l C) cnt (ksOf l C) by unfold restsR; rw [if_pos htr])
    have hcn2 : cn = n := by rw [← HCL.out, ← HL.out]; exact TP.out.2.2.1
    subst hcn2
    obtain ⟨k0, k1, hbl⟩ := boxed.cells O2.out
    clear htr
    go_wp2_with fail
    refine (trial_places a cn cap l ra rn rc _ (H.out.keep O2.out.but) (by omega)).mono ?_
    rintro e w3 ⟨mb, rfl, hM, hmb, g3⟩
    have O3 := Lib.hid (O2.out.drop.add (q := Pc.mp mb (placesTo l cn)) hM g3 (fun k q => by have : k = mb := q; omega))
    clear k0 k1 hbl hM hmb g3 O2
    go_wp2_with fail
    refine (clone_any ca cn cc cnt _ (HC.out.keep O3.out.but) (by omega)).mono ?_
    rintro e w4 ⟨v4, ro, rfl, hR4, hN4, g4⟩
    obtain ⟨rva, rcap, rfl, -, -⟩ := hR4.val
    have O4 := Lib.hid (O3.out.add (q := Pc.row 3 1 (.slice rva cn rcap) ro cn (ints cnt)) hR4 g4 (fun k hk => hN4 k hk))
    have hB4 : Blk w4 b #[.slice a cn cap, .slice ra rn rc] 47 := O4.out.get 2 rfl
    have k0 : w4.cell? ⟨b, 0, none⟩ = some (.slice a cn cap) := hB4.cell 0
    have k1 : w4.cell? ⟨b, 1, none⟩ = some (.slice ra rn rc) := hB4.cell 1
    have hbl := hB4.lt
    clear hR4 hN4 g4 hB4 O3
    go_wp2_with fail
    refine (gray_any a cn cap l ra rn rc R da dn dc C _ (H.out.keep O4.out.but) (HR.out.keep O4.out.but) (HD.out.keep O4.out.but) hn hrn OUT.out hdn).mono ?_
    rintro e w5 ⟨gn, v5, go, rfl, hR5, hN5, g5⟩
    obtain ⟨gva, gcap, rfl, -, -⟩ := hR5.val
    rw [gray_ks TP.out.1 TP.out.2.1] at hR5
    obtain ⟨ks, hks⟩ : ∃ ks, ksOf l C = ks := ⟨_, rfl⟩
    rw [hks] at hR5 E
    have KIN := Lib.hid (show ∀ i, i ∈ ks → i < cn from fun i hi => by rw [← hks] at hi; rw [← HL.out]; exact (ksOf_mem.1 hi).1)
    have KLN := Lib.hid (show ks.length ≤ cn by rw [← hks, ← HL.out]; exact ksOf_len l C)
    have hgn : ks.length = gn := by rw [← hR5.ints_len, idsAt_len]
    have hgb : gn ≤ cn := by rw [← hgn]; exact KLN.out
    have HGN := Lib.hid hgn
    have O5 : Own w w5 (tries rva rcap ro cnt gva gn gcap go (idsAt l ks) mb (placesTo l cn) b a cn cap ra rn rc) := by
      have e1 := O4.out.add (q := Pc.row 3 1 (.slice gva gn gcap) go gn (ints (idsAt l ks))) hR5 g5 (fun k hk => hN5 k hk)
      exact e1.swap
    have O5 := Lib.hid O5
    clear hR5 hN5 g5 hks hgn k0 k1 hbl O4
    have R0 := Lib.hid (show Rst l cnt cnt (fun k => lessL l (ks.take 0) (nd l k).id) from ⟨by rw [HCL.out, HL.out], fun k hk => by simp [lessL]⟩)
    go_wp2_with fail
    go_loopg [31] gn (fun k iv wr => ∃ (q : Nat) (s : List Int), q + k = gn ∧ iv = .int .i64 q ∧ Own w wr (tries rva rcap ro s gva gn gcap go (idsAt l ks) mb (placesTo l cn) b a cn cap ra rn rc) ∧ Rst l cnt s (fun k => lessL l (ks.take q) (nd l k).id))
    case atStart => exact ⟨0, cnt, by omega, rfl, O5.out, R0.out⟩
    case round =>
      clear O5 R0
      obtain ⟨q, s, hq, rfl, hO, hRst⟩ := hrel
      obtain ⟨k0, k1, hbl⟩ := tries.box hO
      have HO := Lib.hid hO
      have HRS := Lib.hid hRst
      clear hO hRst
      by_cases hlt : q < gn
      · have hqk : q < ks.length := by rw [HGN.out]; exact hlt
        obtain ⟨gb, goff, rfl, -, hgl, cg, -, -⟩ := row_nth (show Row wr 3 1 (.slice gva gn gcap) go gn (ints (idsAt l ks)) from HO.out.get 1 rfl) hlt
        rw [idsAt_nth hqk] at cg
        obtain ⟨kq, hkq⟩ : ∃ kq, nthK ks q = kq := ⟨_, rfl⟩
        rw [hkq] at cg
        have hkn : kq < cn := by rw [← hkq]; exact KIN.out _ (nthK_mem hqk)
        have TK := Lib.hid (show ks.take (q + 1) = ks.take q ++ [kq] by rw [take_nthK hqk, hkq])
        obtain ⟨i, hil, hie, hlk⟩ := place_of RP.out.2.1 (x := (nd l kq).id) (by rw [← idsOf_nth (by rw [HL.out]; exact hkn)]; exact nthI_mem (by rw [idsOf_length, HL.out]; exact hkn))
        obtain rfl : i = kq := rise_inj RP.out.2.1 hil (by rw [HL.out]; exact hkn) hie
        obtain ⟨nb, off, oa, on, oc, rfl, hnb, c0, c1, -, -, hout⟩ := (H.out.keep HO.out.but).at_ i hkn
        have hol := OUT.out i hkn
        rw [hout.len] at hol
        have HIN := Lib.hid ((withinB_iff _ _).1 (RP.out.1 i hil))
        obtain ⟨nbw, offw, oaw, onw, ocw, ew, hnbw, c0w, c1w, -, -, houtw⟩ := H.out.at_ i hkn
        simp at ew
        obtain ⟨rfl, rfl⟩ := ew
        have e3 : wr.cell? ⟨nb, off + i * 2 + 1, none⟩ = some (.slice oaw onw ocw) := by rw [← c1w]; exact World.cell?_of_block (w := w) (HO.out.but.block nb hnbw (fun q => q))
        rw [c1] at e3
        simp at e3
        obtain ⟨rfl, rfl, -⟩ := e3
        have OO := Lib.hid houtw
        clear hout houtw c0w c1w hnbw hie hkq
        obtain ⟨y, hy⟩ : ∃ y, (nd l i).id = y := ⟨_, rfl⟩
        rw [hy] at cg hlk c0
        rw [HL.out] at hlk
        have LK := Lib.hid (show (look (placesTo l cn) y).getD (.int .i64 0) = .int .i64 (i : Int) by rw [hlk]; rfl)
        have HMP := Lib.hid (show Mp wr mb (fun n : Int => Value.int .i64 n) (placesTo l cn) from HO.out.get 2 rfl)
        clear hlk hy c0
        go_wp2_with (at_lookup; refine wpList_look1 HMP.out rfl _ _ _ rfl keyI Try.underlying85 (.int .i64 0) (zeroInt _) rfl y rfl (.int .i64 (i : Int)) LK.out ?_)
        go_loopg [44] on (fun k mv wz => ∃ (m : Nat) (s2 : List Int), m + k = on ∧ mv = .int .i64 m ∧ Own w wz (tries rva rcap ro s2 (some ⟨gb, goff, none⟩) gn gcap go (idsAt l ks) mb (placesTo l cn) b (some ⟨nb, off, none⟩) cn cap ra rn rc) ∧ Rst l cnt s2 (fun k => lessL l (ks.take q) (nd l k).id + times ((nd l i).out.take m) (nd l k).id))
        case atStart => exact ⟨0, s, by omega, rfl, HO.out, by simpa [times] using HRS.out⟩
        case round =>
          clear HO HRS HMP k0 k1 hbl cg hgl c1 hnb
          obtain ⟨m, s2, hm, rfl, hO2, hC2⟩ := hrel
          have HO2 := Lib.hid hO2
          have HC2 := Lib.hid hC2
          clear hO2 hC2
          by_cases hmn : m < on
          · skip
            obtain ⟨xb, xoff, rfl, hxb, cx⟩ := (OO.out.keep HO2.out.but).at_ m hmn
            have hml : m < ((nd l i).out).length := by rw [OO.out.len]; exact hmn
            obtain ⟨t, htl, hte, hlk⟩ := place_of RP.out.2.1 (HIN.out m hml)
            have htn : t < cn := by rw [← HL.out]; exact htl
            obtain ⟨rb, roff, rfl, hro, hrl, mi, fi, -⟩ := row_nth (show Row wr 3 1 (.slice rva cn rcap) ro cn (ints s2) from HO2.out.get 0 rfl) htn
            have CN := Lib.hid (Rst.next RP.out.2.1 HC2.out hml htl hte)
            have hvi := HC2.out.2 t htl
            have hs1 := lessL_le (l := l) (x := (nd l t).id) (fun z hz => OUT.out z (by rw [HL.out] at hz; exact hz)) (ks.take q) (fun z hz => by rw [HL.out]; exact KIN.out z (List.mem_of_mem_take hz))
            have hs2 : (ks.take q).length * 1000000 ≤ 65536 * 1000000 := Nat.mul_le_mul_right _ (by rw [List.length_take]; have := KLN.out; omega)
            have ht1 := times_le (((nd l i).out).take m) (nd l t).id
            rw [List.length_take] at ht1
            have hc1 := HCB.out t
            have hc2 := notNeg_at TP.out.2.2.2 (k := t) (by rw [HCL.out]; exact htn)
            obtain ⟨v, hv⟩ : ∃ v, nthI s2 t = v := ⟨_, rfl⟩
            rw [hv] at mi CN hvi
            have hv0 : -1000000000000 ≤ v ∧ v ≤ 9223372036854775807 := by
              have hvi' : v = nthI cnt t - ((lessL l (ks.take q) (nd l t).id + times (((nd l i).out).take m) (nd l t).id : Nat) : Int) := hvi
              omega
            have hv1 := hv0.1
            have hv2 := hv0.2
            clear hvi hs1 hs2 ht1 hc1 hc2 hv hv0
            obtain ⟨x, hx⟩ : ∃ x, nthI ((nd l i).out) m = x := ⟨_, rfl⟩
            rw [hx] at cx hlk
            rw [HL.out] at hlk
            have LK2 := Lib.hid (show (look (placesTo l cn) x).getD (.int .i64 0) = .int .i64 (t : Int) by rw [hlk]; rfl)
            have HMP := Lib.hid (show Mp wr mb (fun n : Int => Value.int .i64 n) (placesTo l cn) from HO2.out.get 2 rfl)
            clear hx hlk hte hro
            go_wp2_with (at_lookup; refine wpList_look1 HMP.out rfl _ _ _ rfl keyI Try.underlying85 (.int .i64 0) (zeroInt _) rfl x rfl (.int .i64 (t : Int)) LK2.out ?_)
            go_roundg (on - (m + 1))
            case measure => omega
            case rel => exact ⟨m + 1, _, by omega, by go_num, tries.put HO2.out htn (v - 1), CN.out⟩
          · obtain rfl : m = on := by omega
            go_wp2_with fail
            go_roundg (gn - (q + 1))
            case measure => omega
            case rel => exact ⟨q + 1, s2, by omega, by go_num, HO2.out, by
              have := HC2.out
              rw [List.take_of_length_le (show (nd l i).out.length ≤ m by rw [OO.out.len]; exact Nat.le_refl _)] at this
              rw [TK.out]
              simp only [lessL_snoc]
              exact this⟩
      · obtain rfl : q = gn := by omega
        have HALL := Lib.hid (show Rst l cnt s (fun k => lessL l ks (nd l k).id) from by have := HRS.out; rw [List.take_of_length_le (by rw [HGN.out]; exact Nat.le_refl _)] at this; exact this)
        have OA := Lib.hid (HO.out.add (q := Pc.row 3 1 (.slice none 0 0) none 0 (ints (restsAt l ks cnt (ks.take 0)))) (Row.nil _ _ _) (But.refl _ _) (fun k q => by cases q))
        clear HRS
        go_wp2_with fail
        go_loopg [14, 60] q (fun k v iv wz => ∃ (m : Nat) (oz : Option Nat), m + k = q ∧ iv = .int .i64 m ∧ Own w wz (Pc.row 3 1 v oz m (ints (restsAt l ks cnt (ks.take m))) :: tries rva rcap ro s gva q gcap go (idsAt l ks) mb (placesTo l cn) b a cn cap ra rn rc))
        case atStart => exact ⟨0, none, by omega, rfl, OA.out⟩
        case round =>
          clear OA HO k0 k1 hbl
          obtain ⟨m, oz, hm, rfl, hO⟩ := hrel
          have hRw : Row wr 3 1 _ oz m (ints (restsAt l ks cnt (ks.take m))) := hO.get 0 rfl
          obtain ⟨av, acap, rfl, -, -⟩ := hRw.val
          have HRW := Lib.hid hRw
          have HO := Lib.hid hO
          clear hRw hO
          by_cases hmn : m < q
          · have hqk : m < ks.length := by rw [HGN.out]; exact hmn
            obtain ⟨gb, goff, rfl, -, hgl, cg, -, -⟩ := row_nth (show Row wr 3 1 (.slice gva q gcap) go q (ints (idsAt l ks)) from HO.out.get 2 rfl) hmn
            rw [idsAt_nth hqk] at cg
            obtain ⟨kq, hkq⟩ : ∃ kq, nthK ks m = kq := ⟨_, rfl⟩
            rw [hkq] at cg
            have hkn : kq < cn := by rw [← hkq]; exact KIN.out _ (nthK_mem hqk)
            obtain ⟨i, hil, hie, hlk⟩ := place_of RP.out.2.1 (x := (nd l kq).id) (by rw [← idsOf_nth (by rw [HL.out]; exact hkn)]; exact nthI_mem (by rw [idsOf_length, HL.out]; exact hkn))
            obtain rfl : i = kq := rise_inj RP.out.2.1 hil (by rw [HL.out]; exact hkn) hie
            obtain ⟨rb, roff, rfl, hro, hrl, mi, fi, -⟩ := row_nth (show Row wr 3 1 (.slice rva cn rcap) ro cn (ints s) from HO.out.get 1 rfl) hkn
            have hvi : nthI s i = restK l ks cnt i := by rw [HALL.out.2 i hil]; rfl
            rw [hvi] at mi
            obtain ⟨v, hv⟩ : ∃ v, restK l ks cnt i = v := ⟨_, rfl⟩
            rw [hv] at mi
            have TK := Lib.hid (show restsAt l ks cnt (ks.take (m + 1)) = restsAt l ks cnt (ks.take m) ++ [v] by rw [take_nthK hqk, restsAt_snoc, hkq, hv])
            clear hvi hv hkq hie hro
            obtain ⟨y, hy⟩ : ∃ y, (nd l i).id = y := ⟨_, rfl⟩
            rw [hy] at cg hlk
            rw [HL.out] at hlk
            have LK := Lib.hid (show (look (placesTo l cn) y).getD (.int .i64 0) = .int .i64 (i : Int) by rw [hlk]; rfl)
            have HMP := Lib.hid (show Mp wr mb (fun n : Int => Value.int .i64 n) (placesTo l cn) from HO.out.get 3 rfl)
            clear hlk hy
            go_wp2_with (first | (at_lookup; refine wpList_look1 HMP.out rfl _ _ _ rfl keyI Try.underlying85 (.int .i64 0) (zeroInt _) rfl y rfl (.int .i64 (i : Int)) LK.out ?_) | ((at_builtin; refine wpList_append_row _ rfl _ _ _ rfl 3 i0 (.int .i64 0) 1 8 Try.underlying43 hi hz0 hz1 hz2 rfl (by decide) (.slice av m acap) oz m (ints (restsAt l ks cnt (ks.take m))) (HRW.out.alloc _) rfl ⟨wr.heap.size, 0, none⟩ 1 1 [.int .i64 v] rfl rfl (new_src _ _ _) (by simp [Value.oneCell']) (by unfold maxLen; omega) (by omega) ?_; intro v4 w4 o4 hR4 hB4 hN4; obtain ⟨a4, cap4, rfl, -, -⟩ := hR4.val; have O5 := Lib.hid (HO.out.put 0 (q := Pc.row 3 1 (.slice a4 (m + 1) cap4) o4 (m + 1) (ints (restsAt l ks cnt (ks.take (m + 1))))) rfl (by show Row _ _ _ _ _ _ _; rw [TK.out, ints_push]; exact hR4) (((But.refl _ wr).alloc _).trans hB4) (fun k hk => by rcases hN4 k hk with z | z; exact .inl z; (try simp at z); exact .inr (by omega))); clear hR4 hB4 hN4)))
            go_roundg (q - (m + 1))
            case measure => omega
            case rel => exact ⟨m + 1, o4, by omega, by go_num, O5.out⟩
          · obtain rfl : m = q := by omega
            go_wp2_with fail
            go_ret
            refine ⟨m, ?_⟩
            rw [E.out]
            have hfin := HRW.out
            rw [List.take_of_length_le (by rw [HGN.out]; exact Nat.le_refl _)] at hfin
            exact ⟨_, oz, rfl, hfin, fun k hk => HO.out.new 0 (by simp) k hk, HO.out.but⟩

end Graph
end Go.Proofs.Ytldgjmgdbaeglaa
