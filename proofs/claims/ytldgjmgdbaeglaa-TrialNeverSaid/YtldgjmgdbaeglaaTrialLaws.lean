/- The law TrialTells of layer 11, walked: it answers true. -/
import Derived.Test.YtldgjmgdbaeglaaTrialAlive
import Derived.Deep.RegionHeld3
set_option linter.unusedVariables false
set_option linter.unusedSimpArgs false
namespace Go.Proofs.Ytldgjmgdbaeglaa
open Go.RowKit Go.ChangeShapes Go.WideShapes Go.Deep

theorem nums_bounded {w : World} {a : Option Addr} {n : Nat} {V : Nat → Nat → Value} (h : Els w a n 1 V) (f : ∀ i, i < n → All2 [.i .i64] ((List.range 1).map (V i))) : ∃ l, Nums w a n l ∧ ∀ k, nthI l k ≤ 9223372036854775807 := by
  have each : ∀ j, j < n → ∃ y : Int, V j 0 = .int .i64 y ∧ y ≤ 9223372036854775807 := by
    intro j hj
    obtain ⟨v, vs, e, ⟨y, hy, hb⟩, -⟩ := all2_cons (f j hj)
    simp at e
    exact ⟨y, by rw [e.1, hy], (bounds_i64 hb).2⟩
  obtain ⟨F, hF⟩ := choose_lt each
  refine ⟨(List.range n).map F, ⟨by simp, fun j hj => ?_⟩, fun k => ?_⟩
  · obtain ⟨b, off, rfl, hlt, hc⟩ := h.at_ j hj
    refine ⟨b, off, rfl, hlt, ?_⟩
    have := hc 0 (by decide)
    rw [(hF j hj).1] at this
    rw [show off + j = off + (j * 1 + 0) by omega, this]
    congr 2
    unfold nthI; rw [List.getD_eq_getElem?_getD, List.getElem?_map, List.getElem?_range hj]; rfl
  · unfold nthI
    rw [List.getD_eq_getElem?_getD, List.getElem?_map]
    by_cases hk : k < n
    · rw [List.getElem?_range hk]; exact (hF k hk).2
    · rw [List.getElem?_eq_none (by simp; omega)]; show (0 : Int) ≤ _; decide

namespace Graph

set_option maxHeartbeats 8000000 in
set_option maxRecDepth 100000 in
theorem trial_tells (w : World) (a : Option Addr) (n cap : Nat) (l : List Nd) (hN : n ≤ cap ∧ cap ≤ maxLen ∧ Nodes w a n l) (ra : Option Addr) (rn rc : Nat) (R : List Int) (hR : rn ≤ rc ∧ rc ≤ maxLen ∧ Nums w ra rn R) (hz : n * 32 ≤ 140737488351232)
    (ca : Option Addr) (cn cc : Nat) (V1 : Nat → Nat → Value) (e1 : Els w ca cn 1 V1) (f1 : ∀ i, i < cn → All2 [.i .i64] ((List.range 1).map (V1 i))) (z1 : cn * 8 ≤ 140737488351232) (m1 : cn ≤ cc ∧ cc ≤ maxLen)
    (da : Option Addr) (dn dc : Nat) (V2 : Nat → Nat → Value) (e2 : Els w da dn 1 V2) (f2 : ∀ i, i < dn → All2 [.i .i64] ((List.range 1).map (V2 i))) (z2 : dn * 8 ≤ 140737488351232) (m2 : dn ≤ dc ∧ dc ≤ maxLen) :
    Calls Try.prog 9 #[.agg #[.slice a n cap, .slice ra rn rc], .slice ca cn cc, .slice da dn dc] w fun e w' => e = .returned (.bool true) ∧ But (fun _ => False) w w' := by
  obtain ⟨hn1, hn2, h⟩ := hN
  obtain ⟨hr1, hr2, hr⟩ := hR
  obtain ⟨cnt, hc, hcb⟩ := nums_bounded e1 f1
  obtain ⟨C, hd⟩ := nums_of_els e2 f2
  have H := Lib.hid h
  have HR := Lib.hid hr
  have HC := Lib.hid hc
  have HCB := Lib.hid hcb
  have HD := Lib.hid hd
  unfold maxLen at hn2 hr2 m1 m2
  clear h hr hc hd e1 f1 e2 f2 hcb
  have G0 := (But.refl (fun _ => False) w).alloc (.cells #[.slice a n cap, .slice ra rn rc] 47)
  have B0 := Blk.new w #[.slice a n cap, .slice ra rn rc] 47
  have k0 := B0.cell 0
  have k1 := B0.cell 1
  go_enter Try.func9, Try.ntmps9
  go_wp2_with fail
  refine (fits_any a n cap l ra rn rc R _ (H.out.keep G0) (HR.out.keep G0) (by omega) (by omega)).mono ?_
  rintro e w2 ⟨rfl, g2⟩
  have B2 := Lib.hid (B0.but g2 (fun q => q))
  have G2 := Lib.hid (G0.trans g2)
  obtain ⟨b, hb⟩ : ∃ b, b = w.heap.size := ⟨_, rfl⟩
  rw [← hb] at B2 ⊢
  clear hb B0 G0 g2 k0 k1
  by_cases hq : fitsB l R = true ∧ cn ≤ 60 ∧ dn ≤ 60
  case neg =>
    cases h1 : fitsB l R with
    | false =>
      clear hq h1
      go_wp2_with fail
      refine (trial_alive _).mono ?_
      rintro e w3 ⟨rfl, g3⟩
      go_wp2_with fail
      go_ret
      exact ⟨rfl, G2.out.trans g3⟩
    | true =>
      by_cases c1 : 60 < cn
      · clear hq h1
        go_wp2_with fail
        refine (trial_alive _).mono ?_
        rintro e w3 ⟨rfl, g3⟩
        go_wp2_with fail
        go_ret
        exact ⟨rfl, G2.out.trans g3⟩
      · have c2 : 60 < dn := by
          by_cases c : dn ≤ 60
          · exact absurd ⟨h1, by omega, c⟩ hq
          · omega
        have c3 : cn ≤ 60 := by omega
        clear hq h1 c1
        go_wp2_with fail
        refine (trial_alive _).mono ?_
        rintro e w3 ⟨rfl, g3⟩
        go_wp2_with fail
        go_ret
        exact ⟨rfl, G2.out.trans g3⟩
  obtain ⟨hfit, hcn, hdn⟩ := hq
  rw [hfit]
  have FIT := Lib.hid ((fits_iff l R).1 hfit)
  have hn : n ≤ 30 := by have := FIT.out.1; rw [H.out.len] at this; exact this
  have hrn : rn ≤ 30 := by have := FIT.out.2.1; rw [HR.out.len] at this; exact this
  have OUT := Lib.hid (show ∀ i, i < n → (nd l i).out.length ≤ 1000000 from fun i hi => by have := FIT.out.2.2 i (by rw [H.out.len]; exact hi); omega)
  have LGRAY := Lib.hid (show (grayR l R C).length ≤ 1000000000 by have := grayR_len l R C; rw [H.out.len] at this; omega)
  have LRESTS := Lib.hid (show (restsR l R cnt C).length ≤ 1000000000 by have := restsR_len l R cnt C; rw [H.out.len] at this; omega)
  have LWHITE := Lib.hid (show (whiteR l R cnt C).length ≤ 1000000000 by have := whiteR_len l R cnt C; rw [H.out.len] at this; omega)
  clear hfit
  have HP := Lib.hid (show ∀ w', But (fun _ => False) w2 w' → w'.cell? ⟨b, 0, none⟩ = some (.slice a n cap) ∧ w'.cell? ⟨b, 1, none⟩ = some (.slice ra rn rc) from fun w' h => ⟨(B2.out.but h (fun q => q)).cell 0, (B2.out.but h (fun q => q)).cell 1⟩)
  have KN := Lib.hid (show ∀ w', But (fun _ => False) w2 w' → Nodes w' a n l ∧ Nums w' ra rn R ∧ Nums w' ca cn cnt ∧ Nums w' da dn C from fun w' h => ⟨H.out.keep (G2.out.trans h), HR.out.keep (G2.out.trans h), HC.out.keep (G2.out.trans h), HD.out.keep (G2.out.trans h)⟩)
  have OK1 := Lib.hid (show ∀ w', But (fun _ => False) w2 w' → Calls Try.prog 52 #[.agg #[.slice a n cap, .slice ra rn rc], .slice da dn dc] w' fun e w'' => ∃ m, Copied (ints (grayR l R C)) m w' e w'' from fun w' h => gray_any a n cap l ra rn rc R da dn dc C w' (KN.out w' h).1 (KN.out w' h).2.1 (KN.out w' h).2.2.2 (by omega) (by omega) OUT.out (by omega))
  have OK2 := Lib.hid (show ∀ w', But (fun _ => False) w2 w' → Calls Try.prog 53 #[.agg #[.slice a n cap, .slice ra rn rc], .slice da dn dc] w' fun e w'' => ∃ m, Copied (ints (grayR l R C)) m w' e w'' from fun w' h => ref_gray a n cap l ra rn rc R da dn dc C w' (KN.out w' h).1 (KN.out w' h).2.1 (KN.out w' h).2.2.2 (by omega) (by omega) OUT.out (by omega))
  have OK3 := Lib.hid (show ∀ w', But (fun _ => False) w2 w' → Calls Try.prog 54 #[.agg #[.slice a n cap, .slice ra rn rc], .slice ca cn cc, .slice da dn dc] w' fun e w'' => ∃ m, Copied (ints (restsR l R cnt C)) m w' e w'' from fun w' h => rests_any a n cap l ra rn rc R ca cn cc cnt da dn dc C w' (KN.out w' h).1 (KN.out w' h).2.1 (KN.out w' h).2.2.1 (KN.out w' h).2.2.2 (by omega) (by omega) OUT.out (by omega) (by omega) HCB.out)
  have OK4 := Lib.hid (show ∀ w', But (fun _ => False) w2 w' → Calls Try.prog 55 #[.agg #[.slice a n cap, .slice ra rn rc], .slice ca cn cc, .slice da dn dc] w' fun e w'' => ∃ m, Copied (ints (restsR l R cnt C)) m w' e w'' from fun w' h => ref_rests a n cap l ra rn rc R ca cn cc cnt da dn dc C w' (KN.out w' h).1 (KN.out w' h).2.1 (KN.out w' h).2.2.1 (KN.out w' h).2.2.2 (by omega) (by omega) OUT.out (by omega) (by omega) HCB.out)
  have OK5 := Lib.hid (show ∀ w', But (fun _ => False) w2 w' → Calls Try.prog 56 #[.agg #[.slice a n cap, .slice ra rn rc], .slice ca cn cc, .slice da dn dc] w' fun e w'' => ∃ m, Told (ints (whiteR l R cnt C)) m [.int .i64 (whiteE l R cnt C)] w' e w'' from fun w' h => white_any a n cap l ra rn rc R ca cn cc cnt da dn dc C w' (KN.out w' h).1 (KN.out w' h).2.1 (KN.out w' h).2.2.1 (KN.out w' h).2.2.2 (by omega) (by omega) OUT.out (by omega) (by omega) HCB.out)
  have OK6 := Lib.hid (show ∀ w', But (fun _ => False) w2 w' → Calls Try.prog 57 #[.agg #[.slice a n cap, .slice ra rn rc], .slice ca cn cc, .slice da dn dc] w' fun e w'' => ∃ m, Told (ints (whiteR l R cnt C)) m [.int .i64 (whiteE l R cnt C)] w' e w'' from fun w' h => ref_white a n cap l ra rn rc R ca cn cc cnt da dn dc C w' (KN.out w' h).1 (KN.out w' h).2.1 (KN.out w' h).2.2.1 (KN.out w' h).2.2.2 (by omega) (by omega) OUT.out (by omega) (by omega) HCB.out)
  clear KN H HR HC HD FIT OUT HCB
  go_wp2_with fail
  go_region_held3 (fun w' => But (fun _ => False) w2 w' ∧ w'.cell? ⟨b, 0, none⟩ = some (.slice a n cap) ∧ w'.cell? ⟨b, 1, none⟩ = some (.slice ra rn rc))
    (first | assumption | (refine keepN HP.out ?_; first | exact (But.refl _ _).drew | exact (And.left ‹But (fun _ => False) w2 _ ∧ _›).drew | exact keep_step ‹But (fun _ => False) w2 _ ∧ _› (by assumption)))
    (first | (go_at_call 52; refine (OK1.out _ (And.left ‹But (fun _ => False) w2 _ ∧ _›)).mono ?_; rintro e w9 ⟨m9, v9, o9, rfl, hR9, -, g9⟩) | (go_at_call 53; refine (OK2.out _ (And.left ‹But (fun _ => False) w2 _ ∧ _›)).mono ?_; rintro e w9 ⟨m9, v9, o9, rfl, hR9, -, g9⟩) | (go_at_call 30; refine (ints_same _ _ _ _ _ _ (grayR l R C) _ (by first | assumption | exact Row.keep (by assumption) (by assumption)) (by first | assumption | exact Row.keep (by assumption) (by assumption)) LGRAY.out).mono ?_; rintro e w9 ⟨rfl, g9⟩))
  go_wp2_with fail
  go_region_held3 (fun w' => But (fun _ => False) w2 w' ∧ w'.cell? ⟨b, 0, none⟩ = some (.slice a n cap) ∧ w'.cell? ⟨b, 1, none⟩ = some (.slice ra rn rc))
    (first | assumption | (refine keepN HP.out ?_; first | exact (But.refl _ _).drew | exact (And.left ‹But (fun _ => False) w2 _ ∧ _›).drew | exact keep_step ‹But (fun _ => False) w2 _ ∧ _› (by assumption)))
    (first | (go_at_call 54; refine (OK3.out _ (And.left ‹But (fun _ => False) w2 _ ∧ _›)).mono ?_; rintro e w9 ⟨m9, v9, o9, rfl, hR9, -, g9⟩) | (go_at_call 55; refine (OK4.out _ (And.left ‹But (fun _ => False) w2 _ ∧ _›)).mono ?_; rintro e w9 ⟨m9, v9, o9, rfl, hR9, -, g9⟩) | (go_at_call 30; refine (ints_same _ _ _ _ _ _ (restsR l R cnt C) _ (by first | assumption | exact Row.keep (by assumption) (by assumption)) (by first | assumption | exact Row.keep (by assumption) (by assumption)) LRESTS.out).mono ?_; rintro e w9 ⟨rfl, g9⟩))
  have S1 := ‹But (fun _ => False) w2 _ ∧ _›
  have GA := Lib.hid S1.1
  have k0 := S1.2.1
  have k1 := S1.2.2
  have hbl : b < w9.heap.size := Nat.lt_of_lt_of_le B2.out.lt GA.out.size
  clear S1
  go_wp2_with fail
  refine (OK5.out _ GA.out).mono ?_
  rintro e wb ⟨mb, vb, ob, rfl, hRb, -, gb⟩
  have HRB := Lib.hid hRb
  have GB := Lib.hid (GA.out.trans gb)
  clear k0 k1 hRb gb hbl
  obtain ⟨k0, k1⟩ := HP.out _ GB.out
  have hbl : b < wb.heap.size := Nat.lt_of_lt_of_le B2.out.lt GB.out.size
  go_wp2_with fail
  refine (OK6.out _ GB.out).mono ?_
  rintro e wc ⟨mc, vc, oc, rfl, hRc, -, gc⟩
  have HRC := Lib.hid hRc
  have HRB2 := Lib.hid (HRB.out.keep gc)
  have GC := Lib.hid (GB.out.trans gc)
  clear k0 k1 hRc gc HRB hbl
  go_wp2_with fail
  refine (ints_same _ _ _ _ _ _ (whiteR l R cnt C) _ HRB2.out HRC.out LWHITE.out).mono ?_
  rintro e wd ⟨rfl, gd⟩
  have GD := Lib.hid (GC.out.trans gd)
  clear gd
  go_wp2_with fail
  refine (trial_alive _).mono ?_
  rintro e we ⟨rfl, ge⟩
  go_wp2_with fail
  go_ret
  exact ⟨rfl, (G2.out.trans GD.out).trans ge⟩

end Graph
end Go.Proofs.Ytldgjmgdbaeglaa
