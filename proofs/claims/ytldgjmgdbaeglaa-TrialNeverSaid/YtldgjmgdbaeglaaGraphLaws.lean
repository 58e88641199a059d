/- The law GraphTells of layer 10, walked: it answers true. -/
import Derived.Test.YtldgjmgdbaeglaaGraphAlive
import Derived.Deep.RegionHeld3
set_option linter.unusedVariables false
set_option linter.unusedSimpArgs false
namespace Go.Proofs.Ytldgjmgdbaeglaa
open Go.RowKit Go.ChangeShapes Go.WideShapes Go.Deep

theorem nums_of_els {w : World} {a : Option Addr} {n : Nat} {V : Nat → Nat → Value} (h : Els w a n 1 V) (f : ∀ i, i < n → All2 [.i .i64] ((List.range 1).map (V i))) : ∃ l, Nums w a n l := by
  have each : ∀ j, j < n → ∃ y : Int, V j 0 = .int .i64 y := by
    intro j hj
    obtain ⟨v, vs, e, ⟨y, hy, -⟩, -⟩ := all2_cons (f j hj)
    simp at e
    exact ⟨y, by rw [e.1, hy]⟩
  obtain ⟨F, hF⟩ := choose_lt each
  refine ⟨(List.range n).map F, by simp, fun j hj => ?_⟩
  obtain ⟨b, off, rfl, hlt, hc⟩ := h.at_ j hj
  refine ⟨b, off, rfl, hlt, ?_⟩
  have := hc 0 (by decide)
  rw [hF j hj] at this
  rw [show off + j = off + (j * 1 + 0) by omega, this]
  congr 2
  unfold nthI; rw [List.getD_eq_getElem?_getD, List.getElem?_map, List.getElem?_range hj]; rfl
theorem Row.keep {w w' : World} {E : TypeId} {size n : Nat} {v : Value} {o : Option Nat} {xs : List Value} (h : Row w E size v o n xs) (hb : But (fun _ => False) w w') : Row w' E size v o n xs := h.but hb (fun _ _ q => q)

/-- The two lists are one. -/
theorem ints_same (v v' : Value) (o o' : Option Nat) (n n' : Nat) (xs : List Int) (w : World) (hR : Row w 3 1 v o n (ints xs)) (hR' : Row w 3 1 v' o' n' (ints xs)) (hx : xs.length ≤ 1000000000) :
    Calls Try.prog 30 #[v, v'] w fun e w' => e = .returned (.bool true) ∧ But (fun _ => False) w w' := by
  refine (ints_any v v' o o' n n' xs xs w hR hR' (by rw [← hR.ints_len]; exact hx) (by rw [← hR'.ints_len]; exact hx)).mono ?_
  rintro e w' ⟨rfl, m, rfl⟩
  exact ⟨by rw [decide_eq_true rfl], (But.refl _ _).drewN _⟩

namespace Graph

theorem countsR_len (l : List Nd) (R : List Int) : (countsR l R).length ≤ l.length := by
  unfold countsR
  split
  · rw [countsOf_length]; exact Nat.le_refl _
  · exact Nat.zero_le _
theorem deadR_len (l : List Nd) (R : List Int) : (deadR l R).length ≤ l.length := by
  unfold deadR
  split
  · unfold missTo; rw [List.length_map]; exact Nat.le_trans (List.length_filter_le _ _) (by rw [List.length_range]; exact Nat.le_refl _)
  · exact Nat.zero_le _

set_option maxHeartbeats 8000000 in
set_option maxRecDepth 100000 in
theorem tells_any (w : World) (a : Option Addr) (n cap : Nat) (l : List Nd) (hN : n ≤ cap ∧ cap ≤ maxLen ∧ Nodes w a n l) (ra : Option Addr) (rn rc : Nat) (R : List Int) (hR : rn ≤ rc ∧ rc ≤ maxLen ∧ Nums w ra rn R) (hz : n * 32 ≤ 140737488351232)
    (fa : Option Addr) (fn fc : Nat) (V : Nat → Nat → Value) (e : Els w fa fn 1 V) (f : ∀ i, i < fn → All2 [.i .i64] ((List.range 1).map (V i))) (z : fn * 8 ≤ 140737488351232) (m : fn ≤ fc ∧ fc ≤ maxLen) :
    Calls Try.prog 5 #[.agg #[.slice a n cap, .slice ra rn rc], .slice fa fn fc] w fun e w' => e = .returned (.bool true) ∧ But (fun _ => False) w w' := by
  obtain ⟨hn1, hn2, h⟩ := hN
  obtain ⟨hr1, hr2, hr⟩ := hR
  obtain ⟨F, hf⟩ := nums_of_els e f
  have H := Lib.hid h
  have HR := Lib.hid hr
  have HF := Lib.hid hf
  unfold maxLen at hn2 hr2 m
  clear h hr hf e f
  have G0 := (But.refl (fun _ => False) w).alloc (.cells #[.slice a n cap, .slice ra rn rc] 47)
  have B0 := Blk.new w #[.slice a n cap, .slice ra rn rc] 47
  have k0 := B0.cell 0
  have k1 := B0.cell 1
  go_enter Try.func5, Try.ntmps5
  go_wp2_with fail
  refine (fits_any a n cap l ra rn rc R _ (H.out.keep G0) (HR.out.keep G0) (by omega) (by omega)).mono ?_
  rintro e w2 ⟨rfl, g2⟩
  have B2 := Lib.hid (B0.but g2 (fun q => q))
  have G2 := Lib.hid (G0.trans g2)
  obtain ⟨b, hb⟩ : ∃ b, b = w.heap.size := ⟨_, rfl⟩
  rw [← hb] at B2 ⊢
  clear hb B0 G0 g2 k0 k1
  cases hfit : fitsB l R with
  | false =>
    clear hfit
    go_wp2_with fail
    refine (alive_any _).mono ?_
    rintro e w3 ⟨rfl, g3⟩
    go_wp2_with fail
    go_ret
    exact ⟨rfl, G2.out.trans g3⟩
  | true =>
    by_cases hbig : 30 < fn
    · clear hfit
      go_wp2_with fail
      refine (alive_any _).mono ?_
      rintro e w3 ⟨rfl, g3⟩
      go_wp2_with fail
      go_ret
      exact ⟨rfl, G2.out.trans g3⟩
    have FIT := Lib.hid ((fits_iff l R).1 hfit)
    have hn : n ≤ 30 := by have := FIT.out.1; rw [H.out.len] at this; exact this
    have hrn : rn ≤ 30 := by have := FIT.out.2.1; rw [HR.out.len] at this; exact this
    have OUT := Lib.hid (show ∀ i, i < n → (nd l i).out.length ≤ 1000000 from fun i hi => by have := FIT.out.2.2 i (by rw [H.out.len]; exact hi); omega)
    have LREACH := Lib.hid (show (reachR l R F).length ≤ 1000000000 by have := reachR_len l R F; rw [H.out.len] at this; omega)
    have LDEAD := Lib.hid (show (deadR l R).length ≤ 1000000000 by have := deadR_len l R; rw [H.out.len] at this; omega)
    have LDR := Lib.hid (show (reachR l R R).length ≤ 1000000 by have := reachR_len l R R; rw [H.out.len] at this; omega)
    have LCOUNTS := Lib.hid (show (countsR l R).length ≤ 1000000000 by have := countsR_len l R; rw [H.out.len] at this; omega)
    have hfn : fn ≤ 30 := by omega
    clear hfit hbig
    have HP := Lib.hid (show ∀ w', But (fun _ => False) w2 w' → w'.cell? ⟨b, 0, none⟩ = some (.slice a n cap) ∧ w'.cell? ⟨b, 1, none⟩ = some (.slice ra rn rc) from fun w' h => ⟨(B2.out.but h (fun q => q)).cell 0, (B2.out.but h (fun q => q)).cell 1⟩)
    have KN := Lib.hid (show ∀ w', But (fun _ => False) w2 w' → Nodes w' a n l ∧ Nums w' ra rn R ∧ Nums w' fa fn F from fun w' h => ⟨H.out.keep (G2.out.trans h), HR.out.keep (G2.out.trans h), HF.out.keep (G2.out.trans h)⟩)
    have OK1 := Lib.hid (show ∀ w', But (fun _ => False) w2 w' → Calls Try.prog 31 #[.agg #[.slice a n cap, .slice ra rn rc], .slice fa fn fc] w' fun e w'' => ∃ m, Copied (ints (reachR l R F)) m w' e w'' from fun w' h => reach_any a n cap l ra rn rc R fa fn fc F w' (KN.out w' h).1 (KN.out w' h).2.1 (KN.out w' h).2.2 (by omega) (by omega) (by omega) OUT.out)
    have OK2 := Lib.hid (show ∀ w', But (fun _ => False) w2 w' → Calls Try.prog 32 #[.agg #[.slice a n cap, .slice ra rn rc], .slice fa fn fc] w' fun e w'' => ∃ m, Copied (ints (reachR l R F)) m w' e w'' from fun w' h => ref_reach a n cap l ra rn rc R fa fn fc F w' (KN.out w' h).1 (KN.out w' h).2.1 (KN.out w' h).2.2 (by omega) (by omega) (by omega) OUT.out)
    have OK3 := Lib.hid (show ∀ w', But (fun _ => False) w2 w' → Calls Try.prog 33 #[.agg #[.slice a n cap, .slice ra rn rc]] w' fun e w'' => ∃ m, Copied (ints (deadR l R)) m w' e w'' from fun w' h => dead_any a n cap l ra rn rc R w' (KN.out w' h).1 (KN.out w' h).2.1 (by omega) (by omega) OUT.out)
    have OK4 := Lib.hid (show ∀ w', But (fun _ => False) w2 w' → Calls Try.prog 34 #[.agg #[.slice a n cap, .slice ra rn rc]] w' fun e w'' => ∃ m, Copied (ints (deadR l R)) m w' e w'' from fun w' h => ref_dead a n cap l ra rn rc R w' (KN.out w' h).1 (KN.out w' h).2.1 (by omega) (by omega) OUT.out LDR.out)
    have OK5 := Lib.hid (show ∀ w', But (fun _ => False) w2 w' → Calls Try.prog 35 #[.agg #[.slice a n cap, .slice ra rn rc]] w' fun e w'' => ∃ m, Copied (ints (countsR l R)) m w' e w'' from fun w' h => counts_any a n cap l ra rn rc R w' (KN.out w' h).1 (KN.out w' h).2.1 (by omega) (by omega) OUT.out)
    have OK6 := Lib.hid (show ∀ w', But (fun _ => False) w2 w' → Calls Try.prog 36 #[.agg #[.slice a n cap, .slice ra rn rc]] w' fun e w'' => ∃ m, Copied (ints (countsR l R)) m w' e w'' from fun w' h => ref_counts a n cap l ra rn rc R w' (KN.out w' h).1 (KN.out w' h).2.1 (by omega) (by omega) OUT.out)
    have OK7 := Lib.hid (show ∀ w', But (fun _ => False) w2 w' → Calls Try.prog 37 #[.agg #[.slice a n cap, .slice ra rn rc]] w' fun e w'' => e = .returned (.bool (rightB l R)) ∧ But (fun _ => False) w' w'' from fun w' h => right_any a n cap l ra rn rc R w' (KN.out w' h).1 (KN.out w' h).2.1 (by omega) (by omega) OUT.out)
    have OK8 := Lib.hid (show ∀ w', But (fun _ => False) w2 w' → Calls Try.prog 38 #[.agg #[.slice a n cap, .slice ra rn rc]] w' fun e w'' => e = .returned (.bool (rightB l R)) ∧ But (fun _ => False) w' w'' from fun w' h => ref_right a n cap l ra rn rc R w' (KN.out w' h).1 (KN.out w' h).2.1 (by omega) (by omega))
    clear KN H HR HF FIT OUT
    go_wp2_with fail
    go_region_held3 (fun w' => But (fun _ => False) w2 w' ∧ w'.cell? ⟨b, 0, none⟩ = some (.slice a n cap) ∧ w'.cell? ⟨b, 1, none⟩ = some (.slice ra rn rc))
      (first | assumption | (refine keepN HP.out ?_; first | exact (But.refl _ _).drew | exact (And.left ‹But (fun _ => False) w2 _ ∧ _›).drew | exact keep_step ‹But (fun _ => False) w2 _ ∧ _› (by assumption)))
      (first | (go_at_call 31; refine (OK1.out _ (And.left ‹But (fun _ => False) w2 _ ∧ _›)).mono ?_; rintro e w9 ⟨m9, v9, o9, rfl, hR9, -, g9⟩) | (go_at_call 32; refine (OK2.out _ (And.left ‹But (fun _ => False) w2 _ ∧ _›)).mono ?_; rintro e w9 ⟨m9, v9, o9, rfl, hR9, -, g9⟩) | (go_at_call 30; refine (ints_same _ _ _ _ _ _ (reachR l R F) _ (by first | assumption | exact Row.keep (by assumption) (by assumption)) (by first | assumption | exact Row.keep (by assumption) (by assumption)) LREACH.out).mono ?_; rintro e w9 ⟨rfl, g9⟩))
    go_wp2_with fail
    go_region_held3 (fun w' => But (fun _ => False) w2 w' ∧ w'.cell? ⟨b, 0, none⟩ = some (.slice a n cap) ∧ w'.cell? ⟨b, 1, none⟩ = some (.slice ra rn rc))
      (first | assumption | (refine keepN HP.out ?_; first | exact (But.refl _ _).drew | exact (And.left ‹But (fun _ => False) w2 _ ∧ _›).drew | exact keep_step ‹But (fun _ => False) w2 _ ∧ _› (by assumption)))
      (first | (go_at_call 33; refine (OK3.out _ (And.left ‹But (fun _ => False) w2 _ ∧ _›)).mono ?_; rintro e w9 ⟨m9, v9, o9, rfl, hR9, -, g9⟩) | (go_at_call 34; refine (OK4.out _ (And.left ‹But (fun _ => False) w2 _ ∧ _›)).mono ?_; rintro e w9 ⟨m9, v9, o9, rfl, hR9, -, g9⟩) | (go_at_call 30; refine (ints_same _ _ _ _ _ _ (deadR l R) _ (by first | assumption | exact Row.keep (by assumption) (by assumption)) (by first | assumption | exact Row.keep (by assumption) (by assumption)) LDEAD.out).mono ?_; rintro e w9 ⟨rfl, g9⟩))
    go_wp2_with fail
    go_region_held3 (fun w' => But (fun _ => False) w2 w' ∧ w'.cell? ⟨b, 0, none⟩ = some (.slice a n cap) ∧ w'.cell? ⟨b, 1, none⟩ = some (.slice ra rn rc))
      (first | assumption | (refine keepN HP.out ?_; first | exact (But.refl _ _).drew | exact (And.left ‹But (fun _ => False) w2 _ ∧ _›).drew | exact keep_step ‹But (fun _ => False) w2 _ ∧ _› (by assumption)))
      (first | (go_at_call 35; refine (OK5.out _ (And.left ‹But (fun _ => False) w2 _ ∧ _›)).mono ?_; rintro e w9 ⟨m9, v9, o9, rfl, hR9, -, g9⟩) | (go_at_call 36; refine (OK6.out _ (And.left ‹But (fun _ => False) w2 _ ∧ _›)).mono ?_; rintro e w9 ⟨m9, v9, o9, rfl, hR9, -, g9⟩) | (go_at_call 30; refine (ints_same _ _ _ _ _ _ (countsR l R) _ (by first | assumption | exact Row.keep (by assumption) (by assumption)) (by first | assumption | exact Row.keep (by assumption) (by assumption)) LCOUNTS.out).mono ?_; rintro e w9 ⟨rfl, g9⟩))
    go_wp2_with fail
    go_region_held3 (fun w' => But (fun _ => False) w2 w' ∧ w'.cell? ⟨b, 0, none⟩ = some (.slice a n cap) ∧ w'.cell? ⟨b, 1, none⟩ = some (.slice ra rn rc))
      (first | assumption | (refine keepN HP.out ?_; first | exact (But.refl _ _).drew | exact (And.left ‹But (fun _ => False) w2 _ ∧ _›).drew | exact keep_step ‹But (fun _ => False) w2 _ ∧ _› (by assumption)))
      (first | (go_at_call 29; refine (alive_any _).mono ?_; rintro e w9 ⟨rfl, g9⟩) | (go_at_call 37; refine (OK7.out _ (And.left ‹But (fun _ => False) w2 _ ∧ _›)).mono ?_; rintro e w9 ⟨rfl, g9⟩) | (go_at_call 38; refine (OK8.out _ (And.left ‹But (fun _ => False) w2 _ ∧ _›)).mono ?_; rintro e w9 ⟨rfl, g9⟩))
    go_wp2_with fail
    go_ret
    exact ⟨rfl, G2.out.trans (And.left ‹But (fun _ => False) w2 _ ∧ _›)⟩

end Graph
end Go.Proofs.Ytldgjmgdbaeglaa
