/- The law GraphClosed of layer 10, walked: it answers true. -/
import Derived.Test.YtldgjmgdbaeglaaGraphClosed
set_option linter.unusedVariables false
set_option linter.unusedSimpArgs false
namespace Go.Proofs.Ytldgjmgdbaeglaa
open Go.RowKit Go.ChangeShapes Go.WideShapes Go.Deep

theorem Nums.cell_at {w : World} {a : Option Addr} {n : Nat} {l : List Int} (h : Nums w a n l) {j : Nat} (hj : j < n) {x : Int} (e : nthI l j = x) : ∃ b off, a = some ⟨b, off, none⟩ ∧ b < w.heap.size ∧ w.cell? ⟨b, off + j, none⟩ = some (.int .i64 x) := by
  rw [← e]; exact h.at_ j hj

namespace Graph

/-- What there is behind the three calls. -/
structure Lay (w : World) (b : Nat) (a : Option Addr) (n cap : Nat) (l : List Nd) (ra : Option Addr) (rn rc : Nat) (R : List Int) (fa : Option Addr) (fn : Nat) (F : List Int)
    (va : Option Addr) (vn vc : Nat) (vo : Option Nat) (r : List Int) (da : Option Addr) (dn : Nat) (d : List Int) (ca : Option Addr) (c : List Int) : Prop where
  box : Blk w b #[.slice a n cap, .slice ra rn rc] 47
  nodes : Nodes w a n l
  roots : Nums w ra rn R
  asked : Nums w fa fn F
  row : Row w 3 1 (.slice va vn vc) vo vn (ints r)
  dead : Nums w da dn d
  counts : Nums w ca n c
theorem Lay.keep {w w' : World} {b : Nat} {a : Option Addr} {n cap : Nat} {l : List Nd} {ra : Option Addr} {rn rc : Nat} {R : List Int} {fa : Option Addr} {fn : Nat} {F : List Int}
    {va : Option Addr} {vn vc : Nat} {vo : Option Nat} {r : List Int} {da : Option Addr} {dn : Nat} {d : List Int} {ca : Option Addr} {c : List Int}
    (h : Lay w b a n cap l ra rn rc R fa fn F va vn vc vo r da dn d ca c) (g : But (fun _ => False) w w') : Lay w' b a n cap l ra rn rc R fa fn F va vn vc vo r da dn d ca c :=
  ⟨h.box.but g (fun q => q), h.nodes.keep g, h.roots.keep g, h.asked.keep g, h.row.keep g, h.dead.keep g, h.counts.keep g⟩

set_option maxHeartbeats 16000000 in
set_option maxRecDepth 100000 in
theorem closed_any (w : World) (a : Option Addr) (n cap : Nat) (l : List Nd) (hN : n ≤ cap ∧ cap ≤ maxLen ∧ Nodes w a n l) (ra : Option Addr) (rn rc : Nat) (R : List Int) (hR : rn ≤ rc ∧ rc ≤ maxLen ∧ Nums w ra rn R) (hz : n * 32 ≤ 140737488351232)
    (fa : Option Addr) (fn fc : Nat) (V : Nat → Nat → Value) (e : Els w fa fn 1 V) (f : ∀ i, i < fn → All2 [.i .i64] ((List.range 1).map (V i))) (z : fn * 8 ≤ 140737488351232) (m : fn ≤ fc ∧ fc ≤ maxLen) :
    Calls Try.prog 6 #[.agg #[.slice a n cap, .slice ra rn rc], .slice fa fn fc] w fun e w' => e = .returned (.bool true) ∧ But (fun _ => False) w w' := by
  obtain ⟨hn1, hn2, h⟩ := hN
  obtain ⟨hr1, hr2, hr⟩ := hR
  obtain ⟨F, hf⟩ := nums_of_els e f
  have H := Lib.hid h
  have HR := Lib.hid hr
  have HF := Lib.hid hf
  unfold maxLen at hn2 hr2 m
  clear h hr hf e f
  have G0 := (But.refl (fun _ => False) w).alloc (.cells #[.slice a n cap, .slice ra rn rc] 47)
  have B0 := Blk.new w #[.slice a n cap, .slice ra rn rc] 47
  have k0 := B0.cell 0
  have k1 := B0.cell 1
  go_enter Try.func6, Try.ntmps6
  go_wp2_with fail
  refine (fits_any a n cap l ra rn rc R _ (H.out.keep G0) (HR.out.keep G0) (by omega) (by omega)).mono ?_
  rintro e w2 ⟨rfl, g2⟩
  have B2 := B0.but g2 (fun q => q)
  have G2 := Lib.hid (G0.trans g2)
  obtain ⟨b, hb⟩ : ∃ b, b = w.heap.size := ⟨_, rfl⟩
  rw [← hb] at B2 ⊢
  clear hb B0 G0 g2 k0 k1
  have k0 : w2.cell? ⟨b, 0, none⟩ = some (.slice a n cap) := B2.cell 0
  have k1 : w2.cell? ⟨b, 1, none⟩ = some (.slice ra rn rc) := B2.cell 1
  have hbl := B2.lt
  have HB2 := Lib.hid B2
  clear B2
  go_wp2_with fail
  refine (ref_right a n cap l ra rn rc R _ (H.out.keep G2.out) (HR.out.keep G2.out) (by omega) (by omega)).mono ?_
  rintro e w3 ⟨rfl, g3⟩
  have B3 := HB2.out.but g3 (fun q => q)
  have G3 := Lib.hid (G2.out.trans g3)
  clear HB2 G2 k0 k1 hbl g3
  have k0 : w3.cell? ⟨b, 0, none⟩ = some (.slice a n cap) := B3.cell 0
  have k1 : w3.cell? ⟨b, 1, none⟩ = some (.slice ra rn rc) := B3.cell 1
  have hbl := B3.lt
  have HB3 := Lib.hid B3
  clear B3
  by_cases hq : fitsB l R = true ∧ rightB l R = true ∧ fn ≤ 30
  case neg =>
    cases h1 : fitsB l R with
    | false =>
      clear hq h1
      go_wp2_with fail
      refine (alive_any _).mono ?_
      rintro e w4 ⟨rfl, g4⟩
      go_wp2_with fail
      go_ret
      exact ⟨rfl, G3.out.trans g4⟩
    | true =>
      cases h2 : rightB l R with
      | false =>
        clear hq h1 h2
        go_wp2_with fail
        refine (alive_any _).mono ?_
        rintro e w4 ⟨rfl, g4⟩
        go_wp2_with fail
        go_ret
        exact ⟨rfl, G3.out.trans g4⟩
      | true =>
        have hbig : 30 < fn := by
          by_cases c : fn ≤ 30
          · exact absurd ⟨h1, h2, c⟩ hq
          · omega
        clear hq h1 h2
        go_wp2_with fail
        refine (alive_any _).mono ?_
        rintro e w4 ⟨rfl, g4⟩
        go_wp2_with fail
        go_ret
        exact ⟨rfl, G3.out.trans g4⟩
  obtain ⟨hfit, hrt, hfn⟩ := hq
  rw [hfit, hrt]
  have RT := Lib.hid hrt
  have FIT := Lib.hid ((fits_iff l R).1 hfit)
  have hn : n ≤ 30 := by have := FIT.out.1; rw [H.out.len] at this; exact this
  have hrn : rn ≤ 30 := by have := FIT.out.2.1; rw [HR.out.len] at this; exact this
  have OUT := Lib.hid (show ∀ i, i < n → (nd l i).out.length ≤ 1000000 from fun i hi => by have := FIT.out.2.2 i (by rw [H.out.len]; exact hi); omega)
  have HL := Lib.hid H.out.len
  clear hfit hrt hn1 hn2 hr1 hr2 m
  go_wp2_with fail
  refine (reach_any a n cap l ra rn rc R fa fn fc F _ (H.out.keep G3.out) (HR.out.keep G3.out) (HF.out.keep G3.out) (by omega) (by omega) (by omega) OUT.out).mono ?_
  rintro e w4 ⟨vn, v, vo, rfl, hRv, hNv, g4⟩
  obtain ⟨va, vc, rfl, -, -⟩ := hRv.val
  have hvn : vn ≤ 30 := by have := reachR_len l R F; rw [hRv.ints_len, HL.out] at this; omega
  have hvn2 : vn ≤ n := by have := reachR_len l R F; rw [hRv.ints_len, HL.out] at this; omega
  have HRV := Lib.hid hRv
  have B4 := HB3.out.but g4 (fun q => q)
  have G4 := Lib.hid (G3.out.trans g4)
  clear HB3 G3 k0 k1 hbl g4 hRv hNv
  have k0 : w4.cell? ⟨b, 0, none⟩ = some (.slice a n cap) := B4.cell 0
  have k1 : w4.cell? ⟨b, 1, none⟩ = some (.slice ra rn rc) := B4.cell 1
  have hbl := B4.lt
  have HB4 := Lib.hid B4
  clear B4
  go_wp2_with fail
  refine (dead_any a n cap l ra rn rc R _ (H.out.keep G4.out) (HR.out.keep G4.out) (by omega) (by omega) OUT.out).mono ?_
  rintro e w5 ⟨dn, dv, dob, rfl, hRd, hNd, g5⟩
  obtain ⟨da, dc, rfl, -, -⟩ := hRd.val
  have hdn : dn ≤ 30 := by have := deadR_len l R; rw [hRd.ints_len, HL.out] at this; omega
  have HRD := Lib.hid hRd.nums
  have HRV5 := Lib.hid (HRV.out.keep g5)
  have B5 := HB4.out.but g5 (fun q => q)
  have G5 := Lib.hid (G4.out.trans g5)
  clear HB4 G4 k0 k1 hbl g5 hRd hNd HRV
  have k0 : w5.cell? ⟨b, 0, none⟩ = some (.slice a n cap) := B5.cell 0
  have k1 : w5.cell? ⟨b, 1, none⟩ = some (.slice ra rn rc) := B5.cell 1
  have hbl := B5.lt
  have HB5 := Lib.hid B5
  clear B5
  go_wp2_with fail
  refine (counts_any a n cap l ra rn rc R _ (H.out.keep G5.out) (HR.out.keep G5.out) (by omega) (by omega) OUT.out).mono ?_
  rintro e w6 ⟨cn, cv, cob, rfl, hRc, hNc, g6⟩
  obtain ⟨ca, cc, rfl, -, -⟩ := hRc.val
  have hcn : cn = n := by rw [← hRc.ints_len, countsR_yes RT.out, countsOf_length, HL.out]
  subst hcn
  have G6 := Lib.hid (G5.out.trans g6)
  obtain ⟨r, hr⟩ : ∃ r, reachR l R F = r := ⟨_, rfl⟩
  obtain ⟨d, hd⟩ : ∃ d, deadR l R = d := ⟨_, rfl⟩
  have LAY := Lib.hid (show Lay w6 b a cn cap l ra rn rc R fa fn F va vn vc vo r da dn d ca (countsOf l R) from
    ⟨HB5.out.but g6 (fun q => q), H.out.keep G6.out, HR.out.keep G6.out, HF.out.keep G6.out, by rw [← hr]; exact HRV5.out.keep g6, by rw [← hd]; exact HRD.out.keep g6, by rw [← countsR_yes RT.out]; exact hRc.nums⟩)
  have HRR := Lib.hid hr
  have HDD := Lib.hid hd
  have k0 : w6.cell? ⟨b, 0, none⟩ = some (.slice a cn cap) := LAY.out.box.cell 0
  have k1 : w6.cell? ⟨b, 1, none⟩ = some (.slice ra rn rc) := LAY.out.box.cell 1
  have hbl := LAY.out.box.lt
  have PIN := Lib.hid (show ∀ i k, i < cn → k < cn → decide ((nd l i).id ∈ (nd l k).out) = true → decide ((nd l k).id ∈ r) = true → decide ((nd l i).id ∈ r) = true from fun i k hi hk h1 h2 => by
    rw [← hr] at h2 ⊢
    exact decide_eq_true (closed_in RT.out (by rw [HL.out]; exact hi) (by rw [HL.out]; exact hk) (of_decide_eq_true h1) (of_decide_eq_true h2)))
  have PGONE := Lib.hid (show ∀ i k, i < cn → k < cn → decide ((nd l i).id ∈ (nd l k).out) = true → decide ((nd l k).id ∈ d) = false → decide ((nd l i).id ∈ d) = false from fun i k hi hk h1 h2 => by
    rw [← hd] at h2 ⊢
    exact decide_eq_false (closed_gone RT.out (by rw [HL.out]; exact hi) (by rw [HL.out]; exact hk) (of_decide_eq_true h1) (of_decide_eq_false h2)))
  have PASK := Lib.hid (show ∀ i, i < cn → decide ((nd l i).id ∈ F) = true → decide ((nd l i).id ∈ r) = true from fun i hi h1 => by
    rw [← hr]
    exact decide_eq_true (closed_ask RT.out (by rw [HL.out]; exact hi) (of_decide_eq_true h1)))
  have PPT := Lib.hid (show ∀ i, i < cn → decide ((nd l i).id ∈ r) = true → decide ((nd l i).id ∈ F) = false → ptTo l r i cn = true from fun i hi h1 h2 => by
    rw [← hr] at h1 ⊢
    rw [← HL.out]
    exact closed_pt RT.out (by rw [HL.out]; exact hi) (of_decide_eq_true h1) (of_decide_eq_false h2))
  have PROOT := Lib.hid (show ∀ i, i < cn → decide ((nd l i).id ∈ R) = true → decide ((nd l i).id ∈ d) = false from fun i hi h1 => by
    rw [← hd]
    exact decide_eq_false (closed_root RT.out (by rw [HL.out]; exact hi) (of_decide_eq_true h1)))
  have PSUM := Lib.hid (show gainTo l R cn = (rn : Int) by rw [← HL.out, gain_all RT.out, HR.out.len])
  have PBD := Lib.hid (show ∀ j, j ≤ cn → -(j * 1000000 : Int) ≤ gainTo l R j ∧ gainTo l R j ≤ j * 31000000 from fun j hj => gain_bd FIT.out.1 FIT.out.2.1 (fun i hi => OUT.out i (by rw [← HL.out]; exact hi)) j (by rw [HL.out]; exact hj))
  have PCB := Lib.hid (show ∀ j, 0 ≤ countOf l R j ∧ countOf l R j ≤ 31000000 from fun j => count_bd FIT.out.1 FIT.out.2.1 (fun i hi => OUT.out i (by rw [← HL.out]; exact hi)) j)
  clear HB5 G5 g6 hRc hNc HRV5 HRD hr hd H HR HF FIT
  have hvd : decide (cn < vn) = false := decide_eq_false (by omega)
  go_wp2_with fail
  go_loopg [10, 11] cn (fun k sv iv wr => ∃ j : Nat, j + k = cn ∧ iv = .int .i64 j ∧ sv = .int .i64 (gainTo l R j) ∧ But (fun _ => False) w6 wr)
  case atStart => exact ⟨0, by omega, rfl, rfl, But.refl _ _⟩
  case round =>
    clear k0 k1 hbl
    obtain ⟨j, hj, rfl, rfl, hbut⟩ := hrel
    have L1 := Lib.hid (LAY.out.keep hbut)
    have GR := Lib.hid hbut
    have k0 : wr.cell? ⟨b, 0, none⟩ = some (.slice a cn cap) := L1.out.box.cell 0
    have k1 : wr.cell? ⟨b, 1, none⟩ = some (.slice ra rn rc) := L1.out.box.cell 1
    have hbl := L1.out.box.lt
    clear hbut
    by_cases hlt : j < cn
    · obtain ⟨nb, off, oa, on, oc, rfl, hnb, c0, c1, -, -, hout⟩ := L1.out.nodes.at_ j hlt
      have hon : on ≤ 1000000 := by have := OUT.out j hlt; rw [hout.len] at this; exact this
      have HLEN := Lib.hid (show ((nd l j).out.length : Int) = (on : Int) by rw [hout.len])
      clear hout
      obtain ⟨x, hx⟩ : ∃ x, (nd l j).id = x := ⟨_, rfl⟩
      rw [hx] at c0
      have HX := Lib.hid hx
      obtain ⟨cj, hcj⟩ : ∃ cj, countOf l R j = cj := ⟨_, rfl⟩
      obtain ⟨S, hS⟩ : ∃ S, gainTo l R j = S := ⟨_, rfl⟩
      obtain ⟨cb, coff, rfl, hcb, cc0⟩ := L1.out.counts.cell_at hlt ((countsOf_nth (by rw [HL.out]; exact hlt)).trans hcj)
      have hcbd := PCB.out j
      have hSbd := PBD.out j (by omega)
      rw [hcj] at hcbd
      rw [hS] at hSbd ⊢
      have hSb1 : -30000000 ≤ S := by omega
      have hSb2 : S ≤ 1000000000 := by omega
      have hcb1 := hcbd.1
      have hcb2 := hcbd.2
      have HNX := Lib.hid (show gainTo l R (j + 1) = S + cj - on by show gainTo l R j + countOf l R j - ((nd l j).out.length : Int) = _; rw [hS, hcj, HLEN.out])
      have hw1 : IntKind.i64.wrap (S + cj) = S + cj := IntWalk.i64_in _ (by omega)
      have hw2 : IntKind.i64.wrap (S + cj - on) = S + cj - on := IntWalk.i64_in _ (by omega)
      clear hx hcj hS hcbd hSbd
      have GA := Lib.hid ((But.refl (fun _ => False) wr).alloc (.cells #[.int .i64 x, .slice oa on oc] 54))
      have NB := Lib.hid (Blk.new wr #[.int .i64 x, .slice oa on oc] 54)
      obtain ⟨bx, hbx⟩ : ∃ bx, bx = wr.heap.size := ⟨_, rfl⟩
      rw [← hbx] at NB
      go_wp2_with fail
      go_quiet (fail)
      obtain ⟨w7, hw7⟩ : ∃ w7, w7 = (wr.alloc (.cells #[.int .i64 x, .slice oa on oc] 54)).drewN nq := ⟨_, rfl⟩
      have L7 := Lib.hid (L1.out.keep (show But (fun _ => False) wr w7 by rw [hw7]; exact GA.out.drewN nq))
      have G7 := Lib.hid (show But (fun _ => False) w6 w7 by rw [hw7]; exact GR.out.trans (GA.out.drewN nq))
      have N7 := Lib.hid (show Blk w7 bx #[.int .i64 x, .slice oa on oc] 54 by rw [hw7]; exact NB.out.drewN nq)
      rw [← hw7, ← hbx]
      clear hw7 hbx hw1 hw2 k0 k1 hbl c0 c1 cc0 hnb hcb NB GA L1 GR
      have k0 : w7.cell? ⟨b, 0, none⟩ = some (.slice (some ⟨nb, off, none⟩) cn cap) := L7.out.box.cell 0
      have k1 : w7.cell? ⟨b, 1, none⟩ = some (.slice ra rn rc) := L7.out.box.cell 1
      have n0 : w7.cell? ⟨bx, 0, none⟩ = some (.int .i64 x) := N7.out.cell 0
      have hbl := L7.out.box.lt
      have hnl := N7.out.lt
      go_wp2_with fail
      refine (has_any va vn vc r x _ L7.out.row.nums (by omega)).mono ?_
      rintro e w8 ⟨rfl, rfl⟩
      go_wp2_with fail
      refine (has_any fa fn fc F x _ L7.out.asked (by omega)).mono ?_
      rintro e w8 ⟨rfl, rfl⟩
      go_wp2_with fail
      refine (has_any da dn dc d x _ L7.out.dead (by omega)).mono ?_
      rintro e w8 ⟨rfl, rfl⟩
      go_wp2_with fail
      refine (has_any ra rn rc R x _ L7.out.roots (by omega)).mono ?_
      rintro e w8 ⟨rfl, rfl⟩
      obtain ⟨inv, hinv⟩ : ∃ v, decide (x ∈ r) = v := ⟨_, rfl⟩
      obtain ⟨ask, hask⟩ : ∃ v, decide (x ∈ F) = v := ⟨_, rfl⟩
      obtain ⟨gone, hgone⟩ : ∃ v, decide (x ∈ d) = v := ⟨_, rfl⟩
      obtain ⟨root, hroot⟩ : ∃ v, decide (x ∈ R) = v := ⟨_, rfl⟩
      rw [hinv, hask, hgone, hroot]
      have HINV := Lib.hid (show decide ((nd l j).id ∈ r) = inv by rw [HX.out]; exact hinv)
      have HASK := Lib.hid (show decide ((nd l j).id ∈ F) = ask by rw [HX.out]; exact hask)
      have HGONE := Lib.hid (show decide ((nd l j).id ∈ d) = gone by rw [HX.out]; exact hgone)
      have HROOT := Lib.hid (show decide ((nd l j).id ∈ R) = root by rw [HX.out]; exact hroot)
      clear hinv hask hgone hroot
      go_wp2_with fail
      go_loopg [17, 18] cn (fun k pv kv wz => ∃ m : Nat, m + k = cn ∧ kv = .int .i64 m ∧ pv = .bool (ptTo l r j m) ∧ But (fun _ => False) w7 wz)
      case atStart => exact ⟨0, by omega, rfl, rfl, But.refl _ _⟩
      case round =>
        clear k0 k1 hbl n0 hnl
        obtain ⟨m, hm, rfl, rfl, hbut⟩ := hrel
        have L8 := Lib.hid (L7.out.keep hbut)
        have N8 := Lib.hid (N7.out.but hbut (fun q => q))
        have G8 := Lib.hid hbut
        have k0 : wr.cell? ⟨b, 0, none⟩ = some (.slice (some ⟨nb, off, none⟩) cn cap) := L8.out.box.cell 0
        have k1 : wr.cell? ⟨b, 1, none⟩ = some (.slice ra rn rc) := L8.out.box.cell 1
        have n0 : wr.cell? ⟨bx, 0, none⟩ = some (.int .i64 x) := N8.out.cell 0
        have hbl := L8.out.box.lt
        have hnl := N8.out.lt
        clear hbut
        obtain ⟨t, ht⟩ : ∃ t, ptTo l r j m = t := ⟨_, rfl⟩
        rw [ht]
        have HT := Lib.hid ht
        clear ht
        by_cases hmn : m < cn
        · obtain ⟨nb2, off2, oa2, on2, oc2, e2, hnb2, d0, d1, -, -, hout2⟩ := L8.out.nodes.at_ m hmn
          simp at e2
          obtain ⟨rfl, rfl⟩ := e2
          have hon2 : on2 ≤ 1000000 := by have := OUT.out m hmn; rw [hout2.len] at this; exact this
          obtain ⟨y, hy⟩ : ∃ y, (nd l m).id = y := ⟨_, rfl⟩
          rw [hy] at d0
          have HY := Lib.hid hy
          have HOUT := Lib.hid hout2
          obtain ⟨p, hp⟩ : ∃ p, decide (x ∈ (nd l m).out) = p := ⟨_, rfl⟩
          have HP := Lib.hid (show decide ((nd l j).id ∈ (nd l m).out) = p by rw [HX.out]; exact hp)
          have HAS := Lib.hid (fun w h => has_any oa2 on2 oc2 (nd l m).out x w h (by omega))
          rw [hp] at HAS
          clear hout2 hy hp
          have HPT := Lib.hid (ptTo_succ l r j m)
          go_wp2_with fail
          go_quiet ((go_at_call 39; exact quiet_same (HAS.out _ (HOUT.out.keep ((But.refl _ _).drewN _)))))
          obtain ⟨w9, hw9⟩ : ∃ w9, w9 = wr.drewN nq := ⟨_, rfl⟩
          have L9 := Lib.hid (L8.out.keep (show But (fun _ => False) wr w9 by rw [hw9]; exact (But.refl _ _).drewN nq))
          have G9 := Lib.hid (show But (fun _ => False) w7 w9 by rw [hw9]; exact G8.out.drewN nq)
          have d0 : w9.cell? ⟨nb, off + m * 2, none⟩ = some (.int .i64 y) := by rw [hw9, ← d0]; rfl
          rw [← hw9]
          clear hw9 k0 k1 hbl n0 hnl d1 hnb2 HAS HOUT L8 N8 G8
          have k0 : w9.cell? ⟨b, 0, none⟩ = some (.slice (some ⟨nb, off, none⟩) cn cap) := L9.out.box.cell 0
          have hbl := L9.out.box.lt
          go_wp2_with fail
          refine (has_any va vn vc r y _ L9.out.row.nums (by omega)).mono ?_
          rintro e w8 ⟨rfl, rfl⟩
          go_wp2_with fail
          refine (has_any da dn dc d y _ L9.out.dead (by omega)).mono ?_
          rintro e w8 ⟨rfl, rfl⟩
          obtain ⟨q, hq⟩ : ∃ v, decide (y ∈ r) = v := ⟨_, rfl⟩
          obtain ⟨z, hzz⟩ : ∃ v, decide (y ∈ d) = v := ⟨_, rfl⟩
          rw [hq, hzz]
          have HQ := Lib.hid (show decide ((nd l m).id ∈ r) = q by rw [HY.out]; exact hq)
          have HZ := Lib.hid (show decide ((nd l m).id ∈ d) = z by rw [HY.out]; exact hzz)
          clear hq hzz k0 d0
          have H1 := Lib.hid (show p = true → q = true → inv = true from fun h1 h2 => by rw [← HINV.out]; exact PIN.out j m hlt hmn (HP.out.trans h1) (HQ.out.trans h2))
          have H2 := Lib.hid (show p = true → z = false → gone = false from fun h1 h2 => by rw [← HGONE.out]; exact PGONE.out j m hlt hmn (HP.out.trans h1) (HZ.out.trans h2))
          have HS := Lib.hid (show ptTo l r j (m + 1) = (t || (p && q && decide (m ≠ j))) by rw [HPT.out, HT.out, HP.out, HQ.out])
          clear HPT HP HQ HZ
          cases p with
          | false =>
            cases t with
            | true =>
              have E := Lib.hid (show ptTo l r j (m + 1) = true by rw [HS.out]; simp)
              go_wp2_with fail
              go_roundg (cn - (m + 1))
              case measure => omega
              case rel => exact ⟨m + 1, by omega, by go_num, by rw [E.out], G9.out⟩
            | false =>
              have E := Lib.hid (show ptTo l r j (m + 1) = false by rw [HS.out]; simp)
              go_wp2_with fail
              go_roundg (cn - (m + 1))
              case measure => omega
              case rel => exact ⟨m + 1, by omega, by go_num, by rw [E.out], G9.out⟩
          | true =>
            cases z with
            | true =>
              cases q with
              | false =>
                cases t with
                | true =>
                  have E := Lib.hid (show ptTo l r j (m + 1) = true by rw [HS.out]; simp)
                  go_wp2_with fail
                  go_roundg (cn - (m + 1))
                  case measure => omega
                  case rel => exact ⟨m + 1, by omega, by go_num, by rw [E.out], G9.out⟩
                | false =>
                  have E := Lib.hid (show ptTo l r j (m + 1) = false by rw [HS.out]; simp)
                  go_wp2_with fail
                  go_roundg (cn - (m + 1))
                  case measure => omega
                  case rel => exact ⟨m + 1, by omega, by go_num, by rw [E.out], G9.out⟩
              | true =>
                have ei : inv = true := H1.out rfl rfl
                subst ei
                cases t with
                | true =>
                  have E := Lib.hid (show ptTo l r j (m + 1) = true by rw [HS.out]; simp)
                  go_wp2_with fail
                  go_roundg (cn - (m + 1))
                  case measure => omega
                  case rel => exact ⟨m + 1, by omega, by go_num, by rw [E.out], G9.out⟩
                | false =>
                  by_cases c : m = j
                  · subst c
                    have E := Lib.hid (show ptTo l r m (m + 1) = false by rw [HS.out]; simp)
                    go_wp2_with fail
                    go_roundg (cn - (m + 1))
                    case measure => omega
                    case rel => exact ⟨m + 1, by omega, by go_num, by rw [E.out], G9.out⟩
                  · have c2 : ((m : Int) == (j : Int)) = false := by rw [beq_eq_false_iff_ne]; omega
                    have c3 : ((m : Int) != (j : Int)) = true := by simp [bne, c2]
                    have E := Lib.hid (show ptTo l r j (m + 1) = true by rw [HS.out]; simp [c])
                    clear c
                    go_wp2_with fail
                    go_roundg (cn - (m + 1))
                    case measure => omega
                    case rel => exact ⟨m + 1, by omega, by go_num, by rw [E.out], G9.out⟩
            | false =>
              have eg : gone = false := H2.out rfl rfl
              subst eg
              cases q with
              | false =>
                cases t with
                | true =>
                  have E := Lib.hid (show ptTo l r j (m + 1) = true by rw [HS.out]; simp)
                  go_wp2_with fail
                  go_roundg (cn - (m + 1))
                  case measure => omega
                  case rel => exact ⟨m + 1, by omega, by go_num, by rw [E.out], G9.out⟩
                | false =>
                  have E := Lib.hid (show ptTo l r j (m + 1) = false by rw [HS.out]; simp)
                  go_wp2_with fail
                  go_roundg (cn - (m + 1))
                  case measure => omega
                  case rel => exact ⟨m + 1, by omega, by go_num, by rw [E.out], G9.out⟩
              | true =>
                have ei : inv = true := H1.out rfl rfl
                subst ei
                cases t with
                | true =>
                  have E := Lib.hid (show ptTo l r j (m + 1) = true by rw [HS.out]; simp)
                  go_wp2_with fail
                  go_roundg (cn - (m + 1))
                  case measure => omega
                  case rel => exact ⟨m + 1, by omega, by go_num, by rw [E.out], G9.out⟩
                | false =>
                  by_cases c : m = j
                  · subst c
                    have E := Lib.hid (show ptTo l r m (m + 1) = false by rw [HS.out]; simp)
                    go_wp2_with fail
                    go_roundg (cn - (m + 1))
                    case measure => omega
                    case rel => exact ⟨m + 1, by omega, by go_num, by rw [E.out], G9.out⟩
                  · have c2 : ((m : Int) == (j : Int)) = false := by rw [beq_eq_false_iff_ne]; omega
                    have c3 : ((m : Int) != (j : Int)) = true := by simp [bne, c2]
                    have E := Lib.hid (show ptTo l r j (m + 1) = true by rw [HS.out]; simp [c])
                    clear c
                    go_wp2_with fail
                    go_roundg (cn - (m + 1))
                    case measure => omega
                    case rel => exact ⟨m + 1, by omega, by go_num, by rw [E.out], G9.out⟩
        · obtain rfl : m = cn := by omega
          as_aux_lemma =>
          cases ask with
          | true =>
            have ei : inv = true := by rw [← HINV.out]; exact PASK.out j hlt HASK.out
            subst ei
            cases root with
            | true =>
              have eg : gone = false := by rw [← HGONE.out]; exact PROOT.out j hlt HROOT.out
              subst eg
              go_wp2_with fail
              go_roundg (m - (j + 1))
              case measure => omega
              case rel => exact ⟨j + 1, by omega, by go_num, by rw [HNX.out], G7.out.trans G8.out⟩
            | false =>
              go_wp2_with fail
              go_roundg (m - (j + 1))
              case measure => omega
              case rel => exact ⟨j + 1, by omega, by go_num, by rw [HNX.out], G7.out.trans G8.out⟩
          | false =>
            cases inv with
            | true =>
              have et : t = true := by rw [← HT.out]; exact PPT.out j hlt HINV.out HASK.out
              subst et
              cases root with
              | true =>
                have eg : gone = false := by rw [← HGONE.out]; exact PROOT.out j hlt HROOT.out
                subst eg
                go_wp2_with fail
                go_roundg (m - (j + 1))
                case measure => omega
                case rel => exact ⟨j + 1, by omega, by go_num, by rw [HNX.out], G7.out.trans G8.out⟩
              | false =>
                go_wp2_with fail
                go_roundg (m - (j + 1))
                case measure => omega
                case rel => exact ⟨j + 1, by omega, by go_num, by rw [HNX.out], G7.out.trans G8.out⟩
            | false =>
              cases root with
              | true =>
                have eg : gone = false := by rw [← HGONE.out]; exact PROOT.out j hlt HROOT.out
                subst eg
                go_wp2_with fail
                go_roundg (m - (j + 1))
                case measure => omega
                case rel => exact ⟨j + 1, by omega, by go_num, by rw [HNX.out], G7.out.trans G8.out⟩
              | false =>
                go_wp2_with fail
                go_roundg (m - (j + 1))
                case measure => omega
                case rel => exact ⟨j + 1, by omega, by go_num, by rw [HNX.out], G7.out.trans G8.out⟩
    · obtain rfl : j = cn := by omega
      rw [PSUM.out]
      have hrn' : rn ≤ 9223372036854775807 := by omega
      go_wp2_with fail
      refine (reach_any a j cap l ra rn rc R va vn vc r _ L1.out.nodes L1.out.roots L1.out.row.nums (by omega) (by omega) (by omega) OUT.out).mono ?_
      rintro e w8 ⟨m8, v8, o8, rfl, hR8, -, g8⟩
      have EAG := Lib.hid (show reachR l R r = r by rw [← HRR.out]; exact closed_again RT.out)
      rw [EAG.out] at hR8
      obtain ⟨a8, c8, rfl, -, -⟩ := hR8.val
      have HR8 := Lib.hid hR8
      have L8 := Lib.hid (L1.out.keep g8)
      have G8 := Lib.hid (GR.out.trans g8)
      clear hR8 g8 k0 k1 hbl
      go_wp2_with fail
      refine (ints_same _ _ _ _ _ _ r _ HR8.out L8.out.row (by have := L8.out.row.ints_len; omega)).mono ?_
      rintro e w9 ⟨rfl, g9⟩
      have L9 := Lib.hid (L8.out.keep g9)
      have G9 := Lib.hid (G8.out.trans g9)
      clear g9 HR8
      go_wp2_with fail
      refine (alive_any _).mono ?_
      rintro e w10 ⟨rfl, g10⟩
      have k1 : w10.cell? ⟨b, 1, none⟩ = some (.slice ra rn rc) := (L9.out.box.but g10 (fun q => q)).cell 1
      have hbl := (L9.out.box.but g10 (fun q => q)).lt
      have FIN := Lib.hid ((G6.out.trans G9.out).trans g10)
      clear g10
      go_wp2_with fail
      go_ret
      exact ⟨rfl, FIN.out⟩

end Graph
end Go.Proofs.Ytldgjmgdbaeglaa
