/- The document's answer for cells (layer 7), walked: Slots, Alloc, Header, SetCount, Get. -/
import Derived.Test.YtngbhhcicakolaaCellsDoc
import Derived.Test.YtngbhhcicakolaaCellsReads
import Derived.Test.YtngbhhcicakolaaFreePlain4
import Derived.StillTailTactics
import Derived.BigQuiet
set_option linter.unusedVariables false
set_option linter.unusedSimpArgs false
namespace Go.Proofs.Ytngbhhcicakolaa
open Go.RowKit Go.Deep

namespace Cells
open Free (Fr genAt takenAt)
section
variable {w0 w : World} {P : Pc} {d : Nat} {c : Cs}

set_option maxHeartbeats 8000000 in
set_option maxRecDepth 100000 in
theorem d_slots (h : Doc w0 P d c w) (x : Int) : Calls Try.prog 19 #[.pointer (some ⟨d, 0, none⟩), .int .i64 x] w fun e w' => e = .returned (.int .i64 (slots c.f.s x)) ∧ w = w' := by
  obtain ⟨rb, r, Sr, a1, cap1, a2, cap2, hS⟩ := h.seen
  have k2 := hS.k2
  have hsm : n c ≤ 192 := h.inv.f.small
  cases hc : isCell c x with
  | false =>
    rw [(h.inv.cell x).2 hc]
    rw [isCell_not] at hc
    by_cases h0 : x < 0
    · clear hc h hS
      go_enter Try.func19, Try.ntmps19
      go_wp2_with fail
      go_ret
      exact ⟨rfl, rfl⟩
    · replace hc : (n c : Int) ≤ x := by omega
      clear h hS
      go_enter Try.func19, Try.ntmps19
      go_wp2_with fail
      go_ret
      exact ⟨rfl, rfl⟩
  | true =>
    rw [isCell_iff] at hc
    obtain ⟨y, rfl⟩ : ∃ k : Nat, x = k := ⟨x.toNat, by omega⟩
    rw [← h.inv.vs y (by omega)]
    obtain ⟨b, off, vb, rfl, -, -, q1, -, -⟩ := hS.vs y (by omega)
    clear h hS
    go_enter Try.func19, Try.ntmps19
    go_wp2_with fail
    go_ret
    exact ⟨rfl, rfl⟩

set_option maxHeartbeats 8000000 in
set_option maxRecDepth 100000 in
theorem d_alloc (h : Doc w0 P d c w) (k : Int) : Calls Try.prog 46 #[.pointer (some ⟨d, 0, none⟩), .int .i64 k] w fun e w' => e = .returned (.tuple #[.int .i64 (alloc c k).2.1, .int .i64 (alloc c k).2.2]) ∧ Doc w0 P d (alloc c k).1 w' := by
  obtain ⟨r, ⟨rb, Sr, vs, v1, v2, o1, o2, W, hv⟩, hr⟩ := h.ex
  have B1 : Blk w d #[.pointer (some ⟨rb, 0, none⟩), v1, v2] 59 := W.get 1 rfl
  have k0 : w.cell? ⟨d, 0, none⟩ = some (.pointer (some ⟨rb, 0, none⟩)) := B1.cell 0
  have hh := Free.ref_take rb r k w Sr (W.get 2 rfl) hr.top
  have E := Free.rel_take hr h.inv.f k
  rw [E.1] at hh
  have HH := Lib.hid hh
  have HW := Lib.hid W
  have HE := Lib.hid E.2.1
  have HI := Lib.hid (alloc_inv h.inv k)
  have HV := Lib.hid hv
  clear hh W E h hv hr B1
  go_enter Try.func46, Try.ntmps46
  go_wp2_with fail
  refine HH.out.mono ?_
  rintro e w2 ⟨rfl, hm⟩
  obtain ⟨Sr', W'⟩ := own_moved HW.out hm
  have HW2 := Lib.hid W'
  clear hm W'
  go_wp2_with fail
  go_ret2
  exact ⟨rfl, ⟨_, ⟨rb, Sr', vs, v1, v2, o1, o2, HW2.out, HV.out⟩, HE.out⟩, HI.out⟩

set_option maxHeartbeats 8000000 in
set_option maxRecDepth 100000 in
theorem d_header (h : Doc w0 P d c w) (x : Int) : Calls Try.prog 13 #[.pointer (some ⟨d, 0, none⟩), .int .i64 x] w fun e w' =>
    e = .returned (.tuple #[.agg #[.int .i64 (header c x).1.1, .int .i64 (header c x).1.2.1, .bool (header c x).1.2.2], .int .i64 (header c x).2]) ∧ But (fun _ => False) w w' := by
  have G0 := (But.refl (fun _ => False) w).alloc (.cells #[.int .i64 0, .int .i64 0, .bool false] 47)
  have K0 := Blk.new w #[.int .i64 0, .int .i64 0, .bool false] 47
  have h1 := h.same G0
  have hlt : w.heap.size ≤ w.heap.size := Nat.le_refl _
  have k0 := K0.cell 0
  have f0 := K0.frozen 0
  have k1 := K0.cell 1
  have f1 := K0.frozen 1
  have k2 := K0.cell 2
  have f2 := K0.frozen 2
  change _ = some (Value.int .i64 0) at k0
  change _ = some (Value.int .i64 0) at k1
  change _ = some (Value.bool false) at k2
  obtain ⟨rb, r, Sr, a1, cap1, a2, cap2, hS⟩ := h1.seen
  have c0 := hS.k0
  have c1 := hS.k1
  have c2 := hS.k2
  have hsm : n c ≤ 192 := h.inv.f.small
  have GF : ∀ u v z, But (fun _ => False) w ((((w.alloc (.cells #[.int .i64 0, .int .i64 0, .bool false] 47)).setCell ⟨w.heap.size, 0, none⟩ u).setCell ⟨w.heap.size, 1, none⟩ v).setCell ⟨w.heap.size, 2, none⟩ z) := fun u v z => ((G0.setCell (p := ⟨w.heap.size, 0, none⟩) (.inr hlt) u).setCell (p := ⟨w.heap.size, 1, none⟩) (.inr hlt) v).setCell (p := ⟨w.heap.size, 2, none⟩) (.inr hlt) z
  have HGF := Lib.hid GF
  have GF2 : ∀ u v z, But (fun _ => False) w ((((w.alloc (.cells #[.int .i64 0, .int .i64 0, .bool false] 47)).drew.setCell ⟨w.heap.size, 0, none⟩ u).setCell ⟨w.heap.size, 1, none⟩ v).setCell ⟨w.heap.size, 2, none⟩ z) := fun u v z => ((G0.drew.setCell (p := ⟨w.heap.size, 0, none⟩) (.inr hlt) u).setCell (p := ⟨w.heap.size, 1, none⟩) (.inr hlt) v).setCell (p := ⟨w.heap.size, 2, none⟩) (.inr hlt) z
  have HGF2 := Lib.hid GF2
  clear GF GF2 G0 K0 h1
  cases hc : isCell c x with
  | false =>
    rw [show header c x = ((0, 0, false), 1) by unfold header; rw [hc]; rfl]
    rw [isCell_not] at hc
    by_cases h0 : x < 0
    · clear hc h hS
      go_enter Try.func13, Try.ntmps13
      go_wp2_with fail
      refine bodyPost_ret (v := .tuple #[.agg #[.int .i64 0, .int .i64 0, .bool false], .int .i64 1]) ?_ rfl ⟨rfl, (But.refl _ w).alloc _⟩
      simp [results, Try.results13, go_sem, k0, k1, k2]
    · replace hc : (n c : Int) ≤ x := by omega
      clear h hS
      go_enter Try.func13, Try.ntmps13
      go_wp2_with fail
      refine bodyPost_ret (v := .tuple #[.agg #[.int .i64 0, .int .i64 0, .bool false], .int .i64 1]) ?_ rfl ⟨rfl, (But.refl _ w).alloc _⟩
      simp [results, Try.results13, go_sem, k0, k1, k2]
  | true =>
    have hci := hc
    rw [isCell_iff] at hc
    obtain ⟨y, rfl⟩ : ∃ k : Nat, x = k := ⟨x.toNat, by omega⟩
    rw [show header c y = ((genAt c.f y, cntAt c y, takenAt c.f y), 0) by unfold header; rw [hci, if_pos rfl, Int.toNat_natCast]]
    obtain ⟨cb, coff, rfl, -, e1, -⟩ := hS.cn y (by omega)
    obtain ⟨vbb, voff, vb, rfl, -, -, e2, -, -⟩ := hS.vs y (by omega)
    have hgn := Free.ref_gen rb r (y : Int)
    have htk := Free.ref_taken rb r (y : Int)
    rw [Free.genR_is hS.rel, show Free.gen c.f (y : Int) = genAt c.f y from Free.gen_in (by unfold n at hc; omega)] at hgn
    rw [Free.takenR_is hS.rel, show Free.taken c.f (y : Int) = takenAt c.f y from taken_cell h.inv hci] at htk
    have HGN := Lib.hid (fun w' (g : But (fun _ => False) (w.alloc (.cells #[.int .i64 0, .int .i64 0, .bool false] 47)) w') => hgn w' Sr (hS.rob.but g (fun _ q _ => q)))
    have HTK := Lib.hid (fun w' (g : But (fun _ => False) (w.alloc (.cells #[.int .i64 0, .int .i64 0, .bool false] 47)) w') => htk w' Sr (hS.rob.but g (fun _ q _ => q)))
    clear hgn htk hS h
    go_enter Try.func13, Try.ntmps13
    go_wp2_with fail
    obtain ⟨wa, hwa⟩ : ∃ wa, wa = (w.alloc (.cells #[.int .i64 0, .int .i64 0, .bool false] 47)) := ⟨_, rfl⟩
    obtain ⟨rv, hrv⟩ : ∃ rv, rv = w.heap.size := ⟨_, rfl⟩
    have HRV := Lib.hid (show w.heap.size ≤ rv by omega)
    have HGA := Lib.hid (show But (fun _ => False) w wa by rw [hwa]; exact (But.refl _ w).alloc _)
    rw [← hwa] at c0 c1 c2 e1 e2 k0 k1 k2 f0 f1 f2 HGN HTK ⊢
    rw [← hrv] at k0 k1 k2 f0 f1 f2 ⊢
    clear hwa hrv
    have gd : But (fun _ => False) wa wa.drew := (But.refl _ wa).drew
    have hq1 : Calls Try.prog 49 #[.pointer (some ⟨rb, 0, none⟩), .int .i64 y] wa.drew (fun e w'' => e = .returned (.int .i64 (genAt c.f y)) ∧ w'' = wa.drew) := (HGN.out _ gd).mono (fun e w' ⟨a, b⟩ => ⟨a, b.symm⟩)
    have hq2 : Calls Try.prog 50 #[.pointer (some ⟨rb, 0, none⟩), .int .i64 y] wa.drew (fun e w'' => e = .returned (.bool (takenAt c.f y)) ∧ w'' = wa.drew) := (HTK.out _ gd).mono (fun e w' ⟨a, b⟩ => ⟨a, b.symm⟩)
    clear gd
    go_still_tail 20, (by kernel_rfl)
    still_call hq1
    repeat still_step
    still_call hq2
    repeat still_step
    refine wpStill_nil ?_
    change wpList _ _ _ _ _ wa.drew
    obtain ⟨wd, hwd⟩ : ∃ wd, wd = wa.drew := ⟨_, rfl⟩
    have HGD := Lib.hid (show But (fun _ => False) w wd by rw [hwd]; exact HGA.out.drew)
    have j0 : wd.cell? ⟨rv, 0, none⟩ = some (Value.int .i64 0) := by rw [hwd]; exact k0
    have j1 : wd.cell? ⟨rv, 1, none⟩ = some (Value.int .i64 0) := by rw [hwd]; exact k1
    have j2 : wd.cell? ⟨rv, 2, none⟩ = some (Value.bool false) := by rw [hwd]; exact k2
    have i0 : wd.frozen? ⟨rv, 0, none⟩ = false := by rw [hwd]; exact f0
    have i1 : wd.frozen? ⟨rv, 1, none⟩ = false := by rw [hwd]; exact f1
    have i2 : wd.frozen? ⟨rv, 2, none⟩ = false := by rw [hwd]; exact f2
    rw [← hwd]
    clear hwd hq1 hq2 k0 k1 k2 f0 f1 f2 c0 c1 c2 e1 e2
    go_wp2_with fail
    refine bodyPost_ret (v := .tuple #[.agg #[.int .i64 (genAt c.f y), .int .i64 (cntAt c y), .bool (takenAt c.f y)], .int .i64 0]) ?_ rfl ⟨rfl, ((HGD.out.setCell (p := ⟨rv, 0, none⟩) (.inr HRV.out) _).setCell (p := ⟨rv, 1, none⟩) (.inr HRV.out) _).setCell (p := ⟨rv, 2, none⟩) (.inr HRV.out) _⟩
    simp [results, Try.results13, go_sem, j0, j1, j2]

set_option maxHeartbeats 8000000 in
set_option maxRecDepth 100000 in
theorem d_setCount (h : Doc w0 P d c w) (x m : Int) : Calls Try.prog 43 #[.pointer (some ⟨d, 0, none⟩), .int .i64 x, .int .i64 m] w fun e w' => e = .returned (.int .i64 (setCount c x m).2) ∧ Doc w0 P d (setCount c x m).1 w' := by
  obtain ⟨r, ⟨rb, Sr, vs, v1, v2, o1, o2, W, hv⟩, hr⟩ := h.ex
  obtain ⟨a1, cap1, a2, cap2, rfl, rfl, hS⟩ := own_seen W hv hr h.inv.cl h.inv.vl
  have c0 := hS.k0
  have c1 := hS.k1
  have c2 := hS.k2
  have hsm : n c ≤ 192 := h.inv.f.small
  by_cases hok : isCell c x = true ∧ cntOK m = true
  · obtain ⟨hci, hm⟩ := hok
    have hc := hci
    rw [isCell_iff] at hc
    obtain ⟨y, rfl⟩ : ∃ k : Nat, x = k := ⟨x.toNat, by omega⟩
    have hm2 := (cntOK_iff m).1 hm
    obtain ⟨cb, coff, rfl, -, e1, f1⟩ := hS.cn y (by omega)
    have htk := Free.ref_taken rb r (y : Int) w Sr hS.rob
    rw [Free.takenR_is hS.rel, show Free.taken c.f (y : Int) = takenAt c.f y from taken_cell h.inv hci] at htk
    have HTK := Lib.hid htk
    have hE : setCount c (y : Int) m = if takenAt c.f y = true then ({ c with cn := c.cn.set y m }, 0) else (c, 9) := by unfold setCount; rw [if_pos ⟨hci, hm⟩, Int.toNat_natCast]
    have cl := h.inv.cl
    cases ht : takenAt c.f y with
    | false =>
      rw [hE, ht]
      rw [ht] at HTK
      have H := Lib.hid h
      clear htk hS h W hE
      go_enter Try.func43, Try.ntmps43
      go_wp2_with fail
      refine HTK.out.mono ?_
      rintro e wb ⟨rfl, rfl⟩
      go_wp2_with fail
      go_ret
      exact ⟨rfl, H.out⟩
    | true =>
      have hI := counted_inv h.inv (x := y) (m := m) (by omega) hm ht
      rw [hE, ht]
      rw [ht] at HTK
      rw [← cl] at W
      have W2 := own_count W (x := y) (by omega) m
      have HW := Lib.hid (show Doc w0 P d { c with cn := c.cn.set y m } (w.setCell ⟨cb, coff + y, none⟩ (.int .i64 m)) from ⟨⟨r, ⟨rb, Sr, vs, _, _, o1, o2, W2, hv⟩, hr⟩, hI⟩)
      clear htk hS h W hE W2 hI
      go_enter Try.func43, Try.ntmps43
      go_wp2_with fail
      refine HTK.out.mono ?_
      rintro e wb ⟨rfl, rfl⟩
      go_wp2_with fail
      go_ret
      exact ⟨rfl, HW.out⟩
  · have hE : setCount c x m = (c, 1) := by unfold setCount; rw [if_neg hok]
    rw [hE]
    have H := Lib.hid h
    clear W hv hr hE
    by_cases h0 : x < 0
    · clear hok hS h
      go_enter Try.func43, Try.ntmps43
      go_wp2_with fail
      go_ret
      exact ⟨rfl, H.out⟩
    · by_cases h1 : (n c : Int) ≤ x
      · clear hok hS h
        go_enter Try.func43, Try.ntmps43
        go_wp2_with fail
        go_ret
        exact ⟨rfl, H.out⟩
      · have h2 : cntOK m = false := by
          cases q : cntOK m with
          | false => rfl
          | true => exact absurd ⟨(isCell_iff c x).2 ⟨by omega, by omega⟩, q⟩ hok
        rw [cntOK_not] at h2
        by_cases h3 : m < 0
        · clear hok hS h h2
          go_enter Try.func43, Try.ntmps43
          go_wp2_with fail
          go_ret
          exact ⟨rfl, H.out⟩
        · replace h2 : 2147483647 < m := by omega
          clear hok hS h
          go_enter Try.func43, Try.ntmps43
          go_wp2_with fail
          go_ret
          exact ⟨rfl, H.out⟩

set_option maxHeartbeats 8000000 in
set_option maxRecDepth 100000 in
theorem d_get (h : Doc w0 P d c w) (x z : Int) : Calls Try.prog 45 #[.pointer (some ⟨d, 0, none⟩), .int .i64 x, .int .i64 z] w fun e w' =>
    e = .returned (.tuple #[.agg #[.int .i64 (get c x z).1.1, .int .u64 (get c x z).1.2], .int .i64 (get c x z).2]) ∧ But (fun _ => False) w w' := by
  have G0 := (But.refl (fun _ => False) w).alloc (.cells #[.int .i64 0, .int .u64 0] 43)
  have K0 := Blk.new w #[.int .i64 0, .int .u64 0] 43
  have h1 := h.same G0
  have hlt : w.heap.size ≤ w.heap.size := Nat.le_refl _
  have k0 := K0.cell 0
  have f0 := K0.frozen 0
  have k1 := K0.cell 1
  have f1 := K0.frozen 1
  change _ = some (Value.int .i64 0) at k0
  change _ = some (Value.int .u64 0) at k1
  obtain ⟨rb, r, Sr, a1, cap1, a2, cap2, hS⟩ := h1.seen
  have c0 := hS.k0
  have c2 := hS.k2
  have hsm : n c ≤ 192 := h.inv.f.small
  have GF : ∀ u v, But (fun _ => False) w (((w.alloc (.cells #[.int .i64 0, .int .u64 0] 43)).setCell ⟨w.heap.size, 0, none⟩ u).setCell ⟨w.heap.size, 1, none⟩ v) := fun u v => (G0.setCell (p := ⟨w.heap.size, 0, none⟩) (.inr hlt) u).setCell (p := ⟨w.heap.size, 1, none⟩) (.inr hlt) v
  have HGF := Lib.hid GF
  clear GF G0 K0 h1
  cases hok : slotOK c x z with
  | false =>
    rw [show get c x z = ((0, 0), 1) by unfold get; rw [hok]; rfl]
    by_cases h0 : x < 0
    · clear hok h hS
      go_enter Try.func45, Try.ntmps45
      go_wp2_with fail
      refine bodyPost_ret (v := .tuple #[.agg #[.int .i64 0, .int .u64 0], .int .i64 1]) ?_ rfl ⟨rfl, (But.refl _ w).alloc _⟩
      simp [results, Try.results45, go_sem, k0, k1]
    · by_cases h1 : (n c : Int) ≤ x
      · clear hok h hS
        go_enter Try.func45, Try.ntmps45
        go_wp2_with fail
        refine bodyPost_ret (v := .tuple #[.agg #[.int .i64 0, .int .u64 0], .int .i64 1]) ?_ rfl ⟨rfl, (But.refl _ w).alloc _⟩
        simp [results, Try.results45, go_sem, k0, k1]
      · obtain ⟨y, rfl⟩ : ∃ k : Nat, x = k := ⟨x.toNat, by omega⟩
        rw [slotOK_not, ← h.inv.vs y (by omega)] at hok
        obtain ⟨vbb, voff, vb, rfl, -, -, e2, -, -⟩ := hS.vs y (by omega)
        by_cases h2 : z < 0
        · clear hok h hS
          go_enter Try.func45, Try.ntmps45
          go_wp2_with fail
          refine bodyPost_ret (v := .tuple #[.agg #[.int .i64 0, .int .u64 0], .int .i64 1]) ?_ rfl ⟨rfl, (But.refl _ w).alloc _⟩
          simp [results, Try.results45, go_sem, k0, k1]
        · replace hok : ((valsAt c y).length : Int) ≤ z := by omega
          clear h hS
          go_enter Try.func45, Try.ntmps45
          go_wp2_with fail
          refine bodyPost_ret (v := .tuple #[.agg #[.int .i64 0, .int .u64 0], .int .i64 1]) ?_ rfl ⟨rfl, (But.refl _ w).alloc _⟩
          simp [results, Try.results45, go_sem, k0, k1]
  | true =>
    have hci := slotOK_cell h.inv hok
    have hc := (isCell_iff c x).1 hci
    have hs := (slotOK_iff c x z).1 hok
    obtain ⟨y, rfl⟩ : ∃ k : Nat, x = k := ⟨x.toNat, by omega⟩
    obtain ⟨k, rfl⟩ : ∃ k : Nat, z = k := ⟨z.toNat, by omega⟩
    rw [← h.inv.vs y (by omega)] at hs
    have hE : get c (y : Int) (k : Int) = if takenAt c.f y = true then (valAt c y k, 0) else ((0, 0), 9) := by unfold get; rw [if_pos hok, Int.toNat_natCast, Int.toNat_natCast]
    obtain ⟨vbb, voff, vb, rfl, -, -, e2, -, hvs⟩ := hS.vs y (by omega)
    obtain ⟨e3, e4, -, -⟩ := hvs k (by omega)
    have htk := Free.ref_taken rb r (y : Int) (w.alloc (.cells #[.int .i64 0, .int .u64 0] 43)) Sr hS.rob
    rw [Free.takenR_is hS.rel, show Free.taken c.f (y : Int) = takenAt c.f y from taken_cell h.inv hci] at htk
    have HTK := Lib.hid htk
    have hhc : (y : Int) < n c := by omega
    have hhk : (k : Int) < (valsAt c y).length := by omega
    clear htk hS h hvs hok hci hc hs
    cases ht : takenAt c.f y with
    | false =>
      rw [hE, ht]
      rw [ht] at HTK
      clear hE
      go_enter Try.func45, Try.ntmps45
      go_wp2_with fail
      refine HTK.out.mono ?_
      rintro e wb ⟨rfl, rfl⟩
      go_wp2_with fail
      refine bodyPost_ret (v := .tuple #[.agg #[.int .i64 0, .int .u64 0], .int .i64 9]) ?_ rfl ⟨rfl, (But.refl _ w).alloc _⟩
      simp [results, Try.results45, go_sem, k0, k1]
    | true =>
      rw [hE, ht]
      rw [ht] at HTK
      clear hE
      obtain ⟨p, hp⟩ : ∃ p, valAt c y k = p := ⟨_, rfl⟩
      rw [hp] at e3 e4 ⊢
      clear hp
      go_enter Try.func45, Try.ntmps45
      go_wp2_with fail
      refine HTK.out.mono ?_
      rintro e wb ⟨rfl, rfl⟩
      go_wp2_with fail
      refine bodyPost_ret (v := .tuple #[.agg #[.int .i64 p.1, .int .u64 p.2], .int .i64 0]) ?_ rfl ⟨rfl, (But.refl _ w).alloc _⟩
      simp [results, Try.results45, go_sem, k0, k1]

end
end Cells
end Go.Proofs.Ytngbhhcicakolaa
