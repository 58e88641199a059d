/- Get of package cells, walked. -/
import Derived.Test.YtngbhhcicakolaaCellsHead
set_option linter.unusedVariables false
set_option linter.unusedSimpArgs false
namespace Go.Proofs.Ytngbhhcicakolaa
open Go.RowKit Go.Deep

namespace Cells
open Free (Fr genAt takenAt)
open Arena (nth zeroed)

theorem word_dec {k n : Int} (h : Word.vright k n = true) (h0 : 0 ≤ n) : Word.decK (Word.vword k n) = k ∧ Word.decN (Word.vword k n) = n ∧ 0 ≤ Word.vword k n ∧ Word.vword k n ≤ 18446744073709551615 := by
  rcases Word.vright_parts h with ⟨rfl, rfl⟩ | ⟨rfl, h1⟩ | ⟨rfl, h1⟩
  · exact ⟨by decide, by decide, by decide, by decide⟩
  · have e : Word.vword 1 n = 2 * n + 1 := by unfold Word.vword; rw [if_neg (by decide)]
    rw [e]
    unfold Word.decK Word.decN
    rw [if_neg (by omega), if_pos (by omega), if_neg (by omega), if_pos (by omega)]
    exact ⟨rfl, by omega, by omega, by omega⟩
  · have e : Word.vword 2 n = 2 * n + 2 := by unfold Word.vword; rw [if_neg (by decide)]
    rw [e]
    unfold Word.decK Word.decN
    rw [if_neg (by omega), if_neg (by omega), if_neg (by omega), if_neg (by omega)]
    exact ⟨rfl, by omega, by omega, by omega⟩

set_option maxHeartbeats 8000000 in
set_option maxRecDepth 100000 in
theorem get_no (b fb ab ca base : Nat) (l0 l : List Int) (c : Cs) (t x z : Int) (w : World) (Sf : Nat → Prop) (h : Cel b fb ab ca base l0 c l t w Sf) (hx : -9223372036854775808 ≤ x ∧ x ≤ 9223372036854775807) (hz : slotOK c x z = false) :
    Calls Try.prog 25 #[.pointer (some ⟨b, 0, none⟩), .int .i64 x, .int .i64 z] w fun e w' => e = .returned (.tuple #[.agg #[.int .i64 0, .int .u64 0], .int .i64 1]) ∧ But (fun _ => False) w w' := by
  have G0 := (But.refl (fun _ => False) w).alloc (.cells #[.int .i64 0, .int .u64 0] 43)
  have K0 := Blk.new w #[.int .i64 0, .int .u64 0] 43
  have HSL := Lib.hid (slots_any b fb ab base c.f.s x _ (h.keep G0).blk hx)
  rw [slotOK_not] at hz
  clear h
  by_cases h0 : z < 0
  · clear hz
    go_enter Try.func25, Try.ntmps25
    go_wp2_with fail
    refine bodyPost_ret (v := .tuple #[.agg #[.int .i64 0, .int .u64 0], .int .i64 1]) ?_ rfl ⟨rfl, G0⟩
    simp [results, Try.results25, go_sem]
  · have h1 : slots c.f.s x ≤ z := by omega
    clear hz
    go_enter Try.func25, Try.ntmps25
    go_wp2_with fail
    refine HSL.out.mono ?_
    rintro r w2 ⟨rfl, g2⟩
    have B2 := K0.but g2 (fun q => q)
    have G2 := Lib.hid (G0.trans g2)
    obtain ⟨rb, hrb⟩ : ∃ rb, rb = w.heap.size := ⟨_, rfl⟩
    rw [← hrb] at B2 ⊢
    have HRN := Lib.hid (show w.heap.size ≤ rb by omega)
    clear hrb g2
    have k0 := B2.cell 0
    have f0 := B2.frozen 0
    have k1 := B2.cell 1
    have f1 := B2.frozen 1
    generalize slots c.f.s x = sx at *
    go_wp2_with fail
    refine bodyPost_ret (v := .tuple #[.agg #[.int .i64 0, .int .u64 0], .int .i64 1]) ?_ rfl ⟨rfl, (G2.out.setCell (p := ⟨rb, 0, none⟩) (.inr HRN.out) (.int .i64 0)).setCell (p := ⟨rb, 1, none⟩) (.inr HRN.out) (.int .u64 0)⟩
    simp [results, Try.results25, go_sem, k0, k1]

set_option maxHeartbeats 8000000 in
set_option maxRecDepth 100000 in
theorem get_any (b fb ab ca base : Nat) (l0 l : List Int) (c : Cs) (t x z : Int) (w : World) (Sf : Nat → Prop) (h : Cel b fb ab ca base l0 c l t w Sf) (hx : -9223372036854775808 ≤ x ∧ x ≤ 9223372036854775807) (hb : base ≤ 1000000000) (ht : t ≤ 1000000000000) :
    Calls Try.prog 25 #[.pointer (some ⟨b, 0, none⟩), .int .i64 x, .int .i64 z] w fun e w' => e = .returned (.tuple #[.agg #[.int .i64 (get c x z).1.1, .int .u64 (get c x z).1.2], .int .i64 (get c x z).2]) ∧ (∃ t', t ≤ t' ∧ t' ≤ t + 1 ∧ Cel b fb ab ca base l0 c l t' w' Sf) ∧ But (fun k => k = ab ∨ k = ca) w w' := by
  cases hok : slotOK c x z with
  | false =>
    have e : get c x z = ((0, 0), 1) := by unfold get; rw [hok]; rfl
    rw [e]
    refine (get_no b fb ab ca base l0 l c t x z w Sf h hx hok).mono ?_
    rintro r w' ⟨rfl, g⟩
    exact ⟨rfl, ⟨t, by omega, by omega, h.keep g⟩, g.mono (fun k q => q.elim)⟩
  | true =>
    have hcell := slotOK_cell h.inv hok
    have hok2 := (slotOK_iff c x z).1 hok
    have HC := Lib.hid h
    have G0 := (But.refl (fun _ => False) w).alloc (.cells #[.int .i64 0, .int .u64 0] 43)
    have K0 := Blk.new w #[.int .i64 0, .int .u64 0] 43
    have HSL := Lib.hid (slots_any b fb ab base c.f.s x _ (h.keep G0).blk hx)
    have hxx := (isCell_iff c x).1 hcell
    obtain ⟨y, rfl⟩ : ∃ y : Nat, x = y := ⟨x.toNat, by omega⟩
    obtain ⟨k, rfl⟩ : ∃ k : Nat, z = k := ⟨z.toNat, by omega⟩
    have hy : y < n c := by omega
    have HWR := Lib.hid (show wrongE c (y : Int) = if takenAt c.f y = true then 0 else 9 by unfold wrongE; rw [hcell]; rfl)
    have HG0 := Lib.hid (show get c (y : Int) (k : Int) = if takenAt c.f y = true then (valAt c y k, 0) else ((0, 0), 9) by unfold get; rw [hok, if_pos rfl, Int.toNat_natCast, Int.toNat_natCast])
    obtain ⟨p, q, e1, e2, q1, q4, ew⟩ := h.inv.place hy
    rw [e2] at hok2
    have hw640 := (Conf.words_bd c.f.s).2
    have hpl : -1 ≤ place c.f.s y ∧ place c.f.s y ≤ 1000 := by omega
    have HPL := Lib.hid e1
    have hroom := h.lay.room
    obtain ⟨pp, hpp⟩ : ∃ pp : Nat, pp = p + 1 + k := ⟨_, rfl⟩
    have hth := there_in (l := l) (i := base + pp) (by omega)
    have hword : nth l (base + pp) = slotW c y k := by
      have := h.lay.sl y k hy (by rw [e2]; exact hok2.2)
      rw [e1, Int.toNat_natCast] at this
      rw [hpp, show base + (p + 1 + k) = base + p + 1 + k by omega]
      exact this
    have hvs := h.inv.vs y hy
    rw [e2] at hvs
    have hvr := h.inv.vr y hy (valAt c y k) (by
      unfold valAt
      rw [List.getD_eq_getElem?_getD, List.getElem?_eq_getElem (by omega)]
      exact List.getElem_mem _)
    obtain ⟨kk, nn, hval⟩ : ∃ kk nn, valAt c y k = (kk, nn) := ⟨_, _, rfl⟩
    unfold slotW at hword
    rw [hval] at hword hvr HG0
    have hwd := word_dec hvr.1 hvr.2
    have HNB := Lib.hid (show 0 ≤ nth l (base + pp) ∧ nth l (base + pp) ≤ 18446744073709551615 by rw [hword]; exact hwd.2.2)
    have HD1 := Lib.hid (show Word.decK (nth l (base + pp)) = kk by rw [hword]; exact hwd.1)
    have HD2 := Lib.hid (show Word.decN (nth l (base + pp)) = nn by rw [hword]; exact hwd.2.1)
    have HR1 := Lib.hid (show (Arena.rd l ((base : Int) + (pp : Int))).1 = nth l (base + pp) by
      unfold Arena.rd
      rw [show ((base : Int) + (pp : Int)) = ((base + pp : Nat) : Int) by omega, hth, if_pos rfl, Int.toNat_natCast])
    have HR2 := Lib.hid (show (Arena.rd l ((base : Int) + (pp : Int))).2 = 0 by
      unfold Arena.rd
      rw [show ((base : Int) + (pp : Int)) = ((base + pp : Nat) : Int) by omega, hth, if_pos rfl])
    have HR3 := Lib.hid (show Arena.by1 l ((base : Int) + (pp : Int)) t = t + 1 by
      unfold Arena.by1
      rw [show ((base : Int) + (pp : Int)) = ((base + pp : Nat) : Int) by omega, hth, if_pos rfl])
    rw [e2] at HSL
    have HL := Lib.hid (h.lt)
    have hblt := h.blk.lt
    have halt := h.ar.blk.lt
    have hclt := h.ar.row.lt
    have hk4 : (k : Int) < q := hok2.2
    have hpb : p ≤ 1000 := by omega
    have HPP := Lib.hid hpp
    clear hpp
    clear hcell hxx e1 e2 hroom hth hword hval hwd hvr hvs h hok hok2 ew
    go_enter Try.func25, Try.ntmps25
    go_wp2_with fail
    refine HSL.out.mono ?_
    rintro r w1 ⟨rfl, g1⟩
    have K1 := K0.but g1 (fun q => q)
    have G1 := Lib.hid (G0.trans g1)
    have C1 := Lib.hid (HC.out.keep (G0.trans g1))
    obtain ⟨rb, hrb⟩ : ∃ rb, rb = w.heap.size := ⟨_, rfl⟩
    rw [← hrb] at K1 ⊢
    have HRN := Lib.hid (show w.heap.size ≤ rb by omega)
    have HNE := Lib.hid (show rb ≠ ab ∧ rb ≠ ca by omega)
    have HRB := Lib.hid (show ∀ k, k = rb → ¬ foot b ab ca Sf k from fun k hk z => by have := HL.out k z; omega)
    clear hrb g1 hblt halt hclt HL K0 G0
    go_wp2_with fail
    refine (wrong_any b fb ab ca base l0 l c t (y : Int) _ Sf C1.out hx).mono ?_
    rintro r w2 ⟨rfl, g2⟩
    rw [HWR.out]
    have K2 := K1.but g2 (fun q => q)
    have G2 := Lib.hid (G1.out.trans g2)
    have H2 := Lib.hid (C1.out.raw.keep g2)
    clear g2 K1 G1 C1
    cases htk : takenAt c.f y with
    | false =>
      have HGT := Lib.hid (show get c (y : Int) (k : Int) = ((0, 0), 9) by rw [HG0.out, htk]; rfl)
      have k0 := K2.cell 0
      have f0 := K2.frozen 0
      have k1 := K2.cell 1
      have f1 := K2.frozen 1
      rw [if_neg (by simp)]
      go_wp2_with fail
      have GF := (G2.out.setCell (p := ⟨rb, 0, none⟩) (.inr HRN.out) (.int .i64 0)).setCell (p := ⟨rb, 1, none⟩) (.inr HRN.out) (.int .u64 0)
      refine bodyPost_ret (v := .tuple #[.agg #[.int .i64 0, .int .u64 0], .int .i64 9]) ?_ rfl ⟨by rw [HGT.out], ⟨t, by omega, by omega, HC.out.keep GF⟩, GF.mono (fun k q => q.elim)⟩
      simp [results, Try.results25, go_sem, k0, k1]
    | true =>
      have HGT := Lib.hid (show get c (y : Int) (k : Int) = ((kk, nn), 0) by rw [HG0.out, htk]; rfl)
      rw [if_pos rfl]
      go_wp2_with fail
      refine wp_region_any (by kernel_rfl) ?_
      change wpAny _ _ _ _ _ _ _ (World.drew _)
      obtain ⟨we, hwe⟩ : ∃ we, we = w2.drew := ⟨_, rfl⟩
      have Hwe := Lib.hid (show Raw b fb ab ca base c.f.s c.f l t we Sf from hwe ▸ H2.out.keep ((But.refl _ w2).drew))
      have Gwe := Lib.hid (show But (fun _ => False) w we from hwe ▸ G2.out.drew)
      have Kwe := Lib.hid (show Blk we rb #[.int .i64 0, .int .u64 0] 43 from hwe ▸ K2.drew)
      obtain ⟨c0, c1, c2, c3, c4, c5, c6, c7⟩ := hc_of Hwe.out.blk
      rw [← hwe]
      clear hwe
      refine wpAny_take (i := 0) (oi := ⟨some 29, _, _, _, _, _⟩) (v := ?_) rfl (by kernel_rfl) (by kernel_rfl) (by kernel_rfl) (fun _ _ _ h => h) (Or.inl ⟨by rfl, ?_⟩) ?_
      rotate_left
      · intro w
        go_simp
        try with_reducible rfl
      simp only [Act.put, List.setIfInBounds_toArray, List.set_cons_zero, List.set_cons_succ]
      refine wpAny_take (i := 1) (oi := ⟨some 30, _, _, _, _, _⟩) (v := ?_) rfl (by kernel_rfl) (by kernel_rfl) (by kernel_rfl) (fun _ _ _ h => h) (Or.inl ⟨by rfl, ?_⟩) ?_
      rotate_left
      · intro w
        go_simp
        try with_reducible rfl
      simp only [Act.put, List.setIfInBounds_toArray, List.set_cons_zero, List.set_cons_succ]
      refine wpAny_take (i := 2) (oi := ⟨some 31, _, _, _, _, _⟩) (v := ?_) rfl (by kernel_rfl) (by kernel_rfl) (by kernel_rfl) (fun _ _ _ h => h) (Or.inl ⟨by rfl, ?_⟩) ?_
      rotate_left
      · intro w
        go_simp
        try with_reducible rfl
      simp only [Act.put, List.setIfInBounds_toArray, List.set_cons_zero, List.set_cons_succ]
      refine wpAny_take (i := 4) (oi := ⟨some 33, _, _, _, _, _⟩) (v := ?_) rfl (by kernel_rfl) (by kernel_rfl) (by kernel_rfl) (fun _ _ _ h => h) (Or.inl ⟨by rfl, ?_⟩) ?_
      rotate_left
      · intro w
        go_simp
        try with_reducible rfl
      simp only [Act.put, List.setIfInBounds_toArray, List.set_cons_zero, List.set_cons_succ]
      refine wpAny_take (i := 5) (oi := ⟨some 34, _, _, _, _, _⟩) (v := ?_) rfl (by kernel_rfl) (by kernel_rfl) (by kernel_rfl) (fun _ _ _ h => h) (Or.inl ⟨by rfl, ?_⟩) ?_
      rotate_left
      · intro w
        go_simp
        try with_reducible rfl
      simp only [Act.put, List.setIfInBounds_toArray, List.set_cons_zero, List.set_cons_succ]
      refine wpAny_take (i := 8) (oi := ⟨some 37, _, _, _, _, _⟩) (v := ?_) rfl (by kernel_rfl) (by kernel_rfl) (by kernel_rfl) (fun _ _ _ h => h) (Or.inl ⟨by rfl, ?_⟩) ?_
      rotate_left
      · intro w
        go_simp
        try with_reducible rfl
      simp only [Act.put, List.setIfInBounds_toArray, List.set_cons_zero, List.set_cons_succ]
      refine wpAny_ready (rs := [3, 6]) (by kernel_rfl) (by simp) ?_
      refine AllReady.cons rfl (fun K hK => ?_) (AllReady.cons rfl (fun K hK => ?_) AllReady.nil)
      · go_simp
        refine hK _ _ ?_
        clear hK K
        try simp only [Act.put, List.setIfInBounds_toArray, List.set_cons_zero, List.set_cons_succ]
        refine wpAny_ready (rs := [6]) (by kernel_rfl) (by simp) ?_
        refine AllReady.cons rfl (fun K hK => ?_) AllReady.nil
        go_simp
        refine (at_any b fb ab base c.f.s y we Hwe.out.blk hx hb hpl).mono ?_
        rintro r v1 ⟨rfl, gv1⟩
        rw [HPL.out]
        have Hv1 := Lib.hid (Hwe.out.keep gv1)
        have Gv1 := Lib.hid (Gwe.out.trans gv1)
        have Kv1 := Lib.hid (Kwe.out.but gv1 (fun q => q))
        clear gv1 c0 c1 c2 c3 c4 c5 c6 c7
        obtain ⟨c0, c1, c2, c3, c4, c5, c6, c7⟩ := hc_of Hv1.out.blk
        refine hK _ _ ?_
        clear hK K
        try simp only [Act.put, List.setIfInBounds_toArray, List.set_cons_zero, List.set_cons_succ]
        refine wpAny_take (i := 7) (oi := ⟨some 36, _, _, _, _, _⟩) (v := ?_) rfl (by kernel_rfl) (by kernel_rfl) (by kernel_rfl) (fun _ _ _ h => h) (Or.inl ⟨by rfl, ?_⟩) ?_
        rotate_left
        · intro w
          go_simp
          try with_reducible rfl
        simp only [Act.put, List.setIfInBounds_toArray, List.set_cons_zero, List.set_cons_succ]
        refine wpAny_take (i := 9) (oi := ⟨some 38, _, _, _, _, _⟩) (v := ?_) rfl (by kernel_rfl) (by kernel_rfl) (by kernel_rfl) (fun _ _ _ h => h) (Or.inl ⟨by rfl, ?_⟩) ?_
        rotate_left
        · intro w
          go_simp
          try with_reducible rfl
        simp only [Act.put, List.setIfInBounds_toArray, List.set_cons_zero, List.set_cons_succ]
        refine wpAny_ready (rs := [10]) (by kernel_rfl) (by simp) ?_
        refine AllReady.cons rfl (fun K hK => ?_) AllReady.nil
        go_simp
        have hpp := HPP.out
        rw [wrap_in ((base : Int) + (p : Int) + 1) (by omega), wrap_in ((base : Int) + (p : Int) + 1 + (k : Int)) (by omega), show (base : Int) + (p : Int) + 1 + (k : Int) = (base : Int) + (pp : Int) by omega]
        clear hpp
        refine (Arena.read_any ab ca l t (base + (pp : Int)) v1 Hv1.out.ar ht).mono ?_
        rintro r v2 ⟨rfl, hA, gA⟩
        rw [HR1.out, HR2.out]
        rw [HR3.out] at hA
        have gB : But (fun k => k = ab ∨ k = ca) v1 v2 := gA.mono (fun k q => .inl (.inl q))
        have Hv2 := Lib.hid (Hv1.out.arena gB hA)
        have Kv2 := Lib.hid (Kv1.out.but gB (fun q => by rcases q with q | q; exact HNE.out.1 q; exact HNE.out.2 q))
        have Gv2 := Lib.hid ((Gv1.out.mono (T := fun k => k = ab ∨ k = ca) (fun k q => q.elim)).trans gB)
        clear gA gB hA
        refine hK _ _ ?_
        clear hK K
        try simp only [Act.put, List.setIfInBounds_toArray, List.set_cons_zero, List.set_cons_succ]
        refine wpAny_take (i := 11) (oi := ⟨some 28, _, _, _, _, _⟩) (v := ?_) rfl (by kernel_rfl) (by kernel_rfl) (by kernel_rfl) (fun _ _ _ h => h) (Or.inl ⟨by rfl, ?_⟩) ?_
        rotate_left
        · intro w
          go_simp
          try with_reducible rfl
        simp only [Act.put, List.setIfInBounds_toArray, List.set_cons_zero, List.set_cons_succ]
        refine wpAny_take (i := 12) (oi := ⟨some 40, _, _, _, _, _⟩) (v := ?_) rfl (by kernel_rfl) (by kernel_rfl) (by kernel_rfl) (fun _ _ _ h => h) (Or.inl ⟨by rfl, ?_⟩) ?_
        rotate_left
        · intro w
          go_simp
          try with_reducible rfl
        simp only [Act.put, List.setIfInBounds_toArray, List.set_cons_zero, List.set_cons_succ]
        refine wpAny_take (i := 13) (oi := ⟨some 41, _, _, _, _, _⟩) (v := ?_) rfl (by kernel_rfl) (by kernel_rfl) (by kernel_rfl) (fun _ _ _ h => h) (Or.inl ⟨by rfl, ?_⟩) ?_
        rotate_left
        · intro w
          go_simp
          try with_reducible rfl
        simp only [Act.put, List.setIfInBounds_toArray, List.set_cons_zero, List.set_cons_succ]
        refine wpAny_take (i := 14) (oi := ⟨some 9, _, _, _, _, _⟩) (v := ?_) rfl (by kernel_rfl) (by kernel_rfl) (by kernel_rfl) (fun _ _ _ h => h) (Or.inl ⟨by rfl, ?_⟩) ?_
        rotate_left
        · intro w
          go_simp
          try with_reducible rfl
        simp only [Act.put, List.setIfInBounds_toArray, List.set_cons_zero, List.set_cons_succ]
        refine wpAny_take (i := 15) (oi := ⟨some 10, _, _, _, _, _⟩) (v := ?_) rfl (by kernel_rfl) (by kernel_rfl) (by kernel_rfl) (fun _ _ _ h => h) (Or.inl ⟨by rfl, ?_⟩) ?_
        rotate_left
        · intro w
          go_simp
          try with_reducible rfl
        simp only [Act.put, List.setIfInBounds_toArray, List.set_cons_zero, List.set_cons_succ]
        refine wpAny_done (by kernel_rfl) ?_ _
        clear c0 c1 c2 c3 c4 c5 c6 c7
        go_wp2_with fail
        refine (Word.decode_any (nth l (base + pp)) _ HNB.out).mono ?_
        rintro r vz ⟨rfl, gz⟩
        have KZ := Kv2.out.but gz (fun q => q)
        have HZ := Lib.hid (Hv2.out.keep gz)
        have GZ := Lib.hid (Gv2.out.trans (gz.mono (fun k q => q.elim)))
        rw [HD1.out, HD2.out]
        have k0 := KZ.cell 0
        have f0 := KZ.frozen 0
        have k1 := KZ.cell 1
        have f1 := KZ.frozen 1
        clear gz
        go_wp2_with fail
        refine bodyPost_ret (v := .tuple #[.agg #[.int .i64 kk, .int .u64 nn], .int .i64 0]) ?_ rfl ⟨by rw [HGT.out], ⟨t + 1, by omega, by omega, ?_⟩, ?_⟩
        · simp [results, Try.results25, go_sem, k0, k1]
        · have hS : But (fun k => k = rb) vz _ := ((But.refl (fun k => k = rb) vz).setCell (p := ⟨rb, 0, none⟩) (.inl rfl) (.int .i64 kk)).setCell (p := ⟨rb, 1, none⟩) (.inl rfl) (.int .u64 nn)
          exact HC.out.back (HZ.out.but hS HRB.out)
        · exact (GZ.out.setCell (.inr HRN.out) _).setCell (.inr HRN.out) _
      · go_simp
        refine (at_any b fb ab base c.f.s y we Hwe.out.blk hx hb hpl).mono ?_
        rintro r v3 ⟨rfl, gv3⟩
        rw [HPL.out]
        have Hv3 := Lib.hid (Hwe.out.keep gv3)
        have Gv3 := Lib.hid (Gwe.out.trans gv3)
        have Kv3 := Lib.hid (Kwe.out.but gv3 (fun q => q))
        clear gv3 c0 c1 c2 c3 c4 c5 c6 c7
        obtain ⟨c0, c1, c2, c3, c4, c5, c6, c7⟩ := hc_of Hv3.out.blk
        refine hK _ _ ?_
        clear hK K
        try simp only [Act.put, List.setIfInBounds_toArray, List.set_cons_zero, List.set_cons_succ]
        refine wpAny_take (i := 7) (oi := ⟨some 36, _, _, _, _, _⟩) (v := ?_) rfl (by kernel_rfl) (by kernel_rfl) (by kernel_rfl) (fun _ _ _ h => h) (Or.inl ⟨by rfl, ?_⟩) ?_
        rotate_left
        · intro w
          go_simp
          try with_reducible rfl
        simp only [Act.put, List.setIfInBounds_toArray, List.set_cons_zero, List.set_cons_succ]
        refine wpAny_take (i := 9) (oi := ⟨some 38, _, _, _, _, _⟩) (v := ?_) rfl (by kernel_rfl) (by kernel_rfl) (by kernel_rfl) (fun _ _ _ h => h) (Or.inl ⟨by rfl, ?_⟩) ?_
        rotate_left
        · intro w
          go_simp
          try with_reducible rfl
        simp only [Act.put, List.setIfInBounds_toArray, List.set_cons_zero, List.set_cons_succ]
        refine wpAny_ready (rs := [3]) (by kernel_rfl) (by simp) ?_
        refine AllReady.cons rfl (fun K hK => ?_) AllReady.nil
        go_simp
        refine hK _ _ ?_
        clear hK K
        try simp only [Act.put, List.setIfInBounds_toArray, List.set_cons_zero, List.set_cons_succ]
        refine wpAny_ready (rs := [10]) (by kernel_rfl) (by simp) ?_
        refine AllReady.cons rfl (fun K hK => ?_) AllReady.nil
        go_simp
        have hpp := HPP.out
        rw [wrap_in ((base : Int) + (p : Int) + 1) (by omega), wrap_in ((base : Int) + (p : Int) + 1 + (k : Int)) (by omega), show (base : Int) + (p : Int) + 1 + (k : Int) = (base : Int) + (pp : Int) by omega]
        clear hpp
        refine (Arena.read_any ab ca l t (base + (pp : Int)) v3 Hv3.out.ar ht).mono ?_
        rintro r v4 ⟨rfl, hA, gA⟩
        rw [HR1.out, HR2.out]
        rw [HR3.out] at hA
        have gB : But (fun k => k = ab ∨ k = ca) v3 v4 := gA.mono (fun k q => .inl (.inl q))
        have Hv4 := Lib.hid (Hv3.out.arena gB hA)
        have Kv4 := Lib.hid (Kv3.out.but gB (fun q => by rcases q with q | q; exact HNE.out.1 q; exact HNE.out.2 q))
        have Gv4 := Lib.hid ((Gv3.out.mono (T := fun k => k = ab ∨ k = ca) (fun k q => q.elim)).trans gB)
        clear gA gB hA
        refine hK _ _ ?_
        clear hK K
        try simp only [Act.put, List.setIfInBounds_toArray, List.set_cons_zero, List.set_cons_succ]
        refine wpAny_take (i := 11) (oi := ⟨some 28, _, _, _, _, _⟩) (v := ?_) rfl (by kernel_rfl) (by kernel_rfl) (by kernel_rfl) (fun _ _ _ h => h) (Or.inl ⟨by rfl, ?_⟩) ?_
        rotate_left
        · intro w
          go_simp
          try with_reducible rfl
        simp only [Act.put, List.setIfInBounds_toArray, List.set_cons_zero, List.set_cons_succ]
        refine wpAny_take (i := 12) (oi := ⟨some 40, _, _, _, _, _⟩) (v := ?_) rfl (by kernel_rfl) (by kernel_rfl) (by kernel_rfl) (fun _ _ _ h => h) (Or.inl ⟨by rfl, ?_⟩) ?_
        rotate_left
        · intro w
          go_simp
          try with_reducible rfl
        simp only [Act.put, List.setIfInBounds_toArray, List.set_cons_zero, List.set_cons_succ]
        refine wpAny_take (i := 13) (oi := ⟨some 41, _, _, _, _, _⟩) (v := ?_) rfl (by kernel_rfl) (by kernel_rfl) (by kernel_rfl) (fun _ _ _ h => h) (Or.inl ⟨by rfl, ?_⟩) ?_
        rotate_left
        · intro w
          go_simp
          try with_reducible rfl
        simp only [Act.put, List.setIfInBounds_toArray, List.set_cons_zero, List.set_cons_succ]
        refine wpAny_take (i := 14) (oi := ⟨some 9, _, _, _, _, _⟩) (v := ?_) rfl (by kernel_rfl) (by kernel_rfl) (by kernel_rfl) (fun _ _ _ h => h) (Or.inl ⟨by rfl, ?_⟩) ?_
        rotate_left
        · intro w
          go_simp
          try with_reducible rfl
        simp only [Act.put, List.setIfInBounds_toArray, List.set_cons_zero, List.set_cons_succ]
        refine wpAny_take (i := 15) (oi := ⟨some 10, _, _, _, _, _⟩) (v := ?_) rfl (by kernel_rfl) (by kernel_rfl) (by kernel_rfl) (fun _ _ _ h => h) (Or.inl ⟨by rfl, ?_⟩) ?_
        rotate_left
        · intro w
          go_simp
          try with_reducible rfl
        simp only [Act.put, List.setIfInBounds_toArray, List.set_cons_zero, List.set_cons_succ]
        refine wpAny_done (by kernel_rfl) ?_ _
        clear c0 c1 c2 c3 c4 c5 c6 c7
        go_wp2_with fail
        refine (Word.decode_any (nth l (base + pp)) _ HNB.out).mono ?_
        rintro r vz ⟨rfl, gz⟩
        have KZ := Kv4.out.but gz (fun q => q)
        have HZ := Lib.hid (Hv4.out.keep gz)
        have GZ := Lib.hid (Gv4.out.trans (gz.mono (fun k q => q.elim)))
        rw [HD1.out, HD2.out]
        have k0 := KZ.cell 0
        have f0 := KZ.frozen 0
        have k1 := KZ.cell 1
        have f1 := KZ.frozen 1
        clear gz
        go_wp2_with fail
        refine bodyPost_ret (v := .tuple #[.agg #[.int .i64 kk, .int .u64 nn], .int .i64 0]) ?_ rfl ⟨by rw [HGT.out], ⟨t + 1, by omega, by omega, ?_⟩, ?_⟩
        · simp [results, Try.results25, go_sem, k0, k1]
        · have hS : But (fun k => k = rb) vz _ := ((But.refl (fun k => k = rb) vz).setCell (p := ⟨rb, 0, none⟩) (.inl rfl) (.int .i64 kk)).setCell (p := ⟨rb, 1, none⟩) (.inl rfl) (.int .u64 nn)
          exact HC.out.back (HZ.out.but hS HRB.out)
        · exact (GZ.out.setCell (.inr HRN.out) _).setCell (.inr HRN.out) _


end Cells
end Go.Proofs.Ytngbhhcicakolaa
