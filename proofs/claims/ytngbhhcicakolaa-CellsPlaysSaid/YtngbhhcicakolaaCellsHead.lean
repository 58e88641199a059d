/- Header of package cells, walked. -/
import Derived.Test.YtngbhhcicakolaaCellsWrites
set_option linter.unusedVariables false
set_option linter.unusedSimpArgs false
namespace Go.Proofs.Ytngbhhcicakolaa
open Go.RowKit Go.Deep

namespace Cells
open Free (Fr genAt takenAt)
open Arena (nth zeroed)

/-- The words, and what is said of them, as they were. -/
theorem Cel.back {b fb ab ca base : Nat} {l0 l : List Int} {c : Cs} {t t' : Int} {w w' : World} {Sf : Nat → Prop} (h : Cel b fb ab ca base l0 c l t w Sf) (r : Raw b fb ab ca base c.f.s c.f l t' w' Sf) : Cel b fb ab ca base l0 c l t' w' Sf :=
  ⟨r.blk, r.fob, r.ar, h.lay, h.inv, r.n1, r.n2, r.n3, r.n4⟩

set_option maxHeartbeats 8000000 in
set_option maxRecDepth 100000 in
theorem header_any (b fb ab ca base : Nat) (l0 l : List Int) (c : Cs) (t x : Int) (w : World) (Sf : Nat → Prop) (h : Cel b fb ab ca base l0 c l t w Sf) (hx : -9223372036854775808 ≤ x ∧ x ≤ 9223372036854775807) (hb : base ≤ 1000000000) (ht : t ≤ 1000000000000) :
    Calls Try.prog 12 #[.pointer (some ⟨b, 0, none⟩), .int .i64 x] w fun e w' => e = .returned (.tuple #[.agg #[.int .i64 (header c x).1.1, .int .i64 (header c x).1.2.1, .bool (header c x).1.2.2], .int .i64 (header c x).2]) ∧ (∃ t', t ≤ t' ∧ t' ≤ t + 1 ∧ Cel b fb ab ca base l0 c l t' w' Sf) ∧ But (fun k => k = ab ∨ k = ca) w w' := by
  have hwt := h.wrongT x
  have HC := Lib.hid h
  have G0 := (But.refl (fun _ => False) w).alloc (.cells #[.int .i64 0, .int .i64 0, .bool false] 47)
  have K0 := Blk.new w #[.int .i64 0, .int .i64 0, .bool false] 47
  have HSL := Lib.hid (slots_any b fb ab base c.f.s x _ (h.keep G0).blk hx)
  cases hcell : isCell c x with
  | false =>
    rw [hcell] at hwt
    have HHD := Lib.hid (show header c x = ((0, 0, false), 1) by unfold header; rw [hcell]; rfl)
    have hz : (slots c.f.s x == 0) = true := hwt
    clear hwt h hcell
    go_enter Try.func12, Try.ntmps12
    go_wp2_with fail
    refine HSL.out.mono ?_
    rintro r w2 ⟨rfl, g2⟩
    have B2 := K0.but g2 (fun q => q)
    have G2 := Lib.hid (G0.trans g2)
    obtain ⟨rb, hrb⟩ : ∃ rb, rb = w.heap.size := ⟨_, rfl⟩
    rw [← hrb] at B2 ⊢
    have HRN := Lib.hid (show w.heap.size ≤ rb by omega)
    clear hrb g2
    have k0 := B2.cell 0
    have f0 := B2.frozen 0
    have k1 := B2.cell 1
    have f1 := B2.frozen 1
    have k2 := B2.cell 2
    have f2 := B2.frozen 2
    generalize slots c.f.s x = sx at *
    go_wp2_with fail
    have GF := ((G2.out.setCell (p := ⟨rb, 0, none⟩) (.inr HRN.out) (.int .i64 0)).setCell (p := ⟨rb, 1, none⟩) (.inr HRN.out) (.int .i64 0)).setCell (p := ⟨rb, 2, none⟩) (.inr HRN.out) (.bool false)
    refine bodyPost_ret (v := .tuple #[.agg #[.int .i64 0, .int .i64 0, .bool false], .int .i64 1]) ?_ rfl ⟨by rw [HHD.out], ⟨t, by omega, by omega, HC.out.keep GF⟩, GF.mono (fun k q => q.elim)⟩
    simp [results, Try.results12, go_sem, k0, k1, k2]
  | true =>
    rw [hcell] at hwt
    have hxx := (isCell_iff c x).1 hcell
    obtain ⟨y, rfl⟩ : ∃ y : Nat, x = y := ⟨x.toNat, by omega⟩
    have hy : y < n c := by omega
    obtain ⟨pp, q, e1, e2, q1, q4, ew⟩ := h.inv.place hy
    have hw640 := (Conf.words_bd c.f.s).2
    have hpl : -1 ≤ place c.f.s y ∧ place c.f.s y ≤ 1000 := by omega
    have HPL := Lib.hid e1
    have hroom := h.lay.room
    have hth := there_in (l := l) (i := base + pp) (by omega)
    have hgb := h.inv.f.gen_bd (x := y) hy
    have hcb := h.inv.cb y hy
    have hrt : Head.right (genAt c.f y) (cntAt c y) = true := (Head.right_iff _ _).2 ⟨⟨by omega, by omega⟩, hcb.1, hcb.2⟩
    have hword : nth l (base + pp) = Head.word (genAt c.f y) (cntAt c y) (takenAt c.f y) := by
      have := h.lay.hd y hy
      rw [e1, Int.toNat_natCast] at this
      exact this
    obtain ⟨gg, hgg⟩ : ∃ gg, genAt c.f y = gg := ⟨_, rfl⟩
    obtain ⟨mm, hmm⟩ : ∃ mm, cntAt c y = mm := ⟨_, rfl⟩
    obtain ⟨uu, huu⟩ : ∃ uu, takenAt c.f y = uu := ⟨_, rfl⟩
    have HHD := Lib.hid (show header c (y : Int) = ((gg, mm, uu), 0) by unfold header; rw [hcell, if_pos rfl, Int.toNat_natCast, hgg, hmm, huu])
    rw [hgg, hmm] at hrt
    rw [hgg, hmm, huu] at hword
    have hwb := Head.word_bd (u := uu) hrt
    have HNB := Lib.hid (show 0 ≤ nth l (base + pp) ∧ nth l (base + pp) ≤ 18446744073709551615 by rw [hword]; omega)
    have HD1 := Lib.hid (show Head.gen (nth l (base + pp)) = gg by rw [hword]; exact Head.gen_word hrt)
    have HD2 := Lib.hid (show Head.count (nth l (base + pp)) = mm by rw [hword]; exact Head.count_word hrt)
    have HD3 := Lib.hid (show Head.used (nth l (base + pp)) = uu by rw [hword]; exact Head.used_word hrt)
    have HR1 := Lib.hid (show (Arena.rd l ((base : Int) + (pp : Int))).1 = nth l (base + pp) by
      unfold Arena.rd
      rw [show ((base : Int) + (pp : Int)) = ((base + pp : Nat) : Int) by omega, hth, if_pos rfl, Int.toNat_natCast])
    have HR2 := Lib.hid (show (Arena.rd l ((base : Int) + (pp : Int))).2 = 0 by
      unfold Arena.rd
      rw [show ((base : Int) + (pp : Int)) = ((base + pp : Nat) : Int) by omega, hth, if_pos rfl])
    have HR3 := Lib.hid (show Arena.by1 l ((base : Int) + (pp : Int)) t = t + 1 by
      unfold Arena.by1
      rw [show ((base : Int) + (pp : Int)) = ((base + pp : Nat) : Int) by omega, hth, if_pos rfl])
    have hz : (slots c.f.s (y : Int) == 0) = false := hwt
    have HL := Lib.hid (h.lt)
    have hblt := h.blk.lt
    have halt := h.ar.blk.lt
    have hclt := h.ar.row.lt
    clear hwt hcell hxx e1 e2 hroom hth hgb hcb hrt hword hgg hmm huu hwb h
    go_enter Try.func12, Try.ntmps12
    go_wp2_with fail
    refine HSL.out.mono ?_
    rintro r w2 ⟨rfl, g2⟩
    have K2 := K0.but g2 (fun q => q)
    have G2 := Lib.hid (G0.trans g2)
    have H2 := Lib.hid (HC.out.raw.keep (G0.trans g2))
    obtain ⟨rb, hrb⟩ : ∃ rb, rb = w.heap.size := ⟨_, rfl⟩
    rw [← hrb] at K2 ⊢
    have HRN := Lib.hid (show w.heap.size ≤ rb by omega)
    have HNE := Lib.hid (show rb ≠ ab ∧ rb ≠ ca by omega)
    have HRB := Lib.hid (show ∀ k, k = rb → ¬ foot b ab ca Sf k from fun k hk z => by have := HL.out k z; omega)
    clear hrb g2 hblt halt hclt HL K0 G0
    generalize slots c.f.s (y : Int) = sx at *
    go_wp2_with fail
    refine wp_region_any (by kernel_rfl) ?_
    change wpAny _ _ _ _ _ _ _ (World.drew _)
    obtain ⟨we, hwe⟩ : ∃ we, we = w2.drew := ⟨_, rfl⟩
    have Hwe := Lib.hid (show Raw b fb ab ca base c.f.s c.f l t we Sf from hwe ▸ H2.out.keep ((But.refl _ w2).drew))
    have Gwe := Lib.hid (show But (fun _ => False) w we from hwe ▸ G2.out.drew)
    have Kwe := Lib.hid (show Blk we rb #[.int .i64 0, .int .i64 0, .bool false] 47 from hwe ▸ K2.drew)
    obtain ⟨c0, c1, c2, c3, c4, c5, c6, c7⟩ := hc_of Hwe.out.blk
    rw [← hwe]
    clear hwe
    refine wpAny_take (i := 0) (oi := ⟨some 14, _, _, _, _, _⟩) (v := ?_) rfl (by kernel_rfl) (by kernel_rfl) (by kernel_rfl) (fun _ _ _ h => h) (Or.inl ⟨by rfl, ?_⟩) ?_
    rotate_left
    · intro w
      go_simp
      try with_reducible rfl
    simp only [Act.put, List.setIfInBounds_toArray, List.set_cons_zero, List.set_cons_succ]
    refine wpAny_take (i := 1) (oi := ⟨some 15, _, _, _, _, _⟩) (v := ?_) rfl (by kernel_rfl) (by kernel_rfl) (by kernel_rfl) (fun _ _ _ h => h) (Or.inl ⟨by rfl, ?_⟩) ?_
    rotate_left
    · intro w
      go_simp
      try with_reducible rfl
    simp only [Act.put, List.setIfInBounds_toArray, List.set_cons_zero, List.set_cons_succ]
    refine wpAny_take (i := 2) (oi := ⟨some 16, _, _, _, _, _⟩) (v := ?_) rfl (by kernel_rfl) (by kernel_rfl) (by kernel_rfl) (fun _ _ _ h => h) (Or.inl ⟨by rfl, ?_⟩) ?_
    rotate_left
    · intro w
      go_simp
      try with_reducible rfl
    simp only [Act.put, List.setIfInBounds_toArray, List.set_cons_zero, List.set_cons_succ]
    refine wpAny_take (i := 4) (oi := ⟨some 18, _, _, _, _, _⟩) (v := ?_) rfl (by kernel_rfl) (by kernel_rfl) (by kernel_rfl) (fun _ _ _ h => h) (Or.inl ⟨by rfl, ?_⟩) ?_
    rotate_left
    · intro w
      go_simp
      try with_reducible rfl
    simp only [Act.put, List.setIfInBounds_toArray, List.set_cons_zero, List.set_cons_succ]
    refine wpAny_take (i := 5) (oi := ⟨some 19, _, _, _, _, _⟩) (v := ?_) rfl (by kernel_rfl) (by kernel_rfl) (by kernel_rfl) (fun _ _ _ h => h) (Or.inl ⟨by rfl, ?_⟩) ?_
    rotate_left
    · intro w
      go_simp
      try with_reducible rfl
    simp only [Act.put, List.setIfInBounds_toArray, List.set_cons_zero, List.set_cons_succ]
    refine wpAny_ready (rs := [3, 6]) (by kernel_rfl) (by simp) ?_
    refine AllReady.cons rfl (fun K hK => ?_) (AllReady.cons rfl (fun K hK => ?_) AllReady.nil)
    · go_simp
      refine hK _ _ ?_
      clear hK K
      try simp only [Act.put, List.setIfInBounds_toArray, List.set_cons_zero, List.set_cons_succ]
      refine wpAny_ready (rs := [6]) (by kernel_rfl) (by simp) ?_
      refine AllReady.cons rfl (fun K hK => ?_) AllReady.nil
      go_simp
      refine (at_any b fb ab base c.f.s y we Hwe.out.blk hx hb hpl).mono ?_
      rintro r v1 ⟨rfl, gv1⟩
      rw [HPL.out]
      have Hv1 := Lib.hid (Hwe.out.keep gv1)
      have Gv1 := Lib.hid (Gwe.out.trans gv1)
      have Kv1 := Lib.hid (Kwe.out.but gv1 (fun q => q))
      clear gv1 c0 c1 c2 c3 c4 c5 c6 c7
      obtain ⟨c0, c1, c2, c3, c4, c5, c6, c7⟩ := hc_of Hv1.out.blk
      refine hK _ _ ?_
      clear hK K
      try simp only [Act.put, List.setIfInBounds_toArray, List.set_cons_zero, List.set_cons_succ]
      refine wpAny_ready (rs := [7]) (by kernel_rfl) (by simp) ?_
      refine AllReady.cons rfl (fun K hK => ?_) AllReady.nil
      go_simp
      refine (Arena.read_any ab ca l t (base + (pp : Int)) v1 Hv1.out.ar ht).mono ?_
      rintro r v2 ⟨rfl, hA, gA⟩
      rw [HR1.out, HR2.out]
      rw [HR3.out] at hA
      have gB : But (fun k => k = ab ∨ k = ca) v1 v2 := gA.mono (fun k q => .inl (.inl q))
      have Hv2 := Lib.hid (Hv1.out.arena gB hA)
      have Kv2 := Lib.hid (Kv1.out.but gB (fun q => by rcases q with q | q; exact HNE.out.1 q; exact HNE.out.2 q))
      have Gv2 := Lib.hid ((Gv1.out.mono (T := fun k => k = ab ∨ k = ca) (fun k q => q.elim)).trans gB)
      clear gA gB hA
      refine hK _ _ ?_
      clear hK K
      try simp only [Act.put, List.setIfInBounds_toArray, List.set_cons_zero, List.set_cons_succ]
      refine wpAny_take (i := 8) (oi := ⟨some 13, _, _, _, _, _⟩) (v := ?_) rfl (by kernel_rfl) (by kernel_rfl) (by kernel_rfl) (fun _ _ _ h => h) (Or.inl ⟨by rfl, ?_⟩) ?_
      rotate_left
      · intro w
        go_simp
        try with_reducible rfl
      simp only [Act.put, List.setIfInBounds_toArray, List.set_cons_zero, List.set_cons_succ]
      refine wpAny_take (i := 9) (oi := ⟨some 22, _, _, _, _, _⟩) (v := ?_) rfl (by kernel_rfl) (by kernel_rfl) (by kernel_rfl) (fun _ _ _ h => h) (Or.inl ⟨by rfl, ?_⟩) ?_
      rotate_left
      · intro w
        go_simp
        try with_reducible rfl
      simp only [Act.put, List.setIfInBounds_toArray, List.set_cons_zero, List.set_cons_succ]
      refine wpAny_take (i := 10) (oi := ⟨some 23, _, _, _, _, _⟩) (v := ?_) rfl (by kernel_rfl) (by kernel_rfl) (by kernel_rfl) (fun _ _ _ h => h) (Or.inl ⟨by rfl, ?_⟩) ?_
      rotate_left
      · intro w
        go_simp
        try with_reducible rfl
      simp only [Act.put, List.setIfInBounds_toArray, List.set_cons_zero, List.set_cons_succ]
      refine wpAny_take (i := 11) (oi := ⟨some 6, _, _, _, _, _⟩) (v := ?_) rfl (by kernel_rfl) (by kernel_rfl) (by kernel_rfl) (fun _ _ _ h => h) (Or.inl ⟨by rfl, ?_⟩) ?_
      rotate_left
      · intro w
        go_simp
        try with_reducible rfl
      simp only [Act.put, List.setIfInBounds_toArray, List.set_cons_zero, List.set_cons_succ]
      refine wpAny_take (i := 12) (oi := ⟨some 7, _, _, _, _, _⟩) (v := ?_) rfl (by kernel_rfl) (by kernel_rfl) (by kernel_rfl) (fun _ _ _ h => h) (Or.inl ⟨by rfl, ?_⟩) ?_
      rotate_left
      · intro w
        go_simp
        try with_reducible rfl
      simp only [Act.put, List.setIfInBounds_toArray, List.set_cons_zero, List.set_cons_succ]
      refine wpAny_done (by kernel_rfl) ?_ _
      clear c0 c1 c2 c3 c4 c5 c6 c7
      go_wp2_with fail
      refine (Head.decode_any (nth l (base + pp)) _ HNB.out).mono ?_
      rintro r vz ⟨rfl, gz⟩
      have KZ := Kv2.out.but gz (fun q => q)
      have HZ := Lib.hid (Hv2.out.keep gz)
      have GZ := Lib.hid (Gv2.out.trans (gz.mono (fun k q => q.elim)))
      rw [HD1.out, HD2.out, HD3.out]
      have k0 := KZ.cell 0
      have f0 := KZ.frozen 0
      have k1 := KZ.cell 1
      have f1 := KZ.frozen 1
      have k2 := KZ.cell 2
      have f2 := KZ.frozen 2
      clear gz
      go_wp2_with fail
      refine bodyPost_ret (v := .tuple #[.agg #[.int .i64 gg, .int .i64 mm, .bool uu], .int .i64 0]) ?_ rfl ⟨by rw [HHD.out], ⟨t + 1, by omega, by omega, ?_⟩, ?_⟩
      · simp [results, Try.results12, go_sem, k0, k1, k2]
      · have hS : But (fun k => k = rb) vz _ := (((But.refl (fun k => k = rb) vz).setCell (p := ⟨rb, 0, none⟩) (.inl rfl) (.int .i64 gg)).setCell (p := ⟨rb, 1, none⟩) (.inl rfl) (.int .i64 mm)).setCell (p := ⟨rb, 2, none⟩) (.inl rfl) (.bool uu)
        exact HC.out.back (HZ.out.but hS HRB.out)
      · exact ((GZ.out.setCell (.inr HRN.out) _).setCell (.inr HRN.out) _).setCell (.inr HRN.out) _
    · go_simp
      refine (at_any b fb ab base c.f.s y we Hwe.out.blk hx hb hpl).mono ?_
      rintro r v3 ⟨rfl, gv3⟩
      rw [HPL.out]
      have Hv3 := Lib.hid (Hwe.out.keep gv3)
      have Gv3 := Lib.hid (Gwe.out.trans gv3)
      have Kv3 := Lib.hid (Kwe.out.but gv3 (fun q => q))
      clear gv3 c0 c1 c2 c3 c4 c5 c6 c7
      obtain ⟨c0, c1, c2, c3, c4, c5, c6, c7⟩ := hc_of Hv3.out.blk
      refine hK _ _ ?_
      clear hK K
      try simp only [Act.put, List.setIfInBounds_toArray, List.set_cons_zero, List.set_cons_succ]
      refine wpAny_ready (rs := [3]) (by kernel_rfl) (by simp) ?_
      refine AllReady.cons rfl (fun K hK => ?_) AllReady.nil
      go_simp
      refine hK _ _ ?_
      clear hK K
      try simp only [Act.put, List.setIfInBounds_toArray, List.set_cons_zero, List.set_cons_succ]
      refine wpAny_ready (rs := [7]) (by kernel_rfl) (by simp) ?_
      refine AllReady.cons rfl (fun K hK => ?_) AllReady.nil
      go_simp
      refine (Arena.read_any ab ca l t (base + (pp : Int)) v3 Hv3.out.ar ht).mono ?_
      rintro r v4 ⟨rfl, hA, gA⟩
      rw [HR1.out, HR2.out]
      rw [HR3.out] at hA
      have gB : But (fun k => k = ab ∨ k = ca) v3 v4 := gA.mono (fun k q => .inl (.inl q))
      have Hv4 := Lib.hid (Hv3.out.arena gB hA)
      have Kv4 := Lib.hid (Kv3.out.but gB (fun q => by rcases q with q | q; exact HNE.out.1 q; exact HNE.out.2 q))
      have Gv4 := Lib.hid ((Gv3.out.mono (T := fun k => k = ab ∨ k = ca) (fun k q => q.elim)).trans gB)
      clear gA gB hA
      refine hK _ _ ?_
      clear hK K
      try simp only [Act.put, List.setIfInBounds_toArray, List.set_cons_zero, List.set_cons_succ]
      refine wpAny_take (i := 8) (oi := ⟨some 13, _, _, _, _, _⟩) (v := ?_) rfl (by kernel_rfl) (by kernel_rfl) (by kernel_rfl) (fun _ _ _ h => h) (Or.inl ⟨by rfl, ?_⟩) ?_
      rotate_left
      · intro w
        go_simp
        try with_reducible rfl
      simp only [Act.put, List.setIfInBounds_toArray, List.set_cons_zero, List.set_cons_succ]
      refine wpAny_take (i := 9) (oi := ⟨some 22, _, _, _, _, _⟩) (v := ?_) rfl (by kernel_rfl) (by kernel_rfl) (by kernel_rfl) (fun _ _ _ h => h) (Or.inl ⟨by rfl, ?_⟩) ?_
      rotate_left
      · intro w
        go_simp
        try with_reducible rfl
      simp only [Act.put, List.setIfInBounds_toArray, List.set_cons_zero, List.set_cons_succ]
      refine wpAny_take (i := 10) (oi := ⟨some 23, _, _, _, _, _⟩) (v := ?_) rfl (by kernel_rfl) (by kernel_rfl) (by kernel_rfl) (fun _ _ _ h => h) (Or.inl ⟨by rfl, ?_⟩) ?_
      rotate_left
      · intro w
        go_simp
        try with_reducible rfl
      simp only [Act.put, List.setIfInBounds_toArray, List.set_cons_zero, List.set_cons_succ]
      refine wpAny_take (i := 11) (oi := ⟨some 6, _, _, _, _, _⟩) (v := ?_) rfl (by kernel_rfl) (by kernel_rfl) (by kernel_rfl) (fun _ _ _ h => h) (Or.inl ⟨by rfl, ?_⟩) ?_
      rotate_left
      · intro w
        go_simp
        try with_reducible rfl
      simp only [Act.put, List.setIfInBounds_toArray, List.set_cons_zero, List.set_cons_succ]
      refine wpAny_take (i := 12) (oi := ⟨some 7, _, _, _, _, _⟩) (v := ?_) rfl (by kernel_rfl) (by kernel_rfl) (by kernel_rfl) (fun _ _ _ h => h) (Or.inl ⟨by rfl, ?_⟩) ?_
      rotate_left
      · intro w
        go_simp
        try with_reducible rfl
      simp only [Act.put, List.setIfInBounds_toArray, List.set_cons_zero, List.set_cons_succ]
      refine wpAny_done (by kernel_rfl) ?_ _
      clear c0 c1 c2 c3 c4 c5 c6 c7
      go_wp2_with fail
      refine (Head.decode_any (nth l (base + pp)) _ HNB.out).mono ?_
      rintro r vz ⟨rfl, gz⟩
      have KZ := Kv4.out.but gz (fun q => q)
      have HZ := Lib.hid (Hv4.out.keep gz)
      have GZ := Lib.hid (Gv4.out.trans (gz.mono (fun k q => q.elim)))
      rw [HD1.out, HD2.out, HD3.out]
      have k0 := KZ.cell 0
      have f0 := KZ.frozen 0
      have k1 := KZ.cell 1
      have f1 := KZ.frozen 1
      have k2 := KZ.cell 2
      have f2 := KZ.frozen 2
      clear gz
      go_wp2_with fail
      refine bodyPost_ret (v := .tuple #[.agg #[.int .i64 gg, .int .i64 mm, .bool uu], .int .i64 0]) ?_ rfl ⟨by rw [HHD.out], ⟨t + 1, by omega, by omega, ?_⟩, ?_⟩
      · simp [results, Try.results12, go_sem, k0, k1, k2]
      · have hS : But (fun k => k = rb) vz _ := (((But.refl (fun k => k = rb) vz).setCell (p := ⟨rb, 0, none⟩) (.inl rfl) (.int .i64 gg)).setCell (p := ⟨rb, 1, none⟩) (.inl rfl) (.int .i64 mm)).setCell (p := ⟨rb, 2, none⟩) (.inl rfl) (.bool uu)
        exact HC.out.back (HZ.out.but hS HRB.out)
      · exact ((GZ.out.setCell (.inr HRN.out) _).setCell (.inr HRN.out) _).setCell (.inr HRN.out) _


end Cells
end Go.Proofs.Ytngbhhcicakolaa
