/- Set of package cells, walked. -/
import Derived.Test.YtngbhhcicakolaaCellsSets
set_option linter.unusedVariables false
set_option linter.unusedSimpArgs false
namespace Go.Proofs.Ytngbhhcicakolaa
open Go.RowKit Go.Deep

namespace Cells
open Free (Fr genAt takenAt)
open Arena (nth zeroed)

set_option maxHeartbeats 8000000 in
set_option maxRecDepth 100000 in
theorem set_no (b fb ab ca base : Nat) (l0 l : List Int) (c : Cs) (t x z kk nn : Int) (w : World) (Sf : Nat → Prop) (h : Cel b fb ab ca base l0 c l t w Sf) (hx : -9223372036854775808 ≤ x ∧ x ≤ 9223372036854775807) (hn : 0 ≤ nn ∧ nn ≤ 18446744073709551615) (hz : Word.vright kk nn = false ∨ slotOK c x z = false) :
    Calls Try.prog 26 #[.pointer (some ⟨b, 0, none⟩), .int .i64 x, .int .i64 z, .agg #[.int .i64 kk, .int .u64 nn]] w fun e w' => e = .returned (.int .i64 1) ∧ But (fun _ => False) w w' := by
  have G0 := (But.refl (fun _ => False) w).alloc (.cells #[.int .i64 kk, .int .u64 nn] 43)
  have HEN := Lib.hid (fun w => Word.encode_any kk nn w hn)
  cases hv : Word.vright kk nn with
  | false =>
    have HE := Lib.hid (show Word.encOf kk nn = (0, 1) by unfold Word.encOf; rw [hv]; rfl)
    clear hz hv h
    go_enter Try.func26, Try.ntmps26
    go_wp2_with fail
    refine (HEN.out _).mono ?_
    rintro r w2 ⟨rfl, g2⟩
    rw [HE.out]
    go_wp2_with fail
    go_ret
    exact ⟨rfl, G0.trans g2⟩
  | true =>
    have HE := Lib.hid (show Word.encOf kk nn = (Word.vword kk nn, 0) by unfold Word.encOf; rw [hv]; rfl)
    have hz2 : slotOK c x z = false := by rcases hz with q | q; (rw [hv] at q; cases q); exact q
    rw [slotOK_not] at hz2
    have HB := Lib.hid h.blk
    clear hz hv h
    by_cases h0 : z < 0
    · clear hz2
      go_enter Try.func26, Try.ntmps26
      go_wp2_with fail
      refine (HEN.out _).mono ?_
      rintro r w2 ⟨rfl, g2⟩
      rw [HE.out]
      go_wp2_with fail
      go_ret
      exact ⟨rfl, G0.trans g2⟩
    · have h1 : slots c.f.s x ≤ z := by omega
      clear hz2
      go_enter Try.func26, Try.ntmps26
      go_wp2_with fail
      refine (HEN.out _).mono ?_
      rintro r w2 ⟨rfl, g2⟩
      rw [HE.out]
      have G2 := Lib.hid (G0.trans g2)
      go_wp2_with fail
      refine (slots_any b fb ab base c.f.s x _ (HB.out.but G2.out (fun q => q)) hx).mono ?_
      rintro r w3 ⟨rfl, g3⟩
      generalize slots c.f.s x = sx at *
      go_wp2_with fail
      go_ret
      exact ⟨rfl, G2.out.trans g3⟩

set_option maxHeartbeats 8000000 in
set_option maxRecDepth 100000 in
theorem set_any (b fb ab ca base : Nat) (l0 l : List Int) (c : Cs) (t x z kk nn : Int) (w : World) (Sf : Nat → Prop) (h : Cel b fb ab ca base l0 c l t w Sf) (hx : -9223372036854775808 ≤ x ∧ x ≤ 9223372036854775807) (hn : 0 ≤ nn ∧ nn ≤ 18446744073709551615) (hb : base ≤ 1000000000) (ht : t ≤ 1000000000000) :
    Calls Try.prog 26 #[.pointer (some ⟨b, 0, none⟩), .int .i64 x, .int .i64 z, .agg #[.int .i64 kk, .int .u64 nn]] w fun e w' => e = .returned (.int .i64 (set c x z (kk, nn)).2) ∧ (∃ l' t', t ≤ t' ∧ t' ≤ t + 1 ∧ Cel b fb ab ca base l0 (set c x z (kk, nn)).1 l' t' w' Sf) ∧ But (fun k => k = ab ∨ k = ca) w w' := by
  by_cases hok : Word.vright kk nn = true ∧ slotOK c x z = true
  · obtain ⟨hv, hok⟩ := hok
    have hcell := slotOK_cell h.inv hok
    have hok2 := (slotOK_iff c x z).1 hok
    have HC := Lib.hid h
    have hxx := (isCell_iff c x).1 hcell
    obtain ⟨y, rfl⟩ : ∃ y : Nat, x = y := ⟨x.toNat, by omega⟩
    obtain ⟨k, rfl⟩ : ∃ k : Nat, z = k := ⟨z.toNat, by omega⟩
    have hy : y < n c := by omega
    have HWR := Lib.hid (show wrongE c (y : Int) = if takenAt c.f y = true then 0 else 9 by unfold wrongE; rw [hcell]; rfl)
    have HS0 := Lib.hid (show set c (y : Int) (k : Int) (kk, nn) = if takenAt c.f y = true then (putV c y k (kk, nn), 0) else (c, 9) by unfold set; rw [if_pos ⟨hv, hok⟩, Int.toNat_natCast, Int.toNat_natCast])
    have hinv := set_inv h.inv (y : Int) (k : Int) (kk, nn) hn.1
    obtain ⟨p, q, e1, e2, q1, q4, ew⟩ := h.inv.place hy
    have hlay := putV_lay (p := (kk, nn)) h.inv h.lay hy hok2.2
    rw [e1, Int.toNat_natCast] at hlay
    rw [e2] at hok2
    have hw640 := (Conf.words_bd c.f.s).2
    have hpl : -1 ≤ place c.f.s y ∧ place c.f.s y ≤ 1000 := by omega
    have HPL := Lib.hid e1
    have hroom := h.lay.room
    obtain ⟨pp, hpp⟩ : ∃ pp : Nat, pp = p + 1 + k := ⟨_, rfl⟩
    have hth := there_in (l := l) (i := base + pp) (by omega)
    have HW0 := Lib.hid (show (Arena.wri l ((base : Int) + (pp : Int)) (Word.vword kk nn)).1 = 0 by
      unfold Arena.wri
      rw [show ((base : Int) + (pp : Int)) = ((base + pp : Nat) : Int) by omega, hth, if_pos rfl])
    have HW1 := Lib.hid (show (Arena.wri l ((base : Int) + (pp : Int)) (Word.vword kk nn)).2 = l.set (base + pp) (Word.vword kk nn) by
      unfold Arena.wri
      rw [show ((base : Int) + (pp : Int)) = ((base + pp : Nat) : Int) by omega, hth, if_pos rfl, Int.toNat_natCast])
    have HW2 := Lib.hid (show Arena.by1 l ((base : Int) + (pp : Int)) t = t + 1 by
      unfold Arena.by1
      rw [show ((base : Int) + (pp : Int)) = ((base + pp : Nat) : Int) by omega, hth, if_pos rfl])
    rw [show base + p + 1 + k = base + pp by omega] at hlay
    have HE := Lib.hid (show Word.encOf kk nn = (Word.vword kk nn, 0) by unfold Word.encOf; rw [hv]; rfl)
    have HEN := Lib.hid (fun w => Word.encode_any kk nn w hn)
    have G0 := (But.refl (fun _ => False) w).alloc (.cells #[.int .i64 kk, .int .u64 nn] 43)
    have hk4 : (k : Int) < q := hok2.2
    have hpb : p ≤ 1000 := by omega
    have HQ := Lib.hid e2
    have HL0 := Lib.hid hlay
    have HI0 := Lib.hid hinv
    have HPP := Lib.hid hpp
    clear hpp
    clear hcell hxx e1 e2 hroom hth hok hok2 ew h hlay hinv hv
    go_enter Try.func26, Try.ntmps26
    go_wp2_with fail
    refine (HEN.out _).mono ?_
    rintro r w1 ⟨rfl, g1⟩
    rw [HE.out]
    have G1 := Lib.hid (G0.trans g1)
    have C1 := Lib.hid (HC.out.keep (G0.trans g1))
    clear g1 G0
    go_wp2_with fail
    refine (slots_any b fb ab base c.f.s (y : Int) _ C1.out.blk hx).mono ?_
    rintro r w2 ⟨rfl, g2⟩
    rw [HQ.out]
    have G2 := Lib.hid (G1.out.trans g2)
    have C2 := Lib.hid (C1.out.keep g2)
    clear g2 G1 C1
    go_wp2_with fail
    refine (wrong_any b fb ab ca base l0 l c t (y : Int) _ Sf C2.out hx).mono ?_
    rintro r w3 ⟨rfl, g3⟩
    rw [HWR.out]
    have G3 := Lib.hid (G2.out.trans g3)
    have H3 := Lib.hid (C2.out.raw.keep g3)
    clear g3 G2 C2
    cases htk : takenAt c.f y with
    | false =>
      have HST := Lib.hid (show set c (y : Int) (k : Int) (kk, nn) = (c, 9) by rw [HS0.out, htk]; rfl)
      rw [if_neg (by simp)]
      go_wp2_with fail
      go_ret
      exact ⟨by rw [HST.out]; rfl, ⟨l, t, by omega, by omega, by rw [HST.out]; exact HC.out.keep G3.out⟩, G3.out.mono (fun k q => q.elim)⟩
    | true =>
      have HST := Lib.hid (show set c (y : Int) (k : Int) (kk, nn) = (putV c y k (kk, nn), 0) by rw [HS0.out, htk]; rfl)
      have HLY := Lib.hid (show Lay base l0 (set c (y : Int) (k : Int) (kk, nn)).1 (l.set (base + pp) (Word.vword kk nn)) by rw [HST.out]; exact HL0.out)
      have HIV := Lib.hid HI0.out
      rw [if_pos rfl]
      go_wp2_with fail
      refine wp_region_any (by kernel_rfl) ?_
      change wpAny _ _ _ _ _ _ _ (World.drew _)
      obtain ⟨we, hwe⟩ : ∃ we, we = w3.drew := ⟨_, rfl⟩
      have Hwe := Lib.hid (show Raw b fb ab ca base c.f.s c.f l t we Sf from hwe ▸ H3.out.keep ((But.refl _ w3).drew))
      have Gwe := Lib.hid (show But (fun _ => False) w we from hwe ▸ G3.out.drew)
      obtain ⟨c0, c1, c2, c3, c4, c5, c6, c7⟩ := hc_of Hwe.out.blk
      rw [← hwe]
      clear hwe
      refine wpAny_take (i := 0) (oi := ⟨some 36, _, _, _, _, _⟩) (v := ?_) rfl (by kernel_rfl) (by kernel_rfl) (by kernel_rfl) (fun _ _ _ h => h) (Or.inl ⟨by rfl, ?_⟩) ?_
      rotate_left
      · intro w
        go_simp
        try with_reducible rfl
      simp only [Act.put, List.setIfInBounds_toArray, List.set_cons_zero, List.set_cons_succ]
      refine wpAny_take (i := 1) (oi := ⟨some 37, _, _, _, _, _⟩) (v := ?_) rfl (by kernel_rfl) (by kernel_rfl) (by kernel_rfl) (fun _ _ _ h => h) (Or.inl ⟨by rfl, ?_⟩) ?_
      rotate_left
      · intro w
        go_simp
        try with_reducible rfl
      simp only [Act.put, List.setIfInBounds_toArray, List.set_cons_zero, List.set_cons_succ]
      refine wpAny_take (i := 2) (oi := ⟨some 38, _, _, _, _, _⟩) (v := ?_) rfl (by kernel_rfl) (by kernel_rfl) (by kernel_rfl) (fun _ _ _ h => h) (Or.inl ⟨by rfl, ?_⟩) ?_
      rotate_left
      · intro w
        go_simp
        try with_reducible rfl
      simp only [Act.put, List.setIfInBounds_toArray, List.set_cons_zero, List.set_cons_succ]
      refine wpAny_take (i := 4) (oi := ⟨some 40, _, _, _, _, _⟩) (v := ?_) rfl (by kernel_rfl) (by kernel_rfl) (by kernel_rfl) (fun _ _ _ h => h) (Or.inl ⟨by rfl, ?_⟩) ?_
      rotate_left
      · intro w
        go_simp
        try with_reducible rfl
      simp only [Act.put, List.setIfInBounds_toArray, List.set_cons_zero, List.set_cons_succ]
      refine wpAny_take (i := 5) (oi := ⟨some 41, _, _, _, _, _⟩) (v := ?_) rfl (by kernel_rfl) (by kernel_rfl) (by kernel_rfl) (fun _ _ _ h => h) (Or.inl ⟨by rfl, ?_⟩) ?_
      rotate_left
      · intro w
        go_simp
        try with_reducible rfl
      simp only [Act.put, List.setIfInBounds_toArray, List.set_cons_zero, List.set_cons_succ]
      refine wpAny_take (i := 8) (oi := ⟨some 44, _, _, _, _, _⟩) (v := ?_) rfl (by kernel_rfl) (by kernel_rfl) (by kernel_rfl) (fun _ _ _ h => h) (Or.inl ⟨by rfl, ?_⟩) ?_
      rotate_left
      · intro w
        go_simp
        try with_reducible rfl
      simp only [Act.put, List.setIfInBounds_toArray, List.set_cons_zero, List.set_cons_succ]
      refine wpAny_take (i := 10) (oi := ⟨some 46, _, _, _, _, _⟩) (v := ?_) rfl (by kernel_rfl) (by kernel_rfl) (by kernel_rfl) (fun _ _ _ h => h) (Or.inl ⟨by rfl, ?_⟩) ?_
      rotate_left
      · intro w
        go_simp
        try with_reducible rfl
      simp only [Act.put, List.setIfInBounds_toArray, List.set_cons_zero, List.set_cons_succ]
      refine wpAny_ready (rs := [3, 6]) (by kernel_rfl) (by simp) ?_
      refine AllReady.cons rfl (fun K hK => ?_) (AllReady.cons rfl (fun K hK => ?_) AllReady.nil)
      · go_simp
        refine hK _ _ ?_
        clear hK K
        try simp only [Act.put, List.setIfInBounds_toArray, List.set_cons_zero, List.set_cons_succ]
        refine wpAny_ready (rs := [6]) (by kernel_rfl) (by simp) ?_
        refine AllReady.cons rfl (fun K hK => ?_) AllReady.nil
        go_simp
        refine (at_any b fb ab base c.f.s y we Hwe.out.blk hx hb hpl).mono ?_
        rintro r v1 ⟨rfl, gv1⟩
        rw [HPL.out]
        have Hv1 := Lib.hid (Hwe.out.keep gv1)
        have Gv1 := Lib.hid (Gwe.out.trans gv1)
        clear gv1 c0 c1 c2 c3 c4 c5 c6 c7
        obtain ⟨c0, c1, c2, c3, c4, c5, c6, c7⟩ := hc_of Hv1.out.blk
        refine hK _ _ ?_
        clear hK K
        try simp only [Act.put, List.setIfInBounds_toArray, List.set_cons_zero, List.set_cons_succ]
        refine wpAny_take (i := 7) (oi := ⟨some 43, _, _, _, _, _⟩) (v := ?_) rfl (by kernel_rfl) (by kernel_rfl) (by kernel_rfl) (fun _ _ _ h => h) (Or.inl ⟨by rfl, ?_⟩) ?_
        rotate_left
        · intro w
          go_simp
          try with_reducible rfl
        simp only [Act.put, List.setIfInBounds_toArray, List.set_cons_zero, List.set_cons_succ]
        refine wpAny_take (i := 9) (oi := ⟨some 45, _, _, _, _, _⟩) (v := ?_) rfl (by kernel_rfl) (by kernel_rfl) (by kernel_rfl) (fun _ _ _ h => h) (Or.inl ⟨by rfl, ?_⟩) ?_
        rotate_left
        · intro w
          go_simp
          try with_reducible rfl
        simp only [Act.put, List.setIfInBounds_toArray, List.set_cons_zero, List.set_cons_succ]
        refine wpAny_ready (rs := [11]) (by kernel_rfl) (by simp) ?_
        refine AllReady.cons rfl (fun K hK => ?_) AllReady.nil
        go_simp
        have hpp := HPP.out
        rw [wrap_in ((base : Int) + (p : Int) + 1) (by omega), wrap_in ((base : Int) + (p : Int) + 1 + (k : Int)) (by omega), show (base : Int) + (p : Int) + 1 + (k : Int) = (base : Int) + (pp : Int) by omega]
        clear hpp
        refine (Arena.write_any ab ca l t (base + (pp : Int)) (Word.vword kk nn) v1 Hv1.out.ar ht).mono ?_
        rintro r v2 ⟨rfl, hA, gA⟩
        rw [HW0.out]
        rw [HW1.out, HW2.out] at hA
        have Hv2 := Lib.hid (Hv1.out.arena gA hA)
        have Gv2 := Lib.hid ((Gv1.out.mono (fun k q => q.elim)).trans gA)
        clear gA hA
        refine hK _ _ ?_
        clear hK K
        try simp only [Act.put, List.setIfInBounds_toArray, List.set_cons_zero, List.set_cons_succ]
        refine wpAny_take (i := 12) (oi := ⟨some 8, _, _, _, _, _⟩) (v := ?_) rfl (by kernel_rfl) (by kernel_rfl) (by kernel_rfl) (fun _ _ _ h => h) (Or.inl ⟨by rfl, ?_⟩) ?_
        rotate_left
        · intro w
          go_simp
          try with_reducible rfl
        simp only [Act.put, List.setIfInBounds_toArray, List.set_cons_zero, List.set_cons_succ]
        refine wpAny_done (by kernel_rfl) ?_ _
        go_wp2_with fail
        go_ret
        have HF := Hv2.out.cel (c := putV c y k (kk, nn)) rfl rfl HL0.out (by have z := HI0.out; rw [HST.out] at z; exact z)
        exact ⟨by rw [HST.out]; rfl, ⟨_, t + 1, by omega, by omega, by rw [HST.out]; exact HF⟩, Gv2.out⟩
      · go_simp
        refine (at_any b fb ab base c.f.s y we Hwe.out.blk hx hb hpl).mono ?_
        rintro r v3 ⟨rfl, gv3⟩
        rw [HPL.out]
        have Hv3 := Lib.hid (Hwe.out.keep gv3)
        have Gv3 := Lib.hid (Gwe.out.trans gv3)
        clear gv3 c0 c1 c2 c3 c4 c5 c6 c7
        obtain ⟨c0, c1, c2, c3, c4, c5, c6, c7⟩ := hc_of Hv3.out.blk
        refine hK _ _ ?_
        clear hK K
        try simp only [Act.put, List.setIfInBounds_toArray, List.set_cons_zero, List.set_cons_succ]
        refine wpAny_take (i := 7) (oi := ⟨some 43, _, _, _, _, _⟩) (v := ?_) rfl (by kernel_rfl) (by kernel_rfl) (by kernel_rfl) (fun _ _ _ h => h) (Or.inl ⟨by rfl, ?_⟩) ?_
        rotate_left
        · intro w
          go_simp
          try with_reducible rfl
        simp only [Act.put, List.setIfInBounds_toArray, List.set_cons_zero, List.set_cons_succ]
        refine wpAny_take (i := 9) (oi := ⟨some 45, _, _, _, _, _⟩) (v := ?_) rfl (by kernel_rfl) (by kernel_rfl) (by kernel_rfl) (fun _ _ _ h => h) (Or.inl ⟨by rfl, ?_⟩) ?_
        rotate_left
        · intro w
          go_simp
          try with_reducible rfl
        simp only [Act.put, List.setIfInBounds_toArray, List.set_cons_zero, List.set_cons_succ]
        refine wpAny_ready (rs := [3]) (by kernel_rfl) (by simp) ?_
        refine AllReady.cons rfl (fun K hK => ?_) AllReady.nil
        go_simp
        refine hK _ _ ?_
        clear hK K
        try simp only [Act.put, List.setIfInBounds_toArray, List.set_cons_zero, List.set_cons_succ]
        refine wpAny_ready (rs := [11]) (by kernel_rfl) (by simp) ?_
        refine AllReady.cons rfl (fun K hK => ?_) AllReady.nil
        go_simp
        have hpp := HPP.out
        rw [wrap_in ((base : Int) + (p : Int) + 1) (by omega), wrap_in ((base : Int) + (p : Int) + 1 + (k : Int)) (by omega), show (base : Int) + (p : Int) + 1 + (k : Int) = (base : Int) + (pp : Int) by omega]
        clear hpp
        refine (Arena.write_any ab ca l t (base + (pp : Int)) (Word.vword kk nn) v3 Hv3.out.ar ht).mono ?_
        rintro r v4 ⟨rfl, hA, gA⟩
        rw [HW0.out]
        rw [HW1.out, HW2.out] at hA
        have Hv4 := Lib.hid (Hv3.out.arena gA hA)
        have Gv4 := Lib.hid ((Gv3.out.mono (fun k q => q.elim)).trans gA)
        clear gA hA
        refine hK _ _ ?_
        clear hK K
        try simp only [Act.put, List.setIfInBounds_toArray, List.set_cons_zero, List.set_cons_succ]
        refine wpAny_take (i := 12) (oi := ⟨some 8, _, _, _, _, _⟩) (v := ?_) rfl (by kernel_rfl) (by kernel_rfl) (by kernel_rfl) (fun _ _ _ h => h) (Or.inl ⟨by rfl, ?_⟩) ?_
        rotate_left
        · intro w
          go_simp
          try with_reducible rfl
        simp only [Act.put, List.setIfInBounds_toArray, List.set_cons_zero, List.set_cons_succ]
        refine wpAny_done (by kernel_rfl) ?_ _
        go_wp2_with fail
        go_ret
        have HF := Hv4.out.cel (c := putV c y k (kk, nn)) rfl rfl HL0.out (by have z := HI0.out; rw [HST.out] at z; exact z)
        exact ⟨by rw [HST.out]; rfl, ⟨_, t + 1, by omega, by omega, by rw [HST.out]; exact HF⟩, Gv4.out⟩
  · have e : set c x z (kk, nn) = (c, 1) := by unfold set; rw [if_neg hok]
    rw [e]
    refine (set_no b fb ab ca base l0 l c t x z kk nn w Sf h hx hn (by
      cases hv : Word.vright kk nn with
      | false => exact .inl rfl
      | true =>
        cases hs : slotOK c x z with
        | false => exact .inr rfl
        | true => exact absurd ⟨hv, hs⟩ hok)).mono ?_
    rintro r w' ⟨rfl, g⟩
    exact ⟨rfl, ⟨l, t, by omega, by omega, h.keep g⟩, g.mono (fun k q => q.elim)⟩

end Cells
end Go.Proofs.Ytngbhhcicakolaa
