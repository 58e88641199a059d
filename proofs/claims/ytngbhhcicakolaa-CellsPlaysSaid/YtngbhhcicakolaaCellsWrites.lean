/- The functions of package cells that touch the arena, walked. -/
import Derived.Test.YtngbhhcicakolaaCellsReads
set_option linter.unusedVariables false
set_option linter.unusedSimpArgs false
namespace Go.Proofs.Ytngbhhcicakolaa
open Go.RowKit Go.Deep

namespace Cells
open Free (Fr genAt takenAt)
open Arena (nth zeroed)

/-- Cells in memory, whatever their words are. -/
structure Raw (b fb ab ca base : Nat) (s : Conf.Sh) (f : Fr) (l : List Int) (t : Int) (w : World) (Sf : Nat → Prop) : Prop where
  blk : Blk w b (hdr fb ab base s) 85
  fob : Free.Fob fb f w Sf
  ar : Arena.Ar 77 w ab ca l t
  n1 : ¬ Sf b
  n2 : ¬ Sf ab
  n3 : ¬ Sf ca
  n4 : b ≠ ab ∧ b ≠ ca
theorem Cel.raw {b fb ab ca base : Nat} {l0 l : List Int} {c : Cs} {t : Int} {w : World} {Sf : Nat → Prop} (h : Cel b fb ab ca base l0 c l t w Sf) : Raw b fb ab ca base c.f.s c.f l t w Sf := ⟨h.blk, h.fob, h.ar, h.n1, h.n2, h.n3, h.n4⟩
theorem Raw.but {b fb ab ca base : Nat} {s : Conf.Sh} {f : Fr} {l : List Int} {t : Int} {w w' : World} {Sf U : Nat → Prop} (h : Raw b fb ab ca base s f l t w Sf) (g : But U w w') (a : Apart U (foot b ab ca Sf)) : Raw b fb ab ca base s f l t w' Sf :=
  ⟨h.blk.but g (fun q => a b q (.inl rfl)), h.fob.but g (fun k q r => a k q (.inr (.inr (.inr r)))), h.ar.but g (fun q => a ab q (.inr (.inl rfl))) (fun q => a ca q (.inr (.inr (.inl rfl)))), h.n1, h.n2, h.n3, h.n4⟩
theorem Raw.keep {b fb ab ca base : Nat} {s : Conf.Sh} {f : Fr} {l : List Int} {t : Int} {w w' : World} {Sf : Nat → Prop} (h : Raw b fb ab ca base s f l t w Sf) (g : But (fun _ => False) w w') : Raw b fb ab ca base s f l t w' Sf := h.but g (fun _ q _ => q)
/-- The arena has been turned. -/
theorem Raw.arena {b fb ab ca base : Nat} {s : Conf.Sh} {f : Fr} {l l' : List Int} {t t' : Int} {w w' : World} {Sf : Nat → Prop} (h : Raw b fb ab ca base s f l t w Sf) (g : But (fun k => k = ab ∨ k = ca) w w') (ha : Arena.Ar 77 w' ab ca l' t') : Raw b fb ab ca base s f l' t' w' Sf :=
  ⟨h.blk.but g (fun q => by rcases q with q | q; exact h.n4.1 q; exact h.n4.2 q), h.fob.but g (fun k q r => by rcases q with rfl | rfl; exact h.n2 r; exact h.n3 r), ha, h.n1, h.n2, h.n3, h.n4⟩

theorem there_in {l : List Int} {i : Nat} (h : i < l.length) : Arena.there l (i : Int) 1 = true := (Arena.there_iff l i 1).2 ⟨by omega, by omega, by omega, by omega⟩
theorem there_more {l : List Int} {i m : Nat} (h : i + m ≤ l.length) : Arena.there l (i : Int) (m : Int) = true := (Arena.there_iff l i m).2 ⟨by omega, by omega, by omega, by omega⟩

set_option maxHeartbeats 8000000 in
set_option maxRecDepth 100000 in
theorem write_any (b fb ab ca base p : Nat) (s : Conf.Sh) (f : Fr) (l : List Int) (t x g m : Int) (u : Bool) (w : World) (Sf : Nat → Prop) (h : Raw b fb ab ca base s f l t w Sf) (hx : -9223372036854775808 ≤ x ∧ x ≤ 9223372036854775807) (hb : base ≤ 1000000000) (hp : place s x = p) (hp2 : p ≤ 1000) (hr : base + p < l.length) (hg : Head.right g m = true) (ht : t ≤ 1000000000000) :
    Calls Try.prog 61 #[.pointer (some ⟨b, 0, none⟩), .int .i64 x, .agg #[.int .i64 g, .int .i64 m, .bool u]] w fun e w' => e = .returned (.tuple #[]) ∧ Raw b fb ab ca base s f (l.set (base + p) (Head.word g m u)) (t + 1) w' Sf ∧ But (fun k => k = ab ∨ k = ca) w w' := by
  have hpl : -1 ≤ place s x ∧ place s x ≤ 1000 := by omega
  have HPL := Lib.hid hp
  have hth := there_in hr
  have HW1 := Lib.hid (show (Arena.wri l ((base : Int) + p) (Head.word g m u)).2 = l.set (base + p) (Head.word g m u) by
    unfold Arena.wri
    rw [show ((base : Int) + (p : Int)) = ((base + p : Nat) : Int) by omega, hth, if_pos rfl, Int.toNat_natCast])
  have HW2 := Lib.hid (show Arena.by1 l ((base : Int) + p) t = t + 1 by
    unfold Arena.by1
    rw [show ((base : Int) + (p : Int)) = ((base + p : Nat) : Int) by omega, hth, if_pos rfl])
  have G0 := (But.refl (fun _ => False) w).alloc (.cells #[.int .i64 g, .int .i64 m, .bool u] 47)
  have H0 := Lib.hid (h.keep G0)
  have HG := Lib.hid hg
  clear h hp hg hth hr
  go_enter Try.func61, Try.ntmps61
  go_wp2_with fail
  refine (Head.encode_yes g m u _ HG.out).mono ?_
  rintro r w1 ⟨rfl, g1⟩
  have H1 := Lib.hid (H0.out.keep g1)
  have G1 := Lib.hid (G0.trans g1)
  clear g1 G0 H0
  go_wp2_with fail
  refine wp_region_any (by kernel_rfl) ?_
  change wpAny _ _ _ _ _ _ _ (World.drew _)
  obtain ⟨we, hwe⟩ : ∃ we, we = w1.drew := ⟨_, rfl⟩
  have Hwe := Lib.hid (show Raw b fb ab ca base s f l t we Sf from hwe ▸ H1.out.keep ((But.refl _ w1).drew))
  have Gwe := Lib.hid (show But (fun _ => False) w we from hwe ▸ G1.out.drew)
  obtain ⟨c0, c1, c2, c3, c4, c5, c6, c7⟩ := hc_of Hwe.out.blk
  rw [← hwe]
  clear hwe
  refine wpAny_take (i := 0) (oi := ⟨some 13, _, _, _, _, _⟩) (v := ?_) rfl (by kernel_rfl) (by kernel_rfl) (by kernel_rfl) (fun _ _ _ h => h) (Or.inl ⟨by rfl, ?_⟩) ?_
  rotate_left
  · intro w
    go_simp
    try with_reducible rfl
  simp only [Act.put, List.setIfInBounds_toArray, List.set_cons_zero, List.set_cons_succ]
  refine wpAny_take (i := 1) (oi := ⟨some 14, _, _, _, _, _⟩) (v := ?_) rfl (by kernel_rfl) (by kernel_rfl) (by kernel_rfl) (fun _ _ _ h => h) (Or.inl ⟨by rfl, ?_⟩) ?_
  rotate_left
  · intro w
    go_simp
    try with_reducible rfl
  simp only [Act.put, List.setIfInBounds_toArray, List.set_cons_zero, List.set_cons_succ]
  refine wpAny_take (i := 2) (oi := ⟨some 15, _, _, _, _, _⟩) (v := ?_) rfl (by kernel_rfl) (by kernel_rfl) (by kernel_rfl) (fun _ _ _ h => h) (Or.inl ⟨by rfl, ?_⟩) ?_
  rotate_left
  · intro w
    go_simp
    try with_reducible rfl
  simp only [Act.put, List.setIfInBounds_toArray, List.set_cons_zero, List.set_cons_succ]
  refine wpAny_take (i := 4) (oi := ⟨some 17, _, _, _, _, _⟩) (v := ?_) rfl (by kernel_rfl) (by kernel_rfl) (by kernel_rfl) (fun _ _ _ h => h) (Or.inl ⟨by rfl, ?_⟩) ?_
  rotate_left
  · intro w
    go_simp
    try with_reducible rfl
  simp only [Act.put, List.setIfInBounds_toArray, List.set_cons_zero, List.set_cons_succ]
  refine wpAny_take (i := 5) (oi := ⟨some 18, _, _, _, _, _⟩) (v := ?_) rfl (by kernel_rfl) (by kernel_rfl) (by kernel_rfl) (fun _ _ _ h => h) (Or.inl ⟨by rfl, ?_⟩) ?_
  rotate_left
  · intro w
    go_simp
    try with_reducible rfl
  simp only [Act.put, List.setIfInBounds_toArray, List.set_cons_zero, List.set_cons_succ]
  refine wpAny_take (i := 7) (oi := ⟨some 20, _, _, _, _, _⟩) (v := ?_) rfl (by kernel_rfl) (by kernel_rfl) (by kernel_rfl) (fun _ _ _ h => h) (Or.inl ⟨by rfl, ?_⟩) ?_
  rotate_left
  · intro w
    go_simp
    try with_reducible rfl
  simp only [Act.put, List.setIfInBounds_toArray, List.set_cons_zero, List.set_cons_succ]
  refine wpAny_ready (rs := [3, 6]) (by kernel_rfl) (by simp) ?_
  refine AllReady.cons rfl (fun K hK => ?_) (AllReady.cons rfl (fun K hK => ?_) AllReady.nil)
  · go_simp
    refine hK _ _ ?_
    clear hK K
    try simp only [Act.put, List.setIfInBounds_toArray, List.set_cons_zero, List.set_cons_succ]
    refine wpAny_ready (rs := [6]) (by kernel_rfl) (by simp) ?_
    refine AllReady.cons rfl (fun K hK => ?_) AllReady.nil
    go_simp
    refine (at_any b fb ab base s x we Hwe.out.blk hx hb hpl).mono ?_
    rintro r v1 ⟨rfl, gv1⟩
    rw [HPL.out]
    have Hv1 := Lib.hid (Hwe.out.keep gv1)
    have Gv1 := Lib.hid (Gwe.out.trans gv1)
    clear gv1 c0 c1 c2 c3 c4 c5 c6 c7
    obtain ⟨c0, c1, c2, c3, c4, c5, c6, c7⟩ := hc_of Hv1.out.blk
    refine hK _ _ ?_
    clear hK K
    try simp only [Act.put, List.setIfInBounds_toArray, List.set_cons_zero, List.set_cons_succ]
    refine wpAny_ready (rs := [8]) (by kernel_rfl) (by simp) ?_
    refine AllReady.cons rfl (fun K hK => ?_) AllReady.nil
    go_simp
    refine (Arena.write_any ab ca l t (base + p) (Head.word g m u) v1 Hv1.out.ar ht).mono ?_
    rintro r v2 ⟨rfl, hA, gA⟩
    rw [HW1.out, HW2.out] at hA
    have Hv2 := Lib.hid (Hv1.out.arena gA hA)
    have Gv2 := Lib.hid ((Gv1.out.mono (fun k q => q.elim)).trans gA)
    clear gA hA
    refine hK _ _ ?_
    clear hK K
    try simp only [Act.put, List.setIfInBounds_toArray, List.set_cons_zero, List.set_cons_succ]
    refine wpAny_done (by kernel_rfl) ?_ _
    go_wp2_with fail
    exact bodyPost_end (results_none rfl _ _ _) rfl ⟨rfl, Hv2.out, Gv2.out⟩
  · go_simp
    refine (at_any b fb ab base s x we Hwe.out.blk hx hb hpl).mono ?_
    rintro r v3 ⟨rfl, gv3⟩
    rw [HPL.out]
    have Hv3 := Lib.hid (Hwe.out.keep gv3)
    have Gv3 := Lib.hid (Gwe.out.trans gv3)
    clear gv3 c0 c1 c2 c3 c4 c5 c6 c7
    obtain ⟨c0, c1, c2, c3, c4, c5, c6, c7⟩ := hc_of Hv3.out.blk
    refine hK _ _ ?_
    clear hK K
    try simp only [Act.put, List.setIfInBounds_toArray, List.set_cons_zero, List.set_cons_succ]
    refine wpAny_ready (rs := [3]) (by kernel_rfl) (by simp) ?_
    refine AllReady.cons rfl (fun K hK => ?_) AllReady.nil
    go_simp
    refine hK _ _ ?_
    clear hK K
    try simp only [Act.put, List.setIfInBounds_toArray, List.set_cons_zero, List.set_cons_succ]
    refine wpAny_ready (rs := [8]) (by kernel_rfl) (by simp) ?_
    refine AllReady.cons rfl (fun K hK => ?_) AllReady.nil
    go_simp
    refine (Arena.write_any ab ca l t (base + p) (Head.word g m u) v3 Hv3.out.ar ht).mono ?_
    rintro r v4 ⟨rfl, hA, gA⟩
    rw [HW1.out, HW2.out] at hA
    have Hv4 := Lib.hid (Hv3.out.arena gA hA)
    have Gv4 := Lib.hid ((Gv3.out.mono (fun k q => q.elim)).trans gA)
    clear gA hA
    refine hK _ _ ?_
    clear hK K
    try simp only [Act.put, List.setIfInBounds_toArray, List.set_cons_zero, List.set_cons_succ]
    refine wpAny_done (by kernel_rfl) ?_ _
    go_wp2_with fail
    exact bodyPost_end (results_none rfl _ _ _) rfl ⟨rfl, Hv4.out, Gv4.out⟩

set_option maxHeartbeats 8000000 in
set_option maxRecDepth 100000 in
theorem wipe_any (b fb ab ca base p q : Nat) (s : Conf.Sh) (f : Fr) (l : List Int) (t x gg : Int) (w : World) (Sf : Nat → Prop) (h : Raw b fb ab ca base s f l t w Sf) (hx : -9223372036854775808 ≤ x ∧ x ≤ 9223372036854775807) (hb : base ≤ 1000000000) (hp : place s x = p) (hp2 : p ≤ 1000) (hq : slots s x = q) (hq4 : q ≤ 4) (hr : base + p + q + 1 ≤ l.length)
    (hI : Free.Inv f) (hge : Free.gen f x = gg) (hg : Head.right gg 0 = true) (ht : t ≤ 900000000000) :
    Calls Try.prog 35 #[.pointer (some ⟨b, 0, none⟩), .int .i64 x] w fun e w' => e = .returned (.tuple #[]) ∧ Raw b fb ab ca base s f ((zeroed l (base + p) (q + 1)).set (base + p) (Head.word gg 0 false)) (t + ((q : Int) + 2)) w' Sf ∧ But (fun k => k = ab ∨ k = ca) w w' := by
  have hpl : -1 ≤ place s x ∧ place s x ≤ 1000 := by omega
  have HPL := Lib.hid hp
  have HSL := Lib.hid hq
  have HFI := Lib.hid hI
  have HGE := Lib.hid hge
  have HGR := Lib.hid hg
  have hth := there_more (l := l) (i := base + p) (m := q + 1) (by omega)
  have e1 : ((base : Int) + (p : Int)) = ((base + p : Nat) : Int) := by omega
  have e2 : ((1 : Int) + (q : Int)) = ((q + 1 : Nat) : Int) := by omega
  have HZ1 := Lib.hid (show (Arena.zr l ((base : Int) + p) (1 + q)).2 = zeroed l (base + p) (q + 1) by
    unfold Arena.zr
    rw [e1, e2, hth, if_pos rfl, Int.toNat_natCast, Int.toNat_natCast])
  have HZ2 := Lib.hid (show Arena.byn l ((base : Int) + p) (1 + q) t = t + ((q : Int) + 1) by
    unfold Arena.byn
    rw [e1, e2, hth, if_pos rfl]
    omega)
  have HR2 := Lib.hid (show base + p < (zeroed l (base + p) (q + 1)).length by rw [Arena.zeroed_length (by omega)]; omega)
  clear hp hq hI hge hg hth hr e1 e2
  go_enter Try.func35, Try.ntmps35
  go_wp2_with fail
  refine wp_region_any (by kernel_rfl) ?_
  change wpAny _ _ _ _ _ _ _ (World.drew _)
  obtain ⟨we, hwe⟩ : ∃ we, we = w.drew := ⟨_, rfl⟩
  have Hwe := Lib.hid (show Raw b fb ab ca base s f l t we Sf from hwe ▸ h.keep ((But.refl _ w).drew))
  have Gwe := Lib.hid (show But (fun _ => False) w we from hwe ▸ (But.refl _ w).drew)
  obtain ⟨c0, c1, c2, c3, c4, c5, c6, c7⟩ := hc_of Hwe.out.blk
  rw [← hwe]
  clear hwe
  refine wpAny_take (i := 0) (oi := ⟨some 4, _, _, _, _, _⟩) (v := ?_) rfl (by kernel_rfl) (by kernel_rfl) (by kernel_rfl) (fun _ _ _ h => h) (Or.inl ⟨by rfl, ?_⟩) ?_
  rotate_left
  · intro w
    go_simp
    try with_reducible rfl
  simp only [Act.put, List.setIfInBounds_toArray, List.set_cons_zero, List.set_cons_succ]
  refine wpAny_take (i := 1) (oi := ⟨some 5, _, _, _, _, _⟩) (v := ?_) rfl (by kernel_rfl) (by kernel_rfl) (by kernel_rfl) (fun _ _ _ h => h) (Or.inl ⟨by rfl, ?_⟩) ?_
  rotate_left
  · intro w
    go_simp
    try with_reducible rfl
  simp only [Act.put, List.setIfInBounds_toArray, List.set_cons_zero, List.set_cons_succ]
  refine wpAny_take (i := 2) (oi := ⟨some 6, _, _, _, _, _⟩) (v := ?_) rfl (by kernel_rfl) (by kernel_rfl) (by kernel_rfl) (fun _ _ _ h => h) (Or.inl ⟨by rfl, ?_⟩) ?_
  rotate_left
  · intro w
    go_simp
    try with_reducible rfl
  simp only [Act.put, List.setIfInBounds_toArray, List.set_cons_zero, List.set_cons_succ]
  refine wpAny_take (i := 4) (oi := ⟨some 8, _, _, _, _, _⟩) (v := ?_) rfl (by kernel_rfl) (by kernel_rfl) (by kernel_rfl) (fun _ _ _ h => h) (Or.inl ⟨by rfl, ?_⟩) ?_
  rotate_left
  · intro w
    go_simp
    try with_reducible rfl
  simp only [Act.put, List.setIfInBounds_toArray, List.set_cons_zero, List.set_cons_succ]
  refine wpAny_take (i := 5) (oi := ⟨some 9, _, _, _, _, _⟩) (v := ?_) rfl (by kernel_rfl) (by kernel_rfl) (by kernel_rfl) (fun _ _ _ h => h) (Or.inl ⟨by rfl, ?_⟩) ?_
  rotate_left
  · intro w
    go_simp
    try with_reducible rfl
  simp only [Act.put, List.setIfInBounds_toArray, List.set_cons_zero, List.set_cons_succ]
  refine wpAny_take (i := 7) (oi := ⟨some 11, _, _, _, _, _⟩) (v := ?_) rfl (by kernel_rfl) (by kernel_rfl) (by kernel_rfl) (fun _ _ _ h => h) (Or.inl ⟨by rfl, ?_⟩) ?_
  rotate_left
  · intro w
    go_simp
    try with_reducible rfl
  simp only [Act.put, List.setIfInBounds_toArray, List.set_cons_zero, List.set_cons_succ]
  refine wpAny_take (i := 8) (oi := ⟨some 12, _, _, _, _, _⟩) (v := ?_) rfl (by kernel_rfl) (by kernel_rfl) (by kernel_rfl) (fun _ _ _ h => h) (Or.inl ⟨by rfl, ?_⟩) ?_
  rotate_left
  · intro w
    go_simp
    try with_reducible rfl
  simp only [Act.put, List.setIfInBounds_toArray, List.set_cons_zero, List.set_cons_succ]
  refine wpAny_ready (rs := [3, 6]) (by kernel_rfl) (by simp) ?_
  refine AllReady.cons rfl (fun K hK => ?_) (AllReady.cons rfl (fun K hK => ?_) AllReady.nil)
  · go_simp
    refine hK _ _ ?_
    clear hK K
    try simp only [Act.put, List.setIfInBounds_toArray, List.set_cons_zero, List.set_cons_succ]
    refine wpAny_ready (rs := [6]) (by kernel_rfl) (by simp) ?_
    refine AllReady.cons rfl (fun K hK => ?_) AllReady.nil
    go_simp
    refine (at_any b fb ab base s x we Hwe.out.blk hx hb hpl).mono ?_
    rintro r v1 ⟨rfl, gv1⟩
    rw [HPL.out]
    have Hv1 := Lib.hid (Hwe.out.keep gv1)
    have Gv1 := Lib.hid (Gwe.out.trans gv1)
    clear gv1 c0 c1 c2 c3 c4 c5 c6 c7
    obtain ⟨c0, c1, c2, c3, c4, c5, c6, c7⟩ := hc_of Hv1.out.blk
    refine hK _ _ ?_
    clear hK K
    try simp only [Act.put, List.setIfInBounds_toArray, List.set_cons_zero, List.set_cons_succ]
    refine wpAny_ready (rs := [9]) (by kernel_rfl) (by simp) ?_
    refine AllReady.cons rfl (fun K hK => ?_) AllReady.nil
    go_simp
    refine (slots_any b fb ab base s x v1 Hv1.out.blk hx).mono ?_
    rintro r v2 ⟨rfl, gv2⟩
    rw [HSL.out]
    have Hv2 := Lib.hid (Hv1.out.keep gv2)
    have Gv2 := Lib.hid (Gv1.out.trans gv2)
    clear gv2 c0 c1 c2 c3 c4 c5 c6 c7
    obtain ⟨c0, c1, c2, c3, c4, c5, c6, c7⟩ := hc_of Hv2.out.blk
    refine hK _ _ ?_
    clear hK K
    try simp only [Act.put, List.setIfInBounds_toArray, List.set_cons_zero, List.set_cons_succ]
    refine wpAny_take (i := 10) (oi := ⟨some 14, _, _, _, _, _⟩) (v := ?_) rfl (by kernel_rfl) (by kernel_rfl) (by kernel_rfl) (fun _ _ _ h => h) (Or.inl ⟨by rfl, ?_⟩) ?_
    rotate_left
    · intro w
      go_simp
      try with_reducible rfl
    simp only [Act.put, List.setIfInBounds_toArray, List.set_cons_zero, List.set_cons_succ]
    refine wpAny_ready (rs := [11]) (by kernel_rfl) (by simp) ?_
    refine AllReady.cons rfl (fun K hK => ?_) AllReady.nil
    go_simp
    rw [wrap_in (1 + (q : Int)) (by omega)]
    refine (Arena.zero_any ab ca l t (base + p) (1 + q) v2 Hv2.out.ar (by omega)).mono ?_
    rintro r v3 ⟨rfl, hA, gA⟩
    rw [HZ1.out, HZ2.out] at hA
    have Hv3 := Lib.hid (Hv2.out.arena gA hA)
    have Gv3 := Lib.hid ((Gv2.out.mono (fun k q => q.elim)).trans gA)
    clear gA hA
    refine hK _ _ ?_
    clear hK K
    try simp only [Act.put, List.setIfInBounds_toArray, List.set_cons_zero, List.set_cons_succ]
    refine wpAny_done (by kernel_rfl) ?_ _
    clear c0 c1 c2 c3 c4 c5 c6 c7
    obtain ⟨c0, c1, c2, c3, c4, c5, c6, c7⟩ := hc_of Hv3.out.blk
    go_wp2_with fail
    refine (Free.gen_any fb f x _ Sf Hv3.out.fob HFI.out).mono ?_
    rintro r vv ⟨rfl, rfl⟩
    rw [HGE.out]
    go_wp2_with fail
    refine (write_any b fb ab ca base p s f (zeroed l (base + p) (q + 1)) (t + ((q : Int) + 1)) x gg 0 false _ Sf Hv3.out hx hb HPL.out hp2 HR2.out HGR.out (by omega)).mono ?_
    rintro r v9 ⟨rfl, h9, g9⟩
    go_wp2_with fail
    exact bodyPost_end (results_none rfl _ _ _) rfl ⟨rfl, by rw [show t + ((q : Int) + 2) = t + ((q : Int) + 1) + 1 by omega]; exact h9, Gv3.out.trans g9⟩
  · go_simp
    refine (at_any b fb ab base s x we Hwe.out.blk hx hb hpl).mono ?_
    rintro r v4 ⟨rfl, gv4⟩
    rw [HPL.out]
    have Hv4 := Lib.hid (Hwe.out.keep gv4)
    have Gv4 := Lib.hid (Gwe.out.trans gv4)
    clear gv4 c0 c1 c2 c3 c4 c5 c6 c7
    obtain ⟨c0, c1, c2, c3, c4, c5, c6, c7⟩ := hc_of Hv4.out.blk
    refine hK _ _ ?_
    clear hK K
    try simp only [Act.put, List.setIfInBounds_toArray, List.set_cons_zero, List.set_cons_succ]
    refine wpAny_ready (rs := [3, 9]) (by kernel_rfl) (by simp) ?_
    refine AllReady.cons rfl (fun K hK => ?_) (AllReady.cons rfl (fun K hK => ?_) AllReady.nil)
    · go_simp
      refine hK _ _ ?_
      clear hK K
      try simp only [Act.put, List.setIfInBounds_toArray, List.set_cons_zero, List.set_cons_succ]
      refine wpAny_ready (rs := [9]) (by kernel_rfl) (by simp) ?_
      refine AllReady.cons rfl (fun K hK => ?_) AllReady.nil
      go_simp
      refine (slots_any b fb ab base s x v4 Hv4.out.blk hx).mono ?_
      rintro r v5 ⟨rfl, gv5⟩
      rw [HSL.out]
      have Hv5 := Lib.hid (Hv4.out.keep gv5)
      have Gv5 := Lib.hid (Gv4.out.trans gv5)
      clear gv5 c0 c1 c2 c3 c4 c5 c6 c7
      obtain ⟨c0, c1, c2, c3, c4, c5, c6, c7⟩ := hc_of Hv5.out.blk
      refine hK _ _ ?_
      clear hK K
      try simp only [Act.put, List.setIfInBounds_toArray, List.set_cons_zero, List.set_cons_succ]
      refine wpAny_take (i := 10) (oi := ⟨some 14, _, _, _, _, _⟩) (v := ?_) rfl (by kernel_rfl) (by kernel_rfl) (by kernel_rfl) (fun _ _ _ h => h) (Or.inl ⟨by rfl, ?_⟩) ?_
      rotate_left
      · intro w
        go_simp
        try with_reducible rfl
      simp only [Act.put, List.setIfInBounds_toArray, List.set_cons_zero, List.set_cons_succ]
      refine wpAny_ready (rs := [11]) (by kernel_rfl) (by simp) ?_
      refine AllReady.cons rfl (fun K hK => ?_) AllReady.nil
      go_simp
      rw [wrap_in (1 + (q : Int)) (by omega)]
      refine (Arena.zero_any ab ca l t (base + p) (1 + q) v5 Hv5.out.ar (by omega)).mono ?_
      rintro r v6 ⟨rfl, hA, gA⟩
      rw [HZ1.out, HZ2.out] at hA
      have Hv6 := Lib.hid (Hv5.out.arena gA hA)
      have Gv6 := Lib.hid ((Gv5.out.mono (fun k q => q.elim)).trans gA)
      clear gA hA
      refine hK _ _ ?_
      clear hK K
      try simp only [Act.put, List.setIfInBounds_toArray, List.set_cons_zero, List.set_cons_succ]
      refine wpAny_done (by kernel_rfl) ?_ _
      clear c0 c1 c2 c3 c4 c5 c6 c7
      obtain ⟨c0, c1, c2, c3, c4, c5, c6, c7⟩ := hc_of Hv6.out.blk
      go_wp2_with fail
      refine (Free.gen_any fb f x _ Sf Hv6.out.fob HFI.out).mono ?_
      rintro r vv ⟨rfl, rfl⟩
      rw [HGE.out]
      go_wp2_with fail
      refine (write_any b fb ab ca base p s f (zeroed l (base + p) (q + 1)) (t + ((q : Int) + 1)) x gg 0 false _ Sf Hv6.out hx hb HPL.out hp2 HR2.out HGR.out (by omega)).mono ?_
      rintro r v9 ⟨rfl, h9, g9⟩
      go_wp2_with fail
      exact bodyPost_end (results_none rfl _ _ _) rfl ⟨rfl, by rw [show t + ((q : Int) + 2) = t + ((q : Int) + 1) + 1 by omega]; exact h9, Gv6.out.trans g9⟩
    · go_simp
      refine (slots_any b fb ab base s x v4 Hv4.out.blk hx).mono ?_
      rintro r v7 ⟨rfl, gv7⟩
      rw [HSL.out]
      have Hv7 := Lib.hid (Hv4.out.keep gv7)
      have Gv7 := Lib.hid (Gv4.out.trans gv7)
      clear gv7 c0 c1 c2 c3 c4 c5 c6 c7
      obtain ⟨c0, c1, c2, c3, c4, c5, c6, c7⟩ := hc_of Hv7.out.blk
      refine hK _ _ ?_
      clear hK K
      try simp only [Act.put, List.setIfInBounds_toArray, List.set_cons_zero, List.set_cons_succ]
      refine wpAny_take (i := 10) (oi := ⟨some 14, _, _, _, _, _⟩) (v := ?_) rfl (by kernel_rfl) (by kernel_rfl) (by kernel_rfl) (fun _ _ _ h => h) (Or.inl ⟨by rfl, ?_⟩) ?_
      rotate_left
      · intro w
        go_simp
        try with_reducible rfl
      simp only [Act.put, List.setIfInBounds_toArray, List.set_cons_zero, List.set_cons_succ]
      refine wpAny_ready (rs := [3]) (by kernel_rfl) (by simp) ?_
      refine AllReady.cons rfl (fun K hK => ?_) AllReady.nil
      go_simp
      refine hK _ _ ?_
      clear hK K
      try simp only [Act.put, List.setIfInBounds_toArray, List.set_cons_zero, List.set_cons_succ]
      refine wpAny_ready (rs := [11]) (by kernel_rfl) (by simp) ?_
      refine AllReady.cons rfl (fun K hK => ?_) AllReady.nil
      go_simp
      rw [wrap_in (1 + (q : Int)) (by omega)]
      refine (Arena.zero_any ab ca l t (base + p) (1 + q) v7 Hv7.out.ar (by omega)).mono ?_
      rintro r v8 ⟨rfl, hA, gA⟩
      rw [HZ1.out, HZ2.out] at hA
      have Hv8 := Lib.hid (Hv7.out.arena gA hA)
      have Gv8 := Lib.hid ((Gv7.out.mono (fun k q => q.elim)).trans gA)
      clear gA hA
      refine hK _ _ ?_
      clear hK K
      try simp only [Act.put, List.setIfInBounds_toArray, List.set_cons_zero, List.set_cons_succ]
      refine wpAny_done (by kernel_rfl) ?_ _
      clear c0 c1 c2 c3 c4 c5 c6 c7
      obtain ⟨c0, c1, c2, c3, c4, c5, c6, c7⟩ := hc_of Hv8.out.blk
      go_wp2_with fail
      refine (Free.gen_any fb f x _ Sf Hv8.out.fob HFI.out).mono ?_
      rintro r vv ⟨rfl, rfl⟩
      rw [HGE.out]
      go_wp2_with fail
      refine (write_any b fb ab ca base p s f (zeroed l (base + p) (q + 1)) (t + ((q : Int) + 1)) x gg 0 false _ Sf Hv8.out hx hb HPL.out hp2 HR2.out HGR.out (by omega)).mono ?_
      rintro r v9 ⟨rfl, h9, g9⟩
      go_wp2_with fail
      exact bodyPost_end (results_none rfl _ _ _) rfl ⟨rfl, by rw [show t + ((q : Int) + 2) = t + ((q : Int) + 1) + 1 by omega]; exact h9, Gv8.out.trans g9⟩


end Cells
end Go.Proofs.Ytngbhhcicakolaa

