/- SetCount of package cells, walked. -/
import Derived.Test.YtngbhhcicakolaaCellsSets
set_option linter.unusedVariables false
set_option linter.unusedSimpArgs false
namespace Go.Proofs.Ytngbhhcicakolaa
open Go.RowKit Go.Deep

namespace Cells
open Free (Fr genAt takenAt)
open Arena (nth zeroed)

set_option maxHeartbeats 8000000 in
set_option maxRecDepth 100000 in
theorem setCount_any (b fb ab ca base : Nat) (l0 l : List Int) (c : Cs) (t x m : Int) (w : World) (Sf : Nat → Prop) (h : Cel b fb ab ca base l0 c l t w Sf) (hx : -9223372036854775808 ≤ x ∧ x ≤ 9223372036854775807) (hb : base ≤ 1000000000) (ht : t ≤ 900000000000) :
    Calls Try.prog 27 #[.pointer (some ⟨b, 0, none⟩), .int .i64 x, .int .i64 m] w fun e w' => e = .returned (.int .i64 (setCount c x m).2) ∧ (∃ l' t', t ≤ t' ∧ t' ≤ t + 2 ∧ Cel b fb ab ca base l0 (setCount c x m).1 l' t' w' Sf) ∧ But (fun k => k = ab ∨ k = ca) w w' := by
  have HC := Lib.hid h
  have HHD := Lib.hid (header_any b fb ab ca base l0 l c t x w Sf h hx hb (by omega))
  cases hcell : isCell c x with
  | false =>
    have hhd : header c x = ((0, 0, false), 1) := by unfold header; rw [hcell]; rfl
    have hst : setCount c x m = (c, 1) := by unfold setCount; rw [hcell, if_neg (by simp)]
    rw [hst]
    have HD := Lib.hid hhd
    clear hcell hhd hst h
    go_enter Try.func27, Try.ntmps27
    go_wp2_with fail
    refine HHD.out.mono ?_
    rintro r w2 ⟨rfl, ⟨t', ht1, ht2, h2⟩, g2⟩
    rw [HD.out]
    have H2 := Lib.hid h2
    have G2 := Lib.hid g2
    clear h2 g2
    go_wp2_with fail
    go_ret
    have gz : But (fun _ => False) w2 _ := (But.refl (fun _ => False) w2).alloc (.cells #[.int .i64 0, .int .i64 m, .bool false] 47)
    exact ⟨rfl, ⟨l, t', by omega, by omega, H2.out.keep gz⟩, G2.out.trans (gz.mono (fun k q => q.elim))⟩
  | true =>
    have hxx := (isCell_iff c x).1 hcell
    obtain ⟨y, rfl⟩ : ∃ y : Nat, x = y := ⟨x.toNat, by omega⟩
    have hy : y < n c := by omega
    obtain ⟨p, q, e1, e2, q1, q4, ew⟩ := h.inv.place hy
    have hw640 := (Conf.words_bd c.f.s).2
    have hroom := h.lay.room
    have hgb := h.inv.f.gen_bd (x := y) hy
    have hR : base + p < l.length := by omega
    have hp2 : p ≤ 1000 := by omega
    have HP := Lib.hid e1
    have hhd : header c (y : Int) = ((genAt c.f y, cntAt c y, takenAt c.f y), 0) := by unfold header; rw [hcell, if_pos rfl, Int.toNat_natCast]
    have htk := taken_cell h.inv hcell
    obtain ⟨gg, hgg⟩ : ∃ gg, genAt c.f y = gg := ⟨_, rfl⟩
    obtain ⟨mm, hmm⟩ : ∃ mm, cntAt c y = mm := ⟨_, rfl⟩
    rw [hgg, hmm] at hhd
    have hrt : Head.right gg m = cntOK m := by
      rw [hgg] at hgb
      cases hc : cntOK m with
      | true => exact (Head.right_iff _ _).2 ⟨⟨by omega, by omega⟩, (cntOK_iff m).1 hc⟩
      | false =>
        have := (cntOK_not m).1 hc
        rw [← Bool.not_eq_true, Head.right_iff]
        omega
    have hstc : setCount c (y : Int) m = if cntOK m = true then (if takenAt c.f y = true then ({ c with cn := c.cn.set y m }, 0) else (c, 9)) else (c, 1) := by
      unfold setCount
      rw [hcell, Int.toNat_natCast]
      cases cntOK m <;> simp
    obtain ⟨uu, huu⟩ : ∃ uu, takenAt c.f y = uu := ⟨_, rfl⟩
    rw [huu] at hhd htk hstc
    have HTK := Lib.hid htk
    have HD := Lib.hid hhd
    have HRT := Lib.hid hrt
    have HUU := Lib.hid huu
    have HGG := Lib.hid hgg
    have HHY := Lib.hid hy
    have hz : ∀ w2 : World, But (fun _ => False) w2 (w2.alloc (.cells #[.int .i64 gg, .int .i64 m, .bool uu] 47)) := fun w2 => (But.refl (fun _ => False) w2).alloc _
    have HZ := Lib.hid hz
    have hbk : ∀ w2 : World, Blk (w2.alloc (.cells #[.int .i64 gg, .int .i64 m, .bool uu] 47)) w2.heap.size #[.int .i64 gg, .int .i64 m, .bool uu] 47 := fun w2 => Blk.new w2 _ _
    have HBK := Lib.hid hbk
    rw [hstc]
    clear hcell hxx e1 e2 ew hroom hgb hhd htk hrt hgg hmm huu hy hz hbk hstc h
    cases hc : cntOK m with
    | false =>
      rw [if_neg (by simp)]
      go_enter Try.func27, Try.ntmps27
      go_wp2_with fail
      refine HHD.out.mono ?_
      rintro r w2 ⟨rfl, ⟨t', ht1, ht2, h2⟩, g2⟩
      rw [HD.out]
      have H2 := Lib.hid h2
      have G2 := Lib.hid g2
      clear h2 g2
      go_wp2_with fail
      refine (Head.right_any gg m uu _).mono ?_
      rintro r w3 ⟨rfl, g3⟩
      rw [HRT.out, hc]
      have G3 := Lib.hid ((HZ.out w2).trans g3)
      clear g3
      go_wp2_with fail
      go_ret
      exact ⟨rfl, ⟨l, t', by omega, by omega, H2.out.keep G3.out⟩, G2.out.trans (G3.out.mono (fun k q => q.elim))⟩
    | true =>
      rw [if_pos rfl]
      cases uu with
      | false =>
        rw [if_neg (by simp)]
        go_enter Try.func27, Try.ntmps27
        go_wp2_with fail
        refine HHD.out.mono ?_
        rintro r w2 ⟨rfl, ⟨t', ht1, ht2, h2⟩, g2⟩
        rw [HD.out]
        have H2 := Lib.hid h2
        have G2 := Lib.hid g2
        clear h2 g2
        go_wp2_with fail
        refine (Head.right_any gg m false _).mono ?_
        rintro r w3 ⟨rfl, g3⟩
        rw [HRT.out, hc]
        have G3 := Lib.hid ((HZ.out w2).trans g3)
        have H3 := Lib.hid (H2.out.keep G3.out)
        clear g3
        obtain ⟨c0, c1, c2, c3, c4, c5, c6, c7⟩ := hc_of H3.out.blk
        go_wp2_with fail
        refine (Free.taken_any fb c.f (y : Int) _ Sf H3.out.fob H3.out.inv.f).mono ?_
        rintro r w4 ⟨rfl, rfl⟩
        rw [HTK.out]
        go_wp2_with fail
        go_ret
        exact ⟨rfl, ⟨l, t', by omega, by omega, H3.out⟩, G2.out.trans (G3.out.mono (fun k q => q.elim))⟩
      | true =>
        rw [if_pos rfl]
        have HIV := Lib.hid (counted_inv HC.out.inv HHY.out hc HUU.out)
        have hly := fun {l : List Int} (z : Lay base l0 c l) => counted_lay (m := m) HC.out.inv z HHY.out HUU.out
        rw [HP.out, Int.toNat_natCast, HGG.out] at hly
        have HLY := Lib.hid (hly HC.out.lay)
        clear hly
        go_enter Try.func27, Try.ntmps27
        go_wp2_with fail
        refine HHD.out.mono ?_
        rintro r w2 ⟨rfl, ⟨t', ht1, ht2, h2⟩, g2⟩
        rw [HD.out]
        have H2 := Lib.hid h2
        have G2 := Lib.hid g2
        clear h2 g2
        go_wp2_with fail
        refine (Head.right_any gg m true _).mono ?_
        rintro r w3 ⟨rfl, g3⟩
        rw [HRT.out, hc]
        have G3 := Lib.hid ((HZ.out w2).trans g3)
        have H3 := Lib.hid (H2.out.keep G3.out)
        have B3 := (HBK.out w2).but g3 (fun q => q)
        clear g3
        obtain ⟨c0, c1, c2, c3, c4, c5, c6, c7⟩ := hc_of H3.out.blk
        have k0 := B3.cell 0
        have k1 := B3.cell 1
        have k2 := B3.cell 2
        go_wp2_with fail
        refine (Free.taken_any fb c.f (y : Int) _ Sf H3.out.fob H3.out.inv.f).mono ?_
        rintro r w4 ⟨rfl, rfl⟩
        rw [HTK.out]
        go_wp2_with fail
        refine (write_any b fb ab ca base p c.f.s c.f l t' (y : Int) gg m true _ Sf H3.out.raw hx hb HP.out hp2 hR (by rw [HRT.out, hc]) (by omega)).mono ?_
        rintro r w5 ⟨rfl, h5, g5⟩
        go_wp2_with fail
        go_ret
        exact ⟨rfl, ⟨_, t' + 1, by omega, by omega, h5.cel (c := { c with cn := c.cn.set y m }) rfl rfl HLY.out HIV.out⟩, (G2.out.trans (G3.out.mono (fun k q => q.elim))).trans g5⟩

end Cells
end Go.Proofs.Ytngbhhcicakolaa
