/- Alloc, Free, SetCount of package cells, walked. -/
import Derived.Test.YtngbhhcicakolaaCellsHead
set_option linter.unusedVariables false
set_option linter.unusedSimpArgs false
namespace Go.Proofs.Ytngbhhcicakolaa
open Go.RowKit Go.Deep

namespace Cells
open Free (Fr genAt takenAt)
open Arena (nth zeroed)

theorem Raw.cel {b fb ab ca base : Nat} {s : Conf.Sh} {f : Fr} {l0 l : List Int} {c : Cs} {t : Int} {w : World} {Sf : Nat → Prop} (r : Raw b fb ab ca base s f l t w Sf) (hs : s = c.f.s) (hf : f = c.f) (hl : Lay base l0 c l) (hi : Inv c) : Cel b fb ab ca base l0 c l t w Sf := by
  subst hs; subst hf
  exact ⟨r.blk, r.fob, r.ar, hl, hi, r.n1, r.n2, r.n3, r.n4⟩
/-- The list has been turned. -/
theorem Raw.list {b fb ab ca base : Nat} {s : Conf.Sh} {f f' : Fr} {l : List Int} {t : Int} {w w' : World} {Sf S' : Nat → Prop} (r : Raw b fb ab ca base s f l t w Sf) (hf : Free.Fob fb f' w' S') (g : But Sf w w') (hn : ∀ k, S' k → Sf k ∨ w.heap.size ≤ k) : Raw b fb ab ca base s f' l t w' S' :=
  ⟨r.blk.but g r.n1, hf, r.ar.but g r.n2 r.n3, fun q => by rcases hn b q with z | z; exact r.n1 z; (have := r.blk.lt; omega),
    fun q => by rcases hn ab q with z | z; exact r.n2 z; (have := r.ar.blk.lt; omega), fun q => by rcases hn ca q with z | z; exact r.n3 z; (have := r.ar.row.lt; omega), r.n4⟩
theorem gen_cell {f : Fr} {x : Nat} (h : x < Free.n f) : Free.gen f (x : Int) = genAt f x := by
  unfold Free.gen
  rw [if_pos ((Free.cellB_iff f x).2 ⟨by omega, by omega⟩)]

theorem alloc_nil (k : Int) (w : World) : Calls Try.prog 23 #[.pointer none, .int .i64 k] w fun e w' => e = .returned (.tuple #[.int .i64 0, .int .i64 1]) ∧ w = w' := by
  go_enter Try.func23, Try.ntmps23
  go_wp2
  go_ret2
  exact ⟨rfl, rfl⟩

set_option maxHeartbeats 8000000 in
set_option maxRecDepth 100000 in
theorem alloc_any (b fb ab ca base : Nat) (l0 l : List Int) (c : Cs) (t k : Int) (w : World) (Sf : Nat → Prop) (h : Cel b fb ab ca base l0 c l t w Sf) (hb : base ≤ 1000000000) (ht : t ≤ 1000000000000) :
    Calls Try.prog 23 #[.pointer (some ⟨b, 0, none⟩), .int .i64 k] w fun e w' => e = .returned (.tuple #[.int .i64 (alloc c k).2.1, .int .i64 (alloc c k).2.2]) ∧
      (∃ l' t' S', t ≤ t' ∧ t' ≤ t + 1 ∧ Cel b fb ab ca base l0 (alloc c k).1 l' t' w' S' ∧ (∀ j, S' j → Sf j ∨ w.heap.size ≤ j)) ∧ But (foot b ab ca Sf) w w' := by
  have HC := Lib.hid h
  have HTK := Lib.hid (Free.take_any fb c.f k w Sf h.fob h.inv.f)
  obtain ⟨c0, c1, c2, c3, c4, c5, c6, c7⟩ := hc_of h.blk
  by_cases he : (alloc c k).2.2 = 0
  · obtain ⟨y, h1, h2, h3, h4, h5, h6, h7, h8, h9, h10⟩ := alloc_ok h.inv he
    have hlay := fun {l : List Int} (z : Lay base l0 c l) => alloc_lay h.inv z he h1
    have hinv := alloc_inv h.inv k
    obtain ⟨p, q, e1, e2, q1, q4, ew⟩ := h.inv.place h2
    have hw640 := (Conf.words_bd c.f.s).2
    have hroom := h.lay.room
    have hgb := hinv.f.gen_bd (x := y) (by have := h3; unfold n at this h2; omega)
    have hge : Free.gen (Free.take c.f k).1 (y : Int) = genAt (alloc c k).1.f y := gen_cell (by have := h3; unfold n at this h2; show y < Free.n (alloc c k).1.f; omega)
    have hy31 : -9223372036854775808 ≤ (y : Int) ∧ (y : Int) ≤ 9223372036854775807 := by
      have := h.inv.f.small
      unfold n at h2
      omega
    have hR : base + p < l.length := by omega
    have hp2 : p ≤ 1000 := by omega
    have HG := Lib.hid (show Head.right (genAt (alloc c k).1.f y) 0 = true from (Head.right_iff _ _).2 ⟨⟨by omega, by omega⟩, by omega, by omega⟩)
    have t1 : (Free.take c.f k).2.1 = y := h1
    have t2 : (Free.take c.f k).2.2 = 0 := he
    rw [e1, Int.toNat_natCast] at hlay
    have HLY := Lib.hid (hlay h.lay)
    have HIV := Lib.hid hinv
    have HGE := Lib.hid hge
    have HP := Lib.hid e1
    have HS := Lib.hid h4
    have HFI := Lib.hid hinv.f
    rw [show (alloc c k).2.1 = y from h1, he]
    clear h1 h2 h3 h5 h6 h7 h8 h9 h10 e1 e2 ew hlay hinv hge hgb hroom he h h4
    go_enter Try.func23, Try.ntmps23
    go_wp2_with fail
    refine HTK.out.mono ?_
    rintro r w2 ⟨rfl, S', hf2, g2, n2⟩
    rw [t1, t2]
    have R2 := Lib.hid (HC.out.raw.list hf2 g2 n2)
    have G2 := Lib.hid g2
    have N2 := Lib.hid n2
    clear c0 c1 c2 c3 c4 c5 c6 c7 hf2 g2 n2 t1 t2
    obtain ⟨c0, c1, c2, c3, c4, c5, c6, c7⟩ := hc_of R2.out.blk
    go_wp2_with fail
    refine (Free.gen_any fb (Free.take c.f k).1 (y : Int) _ S' R2.out.fob HFI.out).mono ?_
    rintro r w3 ⟨rfl, rfl⟩
    rw [HGE.out]
    go_wp2_with fail
    refine (write_any b fb ab ca base p c.f.s (Free.take c.f k).1 l t (y : Int) (genAt (alloc c k).1.f y) 0 true _ S' R2.out hy31 hb HP.out hp2 hR HG.out ht).mono ?_
    rintro r w4 ⟨rfl, h4, g4⟩
    go_wp2_with fail
    go_ret2
    refine ⟨rfl, ⟨_, t + 1, S', by omega, by omega, h4.cel HS.out.symm rfl HLY.out HIV.out, N2.out⟩, ?_⟩
    exact (G2.out.mono (T := foot b ab ca Sf) (fun j hj => .inl (.inr (.inr (.inr hj))))).trans (g4.mono (fun j hj => by rcases hj with rfl | rfl; exact .inl (.inr (.inl rfl)); exact .inl (.inr (.inr (.inl rfl)))))
  · have hno := alloc_no he
    have z3 : ¬ (Free.take c.f k).2.2 = 0 := he
    have t3 : ((Free.take c.f k).2.2 != 0) = true := by simpa using z3
    clear z3
    rw [hno]
    have h0 : (alloc c k).2.1 = 0 ∧ (Free.take c.f k).1 = c.f := by
      refine ⟨?_, Free.take_no he⟩
      show (Free.take c.f k).2.1 = 0
      have he2 : (Free.take c.f k).2.2 ≠ 0 := he
      unfold Free.take at he2 ⊢
      split
      · split
        · rfl
        · rename_i a z; rw [if_pos a, if_neg z] at he2; exact absurd rfl he2
      · rfl
    have HF0 := Lib.hid h0.2
    rw [h0.1]
    show Calls _ _ _ _ fun e w' => e = .returned (.tuple #[.int .i64 0, .int .i64 (Free.take c.f k).2.2]) ∧ _
    generalize hq : (Free.take c.f k).2.2 = er at *
    clear h h0 he hno hq
    go_enter Try.func23, Try.ntmps23
    go_wp2_with fail
    refine HTK.out.mono ?_
    rintro r w2 ⟨rfl, S', hf2, g2, n2⟩
    rw [HF0.out] at hf2
    have R2 := Lib.hid (HC.out.raw.list hf2 g2 n2)
    generalize (Free.take c.f k).2.1 = xx at *
    go_wp2_with fail
    go_ret2
    exact ⟨rfl, ⟨l, t, S', by omega, by omega, R2.out.cel rfl rfl HC.out.lay HC.out.inv, n2⟩, g2.mono (fun j hj => .inl (.inr (.inr (.inr hj))))⟩

theorem give_err {c : Cs} (x : Int) : (Free.give c.f x).2.2 = wrongE c x := by
  have e : Free.cellB c.f x = isCell c x := rfl
  unfold Free.give wrongE
  rw [e]
  cases isCell c x with
  | false => rfl
  | true =>
    rw [if_pos rfl, if_pos rfl]
    cases takenAt c.f x <;> rfl

theorem free_nil (x : Int) (w : World) : Calls Try.prog 24 #[.pointer none, .int .i64 x] w fun e w' => e = .returned (.tuple #[.bool false, .int .i64 1]) ∧ w = w' := by
  go_enter Try.func24, Try.ntmps24
  go_wp2_with fail
  refine (wrong_nil x _).mono ?_
  rintro r w2 ⟨rfl, rfl⟩
  go_wp2_with fail
  go_ret2
  exact ⟨rfl, rfl⟩

set_option maxHeartbeats 8000000 in
set_option maxRecDepth 100000 in
theorem free_any (b fb ab ca base : Nat) (l0 l : List Int) (c : Cs) (t x : Int) (w : World) (Sf : Nat → Prop) (h : Cel b fb ab ca base l0 c l t w Sf) (hx : -9223372036854775808 ≤ x ∧ x ≤ 9223372036854775807) (hb : base ≤ 1000000000) (ht : t ≤ 900000000000) :
    Calls Try.prog 24 #[.pointer (some ⟨b, 0, none⟩), .int .i64 x] w fun e w' => e = .returned (.tuple #[.bool (free c x).2.1, .int .i64 (free c x).2.2]) ∧
      (∃ l' t' S', t ≤ t' ∧ t' ≤ t + 6 ∧ Cel b fb ab ca base l0 (free c x).1 l' t' w' S' ∧ (∀ j, S' j → Sf j ∨ w.heap.size ≤ j)) ∧ But (foot b ab ca Sf) w w' := by
  have HC := Lib.hid h
  have hge := give_err (c := c) x
  by_cases he : wrongE c x = 0
  · have hfr : (free c x).2.2 = 0 := by unfold free; rw [hge, if_pos he]
    obtain ⟨y, rfl, h2, h3, h4, h5, h6, h7, h8, h9⟩ := free_ok h.inv hfr
    have hinv := free_inv h.inv (y : Int)
    obtain ⟨p, q, e1, e2, q1, q4, ew⟩ := h.inv.place h2
    have hlay := fun {l : List Int} (z : Lay base l0 c l) => free_lay (m := q + 1) h.inv z hfr (by rw [e2]; omega)
    rw [e1, Int.toNat_natCast] at hlay
    have hw640 := (Conf.words_bd c.f.s).2
    have hroom := h.lay.room
    have hgi := (inv_give h.inv.f h.inv.rel (y : Int)).1
    have hgb := hgi.gen_bd (x := y) (by rw [h7]; exact h2)
    have hgg : Free.gen (Free.give c.f (y : Int)).1 (y : Int) = genAt (Free.give c.f (y : Int)).1 y := gen_cell (by rw [h7]; exact h2)
    have hR : base + p + q + 1 ≤ l.length := by omega
    have hp2 : p ≤ 1000 := by omega
    have HG := Lib.hid (show Head.right (genAt (Free.give c.f (y : Int)).1 y) 0 = true from (Head.right_iff _ _).2 ⟨⟨by omega, by omega⟩, by omega, by omega⟩)
    have HLY := Lib.hid (hlay h.lay)
    have HIV := Lib.hid hinv
    have HGG := Lib.hid hgg
    have HP := Lib.hid e1
    have HQ := Lib.hid e2
    have HFI := Lib.hid hgi
    have HWE := Lib.hid he
    have HSS := Lib.hid (show c.f.s = (free c (y : Int)).1.f.s by rw [h3]; exact h8.symm)
    have HFF := Lib.hid (show (Free.give c.f (y : Int)).1 = (free c (y : Int)).1.f by rw [h3]; rfl)
    have HF1 := Lib.hid (show (free c (y : Int)).2.1 = (Free.give c.f (y : Int)).2.1 by rw [h3])
    have HF2 := Lib.hid hfr
    clear h3 h4 h5 h6 h7 h8 h9 e1 e2 ew hlay hinv hgg hgb hroom he hge hfr hgi h
    go_enter Try.func24, Try.ntmps24
    go_wp2_with fail
    refine (wrong_any b fb ab ca base l0 l c t (y : Int) _ Sf HC.out hx).mono ?_
    rintro r w1 ⟨rfl, g1⟩
    rw [HWE.out]
    have C1 := Lib.hid (HC.out.keep g1)
    have G1 := Lib.hid g1
    obtain ⟨c0, c1, c2, c3, c4, c5, c6, c7⟩ := hc_of C1.out.blk
    clear g1
    go_wp2_with fail
    refine (Free.give_any fb c.f (y : Int) _ Sf C1.out.fob C1.out.inv.f hx).mono ?_
    rintro r w2 ⟨rfl, S', hf2, g2, n2⟩
    have R2 := Lib.hid (C1.out.raw.list hf2 g2 n2)
    have G2 := Lib.hid g2
    have N2 := Lib.hid n2
    clear c0 c1 c2 c3 c4 c5 c6 c7 hf2 g2 n2
    go_wp2_with fail
    refine (wipe_any b fb ab ca base p q c.f.s (Free.give c.f (y : Int)).1 l t (y : Int) _ _ S' R2.out hx hb HP.out hp2 HQ.out q4 hR HFI.out HGG.out HG.out ht).mono ?_
    rintro r w4 ⟨rfl, h4, g4⟩
    go_wp2_with fail
    go_ret2
    refine ⟨by rw [HF1.out, HF2.out]; rfl, ⟨_, t + ((q : Int) + 2), S', by omega, by omega, h4.cel HSS.out HFF.out HLY.out HIV.out, fun j hj => by
      rcases N2.out j hj with z | z
      · exact .inl z
      · exact .inr (Nat.le_trans G1.out.size z)⟩, ?_⟩
    exact ((G1.out.mono (T := foot b ab ca Sf) (fun j hj => hj.elim)).trans (G2.out.mono (T := foot b ab ca Sf) (fun j hj => .inl (.inr (.inr (.inr hj)))))).trans (g4.mono (fun j hj => by rcases hj with rfl | rfl; exact .inl (.inr (.inl rfl)); exact .inl (.inr (.inr (.inl rfl)))))
  · have t3 : (wrongE c x != 0) = true := by simpa using he
    have hfr : free c x = (c, false, wrongE c x) := by unfold free; rw [hge, if_neg he]
    rw [hfr]
    obtain ⟨er, her⟩ : ∃ er, wrongE c x = er := ⟨_, rfl⟩
    rw [her] at t3 ⊢
    have HER := Lib.hid her
    clear he hge hfr h her
    go_enter Try.func24, Try.ntmps24
    go_wp2_with fail
    refine (wrong_any b fb ab ca base l0 l c t x _ Sf HC.out hx).mono ?_
    rintro r w1 ⟨rfl, g1⟩
    rw [HER.out]
    go_wp2_with fail
    go_ret2
    exact ⟨rfl, ⟨l, t, Sf, by omega, by omega, HC.out.keep g1, fun j hj => .inl hj⟩, g1.mono (fun j hj => hj.elim)⟩

end Cells
end Go.Proofs.Ytngbhhcicakolaa
