/- The law AnswerTells of layer 20, walked: it answers true. -/
import Derived.Test.YtmpnlpheeoadkaaDoorAnswerParse
import Derived.Test.YtmpnlpheeoadkaaDoorAnswerRefParse
import Derived.Test.YtmpnlpheeoadkaaDoorReads
import Derived.Deep.RegionHeld3
set_option linter.unusedVariables false
set_option linter.unusedSimpArgs false
namespace Go.Proofs.YtmpnlpheeoadkaaDoor
open Go.RowKit Go.ChangeShapes Go.WideShapes Go.Deep

namespace Answer

theorem parse_is {s : ByteArray} {e k n q : Int} (w : World) (hs : s.size ≤ 100) (he : Errs w) (ht : Tens w) (h : Tells s.data.toList e k n q) :
    Calls Tryd.prog 8 #[.string s] w fun r w' => r = .returned (.tuple #[.agg #[.int .i64 e, .int .i64 k, .int .u64 n], .int .i64 q]) ∧ But (fun _ => False) w w' := by
  refine (parse_any s w hs he ht).mono ?_
  rintro r w' ⟨⟨e', k', n', q', rfl, h'⟩, g⟩
  obtain ⟨rfl, rfl, rfl, rfl⟩ := h.unique h'
  exact ⟨rfl, g⟩
theorem rparse_is {s : ByteArray} {e k n q : Int} (w : World) (hs : s.size ≤ 100) (h : Tells s.data.toList e k n q) :
    Calls Tryd.prog 9 #[.string s] w fun r w' => r = .returned (.tuple #[.agg #[.int .i64 e, .int .i64 k, .int .u64 n], .int .i64 q]) ∧ But (fun _ => False) w w' := by
  refine (rparse_any s w hs).mono ?_
  rintro r w' ⟨⟨e', k', n', q', rfl, h'⟩, g⟩
  obtain ⟨rfl, rfl, rfl, rfl⟩ := h.unique h'
  exact ⟨rfl, g⟩
/-- There is an answer to every text. -/
theorem tells_ex (s : List UInt8) : ∃ e k n q, Tells s e k n q := by
  by_cases h : ∃ e k n : Int, 0 ≤ n ∧ n ≤ 18446744073709551615 ∧ right e k n = true ∧ textL e k n = s
  · obtain ⟨e, k, n, a, b, c, d⟩ := h
    exact ⟨e, k, n, 0, .inl ⟨rfl, c, d, a, b⟩⟩
  · exact ⟨0, 0, 0, 2, .inr ⟨rfl, rfl, rfl, rfl, fun e k n a b c d => h ⟨e, k, n, a, b, c, d⟩⟩⟩
theorem tells_bd {s : List UInt8} {e k n q : Int} (h : Tells s e k n q) : 0 ≤ n ∧ n ≤ 18446744073709551615 := by
  rcases h with ⟨-, -, -, a, b⟩ | ⟨-, -, -, rfl, -⟩
  · exact ⟨a, b⟩
  · exact ⟨by decide, by decide⟩
theorem text_is {e k n : Int} {tx : ByteArray} (w : World) (hn : 0 ≤ n ∧ n ≤ 18446744073709551615) (ht : Tens w) (h : (⟨(textL e k n).toArray⟩ : ByteArray) = tx) :
    Calls Tryd.prog 12 #[.agg #[.int .i64 e, .int .i64 k, .int .u64 n]] w fun r w' => r = .returned (.string tx) ∧ But (fun _ => False) w w' := by
  rw [← h]; exact text_any e k n w hn ht
theorem rtext_is {e k n : Int} {tx : ByteArray} (w : World) (hn : 0 ≤ n ∧ n ≤ 18446744073709551615) (h : (⟨(textL e k n).toArray⟩ : ByteArray) = tx) :
    Calls Tryd.prog 13 #[.agg #[.int .i64 e, .int .i64 k, .int .u64 n]] w fun r w' => r = .returned (.string tx) ∧ But (fun _ => False) w w' := by
  rw [← h]; exact ref_text e k n w hn
theorem right_is {e k n : Int} {r : Bool} (w : World) (hn : 0 ≤ n ∧ n ≤ 18446744073709551615) (h : right e k n = r) :
    Calls Tryd.prog 10 #[.agg #[.int .i64 e, .int .i64 k, .int .u64 n]] w fun x w' => x = .returned (.bool r) ∧ But (fun _ => False) w w' := by
  rw [← h]; exact right_any e k n w hn
theorem rright_is {e k n : Int} {r : Bool} (w : World) (hn : 0 ≤ n ∧ n ≤ 18446744073709551615) (h : right e k n = r) :
    Calls Tryd.prog 11 #[.agg #[.int .i64 e, .int .i64 k, .int .u64 n]] w fun x w' => x = .returned (.bool r) ∧ But (fun _ => False) w w' := by
  rw [← h]; exact ref_right e k n w hn

theorem t_stale : Tells [33, 115, 116, 97, 108, 101] 5 0 0 0 := .inl ⟨rfl, by decide, by decide, by decide, by decide⟩
theorem t_ff : Tells [35, 48, 48, 48, 48, 48, 48, 48, 48, 48, 48, 48, 48, 48, 48, 102, 102] 0 2 255 0 := .inl ⟨rfl, by decide, by rw [text_ptr]; decide +kernel, by decide, by decide⟩
theorem dec42 : Lib.decDigits 42 = [52, 50] := by rw [Word.dec_big (by decide), Word.dec_small (by decide)]; decide
theorem t_42 : Tells [52, 50] 0 1 42 0 := .inl ⟨rfl, by decide, by rw [text_data]; unfold Word.numL; exact dec42, by decide, by decide⟩
theorem t_nil : Tells [110, 105, 108] 0 0 0 0 := .inl ⟨rfl, by decide, text_nil, by decide, by decide⟩
theorem t_042 : Tells [48, 52, 50] 0 0 0 2 := by
  refine Tells.none (.inr (.inr (.inl ?_))) (fun e _ _ q => by injection q with a; exact absurd a (by decide)) (fun l q => by injection q with a; exact absurd a (by decide)) (by decide)
  rw [show (foldN [48, 52, 50]).toNat = 42 by decide, dec42]
  decide

set_option maxHeartbeats 8000000 in
set_option maxRecDepth 100000 in
theorem alive_any (w : World) (he : Errs w) (ht : Tens w) :
    Calls Tryd.prog 7 #[] w fun e w' => e = .returned (.bool true) ∧ But (fun _ => False) w w' := by
  have T := Lib.hid ht
  have E := Lib.hid he
  have eq1 := eqA
  clear ht he
  go_enter Tryd.func7, Tryd.ntmps7
  go_wp2_with fail
  refine (parse_is _ (by decide) E.out T.out t_stale).mono ?_
  rintro e w1 ⟨rfl, g1⟩
  have G1 := Lib.hid g1
  clear g1
  go_wp2_with fail
  refine (parse_is _ (by decide) (E.out.keep (G1.out.alloc _)) (T.out.keep (G1.out.alloc _)) t_ff).mono ?_
  rintro e w2 ⟨rfl, g2⟩
  have B1 := (Blk.new w1 #[.int .i64 5, .int .i64 0, .int .u64 0] 26).but g2 (fun q => q)
  have G2 := Lib.hid ((G1.out.alloc _).trans g2)
  obtain ⟨b1, hb⟩ : ∃ b, b = w1.heap.size := ⟨_, rfl⟩
  rw [← hb] at B1 ⊢
  clear hb g2 G1
  go_wp2_with fail
  refine (parse_is _ (by decide) (E.out.keep (G2.out.alloc _)) (T.out.keep (G2.out.alloc _)) t_42).mono ?_
  rintro e w3 ⟨rfl, g3⟩
  have B1 := (B1.alloc _).but g3 (fun q => q)
  have B2 := (Blk.new w2 #[.int .i64 0, .int .i64 2, .int .u64 255] 26).but g3 (fun q => q)
  have G3 := Lib.hid ((G2.out.alloc _).trans g3)
  obtain ⟨b2, hb⟩ : ∃ b, b = w2.heap.size := ⟨_, rfl⟩
  rw [← hb] at B2 ⊢
  clear hb g3 G2
  go_wp2_with fail
  refine (parse_is _ (by decide) (E.out.keep (G3.out.alloc _)) (T.out.keep (G3.out.alloc _)) t_nil).mono ?_
  rintro e w4 ⟨rfl, g4⟩
  have B1 := (B1.alloc _).but g4 (fun q => q)
  have B2 := (B2.alloc _).but g4 (fun q => q)
  have B3 := (Blk.new w3 #[.int .i64 0, .int .i64 1, .int .u64 42] 26).but g4 (fun q => q)
  have G4 := Lib.hid ((G3.out.alloc _).trans g4)
  obtain ⟨b3, hb⟩ : ∃ b, b = w3.heap.size := ⟨_, rfl⟩
  rw [← hb] at B3 ⊢
  clear hb g4 G3
  go_wp2_with fail
  refine (parse_is _ (by decide) (E.out.keep (G4.out.alloc _)) (T.out.keep (G4.out.alloc _)) t_042).mono ?_
  rintro e w5 ⟨rfl, g5⟩
  have B1 := (B1.alloc _).but g5 (fun q => q)
  have B2 := (B2.alloc _).but g5 (fun q => q)
  have B3 := (B3.alloc _).but g5 (fun q => q)
  have B4 := (Blk.new w4 #[.int .i64 0, .int .i64 0, .int .u64 0] 26).but g5 (fun q => q)
  have G5 := Lib.hid ((G4.out.alloc _).trans g5)
  obtain ⟨b4, hb⟩ : ∃ b, b = w4.heap.size := ⟨_, rfl⟩
  rw [← hb] at B4 ⊢
  clear hb g5 G4
  have l1 := B1.lt
  have l2 := B2.lt
  have l3 := B3.lt
  have l4 := B4.lt
  have c10 := B1.cell 0
  have c11 := B1.cell 1
  have c12 := B1.cell 2
  have c20 := B2.cell 0
  have c21 := B2.cell 1
  have c22 := B2.cell 2
  have c30 := B3.cell 0
  have c31 := B3.cell 1
  have c32 := B3.cell 2
  have c40 := B4.cell 0
  have c41 := B4.cell 1
  have c42 := B4.cell 2
  have d1 : (⟨(textL 0 2 255).toArray⟩ : ByteArray) = ⟨#[35, 48, 48, 48, 48, 48, 48, 48, 48, 48, 48, 48, 48, 48, 48, 102, 102]⟩ := by rw [text_ptr]; decide +kernel
  have d2 : (⟨(textL 0 0 1).toArray⟩ : ByteArray) = ⟨#[]⟩ := by decide
  go_wp2_with fail
  refine (text_is _ (by decide) (T.out.keep (G5.out.alloc _)) d1).mono ?_
  rintro e w6 ⟨rfl, g6⟩
  have B1' := (B1.alloc (.cells #[.int .i64 0, .int .i64 0, .int .u64 0] 26)).but g6 (fun q => q)
  have G6 := Lib.hid ((G5.out.alloc _).trans g6)
  clear g6
  go_wp2_with fail
  refine (text_is _ (by decide) (T.out.keep G6.out) d2).mono ?_
  rintro e w7 ⟨rfl, g7⟩
  have B1'' := B1'.but g7 (fun q => q)
  have e10 := B1''.cell 0
  have e11 := B1''.cell 1
  have e12 := B1''.cell 2
  have G7 := Lib.hid (G6.out.trans g7)
  clear g7
  go_wp2_with fail
  refine (right_is _ (by decide) (show right 5 0 0 = true by decide)).mono ?_
  rintro e w8 ⟨rfl, g8⟩
  go_wp2_with fail
  go_ret
  exact ⟨rfl, G7.out.trans g8⟩

/-- An answer that came in. -/
theorem open_answer {cs : Array Value} (h : All2 [.i .i64, .i .i64, .i .u64] cs.toList) : ∃ e k n : Int, cs = #[.int .i64 e, .int .i64 k, .int .u64 n] ∧ 0 ≤ n ∧ n ≤ 18446744073709551615 := by
  obtain ⟨v0, r0, e0, ⟨e, rfl, -⟩, h1⟩ := all2_cons h
  obtain ⟨v1, r1, e1, ⟨k, rfl, -⟩, h2⟩ := all2_cons h1
  obtain ⟨v2, r2, e2, ⟨n, rfl, hn⟩, h3⟩ := all2_cons h2
  have := all2_nil h3
  subst this; subst e2; subst e1
  exact ⟨e, k, n, Array.ext' e0, (bounds_u64 hn).1, (bounds_u64 hn).2⟩
theorem errs_of {w : World} (h1 : ∃ (tp : TypeId) (p : Value), w.var? Tryd.prog "strconv.ErrSyntax" = some #[.iface tp p]) (h2 : ∃ (tp : TypeId) (p : Value), w.var? Tryd.prog "strconv.ErrRange" = some #[.iface tp p]) : Errs w := by
  obtain ⟨t1, p1, h1⟩ := h1
  obtain ⟨t2, p2, h2⟩ := h2
  exact ⟨⟨_, World.var?_cell (g := 2) (by kernel_rfl) h1 0, .inr ⟨t1, p1, rfl⟩⟩, _, World.var?_cell (g := 3) (by kernel_rfl) h2 0, .inr ⟨t2, p2, rfl⟩⟩

set_option maxHeartbeats 8000000 in
set_option maxRecDepth 100000 in
theorem tells_any (w : World) (ht : Lib.TabIs Tryd.prog w "internal/strconv.uint64pow10" .u64 Lib.pow10Tab) (hy : ∃ (tp : TypeId) (p : Value), w.var? Tryd.prog "strconv.ErrSyntax" = some #[.iface tp p]) (hg : ∃ (tp : TypeId) (p : Value), w.var? Tryd.prog "strconv.ErrRange" = some #[.iface tp p])
    (cs : Array Value) (wc : All2 [.i .i64, .i .i64, .i .u64] cs.toList) (s : ByteArray) (ws : s.size ≤ 140737488351232) :
    Calls Tryd.prog 3 #[.agg cs, .string s] w fun e w' => e = .returned (.bool true) ∧ But (fun _ => False) w w' := by
  obtain ⟨e, k, n, rfl, hn⟩ := open_answer wc
  have T := Lib.hid (show Tens w from ht)
  have E := Lib.hid (errs_of hy hg)
  have HN := Lib.hid hn
  clear ht hy hg wc hn
  by_cases hbig : 100 < s.size
  · go_enter Tryd.func3, Tryd.ntmps3
    go_wp2_with fail
    refine (alive_any _ (E.out.keep ((But.refl _ w).alloc _)) (T.out.keep ((But.refl _ w).alloc _))).mono ?_
    rintro r w1 ⟨rfl, g1⟩
    go_wp2_with fail
    go_ret
    exact ⟨rfl, ((But.refl _ w).alloc _).trans g1⟩
  have hs : s.size ≤ 100 := by omega
  clear hbig ws
  obtain ⟨e2, k2, n2, q2, h2⟩ := tells_ex s.data.toList
  have HT2 := Lib.hid h2
  clear h2
  obtain ⟨tx, htx⟩ : ∃ tx : ByteArray, (⟨(textL e k n).toArray⟩ : ByteArray) = tx := ⟨_, rfl⟩
  obtain ⟨rr, hrr⟩ : ∃ r, right e k n = r := ⟨_, rfl⟩
  have HTX := Lib.hid htx
  have HRR := Lib.hid hrr
  clear htx hrr
  have G0 := (But.refl (fun _ => False) w).alloc (.cells #[.int .i64 e, .int .i64 k, .int .u64 n] 26)
  have B0 := Blk.new w #[.int .i64 e, .int .i64 k, .int .u64 n] 26
  go_enter Tryd.func3, Tryd.ntmps3
  go_wp2_with fail
  refine (parse_is _ hs (E.out.keep G0) (T.out.keep G0) HT2.out).mono ?_
  rintro r w2 ⟨rfl, g2⟩
  have B2 := B0.but g2 (fun q => q)
  have G2 := Lib.hid (G0.trans g2)
  obtain ⟨b, hb⟩ : ∃ b, b = w.heap.size := ⟨_, rfl⟩
  rw [← hb] at B2 ⊢
  clear hb B0 G0 g2
  go_wp2_with fail
  refine (rparse_is _ hs HT2.out).mono ?_
  rintro r w3 ⟨rfl, g3⟩
  have B3 := (B2.alloc _).but g3 (fun q => q)
  have X3 := (Blk.new w2 #[.int .i64 e2, .int .i64 k2, .int .u64 n2] 26).but g3 (fun q => q)
  have G3 := Lib.hid ((G2.out.alloc _).trans g3)
  obtain ⟨c, hc⟩ : ∃ c, c = w2.heap.size := ⟨_, rfl⟩
  rw [← hc] at X3 ⊢
  clear hc g3 G2 B2
  go_wp2_with fail
  have B4 := B3.alloc (.cells #[.int .i64 e2, .int .i64 k2, .int .u64 n2] 26)
  have X4 := X3.alloc (.cells #[.int .i64 e2, .int .i64 k2, .int .u64 n2] 26)
  have Y4 := Blk.new w3 #[.int .i64 e2, .int .i64 k2, .int .u64 n2] 26
  have G4 := Lib.hid (G3.out.alloc (.cells #[.int .i64 e2, .int .i64 k2, .int .u64 n2] 26))
  obtain ⟨d, hd⟩ : ∃ d, d = w3.heap.size := ⟨_, rfl⟩
  obtain ⟨u, hu⟩ : ∃ u, u = w3.alloc (.cells #[.int .i64 e2, .int .i64 k2, .int .u64 n2] 26) := ⟨_, rfl⟩
  rw [← hd] at Y4 ⊢
  rw [← hu] at B4 X4 Y4 G4 ⊢
  clear hd hu G3 B3 X3
  have HP := Lib.hid (show ∀ w', But (fun _ => False) u w' → (w'.cell? ⟨b, 0, none⟩ = some (.int .i64 e) ∧ w'.cell? ⟨b, 1, none⟩ = some (.int .i64 k) ∧ w'.cell? ⟨b, 2, none⟩ = some (.int .u64 n)) ∧ (w'.cell? ⟨c, 0, none⟩ = some (.int .i64 e2) ∧ w'.cell? ⟨c, 1, none⟩ = some (.int .i64 k2) ∧ w'.cell? ⟨c, 2, none⟩ = some (.int .u64 n2)) ∧ (w'.cell? ⟨d, 0, none⟩ = some (.int .i64 e2) ∧ w'.cell? ⟨d, 1, none⟩ = some (.int .i64 k2) ∧ w'.cell? ⟨d, 2, none⟩ = some (.int .u64 n2))
    from fun w' g => ⟨⟨(B4.but g (fun q => q)).cell 0, (B4.but g (fun q => q)).cell 1, (B4.but g (fun q => q)).cell 2⟩, ⟨(X4.but g (fun q => q)).cell 0, (X4.but g (fun q => q)).cell 1, (X4.but g (fun q => q)).cell 2⟩, ⟨(Y4.but g (fun q => q)).cell 0, (Y4.but g (fun q => q)).cell 1, (Y4.but g (fun q => q)).cell 2⟩⟩)
  have TT := Lib.hid (show ∀ w', But (fun _ => False) u w' → Tens w' ∧ Errs w' from fun w' g => ⟨T.out.keep (G4.out.trans g), E.out.keep (G4.out.trans g)⟩)
  clear B4 X4 Y4
  have eq1 : ∀ w, (Op.equalIn 10000 26 (.agg #[.int .i64 e2, .int .i64 k2, .int .u64 n2]) (.agg #[.int .i64 e2, .int .i64 k2, .int .u64 n2])).run Tryd.prog w = .ok true w := fun w => by rw [eqA, decide_eq_true ⟨rfl, rfl, rfl⟩]
  go_region_held3 (fun w' => But (fun _ => False) u w' ∧ (w'.cell? ⟨b, 0, none⟩ = some (.int .i64 e) ∧ w'.cell? ⟨b, 1, none⟩ = some (.int .i64 k) ∧ w'.cell? ⟨b, 2, none⟩ = some (.int .u64 n)) ∧ (w'.cell? ⟨c, 0, none⟩ = some (.int .i64 e2) ∧ w'.cell? ⟨c, 1, none⟩ = some (.int .i64 k2) ∧ w'.cell? ⟨c, 2, none⟩ = some (.int .u64 n2)) ∧ (w'.cell? ⟨d, 0, none⟩ = some (.int .i64 e2) ∧ w'.cell? ⟨d, 1, none⟩ = some (.int .i64 k2) ∧ w'.cell? ⟨d, 2, none⟩ = some (.int .u64 n2)))
    (first | assumption | (refine keepN HP.out ?_; first | exact (But.refl _ _).drew | exact (And.left ‹But (fun _ => False) u _ ∧ _›).drew | exact keep_step ‹But (fun _ => False) u _ ∧ _› (by assumption)))
    (first | (go_at_call 7; refine (alive_any _ (TT.out _ (And.left ‹But (fun _ => False) u _ ∧ _›)).2 (TT.out _ (And.left ‹But (fun _ => False) u _ ∧ _›)).1).mono ?_; rintro r w9 ⟨rfl, g9⟩) | (go_at_call 10; refine (right_is _ HN.out HRR.out).mono ?_; rintro r w9 ⟨rfl, g9⟩) | (go_at_call 11; refine (rright_is _ HN.out HRR.out).mono ?_; rintro r w9 ⟨rfl, g9⟩) | (go_at_call 12; refine (text_is _ HN.out (TT.out _ (And.left ‹But (fun _ => False) u _ ∧ _›)).1 HTX.out).mono ?_; rintro r w9 ⟨rfl, g9⟩) | (go_at_call 13; refine (rtext_is _ HN.out HTX.out).mono ?_; rintro r w9 ⟨rfl, g9⟩))
  go_wp2_with fail
  go_ret
  exact ⟨rfl, G4.out.trans (And.left ‹But (fun _ => False) u _ ∧ _›)⟩

end Answer
end Go.Proofs.YtmpnlpheeoadkaaDoor
