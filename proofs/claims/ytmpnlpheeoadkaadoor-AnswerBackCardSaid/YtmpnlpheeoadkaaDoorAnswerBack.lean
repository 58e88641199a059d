/- The law AnswerBack of layer 20, walked: it answers true. -/
import Derived.Test.YtmpnlpheeoadkaaDoorAnswerLaws
set_option linter.unusedVariables false
set_option linter.unusedSimpArgs false
namespace Go.Proofs.YtmpnlpheeoadkaaDoor
open Go.RowKit Go.ChangeShapes Go.WideShapes Go.Deep

namespace Answer

theorem textL_ne {e k n : Int} (h : right e k n = true) : textL e k n ≠ [] := by
  rcases right_cases h with ⟨rfl, rfl, rfl⟩ | ⟨rfl, rfl⟩ | ⟨rfl, rfl⟩ | ⟨a1, a2, rfl, rfl⟩
  · rw [text_nil]; simp
  · obtain ⟨c, l, en, -, -⟩ := num_first n
    rw [text_data, en]; simp
  · rw [text_ptr]; simp
  · rw [text_err ⟨a1, a2⟩]; simp
theorem errL_short {e : Int} : (errL e).length ≤ 7 := by
  unfold errL
  repeat' split
  all_goals simp
theorem textL_short {e k n : Int} (hn : 0 ≤ n ∧ n ≤ 18446744073709551615) : (textL e k n).length ≤ 20 := by
  cases h : right e k n with
  | false => rw [textL_no h]; simp
  | true =>
    rcases right_cases h with ⟨rfl, rfl, rfl⟩ | ⟨rfl, rfl⟩ | ⟨rfl, rfl⟩ | ⟨a1, a2, rfl, rfl⟩
    · rw [text_nil]; simp
    · rw [text_data]
      exact Word.digits_len (by omega)
    · rw [text_ptr]
      have := text_size n
      show ((Handle.text n).data.toList.length + 1) ≤ 20
      rw [Array.length_toList]
      have h2 : (Handle.text n).data.size = 16 := this
      omega
    · rw [text_err ⟨a1, a2⟩]
      have := errL_short (e := e)
      simp only [List.length_cons]
      omega

set_option maxHeartbeats 8000000 in
set_option maxRecDepth 100000 in
theorem back_any (w : World) (ht : Lib.TabIs Tryd.prog w "internal/strconv.uint64pow10" .u64 Lib.pow10Tab) (hy : ∃ (tp : TypeId) (p : Value), w.var? Tryd.prog "strconv.ErrSyntax" = some #[.iface tp p]) (hg : ∃ (tp : TypeId) (p : Value), w.var? Tryd.prog "strconv.ErrRange" = some #[.iface tp p])
    (cs : Array Value) (wc : All2 [.i .i64, .i .i64, .i .u64] cs.toList) (s : ByteArray) (ws : s.size ≤ 140737488351232) :
    Calls Tryd.prog 4 #[.agg cs, .string s] w fun e w' => e = .returned (.bool true) ∧ But (fun _ => False) w w' := by
  obtain ⟨e, k, n, rfl, hn⟩ := open_answer wc
  have T := Lib.hid (show Tens w from ht)
  have E := Lib.hid (errs_of hy hg)
  have HN := Lib.hid hn
  clear ht hy hg wc
  by_cases hbig : 100 < s.size
  · go_enter Tryd.func4, Tryd.ntmps4
    go_wp2_with fail
    refine (alive_any _ (E.out.keep ((But.refl _ w).alloc _)) (T.out.keep ((But.refl _ w).alloc _))).mono ?_
    rintro r w1 ⟨rfl, g1⟩
    go_wp2_with fail
    go_ret
    exact ⟨rfl, ((But.refl _ w).alloc _).trans g1⟩
  have hs : s.size ≤ 100 := by omega
  clear hbig ws
  -- the text of the answer that came in, and what it is parsed as
  obtain ⟨tx, htx⟩ : ∃ tx : ByteArray, (⟨(textL e k n).toArray⟩ : ByteArray) = tx := ⟨_, rfl⟩
  have htl : tx.data.toList = textL e k n := by rw [← htx]
  have htz : tx.size ≤ 100 := by
    have := textL_short (e := e) (k := k) hn
    show tx.data.size ≤ 100
    rw [← Array.length_toList, htl]
    omega
  clear hn
  have HTX := Lib.hid htx
  have HTL := Lib.hid htl
  obtain ⟨e3, k3, n3, q3, h3⟩ := tells_ex s.data.toList
  have HT3 := Lib.hid h3
  clear h3 htx
  have G0 := (But.refl (fun _ => False) w).alloc (.cells #[.int .i64 e, .int .i64 k, .int .u64 n] 26)
  have B0 := Blk.new w #[.int .i64 e, .int .i64 k, .int .u64 n] 26
  cases hrr : right e k n with
  | true =>
    have HRR := Lib.hid hrr
    have hne : tx.toList.isEmpty = false := by rw [Lib.toList_data, htl]; cases hl : textL e k n with
      | nil => exact absurd hl (textL_ne hrr)
      | cons x l => rfl
    have HT2 := Lib.hid (show Tells tx.data.toList e k n 0 from .inl ⟨rfl, hrr, htl.symm, HN.out.1, HN.out.2⟩)
    have eq1 : ∀ w, (Op.equalIn 10000 26 (.agg #[.int .i64 e, .int .i64 k, .int .u64 n]) (.agg #[.int .i64 e, .int .i64 k, .int .u64 n])).run Tryd.prog w = .ok true w := fun w => by rw [eqA, decide_eq_true ⟨rfl, rfl, rfl⟩]
    clear hrr htl
    go_enter Tryd.func4, Tryd.ntmps4
    go_wp2_with fail
    refine (text_is _ HN.out (T.out.keep G0) HTX.out).mono ?_
    rintro r w1 ⟨rfl, g1⟩
    have B1 := B0.but g1 (fun q => q)
    have G1 := Lib.hid (G0.trans g1)
    obtain ⟨b, hb⟩ : ∃ b, b = w.heap.size := ⟨_, rfl⟩
    rw [← hb] at B1 ⊢
    clear hb B0 G0 g1
    go_wp2_with fail
    refine (parse_is _ htz (E.out.keep G1.out) (T.out.keep G1.out) HT2.out).mono ?_
    rintro r w2 ⟨rfl, g2⟩
    have B2 := B1.but g2 (fun q => q)
    have G2 := Lib.hid (G1.out.trans g2)
    clear g2 G1 B1
    have B3 := B2.alloc (.cells #[.int .i64 e, .int .i64 k, .int .u64 n] 26)
    have X3 := Blk.new w2 #[.int .i64 e, .int .i64 k, .int .u64 n] 26
    have G3 := Lib.hid (G2.out.alloc (.cells #[.int .i64 e, .int .i64 k, .int .u64 n] 26))
    obtain ⟨d, hd⟩ : ∃ d, d = w2.heap.size := ⟨_, rfl⟩
    have HD := Lib.hid hd
    rw [← hd] at X3
    have hbd : b < w2.heap.size := B2.lt
    have b0 := B2.cell 0
    have b1 := B2.cell 1
    have b2 := B2.cell 2
    clear hd
    go_wp2_with fail
    refine (right_is _ HN.out HRR.out).mono ?_
    rintro r w4 ⟨rfl, g4⟩
    rw [← HD.out]
    have B4 := B3.but g4 (fun q => q)
    have X4 := X3.but g4 (fun q => q)
    have G4 := Lib.hid (G3.out.trans g4)
    clear g4 G3 B3 X3 HD hbd b0 b1 b2 B2 G2
    have b0 := B4.cell 0
    have b1 := B4.cell 1
    have b2 := B4.cell 2
    have d0 := X4.cell 0
    have d1 := X4.cell 1
    have d2 := X4.cell 2
    go_wp2_with fail
    refine (parse_is _ hs (E.out.keep G4.out) (T.out.keep G4.out) HT3.out).mono ?_
    rintro r w5 ⟨rfl, g5⟩
    have G5 := Lib.hid (G4.out.trans g5)
    clear g5 G4
    have Y5 := Blk.new w5 #[.int .i64 e3, .int .i64 k3, .int .u64 n3] 26
    have G6 := Lib.hid (G5.out.alloc (.cells #[.int .i64 e3, .int .i64 k3, .int .u64 n3] 26))
    obtain ⟨c, hc⟩ : ∃ c, c = w5.heap.size := ⟨_, rfl⟩
    obtain ⟨u, hu⟩ : ∃ u, u = w5.alloc (.cells #[.int .i64 e3, .int .i64 k3, .int .u64 n3] 26) := ⟨_, rfl⟩
    rw [← hc] at Y5
    rw [← hu] at Y5 G6
    have HU := Lib.hid hu
    have HCC := Lib.hid hc
    clear hu hc
    go_wp2_with fail
    rw [← HU.out, ← HCC.out]
    clear HU HCC G5
    refine (alive_any _ (E.out.keep G6.out) (T.out.keep G6.out)).mono ?_
    rintro r w7 ⟨rfl, g7⟩
    have Y7 := Y5.but g7 (fun q => q)
    have G7 := Lib.hid (G6.out.trans g7)
    clear g7 G6 Y5
    have c0 := Y7.cell 0
    have c1 := Y7.cell 1
    have c2 := Y7.cell 2
    by_cases hq3 : q3 = 0
    · have t3 : (q3 != 0) = false := by simp [hq3]
      have hR3 : right e3 k3 n3 = true ∧ textL e3 k3 n3 = s.data.toList := by
        rcases HT3.out with ⟨-, a, b, -, -⟩ | ⟨a, -⟩
        · exact ⟨a, b⟩
        · omega
      have HR3 := Lib.hid hR3
      obtain ⟨ty, hty⟩ : ∃ ty : ByteArray, (⟨(textL e3 k3 n3).toArray⟩ : ByteArray) = ty := ⟨_, rfl⟩
      have t4 : (ty.toList == s.toList) = true := by rw [Lib.toList_data, ← hty, Lib.toList_data, hR3.2]; simp
      have HTY := Lib.hid hty
      have hn3 := tells_bd HT3.out
      clear hq3 hR3 hty
      go_wp2_with fail
      refine (text_is _ hn3 (T.out.keep G7.out) HTY.out).mono ?_
      rintro r w8 ⟨rfl, g8⟩
      have Y8 := Y7.but g8 (fun q => q)
      have G8 := Lib.hid (G7.out.trans g8)
      clear g8 G7 c0 c1 c2
      have c0 := Y8.cell 0
      have c1 := Y8.cell 1
      have c2 := Y8.cell 2
      go_wp2_with fail
      refine (right_is _ hn3 HR3.out.1).mono ?_
      rintro r w9 ⟨rfl, g9⟩
      go_wp2_with fail
      go_ret
      exact ⟨rfl, G8.out.trans g9⟩
    · have t3 : (q3 != 0) = true := by simp [hq3]
      clear hq3
      go_wp2_with fail
      go_ret
      exact ⟨rfl, G7.out⟩
  | false =>
    have HRR := Lib.hid hrr
    have hne : tx.toList.isEmpty = true := by rw [Lib.toList_data, htl, textL_no hrr]; rfl
    obtain ⟨e2, k2, n2, q2, h2⟩ := tells_ex tx.data.toList
    have HT2 := Lib.hid h2
    clear hrr htl h2
    go_enter Tryd.func4, Tryd.ntmps4
    go_wp2_with fail
    refine (text_is _ HN.out (T.out.keep G0) HTX.out).mono ?_
    rintro r w1 ⟨rfl, g1⟩
    have B1 := B0.but g1 (fun q => q)
    have G1 := Lib.hid (G0.trans g1)
    obtain ⟨b, hb⟩ : ∃ b, b = w.heap.size := ⟨_, rfl⟩
    rw [← hb] at B1 ⊢
    clear hb B0 G0 g1
    go_wp2_with fail
    refine (parse_is _ htz (E.out.keep G1.out) (T.out.keep G1.out) HT2.out).mono ?_
    rintro r w2 ⟨rfl, g2⟩
    have B2 := B1.but g2 (fun q => q)
    have G2 := Lib.hid (G1.out.trans g2)
    clear g2 G1 B1
    have B3 := B2.alloc (.cells #[.int .i64 e2, .int .i64 k2, .int .u64 n2] 26)
    have X3 := Blk.new w2 #[.int .i64 e2, .int .i64 k2, .int .u64 n2] 26
    have G3 := Lib.hid (G2.out.alloc (.cells #[.int .i64 e2, .int .i64 k2, .int .u64 n2] 26))
    obtain ⟨d, hd⟩ : ∃ d, d = w2.heap.size := ⟨_, rfl⟩
    have HD := Lib.hid hd
    rw [← hd] at X3
    have hbd : b < w2.heap.size := B2.lt
    have b0 := B2.cell 0
    have b1 := B2.cell 1
    have b2 := B2.cell 2
    clear hd
    go_wp2_with fail
    refine (right_is _ HN.out HRR.out).mono ?_
    rintro r w4 ⟨rfl, g4⟩
    rw [← HD.out]
    have B4 := B3.but g4 (fun q => q)
    have X4 := X3.but g4 (fun q => q)
    have G4 := Lib.hid (G3.out.trans g4)
    clear g4 G3 B3 X3 HD hbd b0 b1 b2 B2 G2
    have b0 := B4.cell 0
    have b1 := B4.cell 1
    have b2 := B4.cell 2
    have d0 := X4.cell 0
    have d1 := X4.cell 1
    have d2 := X4.cell 2
    go_wp2_with fail
    refine (parse_is _ hs (E.out.keep G4.out) (T.out.keep G4.out) HT3.out).mono ?_
    rintro r w5 ⟨rfl, g5⟩
    have G5 := Lib.hid (G4.out.trans g5)
    clear g5 G4
    have Y5 := Blk.new w5 #[.int .i64 e3, .int .i64 k3, .int .u64 n3] 26
    have G6 := Lib.hid (G5.out.alloc (.cells #[.int .i64 e3, .int .i64 k3, .int .u64 n3] 26))
    obtain ⟨c, hc⟩ : ∃ c, c = w5.heap.size := ⟨_, rfl⟩
    obtain ⟨u, hu⟩ : ∃ u, u = w5.alloc (.cells #[.int .i64 e3, .int .i64 k3, .int .u64 n3] 26) := ⟨_, rfl⟩
    rw [← hc] at Y5
    rw [← hu] at Y5 G6
    have HU := Lib.hid hu
    have HCC := Lib.hid hc
    clear hu hc
    go_wp2_with fail
    rw [← HU.out, ← HCC.out]
    clear HU HCC G5
    refine (alive_any _ (E.out.keep G6.out) (T.out.keep G6.out)).mono ?_
    rintro r w7 ⟨rfl, g7⟩
    have Y7 := Y5.but g7 (fun q => q)
    have G7 := Lib.hid (G6.out.trans g7)
    clear g7 G6 Y5
    have c0 := Y7.cell 0
    have c1 := Y7.cell 1
    have c2 := Y7.cell 2
    by_cases hq3 : q3 = 0
    · have t3 : (q3 != 0) = false := by simp [hq3]
      have hR3 : right e3 k3 n3 = true ∧ textL e3 k3 n3 = s.data.toList := by
        rcases HT3.out with ⟨-, a, b, -, -⟩ | ⟨a, -⟩
        · exact ⟨a, b⟩
        · omega
      have HR3 := Lib.hid hR3
      obtain ⟨ty, hty⟩ : ∃ ty : ByteArray, (⟨(textL e3 k3 n3).toArray⟩ : ByteArray) = ty := ⟨_, rfl⟩
      have t4 : (ty.toList == s.toList) = true := by rw [Lib.toList_data, ← hty, Lib.toList_data, hR3.2]; simp
      have HTY := Lib.hid hty
      have hn3 := tells_bd HT3.out
      clear hq3 hR3 hty
      go_wp2_with fail
      refine (text_is _ hn3 (T.out.keep G7.out) HTY.out).mono ?_
      rintro r w8 ⟨rfl, g8⟩
      have Y8 := Y7.but g8 (fun q => q)
      have G8 := Lib.hid (G7.out.trans g8)
      clear g8 G7 c0 c1 c2
      have c0 := Y8.cell 0
      have c1 := Y8.cell 1
      have c2 := Y8.cell 2
      go_wp2_with fail
      refine (right_is _ hn3 HR3.out.1).mono ?_
      rintro r w9 ⟨rfl, g9⟩
      go_wp2_with fail
      go_ret
      exact ⟨rfl, G8.out.trans g9⟩
    · have t3 : (q3 != 0) = true := by simp [hq3]
      clear hq3
      go_wp2_with fail
      go_ret
      exact ⟨rfl, G7.out⟩

end Answer
end Go.Proofs.YtmpnlpheeoadkaaDoor
