/- token of package lexer, walked. -/
import Derived.Test.YtpfpbbbenjljfaaDoorLexScanPure
set_option linter.unusedVariables false
set_option linter.unusedSimpArgs false
namespace Go.Proofs.YtpfpbbbenjljfaaDoor
open Go.RowKit

namespace Lex

theorem byte_is {s : ByteArray} (h0 : 0 < s.size) {k : Int} (h : bt s 0 = k) : (((s[0]'h0).toNat : Int) == k) = true := by rw [← bt_in h0, h]; simp
theorem byte_not {s : ByteArray} (h0 : 0 < s.size) {k : Int} (h : bt s 0 ≠ k) : (((s[0]'h0).toNat : Int) == k) = false := by rw [← bt_in h0]; simpa using h

theorem ext_rest {s : ByteArray} {n : Nat} (h : n + 1 ≤ s.size) : s.extract 1 (n + 1) = (rest s).extract 0 n := by
  unfold rest
  rw [ByteArray.extract_extract]
  congr 1
  omega

set_option maxHeartbeats 16000000 in
set_option maxRecDepth 100000 in
theorem token_any (s : ByteArray) (w : World) (hs : s.size ≤ 2000) (h0 : 0 < s.size) (he : Errs w) :
    Calls Tryd.prog 13 #[.string s] w fun e w' => e = .returned (.tuple #[.agg #[.int .i64 (tok s).kind, .string (tok s).text, .int .u64 (tok s).num, .int .i64 0], .int .i64 (tok s).n]) ∧ But (fun _ => False) w w' := by
  have G2 := Lib.hid ((But.refl (fun _ => False) w).alloc (.cells #[.int .i64 0, .string ⟨#[]⟩, .int .u64 0, .int .i64 0] 35))
  have B2 := Lib.hid (Blk.new w #[.int .i64 0, .string ⟨#[]⟩, .int .u64 0, .int .i64 0] 35)
  have hone : (1 : Int) ≤ s.size := by omega
  have hz0 : (0 : Int) < s.size := by omega
  have hx0 : (0 : Int) ≤ ((s[0]'h0).toNat : Int) := by omega
  have hx1 : ((s[0]'h0).toNat : Int) ≤ 255 := by have := (s[0]'h0).toNat_lt; omega
  have HB := Lib.hid (bt_in h0)
  have E0 := Lib.hid he
  clear he
  go_enter Tryd.func13, Tryd.ntmps13
  go_wp2_with fail
  refine (front_either _ _ (by rw [ByteArray.size_extract]; omega)).mono ?_
  rintro e w2 ⟨n, rfl, hf, g2⟩
  have hnle := hf.le
  have HN := Lib.hid (show n = fr eitB (rest s) from hf.is)
  rw [ByteArray.size_extract] at hnle
  have hnle2 : (n : Int) + 1 ≤ s.size := by omega
  have B3 := B2.out.but g2 (fun q => q)
  have G3 := Lib.hid (G2.out.trans g2)
  have E3 := Lib.hid (E0.out.keep G3.out)
  clear g2 hf
  obtain ⟨b, hb⟩ : ∃ b, b = w.heap.size := ⟨_, rfl⟩
  have HBb := Lib.hid (show w.heap.size ≤ b by omega)
  rw [← hb] at B3 ⊢
  clear hb
  have k0 := B3.cell 0
  have f0 := B3.frozen 0
  have k1 := B3.cell 1
  have f1 := B3.frozen 1
  have k2 := B3.cell 2
  have f2 := B3.frozen 2
  have k3 := B3.cell 3
  have f3 := B3.frozen 3
  by_cases h1 : bt s 0 = 61
  · have t1 := byte_is h0 (k := 61) h1
    have HT := Lib.hid (tok_eq h1)
    clear h1
    go_wp2_with fail
    refine bodyPost_ret (v := .tuple #[.agg #[.int .i64 4, .string ⟨#[]⟩, .int .u64 0, .int .i64 0], .int .i64 1]) ?_ rfl ⟨by rw [HT.out] <;> rfl, ?_⟩
    · simp [results, Tryd.results13, go_sem, k0, k1, k2, k3]
    · exact ((((G3.out.setCell (.inr HBb.out) _).setCell (.inr HBb.out) _).setCell (.inr HBb.out) _).setCell (.inr HBb.out) _)
  have t1 := byte_not h0 (k := 61) h1
  by_cases h2 : letB (bt s 0) = true
  · have HT := Lib.hid (tok_let h2)
    have H2 := Lib.hid (show letB ((s[0]'h0).toNat : Int) = true by rw [← bt_in h0]; exact h2)
    clear h2 h1
    go_wp2_with fail
    refine (letter_any _ _).mono ?_
    rintro e wa ⟨rfl, rfl⟩
    rw [H2.out]
    go_wp2_with fail
    refine bodyPost_ret (v := .tuple #[.agg #[.int .i64 0, .string (s.extract 0 (n + 1)), .int .u64 0, .int .i64 0], .int .i64 (n + 1)]) ?_ rfl ⟨by rw [HT.out, HN.out] <;> rfl, ?_⟩
    · simp [results, Tryd.results13, go_sem, k0, k1, k2, k3]
    · exact ((((G3.out.setCell (.inr HBb.out) _).setCell (.inr HBb.out) _).setCell (.inr HBb.out) _).setCell (.inr HBb.out) _)
  have h2' : letB (bt s 0) = false := by simpa using h2
  clear h2
  have H2' := Lib.hid h2'
  have H2 := Lib.hid (show letB ((s[0]'h0).toNat : Int) = false by rw [← bt_in h0]; exact h2')
  clear h2'
  by_cases h3 : bt s 0 = 36
  · have t2 := byte_is h0 (k := 36) h3
    have HP := Lib.hid (nameB_pre (n := n) (by rw [HN.out]; exact fr_is _ _))
    have HX := Lib.hid (ext_rest (s := s) (n := n) (by omega))
    have HR := Lib.hid h3
    clear h1 h3
    go_wp2_with fail
    refine (letter_any _ _).mono ?_
    rintro e wa ⟨rfl, rfl⟩
    rw [H2.out]
    go_wp2_with fail
    rw [HX.out]
    refine (name_any _ _ (by rw [size_pre (by rw [rest_size]; omega)]; omega)).mono ?_
    rintro e w4 ⟨rfl, g4⟩
    have B4 := B3.but g4 (fun q => q)
    have G4 := Lib.hid (G3.out.trans g4)
    clear g4 k0 k1 k2 k3 f0 f1 f2 f3 B3
    have k0 := B4.cell 0
    have f0 := B4.frozen 0
    have k1 := B4.cell 1
    have f1 := B4.frozen 1
    have k2 := B4.cell 2
    have f2 := B4.frozen 2
    have k3 := B4.cell 3
    have f3 := B4.frozen 3
    cases hn : nameB ((rest s).extract 0 n) with
    | true =>
      have hn2 := HP.out.symm.trans hn
      rw [Bool.and_eq_true, decide_eq_true_iff, bt_rest] at hn2
      have HT := Lib.hid (tok_ref HR.out (by rw [← HN.out]; exact hn2.1) hn2.2)
      clear hn hn2
      go_wp2_with fail
      refine bodyPost_ret (v := .tuple #[.agg #[.int .i64 1, .string (s.extract 1 (n + 1)), .int .u64 0, .int .i64 0], .int .i64 (n + 1)]) ?_ rfl ⟨by rw [HT.out, HN.out] <;> rfl, ?_⟩
      · simp [results, Tryd.results13, go_sem, k0, k1, k2, k3]
      · exact ((((G4.out.setCell (.inr HBb.out) _).setCell (.inr HBb.out) _).setCell (.inr HBb.out) _).setCell (.inr HBb.out) _)
    | false =>
      have hn2 := HP.out.symm.trans hn
      have HT := Lib.hid (tok_ref_no HR.out (by
        rintro ⟨q1, q2⟩
        rw [← HN.out] at q1
        rw [decide_eq_true q1, bt_rest, q2] at hn2
        cases hn2))
      have t3 := byte_not h0 (k := 35) (by rw [HR.out]; decide)
      have H4 := Lib.hid (show figB ((s[0]'h0).toNat : Int) = false by rw [← bt_in h0, HR.out]; decide)
      clear hn hn2
      go_wp2_with fail
      refine (figure_any _ _).mono ?_
      rintro e wa ⟨rfl, rfl⟩
      rw [H4.out]
      go_wp2_with fail
      refine bodyPost_ret (v := .tuple #[.agg #[.int .i64 0, .string ⟨#[]⟩, .int .u64 0, .int .i64 0], .int .i64 0]) ?_ rfl ⟨by rw [HT.out] <;> rfl, ?_⟩
      · simp [results, Tryd.results13, go_sem, k0, k1, k2, k3]
      · exact ((((G4.out.setCell (.inr HBb.out) _).setCell (.inr HBb.out) _).setCell (.inr HBb.out) _).setCell (.inr HBb.out) _)
  have t2 := byte_not h0 (k := 36) h3
  by_cases h4 : bt s 0 = 35
  · have t3 := byte_is h0 (k := 35) h4
    have HR := Lib.hid h4
    clear h1 h3 h4
    go_wp2_with fail
    refine (letter_any _ _).mono ?_
    rintro e wa ⟨rfl, rfl⟩
    rw [H2.out]
    go_wp2_with fail
    refine (front_hex _ _ (by rw [ByteArray.size_extract]; omega)).mono ?_
    rintro e w4 ⟨m, rfl, hm, g4⟩
    have hmle := hm.le
    have HM := Lib.hid (show m = fr hexB (rest s) from hm.is)
    rw [ByteArray.size_extract] at hmle
    have hmle2 : (m : Int) + 1 ≤ s.size := by omega
    have B4 := B3.but g4 (fun q => q)
    have G4 := Lib.hid (G3.out.trans g4)
    clear hm g4 k0 k1 k2 k3 f0 f1 f2 f3 B3
    have k0 := B4.cell 0
    have f0 := B4.frozen 0
    have k1 := B4.cell 1
    have f1 := B4.frozen 1
    have k2 := B4.cell 2
    have f2 := B4.frozen 2
    have k3 := B4.cell 3
    have f3 := B4.frozen 3
    have HXX := Lib.hid (show s.extract 1 (m + 1) = hexOf s by rw [HM.out]; rfl)
    have HSZ := Lib.hid (hexOf_size s)
    have HP := Lib.hid (Handle.parse_any (s.extract 1 (m + 1)) · (by rw [ByteArray.size_extract]; omega))
    rw [HXX.out] at HP
    have H17 := Lib.hid (show (Handle.parse (hexOf s)).2 = 0 → m = 16 from fun q => by rw [HM.out]; exact hex_len q)
    have HTY := Lib.hid (show (Handle.parse (hexOf s)).2 = 0 → _ from fun q => tok_hex HR.out q)
    have HTN := Lib.hid (show (Handle.parse (hexOf s)).2 ≠ 0 → _ from fun q => tok_hex_no HR.out q)
    go_wp2_with fail
    rw [HXX.out]
    refine (HP.out _).mono ?_
    rintro e w5 ⟨rfl, g5⟩
    have B5 := B4.but g5 (fun q => q)
    have G5 := Lib.hid (G4.out.trans g5)
    clear g5 k0 k1 k2 k3 f0 f1 f2 f3 B4 HP
    have k0 := B5.cell 0
    have f0 := B5.frozen 0
    have k1 := B5.cell 1
    have f1 := B5.frozen 1
    have k2 := B5.cell 2
    have f2 := B5.frozen 2
    have k3 := B5.cell 3
    have f3 := B5.frozen 3
    generalize (Handle.parse (hexOf s)).1 = x at *
    generalize (Handle.parse (hexOf s)).2 = y at *
    by_cases hy : y = 0
    · have HT := Lib.hid (HTY.out hy)
      have HM2 := Lib.hid (H17.out hy)
      have ty : (y == 0) = true := by simp [hy]
      clear hy
      go_wp2_with fail
      refine bodyPost_ret (v := .tuple #[.agg #[.int .i64 3, .string ⟨#[]⟩, .int .u64 x, .int .i64 0], .int .i64 (m + 1)]) ?_ rfl ⟨by rw [HT.out, HM2.out] <;> rfl, ?_⟩
      · simp [results, Tryd.results13, go_sem, k0, k1, k2, k3]
      · exact ((((G5.out.setCell (.inr HBb.out) _).setCell (.inr HBb.out) _).setCell (.inr HBb.out) _).setCell (.inr HBb.out) _)
    · have HT := Lib.hid (HTN.out hy)
      have ty : (y == 0) = false := by simp [hy]
      clear hy
      go_wp2_with fail
      refine bodyPost_ret (v := .tuple #[.agg #[.int .i64 0, .string ⟨#[]⟩, .int .u64 0, .int .i64 0], .int .i64 0]) ?_ rfl ⟨by rw [HT.out] <;> rfl, ?_⟩
      · simp [results, Tryd.results13, go_sem, k0, k1, k2, k3]
      · exact ((((G5.out.setCell (.inr HBb.out) _).setCell (.inr HBb.out) _).setCell (.inr HBb.out) _).setCell (.inr HBb.out) _)
  have t3 := byte_not h0 (k := 35) h4
  cases h5 : figB (bt s 0) with
  | false =>
    have HT := Lib.hid (tok_other h1 H2'.out h3 h4 h5)
    have H5 := Lib.hid (show figB ((s[0]'h0).toNat : Int) = false by rw [← bt_in h0]; exact h5)
    clear h1 h3 h4 h5
    go_wp2_with fail
    refine (letter_any _ _).mono ?_
    rintro e wa ⟨rfl, rfl⟩
    rw [H2.out]
    go_wp2_with fail
    refine (figure_any _ _).mono ?_
    rintro e wa ⟨rfl, rfl⟩
    rw [H5.out]
    go_wp2_with fail
    refine bodyPost_ret (v := .tuple #[.agg #[.int .i64 0, .string ⟨#[]⟩, .int .u64 0, .int .i64 0], .int .i64 0]) ?_ rfl ⟨by rw [HT.out] <;> rfl, ?_⟩
    · simp [results, Tryd.results13, go_sem, k0, k1, k2, k3]
    · exact ((((G3.out.setCell (.inr HBb.out) _).setCell (.inr HBb.out) _).setCell (.inr HBb.out) _).setCell (.inr HBb.out) _)
  | true =>
    have H5' := Lib.hid h5
    have H5 := Lib.hid (show figB ((s[0]'h0).toNat : Int) = true by rw [← bt_in h0]; exact h5)
    have HFP := Lib.hid (fig_pos h0 h5)
    clear h1 h3 h4 h5
    go_wp2_with fail
    refine (letter_any _ _).mono ?_
    rintro e wa ⟨rfl, rfl⟩
    rw [H2.out]
    go_wp2_with fail
    refine (figure_any _ _).mono ?_
    rintro e wa ⟨rfl, rfl⟩
    rw [H5.out]
    go_wp2_with fail
    refine (front_figure _ _ (by omega)).mono ?_
    rintro e w4 ⟨m, rfl, hm, g4⟩
    have hmle := hm.le
    have HM := Lib.hid (show m = fr figB s from hm.is)
    have hmle2 : (m : Int) ≤ s.size := by omega
    have B4 := B3.but g4 (fun q => q)
    have G4 := Lib.hid (G3.out.trans g4)
    have HPF := Lib.hid (parse_figs (s := s) (n := m) (by rw [HM.out]; exact HFP.out) hm.le hm.all)
    clear hm g4 k0 k1 k2 k3 f0 f1 f2 f3 B3
    have HSX := Lib.hid (show (s.extract 0 m).size ≤ 2000 by rw [ByteArray.size_extract]; omega)
    have E4 := Lib.hid (E0.out.keep G4.out)
    have k0 := B4.cell 0
    have f0 := B4.frozen 0
    have k1 := B4.cell 1
    have f1 := B4.frozen 1
    have k2 := B4.cell 2
    have f2 := B4.frozen 2
    have k3 := B4.cell 3
    have f3 := B4.frozen 3
    go_wp2_with fail
    refine (parse_uint _ _ HSX.out E4.out).mono ?_
    rintro e w5 ⟨g5, hr⟩
    have B5 := B4.but g5 (fun q => q)
    have G5 := Lib.hid (G4.out.trans g5)
    clear g5 k0 k1 k2 k3 f0 f1 f2 f3 B4
    have k0 := B5.cell 0
    have f0 := B5.frozen 0
    have k1 := B5.cell 1
    have f1 := B5.frozen 1
    have k2 := B5.cell 2
    have f2 := B5.frozen 2
    have k3 := B5.cell 3
    have f3 := B5.frozen 3
    rw [HPF.out] at hr
    rcases hr with ⟨u, hu, rfl⟩ | ⟨hu, x, te, pe, rfl⟩
    · by_cases hd : decTo s m ≤ 18446744073709551615
      · rw [if_pos hd] at hu
        have HU := Lib.hid (show (u : Int) = decTo s m by
          have := (decTo_mono (s := s) (m := m) (n := m) (Nat.le_refl _) (by rw [HM.out]; exact (fr_is _ _).all)).1
          have e1 : (decTo s m).toNat = u := by injection hu
          omega)
        have HT := Lib.hid (tok_num H5'.out (by rw [← HM.out]; exact hd))
        clear hu hd
        go_wp2_with fail
        refine bodyPost_ret (v := .tuple #[.agg #[.int .i64 2, .string ⟨#[]⟩, .int .u64 u, .int .i64 0], .int .i64 m]) ?_ rfl ⟨by rw [HT.out, HU.out, HM.out] <;> rfl, ?_⟩
        · simp [results, Tryd.results13, go_sem, k0, k1, k2, k3]
        · exact ((((G5.out.setCell (.inr HBb.out) _).setCell (.inr HBb.out) _).setCell (.inr HBb.out) _).setCell (.inr HBb.out) _)
      · rw [if_neg hd] at hu
        cases hu
    · have HT := Lib.hid (tok_num_no H5'.out (by
        rw [← HM.out]
        intro hd
        rw [if_pos hd] at hu
        exact hu _ rfl))
      clear hu
      go_wp2_with fail
      refine bodyPost_ret (v := .tuple #[.agg #[.int .i64 0, .string ⟨#[]⟩, .int .u64 0, .int .i64 0], .int .i64 0]) ?_ rfl ⟨by rw [HT.out] <;> rfl, ?_⟩
      · simp [results, Tryd.results13, go_sem, k0, k1, k2, k3]
      · exact ((((G5.out.setCell (.inr HBb.out) _).setCell (.inr HBb.out) _).setCell (.inr HBb.out) _).setCell (.inr HBb.out) _)

end Lex
end Go.Proofs.YtpfpbbbenjljfaaDoor
