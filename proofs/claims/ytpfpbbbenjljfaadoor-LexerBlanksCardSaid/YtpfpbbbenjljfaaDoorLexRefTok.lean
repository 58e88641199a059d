/- token of the document's answer for layer 18 (lexer), walked. -/
import Derived.Test.YtpfpbbbenjljfaaDoorLexTok
set_option linter.unusedVariables false
set_option linter.unusedSimpArgs false
namespace Go.Proofs.YtpfpbbbenjljfaaDoor
open Go.RowKit

namespace Lex

theorem hexOf_is {s : ByteArray} {m : Nat} (h : Front hexB (rest s) m) : s.extract 1 (m + 1) = hexOf s := by rw [h.is]; rfl
/-- The document's name is the program's front, behind a letter. -/
theorem nameTo_tok {s : ByteArray} {n : Nat} (h0 : 0 < s.size) (h : NameTo s n) (hl : letB (bt s 0) = true) : n = fr eitB (rest s) + 1 := by
  have := nameTo_front (front_rest h0 (fr_is eitB (rest s)) (by unfold eitB; rw [hl]; rfl)) hl
  exact h.one this
theorem nameTo_ref {s : ByteArray} {n : Nat} (h : NameTo (rest s) n) : (n = 0 ∧ ¬ (0 < fr eitB (rest s) ∧ letB (bt s 1) = true)) ∨ (0 < n ∧ n = fr eitB (rest s) ∧ letB (bt s 1) = true) := by
  cases hl : letB (bt (rest s) 0) with
  | true =>
    have e := h.one (nameTo_front (fr_is eitB (rest s)) hl)
    rw [bt_rest] at hl
    rcases Nat.eq_zero_or_pos n with q | q
    · exact .inl ⟨q, fun r => by omega⟩
    · exact .inr ⟨q, e, hl⟩
  | false =>
    have e := h.one (nameTo_no hl)
    rw [bt_rest] at hl
    exact .inl ⟨e, fun r => by have := r.2; rw [show (0 : Nat) + 1 = 1 from rfl] at hl; rw [hl] at this; cases this⟩

set_option maxHeartbeats 16000000 in
set_option maxRecDepth 100000 in
theorem rtoken_any (s : ByteArray) (w : World) (hs : s.size ≤ 2000) (h0 : 0 < s.size) :
    Calls Tryd.prog 14 #[.string s] w fun e w' => (∃ (k : Int) (t : ByteArray) (u : Int), e = .returned (.tuple #[.agg #[.int .i64 k, .string t, .int .u64 u, .int .i64 0], .int .i64 (tok s).n]) ∧ (0 < (tok s).n → k = (tok s).kind ∧ t = (tok s).text ∧ u = (tok s).num)) ∧ But (fun _ => False) w w' := by
  have hGG := (But.refl (fun _ => False) w).alloc (.cells #[.int .i64 0, .string ⟨#[]⟩, .int .u64 0, .int .i64 0] 37)
  have hBB := Blk.new w #[.int .i64 0, .string ⟨#[]⟩, .int .u64 0, .int .i64 0] 37
  have hone : (1 : Int) ≤ s.size := by omega
  have hz0 : (0 : Int) < s.size := by omega
  have hx0 : (0 : Int) ≤ ((s[0]'h0).toNat : Int) := by omega
  have hx1 : ((s[0]'h0).toNat : Int) ≤ 255 := by have := (s[0]'h0).toNat_lt; omega
  have HBb := Lib.hid (Nat.le_refl w.heap.size)
  have G2 := Lib.hid hGG
  have B2 := Lib.hid hBB
  clear hGG hBB
  by_cases h1 : bt s 0 = 61
  · have t1 := byte_is h0 (k := 61) h1
    have HT := Lib.hid (tok_eq h1)
    clear h1
    go_enter Tryd.func14, Tryd.ntmps14
    go_wp2_with fail
    refine bodyPost_ret (v := .tuple #[.agg #[.int .i64 4, .string ⟨#[]⟩, .int .u64 0, .int .i64 0], .int .i64 1]) ?_ rfl ⟨⟨4, ⟨#[]⟩, 0, by rw [HT.out] <;> rfl, fun _ => by rw [HT.out]; exact ⟨rfl, rfl, rfl⟩⟩, ?_⟩
    · simp [results, Tryd.results14, go_sem]
    · first | exact (But.refl _ _).alloc _ | exact ((((G2.out.setCell (.inr HBb.out) _).setCell (.inr HBb.out) _).setCell (.inr HBb.out) _).setCell (.inr HBb.out) _)
  have t1 := byte_not h0 (k := 61) h1
  by_cases h3 : bt s 0 = 36
  · have t2 := byte_is h0 (k := 36) h3
    have HR := Lib.hid h3
    clear h1 h3
    go_enter Tryd.func14, Tryd.ntmps14
    go_wp2_with fail
    refine (ref_nameTo _ _ (by rw [ByteArray.size_extract]; omega)).mono ?_
    rintro e w2 ⟨n, rfl, hn, rfl⟩
    have hnle := hn.le
    rw [ByteArray.size_extract] at hnle
    have hnle2 : (n : Int) + 1 ≤ s.size := by omega
    have h1 := nameTo_ref hn
    clear hn
    rcases h1 with ⟨rfl, hno⟩ | ⟨hn0, hne, hl⟩
    · have HT := Lib.hid (tok_ref_no HR.out hno)
      clear hno
      go_wp2_with fail
      refine bodyPost_ret (v := .tuple #[.agg #[.int .i64 0, .string ⟨#[]⟩, .int .u64 0, .int .i64 0], .int .i64 0]) ?_ rfl ⟨⟨0, ⟨#[]⟩, 0, by rw [HT.out] <;> rfl, fun q => by rw [HT.out] at q; cases q⟩, ?_⟩
      · simp [results, Tryd.results14, go_sem]
      · first | exact (But.refl _ _).alloc _ | exact ((((G2.out.setCell (.inr HBb.out) _).setCell (.inr HBb.out) _).setCell (.inr HBb.out) _).setCell (.inr HBb.out) _)
    · have HT := Lib.hid (tok_ref HR.out (by rw [← hne]; exact hn0) hl)
      have HN := Lib.hid hne
      have tn : ((n : Int) == 0) = false := by simp; omega
      clear hne hl
      go_wp2_with fail
      refine bodyPost_ret (v := .tuple #[.agg #[.int .i64 1, .string (s.extract 1 (n + 1)), .int .u64 0, .int .i64 0], .int .i64 (n + 1)]) ?_ rfl ⟨⟨1, (s.extract 1 (n + 1)), 0, by rw [HT.out, HN.out]; rfl, fun _ => by rw [HT.out, HN.out]; exact ⟨rfl, rfl, rfl⟩⟩, ?_⟩
      · simp [results, Tryd.results14, go_sem]
      · first | exact (But.refl _ _).alloc _ | exact ((((G2.out.setCell (.inr HBb.out) _).setCell (.inr HBb.out) _).setCell (.inr HBb.out) _).setCell (.inr HBb.out) _)
  have t2 := byte_not h0 (k := 36) h3
  by_cases h4 : bt s 0 = 35
  · have t3 := byte_is h0 (k := 35) h4
    have HR := Lib.hid h4
    clear h1 h3 h4
    go_enter Tryd.func14, Tryd.ntmps14
    go_wp2_with fail
    refine (ref_hex _ _ (by rw [ByteArray.size_extract]; omega)).mono ?_
    rintro e w4 ⟨m, rfl, hm, rfl⟩
    have hmle := hm.le
    rw [ByteArray.size_extract] at hmle
    have hmle2 : (m : Int) + 1 ≤ s.size := by omega
    have HXX := Lib.hid (hexOf_is hm)
    clear hm
    have HP := Lib.hid (Handle.ref_parse (s.extract 1 (m + 1)) · (by rw [ByteArray.size_extract]; omega))
    rw [HXX.out] at HP
    have HTY := Lib.hid (show (Handle.parse (hexOf s)).2 = 0 → _ from fun q => tok_hex HR.out q)
    have HTN := Lib.hid (show (Handle.parse (hexOf s)).2 ≠ 0 → _ from fun q => tok_hex_no HR.out q)
    go_wp2_with fail
    rw [HXX.out]
    refine (HP.out _).mono ?_
    rintro e w5 ⟨rfl, g5⟩
    have B5 := B2.out.but g5 (fun q => q)
    have G5 := Lib.hid (G2.out.trans g5)
    clear g5 HP
    obtain ⟨b, hb⟩ : ∃ b, b = w.heap.size := ⟨_, rfl⟩
    have HBb := Lib.hid (show w.heap.size ≤ b by omega)
    rw [← hb] at B5 ⊢
    clear hb
    have k0 := B5.cell 0
    have f0 := B5.frozen 0
    have k1 := B5.cell 1
    have f1 := B5.frozen 1
    have k2 := B5.cell 2
    have f2 := B5.frozen 2
    have k3 := B5.cell 3
    have f3 := B5.frozen 3
    generalize (Handle.parse (hexOf s)).1 = x at *
    generalize (Handle.parse (hexOf s)).2 = y at *
    by_cases hy : y = 0
    · have HT := Lib.hid (HTY.out hy)
      have ty : (y != 0) = false := by simp [hy]
      clear hy
      go_wp2_with fail
      refine bodyPost_ret (v := .tuple #[.agg #[.int .i64 3, .string ⟨#[]⟩, .int .u64 x, .int .i64 0], .int .i64 17]) ?_ rfl ⟨⟨3, ⟨#[]⟩, x, by rw [HT.out] <;> rfl, fun _ => by rw [HT.out]; exact ⟨rfl, rfl, rfl⟩⟩, ?_⟩
      · simp [results, Tryd.results14, go_sem, k0, k1, k2, k3]
      · first | exact (But.refl _ _).alloc _ | exact ((((G5.out.setCell (.inr HBb.out) _).setCell (.inr HBb.out) _).setCell (.inr HBb.out) _).setCell (.inr HBb.out) _)
    · have HT := Lib.hid (HTN.out hy)
      have ty : (y != 0) = true := by simp [hy]
      clear hy
      go_wp2_with fail
      refine bodyPost_ret (v := .tuple #[.agg #[.int .i64 0, .string ⟨#[]⟩, .int .u64 0, .int .i64 0], .int .i64 0]) ?_ rfl ⟨⟨0, ⟨#[]⟩, 0, by rw [HT.out] <;> rfl, fun q => by rw [HT.out] at q; cases q⟩, ?_⟩
      · simp [results, Tryd.results14, go_sem, k0, k1, k2, k3]
      · first | exact (But.refl _ _).alloc _ | exact ((((G5.out.setCell (.inr HBb.out) _).setCell (.inr HBb.out) _).setCell (.inr HBb.out) _).setCell (.inr HBb.out) _)
  have t3 := byte_not h0 (k := 35) h4
  cases h5 : figB (bt s 0) with
  | true =>
    have H5' := Lib.hid h5
    have H5 := Lib.hid (show figB ((s[0]'h0).toNat : Int) = true by rw [← bt_in h0]; exact h5)
    clear h1 h3 h4 h5
    go_enter Tryd.func14, Tryd.ntmps14
    go_wp2_with fail
    refine (ref_figure _ _ ⟨hx0, hx1⟩).mono ?_
    rintro e wa ⟨rfl, rfl⟩
    rw [H5.out]
    go_wp2_with fail
    refine (ref_number _ _ (by omega)).mono ?_
    rintro e w4 ⟨m, hm, rfl, rfl⟩
    have HM := Lib.hid (show m = fr figB s from hm.is)
    have HTY := Lib.hid (show decTo s m ≤ 18446744073709551615 → tok s = ⟨2, ⟨#[]⟩, (numV s m).1, (numV s m).2.toNat⟩ ∧ (numV s m).2 = (m : Int) from fun q => by
      unfold numV
      rw [if_pos q]
      exact ⟨by rw [HM.out] at q ⊢; exact tok_num H5'.out q, rfl⟩)
    have HTN := Lib.hid (show ¬ decTo s m ≤ 18446744073709551615 → tok s = .none ∧ (numV s m).2 = 0 from fun q => by
      unfold numV
      rw [if_neg q]
      exact ⟨by rw [HM.out] at q; exact tok_num_no H5'.out q, rfl⟩)
    clear hm
    generalize (numV s m).1 = x at *
    generalize (numV s m).2 = y at *
    by_cases hd : decTo s m ≤ 18446744073709551615
    · obtain ⟨ht, rfl⟩ := HTY.out hd
      have HT := Lib.hid ht
      clear ht hd
      go_wp2_with fail
      refine bodyPost_ret (v := .tuple #[.agg #[.int .i64 2, .string ⟨#[]⟩, .int .u64 x, .int .i64 0], .int .i64 m]) ?_ rfl ⟨⟨2, ⟨#[]⟩, x, by rw [HT.out] <;> rfl, fun _ => by rw [HT.out]; exact ⟨rfl, rfl, rfl⟩⟩, ?_⟩
      · simp [results, Tryd.results14, go_sem]
      · first | exact (But.refl _ _).alloc _ | exact ((((G2.out.setCell (.inr HBb.out) _).setCell (.inr HBb.out) _).setCell (.inr HBb.out) _).setCell (.inr HBb.out) _)
    · obtain ⟨ht, rfl⟩ := HTN.out hd
      have HT := Lib.hid ht
      clear ht hd
      go_wp2_with fail
      refine bodyPost_ret (v := .tuple #[.agg #[.int .i64 2, .string ⟨#[]⟩, .int .u64 x, .int .i64 0], .int .i64 0]) ?_ rfl ⟨⟨2, ⟨#[]⟩, x, by rw [HT.out] <;> rfl, fun q => by rw [HT.out] at q; cases q⟩, ?_⟩
      · simp [results, Tryd.results14, go_sem]
      · first | exact (But.refl _ _).alloc _ | exact ((((G2.out.setCell (.inr HBb.out) _).setCell (.inr HBb.out) _).setCell (.inr HBb.out) _).setCell (.inr HBb.out) _)
  | false =>
    have H5' := Lib.hid h5
    have H5 := Lib.hid (show figB ((s[0]'h0).toNat : Int) = false by rw [← bt_in h0]; exact h5)
    have HO := Lib.hid (show letB (bt s 0) = false → _ from fun q => tok_other h1 q h3 h4 h5)
    clear h1 h3 h4 h5
    go_enter Tryd.func14, Tryd.ntmps14
    go_wp2_with fail
    refine (ref_figure _ _ ⟨hx0, hx1⟩).mono ?_
    rintro e wa ⟨rfl, rfl⟩
    rw [H5.out]
    go_wp2_with fail
    refine (ref_nameTo _ _ (by omega)).mono ?_
    rintro e w2 ⟨n, rfl, hn, rfl⟩
    have hnle := hn.le
    have hnle2 : (n : Int) ≤ s.size := by omega
    cases hl : letB (bt s 0) with
    | true =>
      have HT := Lib.hid (tok_let hl)
      have HN := Lib.hid (nameTo_tok h0 hn hl)
      clear hn hl
      go_wp2_with fail
      refine bodyPost_ret (v := .tuple #[.agg #[.int .i64 0, .string (s.extract 0 n), .int .u64 0, .int .i64 0], .int .i64 n]) ?_ rfl ⟨⟨0, (s.extract 0 n), 0, by rw [HT.out, HN.out] <;> rfl, fun _ => by rw [HT.out, HN.out]; exact ⟨rfl, rfl, rfl⟩⟩, ?_⟩
      · simp [results, Tryd.results14, go_sem]
      · first | exact (But.refl _ _).alloc _ | exact ((((G2.out.setCell (.inr HBb.out) _).setCell (.inr HBb.out) _).setCell (.inr HBb.out) _).setCell (.inr HBb.out) _)
    | false =>
      have HT := Lib.hid (HO.out hl)
      obtain rfl : n = 0 := hn.one (nameTo_no hl)
      clear hn hl
      go_wp2_with fail
      refine bodyPost_ret (v := .tuple #[.agg #[.int .i64 0, .string (s.extract 0 0), .int .u64 0, .int .i64 0], .int .i64 0]) ?_ rfl ⟨⟨0, (s.extract 0 0), 0, by rw [HT.out] <;> rfl, fun q => by rw [HT.out] at q; cases q⟩, ?_⟩
      · simp [results, Tryd.results14, go_sem]
      · first | exact (But.refl _ _).alloc _ | exact ((((G2.out.setCell (.inr HBb.out) _).setCell (.inr HBb.out) _).setCell (.inr HBb.out) _).setCell (.inr HBb.out) _)

end Lex
end Go.Proofs.YtpfpbbbenjljfaaDoor
