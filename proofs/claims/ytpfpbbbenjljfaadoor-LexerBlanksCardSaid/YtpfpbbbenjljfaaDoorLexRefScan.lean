/- Scan of the document's answer for layer 18 (lexer), walked. -/
import Derived.Test.YtpfpbbbenjljfaaDoorLexRefTok
import Derived.Test.YtpfpbbbenjljfaaDoorLexScan
set_option linter.unusedVariables false
set_option linter.unusedSimpArgs false
namespace Go.Proofs.YtpfpbbbenjljfaaDoor
open Go.RowKit

namespace Lex

theorem infoRTk : (Tryd.prog.info? 37).map (fun i => (i.zero, i.size, i.bytes)) = some (some (.agg #[.int .i64 0, .string ⟨#[]⟩, .int .u64 0, .int .i64 0]), 4, 40) := by kernel_rfl

set_option maxHeartbeats 16000000 in
set_option maxRecDepth 100000 in
theorem rscan_any (s : ByteArray) (w : World) (hs : s.size ≤ 140737488351232) :
    Calls Tryd.prog 7 #[.string s] w fun e w' => (∃ v o, e = .returned (.tuple #[v, .int .i64 (scanV s).2.1, .int .i64 (scanV s).2.2]) ∧ Row w' 37 4 v o (scanV s).1.length (tkCs (scanV s).1) ∧ (∀ k, o = some k → w.heap.size ≤ k)) ∧ But (fun _ => False) w w' := by
  by_cases h1000 : 1000 < s.size
  · have hi : (1000 : Int) < s.size := by omega
    have HV := Lib.hid (show scanV s = ([], 0, 8) by unfold scanV; rw [if_pos h1000])
    clear h1000
    go_enter Tryd.func7, Tryd.ntmps7
    go_wp2_with fail
    go_ret3
    rw [HV.out]
    exact ⟨⟨_, _, rfl, Row.nil _ _ _, (fun k q => by cases q)⟩, But.refl _ _⟩
  have hi : ¬ (1000 : Int) < s.size := by omega
  have hsz : s.size ≤ 1000 := by omega
  have HSV := Lib.hid h1000
  obtain ⟨i0, hi0, hz0, hz1, hz2⟩ := info_parts infoRTk
  clear h1000
  go_enter Tryd.func7, Tryd.ntmps7
  go_wp2_with fail
  go_loopg [5, 6] s.size (fun k ov iv wr => ∃ (i : Nat) (l : List (Tk × Nat)) (o : Option Nat), i + k = s.size ∧ iv = .int .i64 i ∧ scan s 0 [] = scan s i l ∧ l.length ≤ i ∧ Row wr 37 4 ov o l.length (tkCs l) ∧ (∀ k, o = some k → w.heap.size ≤ k) ∧ But (fun _ => False) w wr)
  case atStart => exact ⟨0, [], none, by omega, rfl, rfl, Nat.zero_le _, Row.nil _ _ _, (fun k q => by cases q), But.refl _ _⟩
  case round =>
    obtain ⟨i, l, o, hik, rfl, hsc, hl, hR, ho, hW⟩ := hrel
    have HSC := Lib.hid hsc
    have HR := Lib.hid hR
    have HO := Lib.hid ho
    have HW := Lib.hid hW
    clear hsc hR ho hW
    by_cases hlt : i < s.size
    · have hlt2 : (i : Int) < s.size := by omega
      have hby := bt_in hlt
      by_cases hb : bt s i = 32
      · have HS2 := Lib.hid (HSC.out.trans (scan_blank hlt hb l))
        have hb2 : (((s[i]'hlt).toNat : Int) == 32) = true := by rw [← hby, hb]; rfl
        clear hb hby
        go_wp2_with fail
        go_roundg (s.size - (i + 1))
        case measure => omega
        case rel => exact ⟨i + 1, l, o, by omega, by go_num, HS2.out, by omega, HR.out, HO.out, HW.out⟩
      have HB := Lib.hid hb
      have hb2 : (((s[i]'hlt).toNat : Int) == 32) = false := by rw [← hby]; simpa using hb
      have hr0 : 0 < (fromAt s i).size := by rw [fromAt_size]; omega
      have hrs : (fromAt s i).size ≤ 1000 := by rw [fromAt_size]; omega
      have hle := tok_n s i hlt
      have HBAD := Lib.hid (show (tok (fromAt s i)).n = 0 → scan s i l = (l, some i) from fun q => scan_bad hlt HB.out q l)
      have HTK := Lib.hid (show (tok (fromAt s i)).n ≠ 0 → scan s i l = scan s (i + (tok (fromAt s i)).n) (l ++ [(tok (fromAt s i), i)]) from fun q => scan_tok hlt HB.out q l)
      have HTE := Lib.hid (rtoken_any (fromAt s i) · (by omega) hr0)
      have HFR := Lib.hid (show s.extract i s.size = fromAt s i from rfl)
      clear hb hby
      generalize tok (fromAt s i) = t at *
      obtain ⟨k, tx, u, n⟩ := t
      dsimp only at hle HBAD HTK HTE
      go_wp2_with fail
      rw [HFR.out]
      refine (HTE.out _).mono ?_
      rintro e w2 ⟨⟨k2, tx2, u2, rfl, hsame⟩, g2⟩
      have HR2 := Lib.hid (HR.out.but g2 (fun _ _ q => q))
      have HW2 := Lib.hid (HW.out.trans g2)
      clear g2
      by_cases hn : n = 0
      · have HV := Lib.hid (scanV_bad HSV.out (HSC.out.trans (HBAD.out hn)))
        have hn2 : ((n : Int) == 0) = true := by simp [hn]
        clear hn HTK HTE hsame
        go_wp2_with fail
        go_ret3
        rw [HV.out]
        exact ⟨⟨_, _, rfl, Row.nil _ _ _, (fun k q => by cases q)⟩, (HW2.out.alloc _)⟩
      · have HSC2 := Lib.hid (HSC.out.trans (HTK.out hn))
        have hn1 : 0 < n := by omega
        have hn2 : ((n : Int) == 0) = false := by simp; omega
        obtain ⟨rfl, rfl, rfl⟩ := hsame hn1
        have hin : (i : Int) + n ≤ s.size := by omega
        clear hn HTK HTE HBAD hsame
        go_wp2_with (at_builtin; have HH := (HR2.out.alloc (.cells #[.int .i64 k2, .string tx2, .int .u64 u2, .int .i64 i] 37)).alloc (.cells #[.int .i64 k2, .string tx2, .int .u64 u2, .int .i64 i] 37); refine wpList_append_row _ rfl _ _ _ rfl 37 i0 (.agg #[.int .i64 0, .string ⟨#[]⟩, .int .u64 0, .int .i64 0]) 4 40 Tryd.underlying27 hi0 hz0 hz1 hz2 rfl (by decide) _ o l.length (tkCs l) HH (by rfl) ⟨w2.heap.size + 1, 0, none⟩ 1 1 [.int .i64 k2, .string tx2, .int .u64 u2, .int .i64 i] (by rfl) (by rfl) (new_src' _ [.int .i64 k2, .string tx2, .int .u64 u2, .int .i64 i] _ (by simp)) (by simp [Value.oneCell']) (by unfold maxLen; omega) (by omega) ?_; intro v4 w4 o4 hR4 hB4 hN4)
        have HB5 := Lib.hid (((HW2.out.alloc _).alloc _).trans' hB4 (fun k q => .inr (HO.out k q)))
        go_roundg (s.size - (i + n))
        case measure => omega
        case rel =>
          refine ⟨i + n, l ++ [(⟨k2, tx2, u2, n⟩, i)], o4, by omega, by go_num, HSC2.out, ?_, ?_, ?_, HB5.out⟩
          · rw [List.length_append]
            show l.length + 1 ≤ i + n
            omega
          · rw [tkCs_snoc, List.length_append]
            exact hR4
          · intro k hk
            rcases hN4 k hk with q | q
            · exact HO.out k q
            · have := HW2.out.size
              simp at q
              omega
    · have hie : i = s.size := by omega
      have hlt2 : ¬ (i : Int) < s.size := by omega
      have HV := Lib.hid (scanV_ok HSV.out (HSC.out.trans (scan_end (by omega) l)))
      clear hie
      go_wp2_with fail
      go_ret3
      rw [HV.out]
      exact ⟨⟨_, rfl, _, HR.out, HO.out⟩, HW.out⟩

end Lex
end Go.Proofs.YtpfpbbbenjljfaaDoor
