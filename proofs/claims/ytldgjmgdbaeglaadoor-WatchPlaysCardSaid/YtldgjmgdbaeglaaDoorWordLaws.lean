/- The laws WordTells and WordBack of layer 4, walked: they answer true. -/
import Derived.Test.YtldgjmgdbaeglaaDoorWordRef
import Derived.Test.YtldgjmgdbaeglaaDoorReads
import Derived.Deep.RegionHeld3
set_option linter.unusedVariables false
set_option linter.unusedSimpArgs false
namespace Go.Proofs.YtldgjmgdbaeglaaDoor
open Go.RowKit Go.ChangeShapes Go.WideShapes Go.Deep

namespace Word

theorem eqV (w : World) (k n k2 n2 : Int) : (Op.equalIn 10000 25 (.agg #[.int .i64 k, .int .u64 n]) (.agg #[.int .i64 k2, .int .u64 n2])).run Tryd.prog w = .ok (decide (k = k2 ∧ n = n2)) w := by
  go_simp
  repeat' split
  all_goals simp_all

theorem enc_is {k n x e : Int} (w : World) (hn : 0 ≤ n ∧ n ≤ 18446744073709551615) (h : encOf k n = (x, e)) : Calls Tryd.prog 7 #[.agg #[.int .i64 k, .int .u64 n]] w fun r w' => r = .returned (.tuple #[.int .u64 x, .int .i64 e]) ∧ But (fun _ => False) w w' := by
  have := encode_any k n w hn
  rw [h] at this; exact this
theorem renc_is {k n x e : Int} (w : World) (hn : 0 ≤ n ∧ n ≤ 18446744073709551615) (h : encOf k n = (x, e)) : Calls Tryd.prog 8 #[.agg #[.int .i64 k, .int .u64 n]] w fun r w' => r = .returned (.tuple #[.int .u64 x, .int .i64 e]) ∧ But (fun _ => False) w w' := by
  have := ref_encode k n w hn
  rw [h] at this; exact this
theorem dec_is {x k n : Int} (w : World) (hx : 0 ≤ x ∧ x ≤ 18446744073709551615) (h1 : decK x = k) (h2 : decN x = n) : Calls Tryd.prog 12 #[.int .u64 x] w fun r w' => r = .returned (.agg #[.int .i64 k, .int .u64 n]) ∧ But (fun _ => False) w w' := by
  have := decode_any x w hx
  rw [h1, h2] at this; exact this
theorem text_is {k n : Int} {l : List UInt8} (w : World) (hn : 0 ≤ n ∧ n ≤ 18446744073709551615) (ht : Tens w) (h : textL k n = l) : Calls Tryd.prog 14 #[.agg #[.int .i64 k, .int .u64 n]] w fun r w' => r = .returned (.string ⟨l.toArray⟩) ∧ But (fun _ => False) w w' := by
  have := text_any k n w hn ht
  rw [h] at this; exact this

set_option maxHeartbeats 8000000 in
set_option maxRecDepth 100000 in
theorem alive_any (w : World) (ht : Tens w) :
    Calls Tryd.prog 9 #[] w fun e w' => e = .returned (.bool true) ∧ But (fun _ => False) w w' := by
  have T := Lib.hid ht
  have eq1 := eqV
  clear ht
  go_enter Tryd.func9, Tryd.ntmps9
  go_wp2_with fail
  refine (enc_is (k := 1) (n := 5) (x := 11) (e := 0) _ (by decide) (by decide)).mono ?_
  rintro e w1 ⟨rfl, g1⟩
  go_wp2_with fail
  refine (enc_is (k := 2) (n := 0) (x := 2) (e := 0) _ (by decide) (by decide)).mono ?_
  rintro e w2 ⟨rfl, g2⟩
  go_wp2_with fail
  refine (enc_is (k := 0) (n := 1) (x := 0) (e := 1) _ (by decide) (by decide)).mono ?_
  rintro e w3 ⟨rfl, g3⟩
  go_wp2_with fail
  refine (enc_is (k := 2) (n := 9223372036854775807) (x := 0) (e := 1) _ (by decide) (by decide)).mono ?_
  rintro e w4 ⟨rfl, g4⟩
  have G4 := Lib.hid (((g1.trans g2).trans g3).trans g4)
  clear g1 g2 g3 g4
  go_wp2_with fail
  refine (dec_is (x := 8) (k := 2) (n := 3) _ (by decide) (by decide) (by decide)).mono ?_
  rintro e w5 ⟨rfl, g5⟩
  go_wp2_with fail
  refine (dec_is (x := 0) (k := 0) (n := 0) _ (by decide) (by decide) (by decide)).mono ?_
  rintro e w6 ⟨rfl, g6⟩
  have G6 := Lib.hid ((G4.out.trans g5).trans g6)
  clear g5 g6
  go_wp2_with fail
  have d7 : textL 2 7 = [64, 55] := by unfold textL numL; rw [dec_small (by decide)]; decide
  refine (text_is (k := 2) (n := 7) (l := [64, 55]) _ (by decide) (T.out.keep G6.out) d7).mono ?_
  rintro e w7 ⟨rfl, g7⟩
  have G7 := Lib.hid (G6.out.trans g7)
  clear g7
  go_wp2_with fail
  refine (text_is (k := 0) (n := 0) (l := [110, 105, 108]) _ (by decide) (T.out.keep G7.out) (by decide)).mono ?_
  rintro e w8 ⟨rfl, g8⟩
  go_wp2_with fail
  go_ret
  exact ⟨rfl, G7.out.trans g8⟩

theorem rdec_is {x k n : Int} (w : World) (hx : 0 ≤ x ∧ x ≤ 18446744073709551615) (h1 : decK x = k) (h2 : decN x = n) : Calls Tryd.prog 13 #[.int .u64 x] w fun r w' => r = .returned (.agg #[.int .i64 k, .int .u64 n]) ∧ But (fun _ => False) w w' := by
  have := ref_decode x w hx
  rw [h1, h2] at this; exact this
theorem rtext_is {k n : Int} {l : List UInt8} (w : World) (hn : 0 ≤ n ∧ n ≤ 18446744073709551615) (h : textL k n = l) : Calls Tryd.prog 15 #[.agg #[.int .i64 k, .int .u64 n]] w fun r w' => r = .returned (.string ⟨l.toArray⟩) ∧ But (fun _ => False) w w' := by
  have := ref_text k n w hn
  rw [h] at this; exact this
theorem right_is {k n : Int} {r : Bool} (w : World) (hn : 0 ≤ n ∧ n ≤ 18446744073709551615) (h : vright k n = r) : Calls Tryd.prog 10 #[.agg #[.int .i64 k, .int .u64 n]] w fun e w' => e = .returned (.bool r) ∧ But (fun _ => False) w w' := by
  have := right_any k n w hn
  rw [h] at this; exact this
theorem rright_is {k n : Int} {r : Bool} (w : World) (hn : 0 ≤ n ∧ n ≤ 18446744073709551615) (h : vright k n = r) : Calls Tryd.prog 11 #[.agg #[.int .i64 k, .int .u64 n]] w fun e w' => e = .returned (.bool r) ∧ But (fun _ => False) w w' := by
  have := ref_right k n w hn
  rw [h] at this; exact this
/-- A value that came in. -/
theorem open_value {cs : Array Value} (h : All2 [.i .i64, .i .u64] cs.toList) : ∃ k n : Int, cs = #[.int .i64 k, .int .u64 n] ∧ 0 ≤ n ∧ n ≤ 18446744073709551615 := by
  obtain ⟨v0, r0, e0, ⟨k, rfl, hk⟩, h1⟩ := all2_cons h
  obtain ⟨v1, r1, e1, ⟨n, rfl, hn⟩, h2⟩ := all2_cons h1
  have := all2_nil h2
  subst this; subst e1
  exact ⟨k, n, Array.ext' e0, (bounds_u64 hn).1, (bounds_u64 hn).2⟩

set_option maxHeartbeats 8000000 in
set_option maxRecDepth 100000 in
theorem tells_any (w : World) (ht : Lib.TabIs Tryd.prog w "internal/strconv.uint64pow10" .u64 Lib.pow10Tab) (cs : Array Value) (wc : All2 [.i .i64, .i .u64] cs.toList) (x : Int) (wx : (Lit.int .u64 x).wf = true) :
    Calls Tryd.prog 3 #[.agg cs, .int .u64 x] w fun e w' => e = .returned (.bool true) ∧ But (fun _ => False) w w' := by
  obtain ⟨k, n, rfl, hn1, hn2⟩ := open_value wc
  have hx := bounds_u64 wx
  have hn : 0 ≤ n ∧ n ≤ 18446744073709551615 := ⟨hn1, hn2⟩
  have T := Lib.hid (show Tens w from ht)
  have HN := Lib.hid hn
  have HX := Lib.hid hx
  clear ht wc wx hx hn hn1 hn2
  obtain ⟨u, e0, hen⟩ : ∃ u e, encOf k n = (u, e) := ⟨_, _, rfl⟩
  obtain ⟨k2, hk2⟩ : ∃ k2, decK x = k2 := ⟨_, rfl⟩
  obtain ⟨n2, hn2⟩ : ∃ n2, decN x = n2 := ⟨_, rfl⟩
  obtain ⟨L, hL⟩ : ∃ L, textL k n = L := ⟨_, rfl⟩
  obtain ⟨r, hr⟩ : ∃ r, vright k n = r := ⟨_, rfl⟩
  have HEN := Lib.hid hen
  have HK := Lib.hid hk2
  have HN2 := Lib.hid hn2
  have HL := Lib.hid hL
  have HR := Lib.hid hr
  clear hen hk2 hn2 hL hr
  have G0 := (But.refl (fun _ => False) w).alloc (.cells #[.int .i64 k, .int .u64 n] 25)
  have B0 := Blk.new w #[.int .i64 k, .int .u64 n] 25
  have k0 := B0.cell 0
  have k1 := B0.cell 1
  go_enter Tryd.func3, Tryd.ntmps3
  go_wp2_with fail
  refine (enc_is _ HN.out HEN.out).mono ?_
  rintro e w2 ⟨rfl, g2⟩
  have B2 := Lib.hid (B0.but g2 (fun q => q))
  have G2 := Lib.hid (G0.trans g2)
  obtain ⟨b, hb⟩ : ∃ b, b = w.heap.size := ⟨_, rfl⟩
  rw [← hb] at B2 ⊢
  clear hb B0 G0 g2 k0 k1
  have k0 : w2.cell? ⟨b, 0, none⟩ = some (.int .i64 k) := B2.out.cell 0
  have k1 : w2.cell? ⟨b, 1, none⟩ = some (.int .u64 n) := B2.out.cell 1
  have hbl := B2.out.lt
  go_wp2_with fail
  refine (renc_is _ HN.out HEN.out).mono ?_
  rintro e w3 ⟨rfl, g3⟩
  have B3 := Lib.hid (B2.out.but g3 (fun q => q))
  have G3 := Lib.hid (G2.out.trans g3)
  clear B2 G2 g3 k0 k1 hbl
  have HP := Lib.hid (show ∀ w', But (fun _ => False) w3 w' → w'.cell? ⟨b, 0, none⟩ = some (.int .i64 k) ∧ w'.cell? ⟨b, 1, none⟩ = some (.int .u64 n) from fun w' h => ⟨(B3.out.but h (fun q => q)).cell 0, (B3.out.but h (fun q => q)).cell 1⟩)
  have TT := Lib.hid (show ∀ w', But (fun _ => False) w3 w' → Tens w' from fun w' h => T.out.keep (G3.out.trans h))
  have eq1 := eqV
  go_wp2_with fail
  go_region_held3 (fun w' => But (fun _ => False) w3 w' ∧ w'.cell? ⟨b, 0, none⟩ = some (.int .i64 k) ∧ w'.cell? ⟨b, 1, none⟩ = some (.int .u64 n))
    (first | assumption | (refine keepN HP.out ?_; first | exact (But.refl _ _).drew | exact (And.left ‹But (fun _ => False) w3 _ ∧ _›).drew | exact keep_step ‹But (fun _ => False) w3 _ ∧ _› (by assumption)))
    (first | (go_at_call 9; refine (alive_any _ (TT.out _ (And.left ‹But (fun _ => False) w3 _ ∧ _›))).mono ?_; rintro e w9 ⟨rfl, g9⟩) | (go_at_call 10; refine (right_is _ HN.out HR.out).mono ?_; rintro e w9 ⟨rfl, g9⟩) | (go_at_call 11; refine (rright_is _ HN.out HR.out).mono ?_; rintro e w9 ⟨rfl, g9⟩) | (go_at_call 12; refine (dec_is _ HX.out HK.out HN2.out).mono ?_; rintro e w9 ⟨rfl, g9⟩) | (go_at_call 13; refine (rdec_is _ HX.out HK.out HN2.out).mono ?_; rintro e w9 ⟨rfl, g9⟩) | (go_at_call 14; refine (text_is _ HN.out (TT.out _ (And.left ‹But (fun _ => False) w3 _ ∧ _›)) HL.out).mono ?_; rintro e w9 ⟨rfl, g9⟩) | (go_at_call 15; refine (rtext_is _ HN.out HL.out).mono ?_; rintro e w9 ⟨rfl, g9⟩))
  go_wp2_with fail
  go_ret
  exact ⟨rfl, G3.out.trans (And.left ‹But (fun _ => False) w3 _ ∧ _›)⟩

end Word
end Go.Proofs.YtldgjmgdbaeglaaDoor
