/- The live question of layer 22 (names), walked: it answers true. -/
import Derived.Test.YtgbcbadccahfcaaNamesFill
set_option linter.unusedVariables false
set_option linter.unusedSimpArgs false
namespace Go.Proofs.Ytgbcbadccahfcaa
open Go.RowKit

namespace Names
open Lex

abbrev sa : ByteArray := ⟨#[97]⟩
abbrev sc : ByteArray := ⟨#[99, 49]⟩
abbrev sb : ByteArray := ⟨#[98]⟩
abbrev s1c : ByteArray := ⟨#[49, 99]⟩
/-- A book in memory, new since w0. -/
structure Nw (b mb : Nat) (L : List Wd) (w0 w : World) : Prop where
  bk : Bk b mb L w
  but : But (fun _ => False) w0 w
  nb : w0.heap.size ≤ b ∧ w0.heap.size ≤ mb
theorem Nw.keep {b mb : Nat} {L : List Wd} {w0 w w' : World} (h : Nw b mb L w0 w) (g : But (fun _ => False) w w') : Nw b mb L w0 w' := ⟨h.bk.keep g, h.but.trans g, h.nb⟩
theorem n_bind {b mb : Nat} {L L' : List Wd} {w0 w : World} {s : ByteArray} {n e : Int} (h : Nw b mb L w0 w) (hs : s.size ≤ 1000000000) (hL : L.length ≤ 1000000) (h1 : (if nameB s = true then pt L s n else L) = L') (h2 : (if nameB s = true then (0 : Int) else 1) = e) :
    Calls Try.prog 7 #[.pointer (some ⟨b, 0, none⟩), .string s, .int .u64 n] w fun r w' => r = .returned (.int .i64 e) ∧ Nw b mb L' w0 w' := by
  have hb := bind_any h.bk s n hs hL
  rw [h1, h2] at hb
  exact hb.mono fun r w' ⟨a, B, g⟩ => ⟨a, B, h.but.trans' g (fun k hk => .inr (by rw [hk]; exact h.nb.2)), h.nb⟩

theorem two_sorted {L : List Wd} {ss : List (List UInt8)} (h : Sorted L ss) (hk : (keys L).map (fun s => s.data.toList) = [[97], [99, 49]]) : ss = [[97], [99, 49]] := by
  have hp := h.perm
  rw [hk] at hp
  have hl := hp.length_eq
  match ss, hl with
  | [x, y], _ =>
    have hx : x ∈ [[97], [99, 49]] := hp.mem_iff.1 (by simp)
    have hy : y ∈ [[97], [99, 49]] := hp.mem_iff.1 (by simp)
    have hr : x ≤ y := (List.pairwise_cons.1 h.rise).1 y (by simp)
    simp at hx hy
    rcases hx with rfl | rfl <;> rcases hy with rfl | rfl
    · exfalso
      have : ([99, 49] : List UInt8) ∈ [[97], [97]] := hp.mem_iff.2 (by simp)
      simp at this
    · rfl
    · exact absurd hr (by decide)
    · exfalso
      have : ([97] : List UInt8) ∈ [[99, 49], [99, 49]] := hp.mem_iff.2 (by simp)
      simp at this

set_option maxHeartbeats 4000000 in
set_option maxRecDepth 100000 in
theorem alive_any (w : World) : Calls Try.prog 5 #[] w fun e w' => e = .returned (.bool true) ∧ But (fun _ => False) w w' := by
  have V1 := Lib.hid (show fillV [(sa, 7), (sc, 6)] sc ⟨#[]⟩ 0 2 0 9 0 0 = .tuple #[.agg #[.int .i64 0, .int .i64 2, .int .u64 6, .int .u64 9, .int .i64 0, .int .i64 0], .int .i64 0] by
    unfold fillV; rw [if_pos (by decide +kernel), show (one [(sa, 7), (sc, 6)] sc 0).1 = 6 by decide +kernel, show (one [(sa, 7), (sc, 6)] ⟨#[]⟩ 9).1 = 9 by decide +kernel])
  have V2 := Lib.hid (show fillV [(sa, 7), (sc, 6)] sa sb 0 0 0 0 0 0 = .tuple #[.agg #[.int .i64 0, .int .i64 0, .int .u64 0, .int .u64 0, .int .i64 0, .int .i64 0], .int .i64 9] by
    unfold fillV; rw [if_neg (by decide +kernel)])
  have W1 := Lib.hid (show wordR [(sa, 7), (sc, 6)] sa = (7, 0) by decide +kernel)
  have W2 := Lib.hid (show wordR [(sa, 7), (sc, 6)] sb = (0, 9) by decide +kernel)
  go_enter Try.func5, Try.ntmps5
  go_wp2_with fail
  refine (new_any _).mono ?_
  rintro r w0 ⟨b, mb, rfl, H0, hb, hmb, g0⟩
  have N0 : Nw b mb [] w w0 := ⟨H0, g0, hb, hmb⟩
  clear H0 g0 hb hmb
  go_wp2_with fail
  refine (n_bind (L' := [(sa, 5)]) (e := 0) N0 (by decide) (by decide) (by decide +kernel) (by decide +kernel)).mono ?_
  rintro r w1 ⟨rfl, N1⟩
  go_wp2_with fail
  refine (n_bind (L' := [(sa, 5), (sc, 6)]) (e := 0) N1 (by decide) (by decide) (by decide +kernel) (by decide +kernel)).mono ?_
  rintro r w2 ⟨rfl, N2⟩
  go_wp2_with fail
  refine (n_bind (L' := [(sa, 7), (sc, 6)]) (e := 0) N2 (by decide) (by decide) (by decide +kernel) (by decide +kernel)).mono ?_
  rintro r w3 ⟨rfl, N3⟩
  go_wp2_with fail
  refine (n_bind (L' := [(sa, 7), (sc, 6)]) (e := 1) N3 (by decide) (by decide) (by decide +kernel) (by decide +kernel)).mono ?_
  rintro r w4 ⟨rfl, N4⟩
  clear N0 N1 N2 N3
  go_wp2_with fail
  refine (word_any N4.bk sa).mono ?_
  rintro r wa ⟨rfl, rfl⟩
  rw [W1.out]
  go_wp2_with fail
  refine (word_any N4.bk sb).mono ?_
  rintro r wa ⟨rfl, rfl⟩
  rw [W2.out]
  go_wp2_with fail
  refine (fill_any N4.bk ⟨#[]⟩ sc ⟨#[]⟩ 0 2 0 9 0 0).mono ?_
  rintro r w5 ⟨rfl, g5⟩
  rw [V1.out]
  have N5 := N4.keep g5
  have N6 := N5.keep ((But.refl (fun _ => False) w5).alloc (.cells #[.int .i64 0, .int .i64 2, .int .u64 6, .int .u64 9, .int .i64 0, .int .i64 0] 26))
  have B6 := Blk.new w5 #[.int .i64 0, .int .i64 2, .int .u64 6, .int .u64 9, .int .i64 0, .int .i64 0] 26
  clear N4 N5 g5
  go_wp2_with fail
  obtain ⟨o1, ho1⟩ : ∃ o1, o1 = w5.heap.size := ⟨_, rfl⟩
  rw [← ho1] at B6 ⊢
  clear ho1
  refine (fill_any N6.bk ⟨#[]⟩ sa sb 0 0 0 0 0 0).mono ?_
  rintro r w7 ⟨rfl, g7⟩
  rw [V2.out]
  have N7 := N6.keep g7
  have B7 := B6.but g7 (fun q => q)
  have N8 := N7.keep ((But.refl (fun _ => False) w7).alloc (.cells #[.int .i64 0, .int .i64 0, .int .u64 0, .int .u64 0, .int .i64 0, .int .i64 0] 26))
  have B8 := B7.alloc (.cells #[.int .i64 0, .int .i64 0, .int .u64 0, .int .u64 0, .int .i64 0, .int .i64 0] 26)
  clear N6 N7 B6 B7 g7
  go_wp2_with fail
  refine (names_any N8.bk (by decide)).mono ?_
  rintro r w9 ⟨v, o, ss, rfl, hS, hR, hO, g9⟩
  have hss := two_sorted hS (by decide +kernel)
  subst hss
  have N9 := Lib.hid (N8.keep g9)
  have B9 := B8.but g9 (fun q => q)
  obtain ⟨rb, roff, rcap, rfl, -, -, -, hrc, -⟩ := hR.cells (by decide)
  have e0 : w9.cell? ⟨rb, roff, none⟩ = some (.string sa) := hrc 0 (by decide)
  have e1 : w9.cell? ⟨rb, roff + 1, none⟩ = some (.string sc) := hrc 1 (by decide)
  have c0 : w9.cell? ⟨o1, 0, none⟩ = some (.int .i64 0) := B9.cell 0
  have c1 : w9.cell? ⟨o1, 1, none⟩ = some (.int .i64 2) := B9.cell 1
  have c2 : w9.cell? ⟨o1, 2, none⟩ = some (.int .u64 6) := B9.cell 2
  have c3 : w9.cell? ⟨o1, 3, none⟩ = some (.int .u64 9) := B9.cell 3
  have c4 : w9.cell? ⟨o1, 4, none⟩ = some (.int .i64 0) := B9.cell 4
  have c5 : w9.cell? ⟨o1, 5, none⟩ = some (.int .i64 0) := B9.cell 5
  clear N8 B8 B9 hR hS hO hrc g9
  go_wp2_with fail
  go_ret
  exact ⟨rfl, N9.out.but⟩

end Names
end Go.Proofs.Ytgbcbadccahfcaa
