/- The document's layer 4, walked. -/
import Derived.Test.YtldgjmgdbaeglaaDoorWordWalks
set_option linter.unusedVariables false
set_option linter.unusedSimpArgs false
namespace Go.Proofs.YtldgjmgdbaeglaaDoor
open Go.RowKit

namespace Word

theorem dec_small {m : Nat} (h : m < 10) : Lib.decDigits m = [UInt8.ofNat (48 + m)] := by rw [Lib.decDigits, dif_pos h]
theorem dec_big {m : Nat} (h : ¬ m < 10) : Lib.decDigits m = Lib.decDigits (m / 10) ++ [UInt8.ofNat (48 + m % 10)] := by rw [Lib.decDigits, dif_neg h]

set_option maxHeartbeats 4000000 in
set_option maxRecDepth 100000 in
theorem figs_any (m : Nat) : m < 18446744073709551616 → ∀ w : World, Calls Tryd.prog 28 #[.int .u64 m] w fun e w' => e = .returned (.string ⟨(Lib.decDigits m).toArray⟩) ∧ But (fun _ => False) w w' := by
  induction m using Nat.strongRecOn with
  | ind m ih =>
    intro hm w
    obtain ⟨d, hd⟩ : ∃ d : Nat, d = m % 10 := ⟨_, rfl⟩
    have hd9 : d < 10 := by omega
    have hmd : (m : Int) % 10 = (d : Int) := by omega
    have hmt : (m : Int).tmod 10 = (d : Int) := by rw [Int.tmod_eq_emod_of_nonneg (by omega)]; exact hmd
    obtain ⟨b, hb⟩ : ∃ b : UInt8, UInt8.ofNat (48 + d) = b := ⟨_, rfl⟩
    have hbn : b.toNat = 48 + d := by rw [← hb, UInt8.toNat_ofNat']; omega
    have hcv : (convert 73 9 (.slice (some ⟨w.heap.size, 0, none⟩) 1 1)).run Tryd.prog (w.alloc (.cells #[.int .u8 (48 + (d : Int))] 5)) = .ok (.string ⟨[b].toArray⟩) (w.alloc (.cells #[.int .u8 (48 + (d : Int))] 5)) := by
      refine run_convert_bytes_back (P := Tryd.prog) _ 73 9 5 ⟨w.heap.size, 0, none⟩ 1 [b] Tryd.underlying73 Tryd.underlying5 Tryd.underlying9 (fun j hj => ?_)
      have hj0 : j = 0 := by simpa using hj
      subst hj0
      rw [Lib.add_plain, (Blk.new w #[.int .u8 (48 + (d : Int))] 5).cell]
      show some (Value.int .u8 (48 + (d : Int))) = some (Value.int .u8 ((b.toNat : Nat) : Int))
      rw [hbn]; simp
    have HD := Lib.hid hd
    have HB := Lib.hid hb
    clear hd hb hbn
    by_cases hs : m < 10
    · have E := Lib.hid (show Lib.decDigits m = [b] by rw [dec_small hs, ← HB.out]; congr 2; have := HD.out; omega)
      have hI : (m : Int) < 10 := by omega
      clear ih
      go_enter Tryd.func28, Tryd.ntmps28
      go_wp2_with fail
      go_ret
      exact ⟨by rw [E.out]; rfl, (But.refl _ _).alloc _⟩
    · obtain ⟨q, hqe⟩ : ∃ q : Nat, q = m / 10 := ⟨_, rfl⟩
      have E := Lib.hid (show Lib.decDigits m = Lib.decDigits q ++ [b] by rw [dec_big hs, ← HD.out, hqe, HB.out])
      have hI : ¬ (m : Int) < 10 := by omega
      have hq : (m : Int) / 10 = (q : Int) := by omega
      have hqt : (m : Int).tdiv 10 = (q : Int) := by rw [Int.tdiv_eq_ediv_of_nonneg (by omega)]; exact hq
      have hl := digits_len (m := q) (by omega)
      have IH := Lib.hid (ih q (by omega) (by omega))
      obtain ⟨L, hL⟩ : ∃ L, Lib.decDigits q = L := ⟨_, rfl⟩
      rw [hL] at hl IH E
      clear ih hL hs hqe
      go_enter Tryd.func28, Tryd.ntmps28
      go_wp2_with fail
      refine (IH.out _).mono ?_
      rintro e w3 ⟨rfl, g3⟩
      go_wp2_with fail
      go_ret
      refine ⟨?_, ((But.refl _ _).alloc _).trans g3⟩
      rw [E.out]
      exact ret_eq (congrArg Value.string (ByteArray.ext (by simp [ByteArray.data_append])))

set_option maxHeartbeats 4000000 in
set_option maxRecDepth 100000 in
theorem ref_right (k n : Int) (w : World) (hn : 0 ≤ n ∧ n ≤ 18446744073709551615) :
    Calls Tryd.prog 11 #[.agg #[.int .i64 k, .int .u64 n]] w fun e w' => e = .returned (.bool (vright k n)) ∧ But (fun _ => False) w w' := by
  have G0 := Lib.hid ((But.refl (fun _ => False) w).alloc (.cells #[.int .i64 k, .int .u64 n] 25))
  have B0 := Blk.new w #[.int .i64 k, .int .u64 n] 25
  have k0 := B0.cell 0
  have k1 := B0.cell 1
  have hn1 := hn.1
  have hn2 := hn.2
  clear B0
  by_cases h0 : k = 0
  · have E2 := Lib.hid (show vright k n = decide (n = 0) by unfold vright; rw [Bool.eq_iff_iff, decide_eq_true_iff, decide_eq_true_iff]; omega)
    subst h0
    by_cases hz : n = 0
    · have E3 := Lib.hid (decide_eq_true hz)
      subst hz
      go_enter Tryd.func11, Tryd.ntmps11
      go_wp2_with fail
      go_ret
      exact ⟨by rw [E2.out, E3.out]; rfl, G0.out⟩
    · have E3 := Lib.hid (decide_eq_false hz)
      have hz1 : (n == 0) = false := by simp [hz]
      clear hz
      go_enter Tryd.func11, Tryd.ntmps11
      go_wp2_with fail
      go_ret
      exact ⟨by rw [E2.out, E3.out]; rfl, G0.out⟩
  · have h00 : (k == 0) = false := by simp [h0]
    by_cases h1 : k = 1
    · have E2 := Lib.hid (show vright k n = decide (n ≤ 9223372036854775807) by unfold vright; rw [Bool.eq_iff_iff, decide_eq_true_iff, decide_eq_true_iff]; omega)
      clear h0 h00
      subst h1
      by_cases hz : n ≤ 9223372036854775807
      · have E3 := Lib.hid (decide_eq_true hz)
        go_enter Tryd.func11, Tryd.ntmps11
        go_wp2_with fail
        go_ret
        exact ⟨by rw [E2.out, E3.out]; rfl, G0.out⟩
      · have E3 := Lib.hid (decide_eq_false hz)
        have hz1 : 9223372036854775807 < n := by omega
        clear hz
        go_enter Tryd.func11, Tryd.ntmps11
        go_wp2_with fail
        go_ret
        exact ⟨by rw [E2.out, E3.out]; rfl, G0.out⟩
    · have h11 : (k == 1) = false := by simp [h1]
      by_cases h2 : k = 2
      · have E2 := Lib.hid (show vright k n = decide (n ≤ 9223372036854775806) by unfold vright; rw [Bool.eq_iff_iff, decide_eq_true_iff, decide_eq_true_iff]; omega)
        clear h0 h00 h1 h11
        subst h2
        by_cases hz : n ≤ 9223372036854775806
        · have E3 := Lib.hid (decide_eq_true hz)
          go_enter Tryd.func11, Tryd.ntmps11
          go_wp2_with fail
          go_ret
          exact ⟨by rw [E2.out, E3.out]; rfl, G0.out⟩
        · have E3 := Lib.hid (decide_eq_false hz)
          have hz1 : 9223372036854775806 < n := by omega
          clear hz
          go_enter Tryd.func11, Tryd.ntmps11
          go_wp2_with fail
          go_ret
          exact ⟨by rw [E2.out, E3.out]; rfl, G0.out⟩
      · have h22 : (k == 2) = false := by simp [h2]
        have E2 := Lib.hid (show vright k n = false by unfold vright; rw [decide_eq_false_iff_not]; omega)
        clear h0 h1 h2
        go_enter Tryd.func11, Tryd.ntmps11
        go_wp2_with fail
        go_ret
        exact ⟨by rw [E2.out]; rfl, G0.out⟩

set_option maxHeartbeats 4000000 in
set_option maxRecDepth 100000 in
theorem ref_encode (k n : Int) (w : World) (hn : 0 ≤ n ∧ n ≤ 18446744073709551615) :
    Calls Tryd.prog 8 #[.agg #[.int .i64 k, .int .u64 n]] w fun e w' => e = .returned (.tuple #[.int .u64 (encOf k n).1, .int .i64 (encOf k n).2]) ∧ But (fun _ => False) w w' := by
  have G0 := (But.refl (fun _ => False) w).alloc (.cells #[.int .i64 k, .int .u64 n] 25)
  have B0 := Blk.new w #[.int .i64 k, .int .u64 n] 25
  have k0 := B0.cell 0
  have k1 := B0.cell 1
  go_enter Tryd.func8, Tryd.ntmps8
  go_wp2_with fail
  refine (ref_right k n _ hn).mono ?_
  rintro e w2 ⟨rfl, g2⟩
  have B2 := B0.but g2 (fun q => q)
  have G2 := Lib.hid (G0.trans g2)
  clear k0 k1 G0 B0 g2
  obtain ⟨b, hb⟩ : ∃ b, b = w.heap.size := ⟨_, rfl⟩
  rw [← hb] at B2 ⊢
  clear hb
  have k0 : w2.cell? ⟨b, 0, none⟩ = some (.int .i64 k) := B2.cell 0
  have k1 : w2.cell? ⟨b, 1, none⟩ = some (.int .u64 n) := B2.cell 1
  cases hr : vright k n with
  | false =>
    have E := Lib.hid (show encOf k n = (0, 1) by unfold encOf; rw [hr]; rfl)
    clear hr
    go_wp2_with fail
    go_ret2
    exact ⟨by rw [E.out]; rfl, G2.out⟩
  | true =>
    have E := Lib.hid (show encOf k n = (vword k n, 0) by unfold encOf; rw [if_pos hr])
    rcases vright_parts hr with ⟨rfl, rfl⟩ | ⟨rfl, h⟩ | ⟨rfl, h⟩
    · clear hr
      go_wp2_with fail
      go_ret2
      exact ⟨by rw [E.out]; rfl, G2.out⟩
    · clear hr
      have EV := Lib.hid (show vword 1 n = 2 * n + 1 by unfold vword; rw [if_neg (by decide)])
      have hn1 := hn.1
      go_wp2_with fail
      try go_quiet (fail)
      try go_wp2_with fail
      go_ret2
      exact ⟨by rw [E.out, EV.out]; rfl, (by first | exact G2.out | exact G2.out.drewN _)⟩
    · clear hr
      have EV := Lib.hid (show vword 2 n = 2 * n + 2 by unfold vword; rw [if_neg (by decide)])
      have hn1 := hn.1
      go_wp2_with fail
      try go_quiet (fail)
      try go_wp2_with fail
      go_ret2
      exact ⟨by rw [E.out, EV.out]; rfl, (by first | exact G2.out | exact G2.out.drewN _)⟩

set_option maxHeartbeats 4000000 in
set_option maxRecDepth 100000 in
theorem ref_decode (x : Int) (w : World) (hx : 0 ≤ x ∧ x ≤ 18446744073709551615) :
    Calls Tryd.prog 13 #[.int .u64 x] w fun e w' => e = .returned (.agg #[.int .i64 (decK x), .int .u64 (decN x)]) ∧ But (fun _ => False) w w' := by
  have hx1 := hx.1
  have hx2 := hx.2
  have G0 := Lib.hid ((But.refl (fun _ => False) w).alloc (.cells #[.int .i64 0, .int .u64 0] 25))
  by_cases h0 : x = 0
  · have e1 : decK x = 0 := by unfold decK; rw [if_pos h0]
    have e2 : decN x = 0 := by unfold decN; rw [if_pos h0]
    rw [e1, e2]
    clear e1 e2
    subst h0
    go_enter Tryd.func13, Tryd.ntmps13
    go_wp2_with fail
    exact bodyPost_ret (v := .agg #[.int .i64 0, .int .u64 0]) (by simp [results, Tryd.results13, go_sem]) rfl ⟨rfl, G0.out⟩
  · have h00 : (x == 0) = false := by simp [h0]
    have hdm : x.tdiv 2 = x / 2 := Int.tdiv_eq_ediv_of_nonneg hx1
    have hmm : x.tmod 2 = x % 2 := Int.tmod_eq_emod_of_nonneg hx1
    by_cases h1 : x % 2 = 1
    · have e1 : decK x = 1 := by unfold decK; rw [if_neg h0, if_pos h1]
      have e2 : decN x = x / 2 := by unfold decN; rw [if_neg h0, if_pos h1]
      rw [e1, e2]
      have h11 : (x % 2 == 1) = true := by simp [h1]
      clear e1 e2
      go_enter Tryd.func13, Tryd.ntmps13
      go_wp2_with fail
      exact bodyPost_ret (v := .agg #[.int .i64 1, .int .u64 (x / 2)]) (by simp [results, Tryd.results13, go_sem]) rfl ⟨rfl, (But.refl _ _).alloc _⟩
    · have e1 : decK x = 2 := by unfold decK; rw [if_neg h0, if_neg h1]
      have e2 : decN x = x / 2 - 1 := by unfold decN; rw [if_neg h0, if_neg h1]
      rw [e1, e2]
      have h11 : (x % 2 == 1) = false := by simp [h1]
      have h22 : 1 ≤ x / 2 := by omega
      clear e1 e2
      go_enter Tryd.func13, Tryd.ntmps13
      go_wp2_with fail
      exact bodyPost_ret (v := .agg #[.int .i64 2, .int .u64 (x / 2 - 1)]) (by simp [results, Tryd.results13, go_sem]) rfl ⟨rfl, (But.refl _ _).alloc _⟩

set_option maxHeartbeats 4000000 in
set_option maxRecDepth 100000 in
theorem ref_text (k n : Int) (w : World) (hn : 0 ≤ n ∧ n ≤ 18446744073709551615) :
    Calls Tryd.prog 15 #[.agg #[.int .i64 k, .int .u64 n]] w fun e w' => e = .returned (.string ⟨(textL k n).toArray⟩) ∧ But (fun _ => False) w w' := by
  have G0 := (But.refl (fun _ => False) w).alloc (.cells #[.int .i64 k, .int .u64 n] 25)
  have B0 := Blk.new w #[.int .i64 k, .int .u64 n] 25
  have k0 := B0.cell 0
  have k1 := B0.cell 1
  go_enter Tryd.func15, Tryd.ntmps15
  go_wp2_with fail
  refine (ref_right k n _ hn).mono ?_
  rintro e w2 ⟨rfl, g2⟩
  have B2 := B0.but g2 (fun q => q)
  have G2 := Lib.hid (G0.trans g2)
  clear k0 k1 G0 B0 g2
  obtain ⟨b, hb⟩ : ∃ b, b = w.heap.size := ⟨_, rfl⟩
  rw [← hb] at B2 ⊢
  clear hb
  have k0 : w2.cell? ⟨b, 0, none⟩ = some (.int .i64 k) := B2.cell 0
  have k1 : w2.cell? ⟨b, 1, none⟩ = some (.int .u64 n) := B2.cell 1
  cases hr : vright k n with
  | false =>
    have E := Lib.hid (show textL k n = [] by unfold textL; rw [hr]; rfl)
    clear hr
    go_wp2_with fail
    go_ret
    exact ⟨by rw [E.out]; rfl, G2.out⟩
  | true =>
    have E := Lib.hid (show textL k n = if k = 1 then numL n else if k = 2 then 64 :: numL n else [110, 105, 108] by unfold textL; rw [if_pos hr])
    rcases vright_parts hr with ⟨rfl, rfl⟩ | ⟨rfl, h⟩ | ⟨rfl, h⟩
    · clear hr
      go_wp2_with fail
      go_ret
      exact ⟨by rw [E.out]; rfl, G2.out⟩
    · clear hr
      obtain ⟨m, rfl⟩ : ∃ m : Nat, n = m := ⟨n.toNat, by omega⟩
      go_wp2_with fail
      refine (figs_any m (by omega) _).mono ?_
      rintro e w3 ⟨rfl, g3⟩
      go_wp2_with fail
      go_ret
      exact ⟨by rw [E.out]; rfl, G2.out.trans g3⟩
    · clear hr
      obtain ⟨m, rfl⟩ : ∃ m : Nat, n = m := ⟨n.toNat, by omega⟩
      go_wp2_with fail
      refine (figs_any m (by omega) _).mono ?_
      rintro e w3 ⟨rfl, g3⟩
      obtain ⟨L, hL⟩ : ∃ L, Lib.decDigits m = L := ⟨_, rfl⟩
      have hlen : L.length ≤ 20 := by rw [← hL]; exact digits_len (by omega)
      rw [hL]
      have HL := Lib.hid hL
      clear hL
      go_wp2_with fail
      go_ret
      refine ⟨?_, G2.out.trans g3⟩
      rw [E.out]
      show Ending.returned (.string _) = Ending.returned (.string ⟨(64 :: Lib.decDigits m).toArray⟩)
      rw [HL.out]
      exact ret_eq (congrArg Value.string (ByteArray.ext (by simp [ByteArray.data_append])))

end Word
end Go.Proofs.YtldgjmgdbaeglaaDoor
