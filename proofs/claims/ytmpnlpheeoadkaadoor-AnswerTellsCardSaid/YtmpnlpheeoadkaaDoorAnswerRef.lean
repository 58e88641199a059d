/- The document's layer 20, walked: the text of an answer. -/
import Derived.Test.YtmpnlpheeoadkaaDoorAnswerText
set_option linter.unusedVariables false
set_option linter.unusedSimpArgs false
namespace Go.Proofs.YtmpnlpheeoadkaaDoor
open Go.RowKit

namespace Answer
open Word

set_option maxHeartbeats 4000000 in
set_option maxRecDepth 100000 in
theorem figs18 (m : Nat) : m < 18446744073709551616 → ∀ w : World, Calls Tryd.prog 37 #[.int .u64 m] w fun e w' => e = .returned (.string ⟨(Lib.decDigits m).toArray⟩) ∧ But (fun _ => False) w w' := by
  induction m using Nat.strongRecOn with
  | ind m ih =>
    intro hm w
    obtain ⟨d, hd⟩ : ∃ d : Nat, d = m % 10 := ⟨_, rfl⟩
    have hd9 : d < 10 := by omega
    have hmd : (m : Int) % 10 = (d : Int) := by omega
    have hmt : (m : Int).tmod 10 = (d : Int) := by rw [Int.tmod_eq_emod_of_nonneg (by omega)]; exact hmd
    obtain ⟨b, hb⟩ : ∃ b : UInt8, UInt8.ofNat (48 + d) = b := ⟨_, rfl⟩
    have hbn : b.toNat = 48 + d := by rw [← hb, UInt8.toNat_ofNat']; omega
    have hcv : (convert 41 9 (.slice (some ⟨w.heap.size, 0, none⟩) 1 1)).run Tryd.prog (w.alloc (.cells #[.int .u8 (48 + (d : Int))] 5)) = .ok (.string ⟨[b].toArray⟩) (w.alloc (.cells #[.int .u8 (48 + (d : Int))] 5)) := by
      refine run_convert_bytes_back (P := Tryd.prog) _ 41 9 5 ⟨w.heap.size, 0, none⟩ 1 [b] Tryd.underlying41 Tryd.underlying5 Tryd.underlying9 (fun j hj => ?_)
      have hj0 : j = 0 := by simpa using hj
      subst hj0
      rw [Lib.add_plain, (Blk.new w #[.int .u8 (48 + (d : Int))] 5).cell]
      show some (Value.int .u8 (48 + (d : Int))) = some (Value.int .u8 ((b.toNat : Nat) : Int))
      rw [hbn]; simp
    have HD := Lib.hid hd
    have HB := Lib.hid hb
    clear hd hb hbn
    by_cases hs : m < 10
    · have E := Lib.hid (show Lib.decDigits m = [b] by rw [dec_small hs, ← HB.out]; congr 2; have := HD.out; omega)
      have hI : (m : Int) < 10 := by omega
      clear ih
      go_enter Tryd.func37, Tryd.ntmps37
      go_wp2_with fail
      go_ret
      exact ⟨by rw [E.out]; rfl, (But.refl _ _).alloc _⟩
    · obtain ⟨q, hqe⟩ : ∃ q : Nat, q = m / 10 := ⟨_, rfl⟩
      have E := Lib.hid (show Lib.decDigits m = Lib.decDigits q ++ [b] by rw [dec_big hs, ← HD.out, hqe, HB.out])
      have hI : ¬ (m : Int) < 10 := by omega
      have hq : (m : Int) / 10 = (q : Int) := by omega
      have hqt : (m : Int).tdiv 10 = (q : Int) := by rw [Int.tdiv_eq_ediv_of_nonneg (by omega)]; exact hq
      have hl := digits_len (m := q) (by omega)
      have IH := Lib.hid (ih q (by omega) (by omega))
      obtain ⟨L, hL⟩ : ∃ L, Lib.decDigits q = L := ⟨_, rfl⟩
      rw [hL] at hl IH E
      clear ih hL hs hqe
      go_enter Tryd.func37, Tryd.ntmps37
      go_wp2_with fail
      refine (IH.out _).mono ?_
      rintro e w3 ⟨rfl, g3⟩
      go_wp2_with fail
      go_ret
      refine ⟨?_, ((But.refl _ _).alloc _).trans g3⟩
      rw [E.out]
      exact ret_eq (congrArg Value.string (ByteArray.ext (by simp [ByteArray.data_append])))

set_option maxHeartbeats 4000000 in
set_option maxRecDepth 100000 in
theorem tok_num (m : Nat) (hm : m < 18446744073709551616) (w : World) : Calls Tryd.prog 20 #[.agg #[.int .i64 2, .string ⟨#[]⟩, .int .u64 m, .int .i64 0]] w fun r w' => r = .returned (.string ⟨(Lib.decDigits m).toArray⟩) ∧ But (fun _ => False) w w' := by
  have G0 := (But.refl (fun _ => False) w).alloc (.cells #[.int .i64 2, .string ⟨#[]⟩, .int .u64 m, .int .i64 0] 45)
  have B0 := Blk.new w #[.int .i64 2, .string ⟨#[]⟩, .int .u64 m, .int .i64 0] 45
  have k0 := B0.cell 0
  have k1 := B0.cell 1
  have k2 := B0.cell 2
  have kl := B0.lt
  clear B0
  go_enter Tryd.func20, Tryd.ntmps20
  go_wp2_with fail
  refine (figs18 m hm _).mono ?_
  rintro r w2 ⟨rfl, g2⟩
  go_wp2_with fail
  go_ret
  exact ⟨rfl, G0.trans g2⟩

set_option maxHeartbeats 4000000 in
set_option maxRecDepth 100000 in
theorem num_any (m : Nat) (hm : m < 18446744073709551616) (w : World) : Calls Tryd.prog 24 #[.int .u64 m] w fun r w' => r = .returned (.string ⟨(Lib.decDigits m).toArray⟩) ∧ But (fun _ => False) w w' := by
  go_enter Tryd.func24, Tryd.ntmps24
  go_wp2_with fail
  refine (tok_num m hm _).mono ?_
  rintro r w2 ⟨rfl, g2⟩
  go_wp2_with fail
  go_ret
  exact ⟨rfl, g2⟩

set_option maxHeartbeats 8000000 in
set_option maxRecDepth 100000 in
theorem ref_name (e : Int) (w : World) (h1 : 1 ≤ e) (h9 : e ≤ 9) : Calls Tryd.prog 23 #[.int .i64 e] w fun r w' => r = .returned (.string ⟨(errL e).toArray⟩) ∧ But (fun _ => False) w w' := by
  have hcases : e = 1 ∨ e = 2 ∨ e = 3 ∨ e = 4 ∨ e = 5 ∨ e = 6 ∨ e = 7 ∨ e = 8 ∨ e = 9 := by omega
  clear h1 h9
  rcases hcases with rfl | rfl | rfl | rfl | rfl | rfl | rfl | rfl | rfl
  all_goals
    go_enter Tryd.func23, Tryd.ntmps23
    go_wp2_with fail
    go_ret
    exact ⟨rfl, But.refl _ w⟩

theorem errL_le {e : Int} (h1 : 1 ≤ e) (h9 : e ≤ 9) : (errL e).length ≤ 7 := by
  have hcases : e = 1 ∨ e = 2 ∨ e = 3 ∨ e = 4 ∨ e = 5 ∨ e = 6 ∨ e = 7 ∨ e = 8 ∨ e = 9 := by omega
  rcases hcases with rfl | rfl | rfl | rfl | rfl | rfl | rfl | rfl | rfl <;> decide

set_option maxHeartbeats 8000000 in
set_option maxRecDepth 100000 in
theorem ref_text (e k n : Int) (w : World) (hn : 0 ≤ n ∧ n ≤ 18446744073709551615) :
    Calls Tryd.prog 13 #[.agg #[.int .i64 e, .int .i64 k, .int .u64 n]] w fun r w' => r = .returned (.string ⟨(textL e k n).toArray⟩) ∧ But (fun _ => False) w w' := by
  have G0 := (But.refl (fun _ => False) w).alloc (.cells #[.int .i64 e, .int .i64 k, .int .u64 n] 26)
  have B0 := Blk.new w #[.int .i64 e, .int .i64 k, .int .u64 n] 26
  have k0 := B0.cell 0
  have k1 := B0.cell 1
  have k2 := B0.cell 2
  go_enter Tryd.func13, Tryd.ntmps13
  go_wp2_with fail
  refine (ref_right e k n _ hn).mono ?_
  rintro r w3 ⟨rfl, g3⟩
  have B3 := B0.but g3 (fun q => q)
  have G3 := Lib.hid (G0.trans g3)
  obtain ⟨b, hb⟩ : ∃ b, b = w.heap.size := ⟨_, rfl⟩
  rw [← hb] at B3 ⊢
  clear hb g3 G0 B0 k0 k1 k2
  cases hr : right e k n with
  | false =>
    have E := Lib.hid (textL_no hr)
    clear hr B3
    go_wp2_with fail
    go_ret
    exact ⟨by rw [E.out]; rfl, G3.out⟩
  | true =>
    have E := Lib.hid (show textL e k n = if e = 0 then (if k = 1 then Word.numL n else if k = 2 then 35 :: (Handle.text n).data.toList else [110, 105, 108]) else 33 :: errL e by unfold textL; rw [if_pos hr])
    have k0 : w3.cell? ⟨b, 0, none⟩ = some (.int .i64 e) := B3.cell 0
    have k1 : w3.cell? ⟨b, 1, none⟩ = some (.int .i64 k) := B3.cell 1
    have k2 : w3.cell? ⟨b, 2, none⟩ = some (.int .u64 n) := B3.cell 2
    have kl := B3.lt
    clear B3
    rcases right_cases hr with ⟨rfl, rfl, rfl⟩ | ⟨rfl, rfl⟩ | ⟨rfl, rfl⟩ | ⟨h1, h9, rfl, rfl⟩
    · clear hr
      go_wp2_with fail
      go_ret
      exact ⟨by rw [E.out]; rfl, G3.out⟩
    · clear hr
      obtain ⟨m, rfl⟩ : ∃ m : Nat, n = m := ⟨n.toNat, by omega⟩
      go_wp2_with fail
      refine (num_any m (by omega) _).mono ?_
      rintro r w4 ⟨rfl, g4⟩
      go_wp2_with fail
      go_ret
      exact ⟨by rw [E.out]; rfl, G3.out.trans g4⟩
    · clear hr
      go_wp2_with fail
      refine (Handle.ref_text n _ hn).mono ?_
      rintro r w4 ⟨rfl, g4⟩
      have hsz : (Handle.text n).size = 16 := text_size n
      obtain ⟨s, hs⟩ : ∃ s, Handle.text n = s := ⟨_, rfl⟩
      rw [hs] at hsz ⊢
      have HS := Lib.hid hs
      have hsl : s.size ≤ 16 := by omega
      clear hs hsz
      go_wp2_with fail
      go_ret
      refine ⟨?_, G3.out.trans g4⟩
      rw [E.out]
      show Ending.returned (.string _) = Ending.returned (.string ⟨(35 :: (Handle.text n).data.toList).toArray⟩)
      rw [HS.out]
      exact ret_eq (congrArg Value.string (ByteArray.ext (by simp [ByteArray.data_append])))
    · clear hr
      have he0 : (e == 0) = false := by simp; omega
      have he1 : (e != 0) = true := by simp; omega
      have hE := Lib.hid (show textL e 0 0 = 33 :: errL e by rw [E.out, if_neg (by omega)])
      have hle := errL_le h1 h9
      clear E
      have HN := Lib.hid (fun w => ref_name e w h1 h9)
      obtain ⟨l, hl⟩ : ∃ l, errL e = l := ⟨_, rfl⟩
      rw [hl] at hE hle HN
      clear hl
      have hlp : 0 < e := by omega
      go_wp2_with fail
      refine (HN.out _).mono ?_
      rintro r w4 ⟨rfl, g4⟩
      go_wp2_with fail
      go_ret
      refine ⟨?_, G3.out.trans g4⟩
      rw [hE.out]
      exact ret_eq (congrArg Value.string (ByteArray.ext (by simp [ByteArray.data_append])))

end Answer
end Go.Proofs.YtmpnlpheeoadkaaDoor
