/- front and Name of package lexer, walked. -/
import Derived.Test.YtpfpbbbenjljfaaDoorRows
import Derived.Test.YtpfpbbbenjljfaaDoorWords
import Derived.Test.YtpfpbbbenjljfaaDoorLexPure
import Derived.IntWalk
set_option linter.unusedVariables false
set_option linter.unusedSimpArgs false
namespace Go.Proofs.YtpfpbbbenjljfaaDoor
open Go.RowKit

namespace Lex

set_option maxHeartbeats 2000000 in
theorem letter_any (c : Int) (w : World) : Calls Tryd.prog 15 #[.int .i32 c] w fun e w' => e = .returned (.bool (letB c)) ∧ w' = w := by
  by_cases h1 : c < 97
  · rw [(letB_not c).2 (.inl h1)]
    go_enter Tryd.func15, Tryd.ntmps15
    go_wp2_with fail
    go_ret
    exact ⟨rfl, rfl⟩
  · by_cases h2 : 122 < c
    · rw [(letB_not c).2 (.inr h2)]
      go_enter Tryd.func15, Tryd.ntmps15
      go_wp2_with fail
      go_ret
      exact ⟨by simp; omega, rfl⟩
    · rw [(letB_iff c).2 ⟨by omega, by omega⟩]
      go_enter Tryd.func15, Tryd.ntmps15
      go_wp2_with fail
      go_ret
      exact ⟨rfl, rfl⟩
set_option maxHeartbeats 2000000 in
theorem figure_any (c : Int) (w : World) : Calls Tryd.prog 27 #[.int .i32 c] w fun e w' => e = .returned (.bool (figB c)) ∧ w' = w := by
  by_cases h1 : c < 48
  · rw [(figB_not c).2 (.inl h1)]
    go_enter Tryd.func27, Tryd.ntmps27
    go_wp2_with fail
    go_ret
    exact ⟨rfl, rfl⟩
  · by_cases h2 : 57 < c
    · rw [(figB_not c).2 (.inr h2)]
      go_enter Tryd.func27, Tryd.ntmps27
      go_wp2_with fail
      go_ret
      exact ⟨by simp; omega, rfl⟩
    · rw [(figB_iff c).2 ⟨by omega, by omega⟩]
      go_enter Tryd.func27, Tryd.ntmps27
      go_wp2_with fail
      go_ret
      exact ⟨rfl, rfl⟩
set_option maxHeartbeats 2000000 in
theorem either_any (c : Int) (w : World) : Calls Tryd.prog 17 #[.int .i32 c] w fun e w' => e = .returned (.bool (eitB c)) ∧ w' = w := by
  unfold eitB
  cases h1 : letB c <;> cases h2 : figB c
  all_goals
    go_enter Tryd.func17, Tryd.ntmps17
    go_wp2_with fail
    refine (letter_any c _).mono ?_
    rintro e wa ⟨rfl, rfl⟩
    rw [h1]
    go_wp2_with fail
    first
      | (go_ret; exact ⟨rfl, rfl⟩)
      | (refine (figure_any c _).mono ?_
         rintro e wb ⟨rfl, rfl⟩
         rw [h2]
         go_wp2_with fail
         go_ret
         exact ⟨rfl, rfl⟩)

theorem eit_high (c : Int) (h : 128 ≤ c) : eitB c = false := by
  unfold eitB
  rw [(letB_not c).2 (.inr (by omega)), (figB_not c).2 (.inr (by omega))]
  rfl
theorem fig_high (c : Int) (h : 128 ≤ c) : figB c = false := (figB_not c).2 (.inr (by omega))

set_option maxHeartbeats 4000000 in
set_option maxRecDepth 100000 in
theorem front_either (s : ByteArray) (w : World) (hs : s.size ≤ 1000000000) :
    Calls Tryd.prog 16 #[.string s, .func (.func 17) #[] #[]] w fun e w' => ∃ n : Nat, e = .returned (.int .i64 n) ∧ Front eitB s n ∧ But (fun _ => False) w w' := by
  have hhi := eit_high
  have hp := either_any
  go_enter Tryd.func16, Tryd.ntmps16
  go_wp2_with fail
  go_loopg [] s.size (fun k wr => ∃ pos : Nat, pos + k = s.size ∧ (∀ i, i < pos → eitB (bt s i) = true) ∧ wr.heap[w.heap.size]? = some (.stringIter s pos) ∧ Below w.heap.size w wr)
  case atStart => exact ⟨0, by omega, fun i hi => absurd hi (Nat.not_lt_zero i), World.iter_heap w s 0, (Below.refl _ w).alloc (Nat.le_refl _) _⟩
  case round =>
    obtain ⟨pos, hk, hall, hit, hw⟩ := hrel
    have HALL := Lib.hid hall
    have HIT := Lib.hid hit
    have HW := Lib.hid hw
    clear hall hw
    by_cases hlt : pos < s.size
    · by_cases ha : (s[pos]'hlt).toNat < 128
      · have hnx : ∀ ty, (Instr.next (.pointer (some ⟨w.heap.size, 0, none⟩)) true ty).run Tryd.prog wr = _ := fun ty => Lib.run_next_ascii_at wr w.heap.size s pos ty hit hlt ha
        have HB := Lib.hid (bt_in hlt)
        obtain ⟨b, hb⟩ : ∃ b : Nat, (s[pos]'hlt).toNat = b := ⟨_, rfl⟩
        rw [hb] at hnx ha HB
        have W2 := Lib.hid (Lib.iterAt_heap wr w.heap.size s pos (pos + 1) HIT.out)
        have W3 := Lib.hid (Lib.below_iterAt HW.out (k := w.heap.size) (Nat.le_refl _) s (pos + 1))
        clear hit hb
        go_wp2_with fail
        refine (hp (b : Int) _).mono ?_
        rintro e wa ⟨rfl, rfl⟩
        cases hpb : eitB (b : Int) with
        | true =>
          have HP := Lib.hid hpb
          clear hpb
          go_wp2_with fail
          go_roundg (s.size - (pos + 1))
          case measure => omega
          case rel =>
            refine ⟨pos + 1, by omega, fun i hi => ?_, W2.out, W3.out⟩
            rcases Nat.lt_or_ge i pos with q | q
            · exact HALL.out i q
            · obtain rfl : i = pos := by omega
              rw [HB.out]; exact HP.out
        | false =>
          have HP := Lib.hid hpb
          clear hpb
          go_wp2_with fail
          go_ret
          exact ⟨pos, rfl, ⟨by omega, HALL.out, fun _ => by rw [HB.out]; exact HP.out⟩, But.of_below W3.out _⟩
      · have hnx : ∀ ty, (Instr.next (.pointer (some ⟨w.heap.size, 0, none⟩)) true ty).run Tryd.prog wr = _ := fun ty => Lib.run_next_any_at wr w.heap.size s pos ty hit hlt
        have hd1 := decode_le s pos
        have hd2 := (decode_high s pos hlt (by omega)).1
        have HB := Lib.hid (show eitB (bt s pos) = false by rw [bt_in hlt]; exact hhi _ (by omega))
        have W3 := Lib.hid (Lib.below_iterAt HW.out (k := w.heap.size) (Nat.le_refl _) s (pos + (Utf8.decode s pos).2))
        have hpd := hhi (Utf8.decode s pos).1 (by omega)
        clear hit ha
        go_wp2_with fail
        refine (hp _ _).mono ?_
        rintro e wa ⟨rfl, rfl⟩
        rw [hpd]
        go_wp2_with fail
        go_ret
        exact ⟨pos, rfl, ⟨by omega, HALL.out, fun _ => HB.out⟩, But.of_below W3.out _⟩
    · have hnx : ∀ ty, (Instr.next (.pointer (some ⟨w.heap.size, 0, none⟩)) true ty).run Tryd.prog wr = _ := fun ty => Lib.run_next_end_at wr w.heap.size s pos ty hit hlt
      clear hit
      have hpe : pos = s.size := by omega
      go_wp2_with fail
      go_ret
      exact ⟨s.size, rfl, ⟨Nat.le_refl _, by rw [← hpe]; exact HALL.out, fun q => absurd q (Nat.lt_irrefl _)⟩, But.of_below HW.out _⟩

set_option maxHeartbeats 4000000 in
set_option maxRecDepth 100000 in
theorem front_figure (s : ByteArray) (w : World) (hs : s.size ≤ 1000000000) :
    Calls Tryd.prog 16 #[.string s, .func (.func 27) #[] #[]] w fun e w' => ∃ n : Nat, e = .returned (.int .i64 n) ∧ Front figB s n ∧ But (fun _ => False) w w' := by
  have hhi := fig_high
  have hp := figure_any
  go_enter Tryd.func16, Tryd.ntmps16
  go_wp2_with fail
  go_loopg [] s.size (fun k wr => ∃ pos : Nat, pos + k = s.size ∧ (∀ i, i < pos → figB (bt s i) = true) ∧ wr.heap[w.heap.size]? = some (.stringIter s pos) ∧ Below w.heap.size w wr)
  case atStart => exact ⟨0, by omega, fun i hi => absurd hi (Nat.not_lt_zero i), World.iter_heap w s 0, (Below.refl _ w).alloc (Nat.le_refl _) _⟩
  case round =>
    obtain ⟨pos, hk, hall, hit, hw⟩ := hrel
    have HALL := Lib.hid hall
    have HIT := Lib.hid hit
    have HW := Lib.hid hw
    clear hall hw
    by_cases hlt : pos < s.size
    · by_cases ha : (s[pos]'hlt).toNat < 128
      · have hnx : ∀ ty, (Instr.next (.pointer (some ⟨w.heap.size, 0, none⟩)) true ty).run Tryd.prog wr = _ := fun ty => Lib.run_next_ascii_at wr w.heap.size s pos ty hit hlt ha
        have HB := Lib.hid (bt_in hlt)
        obtain ⟨b, hb⟩ : ∃ b : Nat, (s[pos]'hlt).toNat = b := ⟨_, rfl⟩
        rw [hb] at hnx ha HB
        have W2 := Lib.hid (Lib.iterAt_heap wr w.heap.size s pos (pos + 1) HIT.out)
        have W3 := Lib.hid (Lib.below_iterAt HW.out (k := w.heap.size) (Nat.le_refl _) s (pos + 1))
        clear hit hb
        go_wp2_with fail
        refine (hp (b : Int) _).mono ?_
        rintro e wa ⟨rfl, rfl⟩
        cases hpb : figB (b : Int) with
        | true =>
          have HP := Lib.hid hpb
          clear hpb
          go_wp2_with fail
          go_roundg (s.size - (pos + 1))
          case measure => omega
          case rel =>
            refine ⟨pos + 1, by omega, fun i hi => ?_, W2.out, W3.out⟩
            rcases Nat.lt_or_ge i pos with q | q
            · exact HALL.out i q
            · obtain rfl : i = pos := by omega
              rw [HB.out]; exact HP.out
        | false =>
          have HP := Lib.hid hpb
          clear hpb
          go_wp2_with fail
          go_ret
          exact ⟨pos, rfl, ⟨by omega, HALL.out, fun _ => by rw [HB.out]; exact HP.out⟩, But.of_below W3.out _⟩
      · have hnx : ∀ ty, (Instr.next (.pointer (some ⟨w.heap.size, 0, none⟩)) true ty).run Tryd.prog wr = _ := fun ty => Lib.run_next_any_at wr w.heap.size s pos ty hit hlt
        have hd1 := decode_le s pos
        have hd2 := (decode_high s pos hlt (by omega)).1
        have HB := Lib.hid (show figB (bt s pos) = false by rw [bt_in hlt]; exact hhi _ (by omega))
        have W3 := Lib.hid (Lib.below_iterAt HW.out (k := w.heap.size) (Nat.le_refl _) s (pos + (Utf8.decode s pos).2))
        have hpd := hhi (Utf8.decode s pos).1 (by omega)
        clear hit ha
        go_wp2_with fail
        refine (hp _ _).mono ?_
        rintro e wa ⟨rfl, rfl⟩
        rw [hpd]
        go_wp2_with fail
        go_ret
        exact ⟨pos, rfl, ⟨by omega, HALL.out, fun _ => HB.out⟩, But.of_below W3.out _⟩
    · have hnx : ∀ ty, (Instr.next (.pointer (some ⟨w.heap.size, 0, none⟩)) true ty).run Tryd.prog wr = _ := fun ty => Lib.run_next_end_at wr w.heap.size s pos ty hit hlt
      clear hit
      have hpe : pos = s.size := by omega
      go_wp2_with fail
      go_ret
      exact ⟨s.size, rfl, ⟨Nat.le_refl _, by rw [← hpe]; exact HALL.out, fun q => absurd q (Nat.lt_irrefl _)⟩, But.of_below HW.out _⟩

set_option maxHeartbeats 4000000 in
set_option maxRecDepth 100000 in
theorem name_any (s : ByteArray) (w : World) (hs : s.size ≤ 1000000000) : Calls Tryd.prog 9 #[.string s] w fun e w' => e = .returned (.bool (nameB s)) ∧ But (fun _ => False) w w' := by
  by_cases hz : s.size = 0
  · rw [nameB_no (.inl hz)]
    have he : s.toList.isEmpty = true := (nonempty_iff s).2 hz
    clear hz
    go_enter Tryd.func9, Tryd.ntmps9
    go_wp2_with fail
    go_ret
    exact ⟨rfl, But.refl _ w⟩
  · have he : s.toList.isEmpty = false := by rw [← Bool.not_eq_true, nonempty_iff]; exact hz
    have hz0 : 0 < s.size := by omega
    have hb := bt_in hz0
    have hbb := bt_bd s 0
    obtain ⟨c, hc⟩ : ∃ c, bt s 0 = c := ⟨_, rfl⟩
    rw [hc] at hb hbb
    cases hl : letB c with
    | false =>
      rw [nameB_no (.inr (by rw [hc]; exact hl))]
      have HL := Lib.hid hl
      clear hl hc
      go_enter Tryd.func9, Tryd.ntmps9
      go_wp2_with fail
      rw [← hb]
      refine (letter_any c _).mono ?_
      rintro e wa ⟨rfl, rfl⟩
      rw [HL.out]
      go_wp2_with fail
      go_ret
      exact ⟨rfl, But.refl _ _⟩
    | true =>
      have HL := Lib.hid (show letB (bt s 0) = true by rw [hc]; exact hl)
      have HL' := Lib.hid hl
      clear hl hc
      go_enter Tryd.func9, Tryd.ntmps9
      go_wp2_with fail
      rw [← hb]
      refine (letter_any c _).mono ?_
      rintro e wa ⟨rfl, rfl⟩
      rw [HL'.out]
      go_wp2_with fail
      refine (front_either s _ hs).mono ?_
      rintro e wb ⟨n, rfl, hf, g⟩
      have HN := Lib.hid (nameB_front hf hz0 HL.out)
      have HG := Lib.hid g
      have hle := hf.le
      clear hf g
      by_cases hn : n = s.size
      · have hn2 : (n : Int) = s.size := by omega
        go_wp2_with fail
        go_ret
        exact ⟨by rw [HN.out, decide_eq_true hn]; simp [hn], HG.out⟩
      · have hn2 : ¬ (n : Int) = s.size := by omega
        go_wp2_with fail
        go_ret
        exact ⟨by rw [HN.out, decide_eq_false hn]; simp [hn2], HG.out⟩

end Lex
end Go.Proofs.YtpfpbbbenjljfaaDoor
