/- Parse of layer 5, and the document's, walked. -/
import Derived.Test.YtpfpbbbenjljfaaDoorHandleParse
set_option linter.unusedVariables false
set_option linter.unusedSimpArgs false
namespace Go.Proofs.YtpfpbbbenjljfaaDoor
open Go.RowKit

namespace Handle

set_option maxHeartbeats 4000000 in
set_option maxRecDepth 100000 in
theorem ref_parse (s : ByteArray) (w : World) (hs : s.size ≤ 9223372036854775807) : Calls Tryd.prog 32 #[.string s] w fun e w' => e = .returned (.tuple #[.int .u64 (parse s).1, .int .i64 (parse s).2]) ∧ But (fun _ => False) w w' := by
  by_cases h16 : s.size = 16
  · have H16 := Lib.hid h16
    have hsz : (16 : Int) = (s.size : Int) := by omega
    have hlen : ((s.size : Int) != 16) = false := by simp; omega
    clear h16 hsz
    go_enter Tryd.func32, Tryd.ntmps32
    go_wp2_with fail
    go_loopg [4, 5] 16 (fun k wv iv wr => ∃ i : Nat, i + k = 16 ∧ wv = .int .u64 (wordTo s i) ∧ iv = .int .i64 i ∧ okTo s i = true ∧ But (fun _ => False) w wr)
    case atStart => exact ⟨0, by omega, rfl, rfl, rfl, But.refl _ _⟩
    case round =>
      obtain ⟨i, hi, rfl, rfl, hok, hw⟩ := hrel
      have HOK := Lib.hid hok
      have HW := Lib.hid hw
      clear hok hw
      by_cases hlt : i < 16
      · have hwd := wordTo_15 HOK.out (show i ≤ 15 by omega)
        have his : i < s.size := by rw [H16.out]; exact hlt
        obtain ⟨b, hb⟩ : ∃ b : Nat, (s[i]'his).toNat = b := ⟨_, rfl⟩
        obtain ⟨v, hv⟩ : ∃ v, val b = v := ⟨_, rfl⟩
        have HV := Lib.hid (show val (byteAt s i) = v by rw [byteAt_in his, hb, hv])
        have HVB := Lib.hid hv
        have hvb := val_bd b
        rw [hv] at hvb
        obtain ⟨x, hx⟩ : ∃ x, wordTo s i = x := ⟨_, rfl⟩
        rw [hx] at hwd ⊢
        have HX := Lib.hid hx
        clear hv hx
        go_wp2_with fail
        go_loopg [6, 7] 16 (fun k nv kv wr => ∃ m : Nat, m + k = 16 ∧ nv = .int .i64 (if v < (m : Int) then v else 16) ∧ kv = .int .i64 m ∧ But (fun _ => False) w wr)
        case atStart => exact ⟨0, by omega, by rw [if_neg (by omega)], rfl, HW.out⟩
        case round =>
          obtain ⟨m, hm, rfl, rfl, hw2⟩ := hrel
          have HW2 := Lib.hid hw2
          clear hw2
          by_cases hm16 : m < 16
          · obtain ⟨n0, hn0⟩ : ∃ n0, (if v < (m : Int) then v else 16) = n0 := ⟨_, rfl⟩
            rw [hn0]
            have HN := Lib.hid hn0
            clear hn0
            have hmi : (m : Int) < 16 := by omega
            by_cases hvm : v = (m : Int)
            · have he : ((fig (m : Int)).toNat : Int) = (b : Int) := (fig_val hm16).2 (HVB.out.trans hvm)
              go_wp2_with fail
              go_quiet ((go_at_call 34; exact quiet_same (ref_figure _ _ (by omega))))
              go_wp2_with fail
              go_roundg (16 - (m + 1))
              case measure => omega
              case rel => exact ⟨m + 1, by omega, by rw [if_pos (by omega)]; congr 1; omega, by go_num, HW2.out.drewN _⟩
            · have he : (((fig (m : Int)).toNat : Int) == (b : Int)) = false := by
                rw [beq_eq_false_iff_ne]; intro q; exact hvm (HVB.out.symm.trans ((fig_val hm16).1 q))
              go_wp2_with fail
              go_quiet ((go_at_call 34; exact quiet_same (ref_figure _ _ (by omega))))
              go_wp2_with fail
              go_roundg (16 - (m + 1))
              case measure => omega
              case rel => exact ⟨m + 1, by omega, by rw [← HN.out]; congr 1; split <;> (split <;> omega), by go_num, HW2.out.drewN _⟩
          · have hm2 : m = 16 := by omega
            subst hm2
            rw [show (if v < ((16 : Nat) : Int) then v else 16) = v by split <;> omega]
            by_cases hv16 : v = 16
            · have HP := Lib.hid (parse_not his (HV.out.trans hv16))
              go_wp2_with fail
              go_ret2
              exact ⟨by rw [HP.out]; rfl, HW2.out⟩
            · have hv15 : v < 16 := by omega
              go_wp2_with fail
              go_roundg (16 - (i + 1))
              case measure => omega
              case rel => exact ⟨i + 1, by omega, by show _ = Value.int .u64 (16 * wordTo s i + val (byteAt s i)); rw [HX.out, HV.out], by go_num, okTo_succ HOK.out (by rw [HV.out]; omega), HW2.out⟩
      · have hi2 : i = 16 := by omega
        subst hi2
        have HP := Lib.hid (parse_yes H16.out HOK.out)
        go_wp2_with fail
        go_ret2
        exact ⟨by rw [HP.out]; rfl, HW.out⟩
  · have HP := Lib.hid (parse_len h16)
    have hlen : ((s.size : Int) != 16) = true := by simp; omega
    have hne : ¬ (s.size : Int) = 16 := by omega
    clear h16
    go_enter Tryd.func32, Tryd.ntmps32
    go_wp2_with fail
    go_ret2
    exact ⟨by rw [HP.out]; rfl, But.refl _ _⟩

theorem empty_iff (s : ByteArray) : s.toList.isEmpty = true ↔ s.size = 0 := by
  rw [Lib.toList_data, List.isEmpty_iff]
  constructor
  · intro h
    show s.data.size = 0
    rw [← Array.length_toList, h]; rfl
  · intro h
    exact List.eq_nil_of_length_eq_zero (by rw [Array.length_toList]; exact h)

set_option maxHeartbeats 4000000 in
set_option maxRecDepth 100000 in
theorem parse_any (s : ByteArray) (w : World) (hs : s.size ≤ 9223372036854775807) : Calls Tryd.prog 28 #[.string s] w fun e w' => e = .returned (.tuple #[.int .u64 (parse s).1, .int .i64 (parse s).2]) ∧ But (fun _ => False) w w' := by
  go_enter Tryd.func28, Tryd.ntmps28
  go_wp2_with fail
  go_loopg [4] s.size (fun k wv wr => ∃ pos : Nat, pos + k = s.size ∧ wv = .int .u64 (wordTo s pos) ∧ okTo s pos = true ∧ (0 < pos → s.size = 16) ∧ wr.heap[w.heap.size]? = some (.stringIter s pos) ∧ Below w.heap.size w wr)
  case atStart => exact ⟨0, by omega, rfl, rfl, fun h => absurd h (Nat.lt_irrefl 0), World.iter_heap w s 0, (Below.refl _ w).alloc (Nat.le_refl _) _⟩
  case round =>
    obtain ⟨pos, hp, rfl, hok, h16, hit, hw⟩ := hrel
    have HOK := Lib.hid hok
    have H16 := Lib.hid h16
    have HIT := Lib.hid hit
    have HW := Lib.hid hw
    clear hok h16 hw
    by_cases hlt : pos < s.size
    · by_cases ha : (s[pos]'hlt).toNat < 128
      · have hnx : ∀ ty, (Instr.next (.pointer (some ⟨w.heap.size, 0, none⟩)) true ty).run Tryd.prog wr = _ := fun ty => Lib.run_next_ascii_at wr w.heap.size s pos ty hit hlt ha
        obtain ⟨b, hb⟩ : ∃ b : Nat, (s[pos]'hlt).toNat = b := ⟨_, rfl⟩
        rw [hb] at hnx ha
        have HV := Lib.hid (show val (byteAt s pos) = val b by rw [byteAt_in hlt, hb])
        have hix := index_figs ⟨b, ha⟩
        have W2 := Lib.hid (Lib.iterAt_heap wr w.heap.size s pos (pos + 1) HIT.out)
        have W3 := Lib.hid (Lib.below_iterAt HW.out (k := w.heap.size) (Nat.le_refl _) s (pos + 1))
        have HIX := Lib.hid hix
        have hvb := val_bd b
        clear hit hb hix
        go_wp2_with fail
        refine (Shf.strings_IndexRune_ascii figures (b : Int) _ (by omega) (by omega)).mono ?_
        rintro e wa ⟨rfl, rfl⟩
        rw [Int.toNat_natCast, HIX.out]
        by_cases hv16 : val b = 16
        · rw [if_pos hv16]
          have HP := Lib.hid (parse_not hlt (HV.out.trans hv16))
          go_wp2_with fail
          go_ret2
          exact ⟨by rw [HP.out]; rfl, But.of_below W3.out _⟩
        · rw [if_neg hv16]
          obtain ⟨v, hv⟩ : ∃ v, val b = v := ⟨_, rfl⟩
          rw [hv] at hvb hv16 ⊢
          have HVV := Lib.hid hv
          clear hv
          by_cases hs16 : s.size = 16
          · have HS := Lib.hid hs16
            have hwd := wordTo_15 HOK.out (show pos ≤ 15 by omega)
            obtain ⟨x, hx⟩ : ∃ x, wordTo s pos = x := ⟨_, rfl⟩
            rw [hx] at hwd ⊢
            have HXX := Lib.hid hx
            have hor : Go.bits BinOp.or IntKind.u64 (x * 16) v = x * 16 + v := or4 hwd (by omega)
            have hlen : ((s.size : Int) != 16) = false := by simp; omega
            clear hx hs16
            go_wp2_with fail
            go_roundg (s.size - (pos + 1))
            case measure => omega
            case rel => exact ⟨pos + 1, by omega, by show _ = Value.int .u64 (16 * wordTo s pos + val (byteAt s pos)); rw [HXX.out, HV.out, HVV.out]; congr 1; omega, okTo_succ HOK.out (by rw [HV.out, HVV.out]; omega), fun _ => HS.out, W2.out, W3.out⟩
          · have HP := Lib.hid (parse_len hs16)
            have hlen : ((s.size : Int) != 16) = true := by simp; omega
            have hne : ¬ (s.size : Int) = 16 := by omega
            clear hs16
            go_wp2_with fail
            go_ret2
            exact ⟨by rw [HP.out]; rfl, But.of_below W3.out _⟩
      · have hnx : ∀ ty, (Instr.next (.pointer (some ⟨w.heap.size, 0, none⟩)) true ty).run Tryd.prog wr = _ := fun ty => Lib.run_next_any_at wr w.heap.size s pos ty hit hlt
        have hd1 := decode_le s pos
        have hd2 := (decode_high s pos hlt (by omega)).1
        have HP := Lib.hid (parse_not hlt (show val (byteAt s pos) = 16 by rw [byteAt_in hlt]; exact val_high (by omega)))
        have W3 := Lib.hid (Lib.below_iterAt HW.out (k := w.heap.size) (Nat.le_refl _) s (pos + (Utf8.decode s pos).2))
        clear hit ha
        go_wp2_with fail
        refine (index_rune_high _ _ (by omega)).mono ?_
        rintro e wa ⟨rfl, ga⟩
        go_wp2_with fail
        go_ret2
        exact ⟨by rw [HP.out]; rfl, (But.of_below W3.out _).trans ga⟩
    · have hnx : ∀ ty, (Instr.next (.pointer (some ⟨w.heap.size, 0, none⟩)) true ty).run Tryd.prog wr = _ := fun ty => Lib.run_next_end_at wr w.heap.size s pos ty hit hlt
      clear hit
      have hpe : pos = s.size := by omega
      by_cases hz : s.size = 0
      · have HP := Lib.hid (parse_len (s := s) (by omega))
        have hem : s.toList.isEmpty = true := (empty_iff s).2 hz
        go_wp2_with fail
        go_ret2
        exact ⟨by rw [HP.out]; rfl, But.of_below HW.out _⟩
      · have h16 := H16.out (by omega)
        have HP := Lib.hid (parse_yes h16 (by rw [← h16, ← hpe]; exact HOK.out))
        have hem : s.toList.isEmpty = false := by rw [← Bool.not_eq_true, empty_iff]; exact hz
        obtain rfl : pos = 16 := by omega
        go_wp2_with fail
        go_ret2
        exact ⟨by rw [HP.out]; rfl, But.of_below HW.out _⟩

end Handle
end Go.Proofs.YtpfpbbbenjljfaaDoor
