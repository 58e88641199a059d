/- The closure of token that knows a figure of base 16, and front with it; the document's name, hex (layer 18): walked. -/
import Derived.Test.YtpfpbbbenjljfaaDoorLexRefName
set_option linter.unusedVariables false
set_option linter.unusedSimpArgs false
namespace Go.Proofs.YtpfpbbbenjljfaaDoor
open Go.RowKit

namespace Lex

def lowB (c : Int) : Bool := decide (97 ≤ c) && decide (c ≤ 102)
def hexB (c : Int) : Bool := figB c || lowB c
theorem lowB_iff (c : Int) : lowB c = true ↔ 97 ≤ c ∧ c ≤ 102 := by simp [lowB]
theorem lowB_not (c : Int) : lowB c = false ↔ c < 97 ∨ 102 < c := by rw [← Bool.not_eq_true, lowB_iff]; omega
theorem hex_high (c : Int) (h : 128 ≤ c) : hexB c = false := by
  unfold hexB
  rw [(figB_not c).2 (.inr (by omega)), (lowB_not c).2 (.inr (by omega))]
  rfl

set_option maxHeartbeats 2000000 in
theorem hexc_any (c : Int) (w : World) : Calls Tryd.prog 26 #[.int .i32 c] w fun e w' => e = .returned (.bool (hexB c)) ∧ w' = w := by
  unfold hexB
  cases h1 : figB c with
  | true =>
    have H1 := Lib.hid h1
    go_enter Tryd.func26, Tryd.ntmps26
    go_wp2_with fail
    refine (figure_any c _).mono ?_
    rintro e wa ⟨rfl, rfl⟩
    rw [H1.out]
    go_wp2_with fail
    go_ret
    exact ⟨rfl, rfl⟩
  | false =>
    have H1 := Lib.hid h1
    by_cases h2 : c < 97
    · rw [(lowB_not c).2 (.inl h2)]
      clear h1
      go_enter Tryd.func26, Tryd.ntmps26
      go_wp2_with fail
      refine (figure_any c _).mono ?_
      rintro e wa ⟨rfl, rfl⟩
      rw [H1.out]
      go_wp2_with fail
      go_ret
      exact ⟨rfl, rfl⟩
    · by_cases h3 : 102 < c
      · rw [(lowB_not c).2 (.inr h3)]
        clear h1
        go_enter Tryd.func26, Tryd.ntmps26
        go_wp2_with fail
        refine (figure_any c _).mono ?_
        rintro e wa ⟨rfl, rfl⟩
        rw [H1.out]
        go_wp2_with fail
        go_ret
        exact ⟨by first | rfl | (simp; omega), rfl⟩
      · rw [(lowB_iff c).2 ⟨by omega, by omega⟩]
        clear h1
        go_enter Tryd.func26, Tryd.ntmps26
        go_wp2_with fail
        refine (figure_any c _).mono ?_
        rintro e wa ⟨rfl, rfl⟩
        rw [H1.out]
        go_wp2_with fail
        go_ret
        exact ⟨rfl, rfl⟩

set_option maxHeartbeats 4000000 in
set_option maxRecDepth 100000 in
theorem front_hex (s : ByteArray) (w : World) (hs : s.size ≤ 1000000000) :
    Calls Tryd.prog 16 #[.string s, .func (.func 26) #[] #[]] w fun e w' => ∃ n : Nat, e = .returned (.int .i64 n) ∧ Front hexB s n ∧ But (fun _ => False) w w' := by
  have hhi := hex_high
  have hp := hexc_any
  go_enter Tryd.func16, Tryd.ntmps16
  go_wp2_with fail
  go_loopg [] s.size (fun k wr => ∃ pos : Nat, pos + k = s.size ∧ (∀ i, i < pos → hexB (bt s i) = true) ∧ wr.heap[w.heap.size]? = some (.stringIter s pos) ∧ Below w.heap.size w wr)
  case atStart => exact ⟨0, by omega, fun i hi => absurd hi (Nat.not_lt_zero i), World.iter_heap w s 0, (Below.refl _ w).alloc (Nat.le_refl _) _⟩
  case round =>
    obtain ⟨pos, hk, hall, hit, hw⟩ := hrel
    have HALL := Lib.hid hall
    have HIT := Lib.hid hit
    have HW := Lib.hid hw
    clear hall hw
    by_cases hlt : pos < s.size
    · by_cases ha : (s[pos]'hlt).toNat < 128
      · have hnx : ∀ ty, (Instr.next (.pointer (some ⟨w.heap.size, 0, none⟩)) true ty).run Tryd.prog wr = _ := fun ty => Lib.run_next_ascii_at wr w.heap.size s pos ty hit hlt ha
        have HB := Lib.hid (bt_in hlt)
        obtain ⟨b, hb⟩ : ∃ b : Nat, (s[pos]'hlt).toNat = b := ⟨_, rfl⟩
        rw [hb] at hnx ha HB
        have W2 := Lib.hid (Lib.iterAt_heap wr w.heap.size s pos (pos + 1) HIT.out)
        have W3 := Lib.hid (Lib.below_iterAt HW.out (k := w.heap.size) (Nat.le_refl _) s (pos + 1))
        clear hit hb
        go_wp2_with fail
        refine (hp (b : Int) _).mono ?_
        rintro e wa ⟨rfl, rfl⟩
        cases hpb : hexB (b : Int) with
        | true =>
          have HP := Lib.hid hpb
          clear hpb
          go_wp2_with fail
          go_roundg (s.size - (pos + 1))
          case measure => omega
          case rel =>
            refine ⟨pos + 1, by omega, fun i hi => ?_, W2.out, W3.out⟩
            rcases Nat.lt_or_ge i pos with q | q
            · exact HALL.out i q
            · obtain rfl : i = pos := by omega
              rw [HB.out]; exact HP.out
        | false =>
          have HP := Lib.hid hpb
          clear hpb
          go_wp2_with fail
          go_ret
          exact ⟨pos, rfl, ⟨by omega, HALL.out, fun _ => by rw [HB.out]; exact HP.out⟩, But.of_below W3.out _⟩
      · have hnx : ∀ ty, (Instr.next (.pointer (some ⟨w.heap.size, 0, none⟩)) true ty).run Tryd.prog wr = _ := fun ty => Lib.run_next_any_at wr w.heap.size s pos ty hit hlt
        have hd1 := decode_le s pos
        have hd2 := (decode_high s pos hlt (by omega)).1
        have HB := Lib.hid (show hexB (bt s pos) = false by rw [bt_in hlt]; exact hhi _ (by omega))
        have W3 := Lib.hid (Lib.below_iterAt HW.out (k := w.heap.size) (Nat.le_refl _) s (pos + (Utf8.decode s pos).2))
        have hpd := hhi (Utf8.decode s pos).1 (by omega)
        clear hit ha
        go_wp2_with fail
        refine (hp _ _).mono ?_
        rintro e wa ⟨rfl, rfl⟩
        rw [hpd]
        go_wp2_with fail
        go_ret
        exact ⟨pos, rfl, ⟨by omega, HALL.out, fun _ => HB.out⟩, But.of_below W3.out _⟩
    · have hnx : ∀ ty, (Instr.next (.pointer (some ⟨w.heap.size, 0, none⟩)) true ty).run Tryd.prog wr = _ := fun ty => Lib.run_next_end_at wr w.heap.size s pos ty hit hlt
      clear hit
      have hpe : pos = s.size := by omega
      go_wp2_with fail
      go_ret
      exact ⟨s.size, rfl, ⟨Nat.le_refl _, by rw [← hpe]; exact HALL.out, fun q => absurd q (Nat.lt_irrefl _)⟩, But.of_below HW.out _⟩

set_option maxHeartbeats 4000000 in
set_option maxRecDepth 100000 in
theorem ref_hex (s : ByteArray) (w : World) (hs : s.size ≤ 1000000000) : Calls Tryd.prog 31 #[.string s] w fun e w' => ∃ n : Nat, e = .returned (.int .i64 n) ∧ Front hexB s n ∧ w' = w := by
  go_enter Tryd.func31, Tryd.ntmps31
  go_wp2_with fail
  go_loopg [3] s.size (fun k iv wr => ∃ j : Nat, j + k = s.size ∧ iv = .int .i64 j ∧ (∀ i, i < j → hexB (bt s i) = true) ∧ wr = w)
  case atStart => exact ⟨0, by omega, rfl, fun i hi => absurd hi (Nat.not_lt_zero i), rfl⟩
  case round =>
    obtain ⟨j, hj, rfl, hall, rfl⟩ := hrel
    have HALL := Lib.hid hall
    clear hall
    by_cases hlt : j < s.size
    · have hji : (j : Int) < s.size := by omega
      have hb := bt_in hlt
      have hbb := bt_bd s j
      obtain ⟨c, hc⟩ : ∃ c, bt s j = c := ⟨_, rfl⟩
      rw [hc] at hb hbb
      have HNX := Lib.hid (show hexB c = true → ∀ i, i < j + 1 → hexB (bt s i) = true from fun q i hi => by
        rcases Nat.lt_or_ge i j with r | r
        · exact HALL.out i r
        · obtain rfl : i = j := by omega
          rw [hc]; exact q)
      have HST := Lib.hid (show hexB c = false → Front hexB s j from fun q => ⟨by omega, HALL.out, fun _ => by rw [hc]; exact q⟩)
      clear hc
      cases h1 : figB c with
      | true =>
        have H1 := Lib.hid h1
        have HV := Lib.hid (show hexB c = true by unfold hexB; rw [h1]; rfl)
        clear h1
        go_wp2_with fail
        rw [← hb]
        refine (ref_figure c _ hbb).mono ?_
        rintro e wa ⟨rfl, rfl⟩
        rw [H1.out]
        go_wp2_with fail
        go_roundg (s.size - (j + 1))
        case measure => omega
        case rel => exact ⟨j + 1, by omega, by go_num, HNX.out HV.out, rfl⟩
      | false =>
        have H1 := Lib.hid h1
        by_cases h2 : c < 97
        · have HV := Lib.hid (show hexB c = false by unfold hexB; rw [h1, (lowB_not c).2 (.inl h2)]; rfl)
          have h2' : ¬ (97 : Int) ≤ ((s[j]'hlt).toNat : Int) := by omega
          clear h1
          go_wp2_with fail
          rw [← hb]
          refine (ref_figure c _ hbb).mono ?_
          rintro e wa ⟨rfl, rfl⟩
          rw [H1.out]
          go_wp2_with fail
          go_ret
          exact ⟨j, rfl, HST.out HV.out, rfl⟩
        · have h2' : (97 : Int) ≤ ((s[j]'hlt).toNat : Int) := by omega
          by_cases h3 : 102 < c
          · have HV := Lib.hid (show hexB c = false by unfold hexB; rw [h1, (lowB_not c).2 (.inr h3)]; rfl)
            have h3' : ¬ ((s[j]'hlt).toNat : Int) ≤ 102 := by omega
            clear h1
            go_wp2_with fail
            rw [← hb]
            refine (ref_figure c _ hbb).mono ?_
            rintro e wa ⟨rfl, rfl⟩
            rw [H1.out]
            go_wp2_with fail
            go_ret
            exact ⟨j, rfl, HST.out HV.out, rfl⟩
          · have HV := Lib.hid (show hexB c = true by unfold hexB; rw [h1, (lowB_iff c).2 ⟨by omega, by omega⟩]; rfl)
            have h3' : ((s[j]'hlt).toNat : Int) ≤ 102 := by omega
            clear h1
            go_wp2_with fail
            rw [← hb]
            refine (ref_figure c _ hbb).mono ?_
            rintro e wa ⟨rfl, rfl⟩
            rw [H1.out]
            go_wp2_with fail
            go_roundg (s.size - (j + 1))
            case measure => omega
            case rel => exact ⟨j + 1, by omega, by go_num, HNX.out HV.out, rfl⟩
    · have hje : j = s.size := by omega
      have hji : ¬ (j : Int) < s.size := by omega
      go_wp2_with fail
      go_ret
      exact ⟨s.size, rfl, ⟨Nat.le_refl _, by rw [← hje]; exact HALL.out, fun q => absurd q (Nat.lt_irrefl _)⟩, rfl⟩

theorem bt_pre {s : ByteArray} {m i : Nat} (hm : m ≤ s.size) (hi : i < m) : bt (s.extract 0 m) i = bt s i := by
  have h1 : i < s.size := by omega
  have h2 : i < (s.extract 0 m).size := by rw [ByteArray.size_extract]; omega
  rw [bt_in h1, bt_in h2]
  congr 2
  rw [ByteArray.getElem_extract]
  simp
theorem size_pre {s : ByteArray} {m : Nat} (hm : m ≤ s.size) : (s.extract 0 m).size = m := by rw [ByteArray.size_extract]; omega
theorem name_pre {s : ByteArray} {m : Nat} (hm : m + 1 ≤ s.size) : nameB (s.extract 0 (m + 1)) = true ↔ ∀ i, i < m + 1 → okAt s i = true := by
  rw [nameB_ok, size_pre hm]
  have e : ∀ i, i < m + 1 → okAt (s.extract 0 (m + 1)) i = okAt s i := fun i hi => by unfold okAt; rw [bt_pre hm hi]
  constructor
  · rintro ⟨-, h⟩ i hi
    rw [← e i hi]; exact h i hi
  · intro h
    exact ⟨by omega, fun i hi => by rw [e i hi]; exact h i hi⟩
/-- So many bytes of a name a text begins with. -/
structure NameTo (s : ByteArray) (n : Nat) : Prop where
  le : n ≤ s.size
  all : ∀ i, i < n → okAt s i = true
  stop : n < s.size → okAt s n = false

set_option maxHeartbeats 4000000 in
set_option maxRecDepth 100000 in
theorem ref_nameTo (s : ByteArray) (w : World) (hs : s.size ≤ 100000000) : Calls Tryd.prog 30 #[.string s] w fun e w' => ∃ n : Nat, e = .returned (.int .i64 n) ∧ NameTo s n ∧ w' = w := by
  go_enter Tryd.func30, Tryd.ntmps30
  go_wp2_with fail
  go_loopg [3] s.size (fun k iv wr => ∃ j : Nat, j + k = s.size ∧ iv = .int .i64 j ∧ (∀ i, i < j → okAt s i = true) ∧ wr = w)
  case atStart => exact ⟨0, by omega, rfl, fun i hi => absurd hi (Nat.not_lt_zero i), rfl⟩
  case round =>
    obtain ⟨j, hj, rfl, hall, rfl⟩ := hrel
    have HALL := Lib.hid hall
    clear hall
    by_cases hlt : j < s.size
    · have hji : (j : Int) < s.size := by omega
      have hji2 : (j : Int) + 1 ≤ s.size := by omega
      have HP := Lib.hid (name_pre (s := s) (m := j) (by omega))
      have hnm := fun w => ref_name (s.extract 0 (j + 1)) w (by rw [size_pre (by omega)]; omega)
      have HNM := Lib.hid hnm
      clear hnm
      cases hn : nameB (s.extract 0 (j + 1)) with
      | true =>
        have HT := Lib.hid (HP.out.1 hn)
        have HN := Lib.hid hn
        clear hn
        go_wp2_with fail
        refine (HNM.out _).mono ?_
        rintro e wa ⟨rfl, rfl⟩
        rw [HN.out]
        go_wp2_with fail
        go_roundg (s.size - (j + 1))
        case measure => omega
        case rel => exact ⟨j + 1, by omega, by go_num, HT.out, rfl⟩
      | false =>
        have HT := Lib.hid (show okAt s j = false by
          cases q : okAt s j with
          | false => rfl
          | true =>
            rw [HP.out.2 (fun i hi => by
              rcases Nat.lt_or_ge i j with r | r
              · exact HALL.out i r
              · obtain rfl : i = j := by omega
                exact q)] at hn
            cases hn)
        have HN := Lib.hid hn
        clear hn
        go_wp2_with fail
        refine (HNM.out _).mono ?_
        rintro e wa ⟨rfl, rfl⟩
        rw [HN.out]
        go_wp2_with fail
        go_ret
        exact ⟨j, rfl, ⟨by omega, HALL.out, fun _ => HT.out⟩, rfl⟩
    · have hje : j = s.size := by omega
      have hji : ¬ (j : Int) < s.size := by omega
      go_wp2_with fail
      go_ret
      exact ⟨s.size, rfl, ⟨Nat.le_refl _, by rw [← hje]; exact HALL.out, fun q => absurd q (Nat.lt_irrefl _)⟩, rfl⟩

end Lex
end Go.Proofs.YtpfpbbbenjljfaaDoor
