/- Name of the document's answer for layer 18 (lexer), walked. -/
import Derived.Test.YtpfpbbbenjljfaaDoorLexName
set_option linter.unusedVariables false
set_option linter.unusedSimpArgs false
namespace Go.Proofs.YtpfpbbbenjljfaaDoor
open Go.RowKit

namespace Lex

set_option maxHeartbeats 2000000 in
theorem ref_letter (c : Int) (w : World) (hc : 0 ≤ c ∧ c ≤ 255) : Calls Tryd.prog 18 #[.int .u8 c] w fun e w' => e = .returned (.bool (letB c)) ∧ w' = w := by
  by_cases h1 : c < 97
  · rw [(letB_not c).2 (.inl h1)]
    go_enter Tryd.func18, Tryd.ntmps18
    go_wp2_with fail
    go_ret
    exact ⟨rfl, rfl⟩
  · by_cases h2 : 122 < c
    · rw [(letB_not c).2 (.inr h2)]
      go_enter Tryd.func18, Tryd.ntmps18
      go_wp2_with fail
      go_ret
      exact ⟨by simp; omega, rfl⟩
    · rw [(letB_iff c).2 ⟨by omega, by omega⟩]
      go_enter Tryd.func18, Tryd.ntmps18
      go_wp2_with fail
      go_ret
      exact ⟨rfl, rfl⟩
set_option maxHeartbeats 2000000 in
theorem ref_figure (c : Int) (w : World) (hc : 0 ≤ c ∧ c ≤ 255) : Calls Tryd.prog 19 #[.int .u8 c] w fun e w' => e = .returned (.bool (figB c)) ∧ w' = w := by
  by_cases h1 : c < 48
  · rw [(figB_not c).2 (.inl h1)]
    go_enter Tryd.func19, Tryd.ntmps19
    go_wp2_with fail
    go_ret
    exact ⟨rfl, rfl⟩
  · by_cases h2 : 57 < c
    · rw [(figB_not c).2 (.inr h2)]
      go_enter Tryd.func19, Tryd.ntmps19
      go_wp2_with fail
      go_ret
      exact ⟨by simp; omega, rfl⟩
    · rw [(figB_iff c).2 ⟨by omega, by omega⟩]
      go_enter Tryd.func19, Tryd.ntmps19
      go_wp2_with fail
      go_ret
      exact ⟨rfl, rfl⟩

def okAt (s : ByteArray) (i : Nat) : Bool := letB (bt s i) || (decide (0 < i) && figB (bt s i))
theorem nameB_ok (s : ByteArray) : nameB s = true ↔ 0 < s.size ∧ ∀ i, i < s.size → okAt s i = true := by
  rw [nameB_iff]
  constructor
  · rintro ⟨h1, h2, h3⟩
    refine ⟨h1, fun i hi => ?_⟩
    unfold okAt
    rcases Nat.eq_zero_or_pos i with q | q
    · subst q; rw [h2]; rfl
    · have := h3 i hi
      unfold eitB at this
      rw [decide_eq_true q, Bool.true_and]
      exact this
  · rintro ⟨h1, h2⟩
    refine ⟨h1, ?_, fun i hi => ?_⟩
    · have := h2 0 h1
      unfold okAt at this
      simpa using this
    · have := h2 i hi
      unfold okAt at this
      unfold eitB
      cases q : letB (bt s i) with
      | true => rfl
      | false =>
        rw [q, Bool.false_or, Bool.and_eq_true] at this
        rw [this.2]; rfl

set_option maxHeartbeats 4000000 in
set_option maxRecDepth 100000 in
theorem ref_name (s : ByteArray) (w : World) (hs : s.size ≤ 9223372036854775807) : Calls Tryd.prog 10 #[.string s] w fun e w' => e = .returned (.bool (nameB s)) ∧ w' = w := by
  go_enter Tryd.func10, Tryd.ntmps10
  go_wp2_with fail
  go_loopg [3] s.size (fun k iv wr => ∃ j : Nat, j + k = s.size ∧ iv = .int .i64 j ∧ (∀ i, i < j → okAt s i = true) ∧ wr = w)
  case atStart => exact ⟨0, by omega, rfl, fun i hi => absurd hi (Nat.not_lt_zero i), rfl⟩
  case round =>
    obtain ⟨j, hj, rfl, hall, rfl⟩ := hrel
    have HALL := Lib.hid hall
    clear hall
    by_cases hlt : j < s.size
    · have hji : (j : Int) < s.size := by omega
      have hb := bt_in hlt
      have hbb := bt_bd s j
      have HOK := Lib.hid (show okAt s j = (letB (bt s j) || (decide (0 < j) && figB (bt s j))) from rfl)
      obtain ⟨c, hc⟩ : ∃ c, bt s j = c := ⟨_, rfl⟩
      rw [hc] at hb hbb HOK
      clear hc
      have hgood : okAt s j = true → ∀ i, i < j + 1 → okAt s i = true := fun q i hi => by
        rcases Nat.lt_or_ge i j with r | r
        · exact HALL.out i r
        · obtain rfl : i = j := by omega
          exact q
      have HG := Lib.hid hgood
      have HBAD := Lib.hid (show okAt s j = false → nameB s = false from fun q => by
        rw [← Bool.not_eq_true, nameB_ok]
        rintro ⟨-, r⟩
        rw [r j hlt] at q; cases q)
      clear hgood
      cases h1 : letB c with
      | true =>
        have H1 := Lib.hid h1
        have HO := Lib.hid (show okAt s j = true by rw [HOK.out, h1]; rfl)
        clear h1
        go_wp2_with fail
        rw [← hb]
        refine (ref_letter c _ hbb).mono ?_
        rintro e wa ⟨rfl, rfl⟩
        rw [H1.out]
        go_wp2_with fail
        go_roundg (s.size - (j + 1))
        case measure => omega
        case rel => exact ⟨j + 1, by omega, by go_num, HG.out HO.out, rfl⟩
      | false =>
        have H1 := Lib.hid h1
        by_cases hz : 0 < j
        · have hzi : (0 : Int) < j := by omega
          cases h2 : figB c with
          | true =>
            have H2 := Lib.hid h2
            have HO := Lib.hid (show okAt s j = true by rw [HOK.out, h1, h2, decide_eq_true hz]; rfl)
            clear h1 h2
            go_wp2_with fail
            rw [← hb]
            refine (ref_letter c _ hbb).mono ?_
            rintro e wa ⟨rfl, rfl⟩
            rw [H1.out]
            go_wp2_with fail
            rw [← hb]
            refine (ref_figure c _ hbb).mono ?_
            rintro e wa ⟨rfl, rfl⟩
            rw [H2.out]
            go_wp2_with fail
            go_roundg (s.size - (j + 1))
            case measure => omega
            case rel => exact ⟨j + 1, by omega, by go_num, HG.out HO.out, rfl⟩
          | false =>
            have H2 := Lib.hid h2
            have HO := Lib.hid (show nameB s = false from HBAD.out (by rw [HOK.out, h1, h2, decide_eq_true hz]; rfl))
            clear h1 h2
            go_wp2_with fail
            rw [← hb]
            refine (ref_letter c _ hbb).mono ?_
            rintro e wa ⟨rfl, rfl⟩
            rw [H1.out]
            go_wp2_with fail
            rw [← hb]
            refine (ref_figure c _ hbb).mono ?_
            rintro e wa ⟨rfl, rfl⟩
            rw [H2.out]
            go_wp2_with fail
            go_ret
            exact ⟨by rw [HO.out]; first | rfl | simp, rfl⟩
        · have hzi : ¬ (0 : Int) < j := by omega
          have HO := Lib.hid (show nameB s = false from HBAD.out (by rw [HOK.out, h1, decide_eq_false hz]; rfl))
          clear h1
          go_wp2_with fail
          rw [← hb]
          refine (ref_letter c _ hbb).mono ?_
          rintro e wa ⟨rfl, rfl⟩
          rw [H1.out]
          go_wp2_with fail
          go_ret
          exact ⟨by rw [HO.out]; first | rfl | simp, rfl⟩
    · have hje : j = s.size := by omega
      by_cases hz : 0 < s.size
      · have hzi : (0 : Int) < s.size := by omega
        have HO := Lib.hid (show nameB s = true from (nameB_ok s).2 ⟨hz, by rw [← hje]; exact HALL.out⟩)
        go_wp2_with fail
        go_ret
        exact ⟨by rw [HO.out]; first | rfl | simp [hz], rfl⟩
      · have hzi : ¬ (0 : Int) < s.size := by omega
        have HO := Lib.hid (show nameB s = false from nameB_no (.inl (by omega)))
        go_wp2_with fail
        go_ret
        exact ⟨by rw [HO.out]; first | rfl | (simp; done) | (simp; omega), rfl⟩

end Lex
end Go.Proofs.YtpfpbbbenjljfaaDoor
