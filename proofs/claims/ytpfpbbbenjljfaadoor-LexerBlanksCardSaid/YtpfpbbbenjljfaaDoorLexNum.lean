/- The document's number for layer 18 (lexer), walked. -/
import Derived.Test.YtpfpbbbenjljfaaDoorLexHex
set_option linter.unusedVariables false
set_option linter.unusedSimpArgs false
namespace Go.Proofs.YtpfpbbbenjljfaaDoor
open Go.RowKit

namespace Lex

/-- The number that the first bytes are. -/
def decTo (s : ByteArray) : Nat → Int
  | 0 => 0
  | k + 1 => 10 * decTo s k + (bt s k - 48)
theorem decTo_mono {s : ByteArray} {m : Nat} : ∀ {n : Nat}, m ≤ n → (∀ i, i < n → figB (bt s i) = true) → 0 ≤ decTo s m ∧ decTo s m ≤ decTo s n
  | 0, h, hf => by rw [show m = 0 by omega]; exact ⟨Int.le_refl _, Int.le_refl _⟩
  | n + 1, h, hf => by
    have h1 := (figB_iff _).1 (hf n (by omega))
    rcases Nat.lt_or_ge n m with q | q
    · obtain rfl : m = n + 1 := by omega
      have ih := decTo_mono (s := s) (m := 0) (n := n) (by omega) (fun i hi => hf i (by omega))
      have e : decTo s (n + 1) = 10 * decTo s n + (bt s n - 48) := rfl
      have z : decTo s 0 = 0 := rfl
      exact ⟨by omega, Int.le_refl _⟩
    · have ih := decTo_mono (s := s) (m := m) (n := n) q (fun i hi => hf i (by omega))
      have e : decTo s (n + 1) = 10 * decTo s n + (bt s n - 48) := rfl
      exact ⟨ih.1, by omega⟩
/-- What is told of the figures that a text begins with. -/
def numV (s : ByteArray) (n : Nat) : Int × Int := if decTo s n ≤ 18446744073709551615 then (decTo s n, (n : Int)) else (0, 0)
theorem front_is (p : Int → Bool) (s : ByteArray) : ∀ m, m ≤ s.size → (∀ i, i < s.size - m → p (bt s i) = true) → ∃ n, s.size - m ≤ n ∧ Front p s n
  | 0, _, h => ⟨s.size, by omega, ⟨Nat.le_refl _, fun i hi => h i (by omega), fun q => absurd q (Nat.lt_irrefl _)⟩⟩
  | m + 1, hm, h => by
    cases q : p (bt s (s.size - (m + 1))) with
    | false => exact ⟨s.size - (m + 1), Nat.le_refl _, ⟨by omega, h, fun _ => q⟩⟩
    | true =>
      obtain ⟨n, h1, h2⟩ := front_is p s m (by omega) (fun i hi => by
        rcases Nat.lt_or_ge i (s.size - (m + 1)) with r | r
        · exact h i r
        · rw [show i = s.size - (m + 1) by omega]; exact q)
      exact ⟨n, by omega, h2⟩

set_option maxHeartbeats 4000000 in
set_option maxRecDepth 100000 in
theorem ref_number (s : ByteArray) (w : World) (hs : s.size ≤ 1000000000) : Calls Tryd.prog 33 #[.string s] w fun e w' => ∃ n : Nat, Front figB s n ∧ e = .returned (.tuple #[.int .u64 (numV s n).1, .int .i64 (numV s n).2]) ∧ w' = w := by
  go_enter Tryd.func33, Tryd.ntmps33
  go_wp2_with fail
  go_loopg [4, 5] s.size (fun k uv iv wr => ∃ j : Nat, j + k = s.size ∧ iv = .int .i64 j ∧ uv = .int .u64 (decTo s j) ∧ (∀ i, i < j → figB (bt s i) = true) ∧ decTo s j ≤ 18446744073709551615 ∧ wr = w)
  case atStart => exact ⟨0, by omega, rfl, rfl, fun i hi => absurd hi (Nat.not_lt_zero i), (show (0 : Int) ≤ 18446744073709551615 by decide), rfl⟩
  case round =>
    obtain ⟨j, hj, rfl, rfl, hall, hmx, rfl⟩ := hrel
    have hmn := (decTo_mono (s := s) (m := j) (n := j) (Nat.le_refl _) hall).1
    have HALL := Lib.hid hall
    obtain ⟨u, hu⟩ : ∃ u, decTo s j = u := ⟨_, rfl⟩
    rw [hu] at hmx hmn ⊢
    have HU := Lib.hid hu
    clear hall hu
    by_cases hlt : j < s.size
    · have hji : (j : Int) < s.size := by omega
      have hb := bt_in hlt
      have hbb := bt_bd s j
      obtain ⟨c, hc⟩ : ∃ c, bt s j = c := ⟨_, rfl⟩
      rw [hc] at hb hbb
      have HC := Lib.hid hc
      clear hc
      cases h1 : figB c with
      | false =>
        have H1 := Lib.hid h1
        have HV := Lib.hid (show numV s j = (u, (j : Int)) by unfold numV; rw [HU.out, if_pos hmx])
        have HF := Lib.hid (show Front figB s j from ⟨by omega, HALL.out, fun _ => by rw [HC.out]; exact h1⟩)
        clear h1
        go_wp2_with fail
        rw [← hb]
        refine (ref_figure c _ hbb).mono ?_
        rintro e wa ⟨rfl, rfl⟩
        rw [H1.out]
        go_wp2_with fail
        go_ret2
        exact ⟨j, HF.out, by rw [HV.out]; rfl, rfl⟩
      | true =>
        have H1 := Lib.hid h1
        have hcb := (figB_iff c).1 h1
        have hsb : (48 : Int) ≤ ((s[j]'hlt).toNat : Int) ∧ ((s[j]'hlt).toNat : Int) ≤ 57 := by omega
        obtain ⟨hsb1, hsb2⟩ := hsb
        have hnext : decTo s (j + 1) = 10 * u + (c - 48) := by
          show 10 * decTo s j + (bt s j - 48) = _
          rw [HU.out, HC.out]
        have HNX := Lib.hid hnext
        have HNA := Lib.hid (show ∀ i, i < j + 1 → figB (bt s i) = true from fun i hi => by
          rcases Nat.lt_or_ge i j with r | r
          · exact HALL.out i r
          · obtain rfl : i = j := by omega
            rw [HC.out]; exact h1)
        clear h1 hnext
        by_cases hov : 10 * u + (c - 48) ≤ 18446744073709551615
        · have g1 : ¬ 1844674407370955161 < u := by omega
          by_cases g2 : u = 1844674407370955161
          · have g3 : ¬ (5 : Int) < ((s[j]'hlt).toNat : Int) - 48 := by omega
            have g2' : (u == 1844674407370955161) = true := by simp [g2]
            go_wp2_with fail
            rw [← hb]
            refine (ref_figure c _ hbb).mono ?_
            rintro e wa ⟨rfl, rfl⟩
            rw [H1.out]
            go_wp2_with fail
            go_roundg (s.size - (j + 1))
            case measure => omega
            case rel => exact ⟨j + 1, by omega, by go_num, by rw [HNX.out]; congr 1; omega, HNA.out, by rw [HNX.out]; exact hov, rfl⟩
          · have g2' : (u == 1844674407370955161) = false := by simp [g2]
            go_wp2_with fail
            rw [← hb]
            refine (ref_figure c _ hbb).mono ?_
            rintro e wa ⟨rfl, rfl⟩
            rw [H1.out]
            go_wp2_with fail
            go_roundg (s.size - (j + 1))
            case measure => omega
            case rel => exact ⟨j + 1, by omega, by go_num, by rw [HNX.out]; congr 1; omega, HNA.out, by rw [HNX.out]; exact hov, rfl⟩
        · obtain ⟨n, hn1, hF⟩ := front_is figB s (s.size - (j + 1)) (by omega) (fun i hi => HNA.out i (by omega))
          have HF := Lib.hid hF
          have HV := Lib.hid (show numV s n = (0, 0) by
            unfold numV
            have := (decTo_mono (s := s) (m := j + 1) (n := n) (by omega) hF.all).2
            rw [HNX.out] at this
            rw [if_neg (by omega)])
          clear hF
          by_cases g1 : 1844674407370955161 < u
          · go_wp2_with fail
            rw [← hb]
            refine (ref_figure c _ hbb).mono ?_
            rintro e wa ⟨rfl, rfl⟩
            rw [H1.out]
            go_wp2_with fail
            go_ret2
            exact ⟨n, HF.out, by rw [HV.out]; rfl, rfl⟩
          · have g2 : u = 1844674407370955161 := by omega
            have g2' : (u == 1844674407370955161) = true := by simp [g2]
            have g3 : (5 : Int) < ((s[j]'hlt).toNat : Int) - 48 := by omega
            go_wp2_with fail
            rw [← hb]
            refine (ref_figure c _ hbb).mono ?_
            rintro e wa ⟨rfl, rfl⟩
            rw [H1.out]
            go_wp2_with fail
            go_ret2
            exact ⟨n, HF.out, by rw [HV.out]; rfl, rfl⟩
    · have hje : j = s.size := by omega
      have hji : ¬ (j : Int) < s.size := by omega
      have HV := Lib.hid (show numV s s.size = (u, (s.size : Int)) by unfold numV; rw [← hje, HU.out, if_pos hmx])
      have HF := Lib.hid (show Front figB s s.size from ⟨Nat.le_refl _, by rw [← hje]; exact HALL.out, fun q => absurd q (Nat.lt_irrefl _)⟩)
      go_wp2_with fail
      go_ret2
      exact ⟨s.size, HF.out, by rw [HV.out]; rfl, rfl⟩

end Lex
end Go.Proofs.YtpfpbbbenjljfaaDoor
