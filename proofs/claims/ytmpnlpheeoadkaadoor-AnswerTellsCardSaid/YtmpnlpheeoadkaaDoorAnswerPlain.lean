/- The plain law of layer 20 (answer): a text is one answer's at most. -/
import Derived.Test.YtmpnlpheeoadkaaDoorAnswerText
import Derived.Test.YtmpnlpheeoadkaaDoorAnswerRef
import Derived.Test.YtmpnlpheeoadkaaDoorHandleLaws
import Derived.Lib.ParseIntBCases
set_option linter.unusedVariables false
set_option linter.unusedSimpArgs false
namespace Go.Proofs.YtmpnlpheeoadkaaDoor
open Go.RowKit

namespace Answer

/-! ### Numerals -/
theorem dec_digit (m : Nat) : ∀ b ∈ Lib.decDigits m, 48 ≤ b.toNat ∧ b.toNat ≤ 57 := by
  induction m using Nat.strongRecOn with
  | ind m ih =>
    intro b hb
    have d : ∀ k, k < 10 → (UInt8.ofNat (48 + k)).toNat = 48 + k := fun k hk => by simp; omega
    by_cases h : m < 10
    · rw [Word.dec_small h] at hb
      have := d m h
      rw [List.mem_singleton.1 hb, this]; omega
    · rw [Word.dec_big h] at hb
      rcases List.mem_append.1 hb with q | q
      · exact ih (m / 10) (by omega) b q
      · have := d (m % 10) (by omega)
        rw [List.mem_singleton.1 q, this]; omega
theorem dec_ne (m : Nat) : Lib.decDigits m ≠ [] := by
  by_cases h : m < 10
  · rw [Word.dec_small h]; simp
  · rw [Word.dec_big h]; simp
theorem parseM_app (M : Nat) : ∀ (l m : List UInt8) (acc a : Nat), Lib.parseUintM M acc l = .ok a → Lib.parseUintM M acc (l ++ m) = Lib.parseUintM M a m
  | [], m, acc, a, h => by
    unfold Lib.parseUintM at h
    cases h
    rfl
  | c :: r, m, acc, a, h => by
    rw [List.cons_append]
    unfold Lib.parseUintM at h
    conv => lhs; unfold Lib.parseUintM
    split at h
    · split at h
      · cases h
      · split at h
        · cases h
        · rename_i h1 h2 h3
          rw [if_pos h1, if_neg h2, if_neg h3]
          exact parseM_app M r m _ a h
    · cases h
theorem parseM_one (M acc k : Nat) (hk : k < 10) (h1 : acc ≤ 1844674407370955161) (h2 : acc * 10 + k ≤ M) : Lib.parseUintM M acc [UInt8.ofNat (48 + k)] = .ok (acc * 10 + k) := by
  have d : (UInt8.ofNat (48 + k)).toNat = 48 + k := by simp; omega
  unfold Lib.parseUintM
  rw [d, if_pos ⟨by omega, by omega⟩, if_neg (by omega), if_neg (by omega)]
  unfold Lib.parseUintM
  rw [show 48 + k - 48 = k by omega]
theorem parseM_dec (m : Nat) (hm : m < 18446744073709551616) : Lib.parseUintM 18446744073709551615 0 (Lib.decDigits m) = .ok m := by
  induction m using Nat.strongRecOn with
  | ind m ih =>
    by_cases h : m < 10
    · rw [Word.dec_small h]
      have := parseM_one 18446744073709551615 0 m h (by omega) (by omega)
      simpa using this
    · rw [Word.dec_big h, parseM_app _ _ _ _ _ (ih (m / 10) (by omega) (by omega)), parseM_one _ _ _ (by omega) (by omega) (by omega)]
      congr 1
      omega
theorem parse_dec (m : Nat) (hm : m < 18446744073709551616) : Lib.parseUintB 64 (Lib.decDigits m) = .ok m := by
  unfold Lib.parseUintB
  rw [if_neg (dec_ne m)]
  exact parseM_dec m hm
theorem dec_inj {m k : Nat} (hm : m < 18446744073709551616) (hk : k < 18446744073709551616) (h : Lib.decDigits m = Lib.decDigits k) : m = k := by
  have h1 := parse_dec m hm
  rw [h, parse_dec k hk] at h1
  cases h1
  rfl

/-! ### Texts -/
theorem errL_inj {e e' : Int} (h1 : 1 ≤ e ∧ e ≤ 9) (h2 : 1 ≤ e' ∧ e' ≤ 9) (h : errL e = errL e') : e = e' := by
  have a : e = 1 ∨ e = 2 ∨ e = 3 ∨ e = 4 ∨ e = 5 ∨ e = 6 ∨ e = 7 ∨ e = 8 ∨ e = 9 := by omega
  have b : e' = 1 ∨ e' = 2 ∨ e' = 3 ∨ e' = 4 ∨ e' = 5 ∨ e' = 6 ∨ e' = 7 ∨ e' = 8 ∨ e' = 9 := by omega
  rcases a with rfl | rfl | rfl | rfl | rfl | rfl | rfl | rfl | rfl <;> rcases b with rfl | rfl | rfl | rfl | rfl | rfl | rfl | rfl | rfl <;> first | rfl | (exfalso; revert h; decide)
theorem text_nil : textL 0 0 0 = [110, 105, 108] := by decide
theorem text_data (n : Int) : textL 0 1 n = Word.numL n := by
  unfold textL
  rw [right_ok, decide_eq_true (by omega), if_pos rfl, if_pos rfl, if_pos rfl]
theorem text_ptr (n : Int) : textL 0 2 n = 35 :: (Handle.text n).data.toList := by
  unfold textL
  rw [right_ok, decide_eq_true (by omega), if_pos rfl, if_pos rfl, if_neg (by decide), if_pos rfl]
theorem text_err {e : Int} (h : 1 ≤ e ∧ e ≤ 9) : textL e 0 0 = 33 :: errL e := by
  unfold textL
  rw [right_err (by omega), decide_eq_true (by omega), if_pos rfl, if_neg (by omega)]
/-- The first byte of a numeral. -/
theorem num_first (n : Int) : ∃ b l, Word.numL n = b :: l ∧ 48 ≤ b.toNat ∧ b.toNat ≤ 57 := by
  unfold Word.numL
  cases h : Lib.decDigits n.toNat with
  | nil => exact absurd h (dec_ne _)
  | cons b l => exact ⟨b, l, rfl, dec_digit n.toNat b (by rw [h]; simp)⟩
theorem handle_inj {n n' : Int} (h1 : 0 ≤ n ∧ n ≤ 18446744073709551615) (h2 : 0 ≤ n' ∧ n' ≤ 18446744073709551615) (h : (Handle.text n).data.toList = (Handle.text n').data.toList) : n = n' := by
  have e : Handle.text n = Handle.text n' := ByteArray.ext (Array.ext' h)
  have a := Handle.parse_text h1
  rw [e, Handle.parse_text h2] at a
  exact (congrArg Prod.fst a).symm
theorem text_inj {e k n e' k' n' : Int} (hn : 0 ≤ n ∧ n ≤ 18446744073709551615) (hn' : 0 ≤ n' ∧ n' ≤ 18446744073709551615) (hr : right e k n = true) (hr' : right e' k' n' = true) (h : textL e k n = textL e' k' n') : e = e' ∧ k = k' ∧ n = n' := by
  have a := right_cases hr
  have b := right_cases hr'
  obtain ⟨c, l, en, c1, c2⟩ := num_first n
  obtain ⟨c', l', en', c1', c2'⟩ := num_first n'
  have hd : ∀ {x y : UInt8} {p q : List UInt8}, x :: p = y :: q → x.toNat = y.toNat := fun q => by cases q; rfl
  rcases a with ⟨rfl, rfl, rfl⟩ | ⟨rfl, rfl⟩ | ⟨rfl, rfl⟩ | ⟨a1, a2, rfl, rfl⟩ <;> rcases b with ⟨rfl, rfl, rfl⟩ | ⟨rfl, rfl⟩ | ⟨rfl, rfl⟩ | ⟨b1, b2, rfl, rfl⟩
  · exact ⟨rfl, rfl, rfl⟩
  · exfalso; rw [text_nil, text_data, en'] at h; have := hd h; simp at this; omega
  · exfalso; rw [text_nil, text_ptr] at h; have := hd h; simp at this
  · exfalso; rw [text_nil, text_err ⟨b1, b2⟩] at h; have := hd h; simp at this
  · exfalso; rw [text_nil, text_data, en] at h; have := hd h; simp at this; omega
  · rw [text_data, text_data] at h
    unfold Word.numL at h
    have := dec_inj (by omega) (by omega) h
    exact ⟨rfl, rfl, by omega⟩
  · exfalso; rw [text_data, text_ptr, en] at h; have := hd h; simp at this; omega
  · exfalso; rw [text_data, text_err ⟨b1, b2⟩, en] at h; have := hd h; simp at this; omega
  · exfalso; rw [text_nil, text_ptr] at h; have := hd h; simp at this
  · exfalso; rw [text_data, text_ptr, en'] at h; have := hd h; simp at this; omega
  · rw [text_ptr, text_ptr] at h
    simp only [List.cons.injEq, true_and] at h
    exact ⟨rfl, rfl, handle_inj hn hn' h⟩
  · exfalso; rw [text_ptr, text_err ⟨b1, b2⟩] at h; have := hd h; simp at this
  · exfalso; rw [text_nil, text_err ⟨a1, a2⟩] at h; have := hd h; simp at this
  · exfalso; rw [text_data, text_err ⟨a1, a2⟩, en'] at h; have := hd h; simp at this; omega
  · exfalso; rw [text_ptr, text_err ⟨a1, a2⟩] at h; have := hd h; simp at this
  · rw [text_err ⟨a1, a2⟩, text_err ⟨b1, b2⟩] at h
    simp only [List.cons.injEq, true_and] at h
    exact ⟨errL_inj ⟨a1, a2⟩ ⟨b1, b2⟩ h, rfl, rfl⟩

/-- What Parse tells of a text: the answer whose text it is; or there is none. -/
def Tells (s : List UInt8) (e k n r : Int) : Prop :=
  (r = 0 ∧ right e k n = true ∧ textL e k n = s ∧ 0 ≤ n ∧ n ≤ 18446744073709551615) ∨
  (r = 2 ∧ e = 0 ∧ k = 0 ∧ n = 0 ∧ ∀ e k n, 0 ≤ n → n ≤ 18446744073709551615 → right e k n = true → textL e k n ≠ s)
theorem Tells.unique {s : List UInt8} {e k n r e' k' n' r' : Int} (h : Tells s e k n r) (h' : Tells s e' k' n' r') : e = e' ∧ k = k' ∧ n = n' ∧ r = r' := by
  rcases h with ⟨rfl, h1, h2, h3, h4⟩ | ⟨rfl, rfl, rfl, rfl, h1⟩ <;> rcases h' with ⟨rfl, g1, g2, g3, g4⟩ | ⟨rfl, rfl, rfl, rfl, g1⟩
  · obtain ⟨rfl, rfl, rfl⟩ := text_inj ⟨h3, h4⟩ ⟨g3, g4⟩ h1 g1 (h2.trans g2.symm)
    exact ⟨rfl, rfl, rfl, rfl⟩
  · exact absurd h2 (g1 _ _ _ h3 h4 h1)
  · exact absurd g2 (h1 _ _ _ g3 g4 g1)
  · exact ⟨rfl, rfl, rfl, rfl⟩

/-- What Guess tells of a text: the only answer that it can be. -/
def Guess (s : List UInt8) (e k n : Int) : Prop :=
  right e k n = true ∧ 0 ≤ n ∧ n ≤ 18446744073709551615 ∧ ∀ e' k' n', 0 ≤ n' → n' ≤ 18446744073709551615 → right e' k' n' = true → textL e' k' n' = s → e' = e ∧ k' = k ∧ n' = n
theorem Guess.of_text {s : List UInt8} {e k n : Int} (hr : right e k n = true) (h0 : 0 ≤ n) (h1 : n ≤ 18446744073709551615) (ht : textL e k n = s) : Guess s e k n :=
  ⟨hr, h0, h1, fun e' k' n' a b c d => text_inj ⟨a, b⟩ ⟨h0, h1⟩ c hr (d.trans ht.symm)⟩
theorem right_errno {e : Int} (h : 1 ≤ e ∧ e ≤ 9) : right e 0 0 = true := by rw [right_err (by omega), decide_eq_true (by omega)]
theorem right_data (n : Int) : right 0 1 n = true := by rw [right_ok, decide_eq_true (by omega)]
theorem right_ptr (n : Int) : right 0 2 n = true := by rw [right_ok, decide_eq_true (by omega)]
theorem right_nil : right 0 0 0 = true := by decide
theorem Guess.err {s : List UInt8} {e : Int} (h : 1 ≤ e ∧ e ≤ 9) (hs : s = 33 :: errL e) : Guess s e 0 0 :=
  Guess.of_text (right_errno h) (by decide) (by decide) (by rw [text_err h, hs])
/-- No error's text. -/
def NoErr (s : List UInt8) : Prop := ∀ e, 1 ≤ e → e ≤ 9 → s ≠ 33 :: errL e
theorem parse_bd (s : ByteArray) : 0 ≤ (Handle.parse s).1 ∧ (Handle.parse s).1 ≤ 18446744073709551615 := by
  unfold Handle.parse
  split
  · rename_i h
    have := Handle.wordTo_bd h.2
    simp only
    omega
  · simp
theorem Guess.ptr {s : List UInt8} {t : ByteArray} (h : s = 35 :: t.data.toList) : Guess s 0 2 (Handle.parse t).1 := by
  have hb := parse_bd t
  refine ⟨right_ptr _, hb.1, hb.2, fun e' k' n' a b c d => ?_⟩
  obtain ⟨x, l, en, c1, c2⟩ := num_first n'
  rw [h] at d
  have hd : ∀ {x y : UInt8} {p q : List UInt8}, x :: p = y :: q → x.toNat = y.toNat := fun q => by cases q; rfl
  rcases right_cases c with ⟨rfl, rfl, rfl⟩ | ⟨rfl, rfl⟩ | ⟨rfl, rfl⟩ | ⟨b1, b2, rfl, rfl⟩
  · exfalso; rw [text_nil] at d; have := hd d; simp at this
  · exfalso; rw [text_data, en] at d; have := hd d; simp at this; omega
  · rw [text_ptr] at d
    simp only [List.cons.injEq, true_and] at d
    have e : Handle.text n' = t := ByteArray.ext (Array.ext' d)
    have := Handle.parse_text ⟨a, b⟩
    rw [e] at this
    exact ⟨rfl, rfl, (congrArg Prod.fst this).symm⟩
  · exfalso; rw [text_err ⟨b1, b2⟩] at d; have := hd d; simp at this
theorem Guess.rest {s : List UInt8} (h1 : NoErr s) (h2 : ∀ l, s ≠ 35 :: l) :
    (∀ u, Lib.parseUintB 64 s = .ok u → Guess s 0 1 u) ∧ ((∀ u, Lib.parseUintB 64 s ≠ .ok u) → Guess s 0 0 0) := by
  refine ⟨fun u hu => ?_, fun hu => ?_⟩
  · have hub := Lib.parseUintB_le hu
    refine ⟨right_data _, by omega, by omega, fun e' k' n' a b c d => ?_⟩
    rcases right_cases c with ⟨rfl, rfl, rfl⟩ | ⟨rfl, rfl⟩ | ⟨rfl, rfl⟩ | ⟨b1, b2, rfl, rfl⟩
    · exfalso; rw [text_nil] at d; rw [← d] at hu; revert hu; unfold Lib.parseUintB; rw [if_neg (by decide)]; unfold Lib.parseUintM; simp
    · rw [text_data] at d
      unfold Word.numL at d
      rw [← d, parse_dec _ (by omega)] at hu
      cases hu
      exact ⟨rfl, rfl, by omega⟩
    · exact absurd (d.symm.trans (text_ptr _)) (h2 _)
    · exact absurd (d.symm.trans (text_err ⟨b1, b2⟩)) (h1 _ b1 b2)
  · refine ⟨right_nil, by decide, by decide, fun e' k' n' a b c d => ?_⟩
    rcases right_cases c with ⟨rfl, rfl, rfl⟩ | ⟨rfl, rfl⟩ | ⟨rfl, rfl⟩ | ⟨b1, b2, rfl, rfl⟩
    · exact ⟨rfl, rfl, rfl⟩
    · exfalso
      rw [text_data] at d
      unfold Word.numL at d
      exact hu _ (by rw [← d]; exact parse_dec _ (by omega))
    · exact absurd (d.symm.trans (text_ptr _)) (h2 _)
    · exact absurd (d.symm.trans (text_err ⟨b1, b2⟩)) (h1 _ b1 b2)
theorem Guess.tells {s : List UInt8} {e k n : Int} (h : Guess s e k n) : (textL e k n = s → Tells s e k n 0) ∧ (textL e k n ≠ s → Tells s 0 0 0 2) := by
  obtain ⟨h1, h2, h3, h4⟩ := h
  refine ⟨fun q => .inl ⟨rfl, h1, q, h2, h3⟩, fun q => .inr ⟨rfl, rfl, rfl, rfl, fun e' k' n' a b c d => ?_⟩⟩
  obtain ⟨rfl, rfl, rfl⟩ := h4 e' k' n' a b c d
  exact q d

end Answer
end Go.Proofs.YtmpnlpheeoadkaaDoor
