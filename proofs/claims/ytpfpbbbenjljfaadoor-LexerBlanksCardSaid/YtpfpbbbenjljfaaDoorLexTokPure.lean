/- A token that a text begins with (layer 18): plain. -/
import Derived.Test.YtpfpbbbenjljfaaDoorLexDec
import Derived.Test.YtpfpbbbenjljfaaDoorHandleParse2
set_option linter.unusedVariables false
set_option linter.unusedSimpArgs false
namespace Go.Proofs.YtpfpbbbenjljfaaDoor
open Go.RowKit

namespace Lex

/-- How many bytes are so from the front on. -/
noncomputable def fr (p : Int → Bool) (s : ByteArray) : Nat := Classical.choose (front_is p s s.size (Nat.le_refl _) (fun i hi => absurd hi (by omega)))
theorem fr_is (p : Int → Bool) (s : ByteArray) : Front p s (fr p s) := (Classical.choose_spec (front_is p s s.size (Nat.le_refl _) (fun i hi => absurd hi (by omega)))).2
theorem Front.is {p : Int → Bool} {s : ByteArray} {n : Nat} (h : Front p s n) : n = fr p s := h.one (fr_is p s)

/-- All but the first byte. -/
def rest (s : ByteArray) : ByteArray := s.extract 1 s.size
theorem rest_size (s : ByteArray) : (rest s).size = s.size - 1 := by unfold rest; rw [ByteArray.size_extract]; omega
theorem bt_out {s : ByteArray} {i : Nat} (h : s.size ≤ i) : bt s i = 0 := by unfold bt; rw [dif_neg (by omega)]
theorem bt_rest (s : ByteArray) (i : Nat) : bt (rest s) i = bt s (i + 1) := by
  rcases Nat.lt_or_ge (i + 1) s.size with h | h
  · unfold rest
    have h2 : i < (s.extract 1 s.size).size := by rw [ByteArray.size_extract]; omega
    rw [bt_in h, bt_in h2]
    congr 2
    rw [ByteArray.getElem_extract]
    congr 1
    omega
  · rw [bt_out h, bt_out (by rw [rest_size]; omega)]
theorem front_rest {p : Int → Bool} {s : ByteArray} {m : Nat} (h0 : 0 < s.size) (h : Front p (rest s) m) (hp : p (bt s 0) = true) : Front p s (m + 1) := by
  have hl := h.le
  rw [rest_size] at hl
  refine ⟨by omega, fun i hi => ?_, fun q => ?_⟩
  · rcases i with _ | i
    · exact hp
    · rw [← bt_rest]; exact h.all i (by omega)
  · rw [← bt_rest]; exact h.stop (by rw [rest_size]; omega)

/-- What a token has, and how many bytes. -/
structure Tk where
  kind : Int
  text : ByteArray
  num : Int
  n : Nat
deriving DecidableEq
def Tk.none : Tk := ⟨0, ⟨#[]⟩, 0, 0⟩
/-- Figures of base 16 behind the first byte. -/
noncomputable def hexOf (s : ByteArray) : ByteArray := s.extract 1 (fr hexB (rest s) + 1)
noncomputable def tok (s : ByteArray) : Tk :=
  if bt s 0 = 61 then ⟨4, ⟨#[]⟩, 0, 1⟩
  else if letB (bt s 0) = true then ⟨0, s.extract 0 (fr eitB (rest s) + 1), 0, fr eitB (rest s) + 1⟩
  else if bt s 0 = 36 then if 0 < fr eitB (rest s) ∧ letB (bt s 1) = true then ⟨1, s.extract 1 (fr eitB (rest s) + 1), 0, fr eitB (rest s) + 1⟩ else .none
  else if bt s 0 = 35 then if (Handle.parse (hexOf s)).2 = 0 then ⟨3, ⟨#[]⟩, (Handle.parse (hexOf s)).1, 17⟩ else .none
  else if figB (bt s 0) = true then if decTo s (fr figB s) ≤ 18446744073709551615 then ⟨2, ⟨#[]⟩, decTo s (fr figB s), fr figB s⟩ else .none
  else .none
theorem letB_ne {c : Int} (h : letB c = true) : c ≠ 61 ∧ c ≠ 36 ∧ c ≠ 35 ∧ figB c = false := by
  have := (letB_iff c).1 h
  exact ⟨by omega, by omega, by omega, (figB_not c).2 (by omega)⟩
theorem figB_ne {c : Int} (h : figB c = true) : c ≠ 61 ∧ c ≠ 36 ∧ c ≠ 35 ∧ letB c = false := by
  have := (figB_iff c).1 h
  exact ⟨by omega, by omega, by omega, (letB_not c).2 (by omega)⟩
theorem tok_eq {s : ByteArray} (h : bt s 0 = 61) : tok s = ⟨4, ⟨#[]⟩, 0, 1⟩ := by unfold tok; rw [if_pos h]
theorem tok_let {s : ByteArray} (h : letB (bt s 0) = true) : tok s = ⟨0, s.extract 0 (fr eitB (rest s) + 1), 0, fr eitB (rest s) + 1⟩ := by
  unfold tok; rw [if_neg (letB_ne h).1, if_pos h]
theorem tok_ref {s : ByteArray} (h : bt s 0 = 36) (h1 : 0 < fr eitB (rest s)) (h2 : letB (bt s 1) = true) : tok s = ⟨1, s.extract 1 (fr eitB (rest s) + 1), 0, fr eitB (rest s) + 1⟩ := by
  unfold tok; rw [h, if_neg (by decide), if_neg (by decide), if_pos rfl, if_pos ⟨h1, h2⟩]
theorem tok_ref_no {s : ByteArray} (h : bt s 0 = 36) (h1 : ¬ (0 < fr eitB (rest s) ∧ letB (bt s 1) = true)) : tok s = .none := by
  unfold tok; rw [h, if_neg (by decide), if_neg (by decide), if_pos rfl, if_neg h1]
theorem tok_hex {s : ByteArray} (h : bt s 0 = 35) (h1 : (Handle.parse (hexOf s)).2 = 0) : tok s = ⟨3, ⟨#[]⟩, (Handle.parse (hexOf s)).1, 17⟩ := by
  unfold tok; rw [h, if_neg (by decide), if_neg (by decide), if_neg (by decide), if_pos rfl, if_pos h1]
theorem tok_hex_no {s : ByteArray} (h : bt s 0 = 35) (h1 : (Handle.parse (hexOf s)).2 ≠ 0) : tok s = .none := by
  unfold tok; rw [h, if_neg (by decide), if_neg (by decide), if_neg (by decide), if_pos rfl, if_neg h1]
theorem tok_num {s : ByteArray} (h : figB (bt s 0) = true) (h1 : decTo s (fr figB s) ≤ 18446744073709551615) : tok s = ⟨2, ⟨#[]⟩, decTo s (fr figB s), fr figB s⟩ := by
  have g := figB_ne h
  unfold tok; rw [if_neg g.1, if_neg (by rw [g.2.2.2]; decide), if_neg g.2.1, if_neg g.2.2.1, if_pos h, if_pos h1]
theorem tok_num_no {s : ByteArray} (h : figB (bt s 0) = true) (h1 : ¬ decTo s (fr figB s) ≤ 18446744073709551615) : tok s = .none := by
  have g := figB_ne h
  unfold tok; rw [if_neg g.1, if_neg (by rw [g.2.2.2]; decide), if_neg g.2.1, if_neg g.2.2.1, if_pos h, if_neg h1]
theorem tok_other {s : ByteArray} (h1 : bt s 0 ≠ 61) (h2 : letB (bt s 0) = false) (h3 : bt s 0 ≠ 36) (h4 : bt s 0 ≠ 35) (h5 : figB (bt s 0) = false) : tok s = .none := by
  unfold tok; rw [if_neg h1, if_neg (by rw [h2]; decide), if_neg h3, if_neg h4, if_neg (by rw [h5]; decide)]

theorem hexOf_size (s : ByteArray) : (hexOf s).size = fr hexB (rest s) := by
  have := (fr_is hexB (rest s)).le
  rw [rest_size] at this
  unfold hexOf
  rw [ByteArray.size_extract]
  omega
theorem parse_size {s : ByteArray} (h : (Handle.parse s).2 = 0) : s.size = 16 := by
  unfold Handle.parse at h
  split at h
  · rename_i q; exact q.1
  · cases h
theorem hex_len {s : ByteArray} (h : (Handle.parse (hexOf s)).2 = 0) : fr hexB (rest s) = 16 := by rw [← hexOf_size]; exact parse_size h
/-- A token is a part of its text. -/
theorem tok_le {s : ByteArray} (h0 : 0 < s.size) : (tok s).n ≤ s.size := by
  have e := (fr_is eitB (rest s)).le
  have x := (fr_is hexB (rest s)).le
  have f := (fr_is figB s).le
  rw [rest_size] at e x
  by_cases h1 : bt s 0 = 61
  · rw [tok_eq h1]; exact h0
  by_cases h2 : letB (bt s 0) = true
  · rw [tok_let h2]; show fr eitB (rest s) + 1 ≤ _; omega
  have h2' : letB (bt s 0) = false := by simpa using h2
  by_cases h3 : bt s 0 = 36
  · by_cases q : 0 < fr eitB (rest s) ∧ letB (bt s 1) = true
    · rw [tok_ref h3 q.1 q.2]; show fr eitB (rest s) + 1 ≤ _; omega
    · rw [tok_ref_no h3 q]; exact Nat.zero_le _
  by_cases h4 : bt s 0 = 35
  · by_cases q : (Handle.parse (hexOf s)).2 = 0
    · rw [tok_hex h4 q]
      have := hex_len q
      show 17 ≤ _
      omega
    · rw [tok_hex_no h4 q]; exact Nat.zero_le _
  by_cases h5 : figB (bt s 0) = true
  · by_cases q : decTo s (fr figB s) ≤ 18446744073709551615
    · rw [tok_num h5 q]; exact f
    · rw [tok_num_no h5 q]; exact Nat.zero_le _
  · rw [tok_other h1 h2' h3 h4 (by simpa using h5)]; exact Nat.zero_le _
theorem fig_pos {s : ByteArray} (h0 : 0 < s.size) (h : figB (bt s 0) = true) : 0 < fr figB s := by
  rcases Nat.eq_zero_or_pos (fr figB s) with q | q
  · have := (fr_is figB s).stop (by omega)
    rw [q, h] at this; cases this
  · exact q
/-- What a token's number is. -/
theorem tok_num_bd (s : ByteArray) : 0 ≤ (tok s).num ∧ (tok s).num ≤ 18446744073709551615 := by
  have z : 0 ≤ (Tk.none).num ∧ (Tk.none).num ≤ 18446744073709551615 := by decide
  have z0 : (0 : Int) ≤ 0 ∧ (0 : Int) ≤ 18446744073709551615 := by decide
  unfold tok
  split
  · exact z0
  split
  · exact z0
  split
  · split
    · exact z0
    · exact z
  split
  · split
    · rename_i q
      have hs := parse_size q
      unfold Handle.parse at q ⊢
      split at q
      · rename_i r
        rw [if_pos r]
        have := Handle.wordTo_bd r.2
        exact ⟨this.1, by have := this.2; show Handle.wordTo _ 16 ≤ _; omega⟩
      · cases q
    · exact z
  split
  · split
    · rename_i q
      exact ⟨(decTo_mono (s := s) (m := fr figB s) (n := fr figB s) (Nat.le_refl _) (fr_is figB s).all).1, q⟩
    · exact z
  · exact z

end Lex
end Go.Proofs.YtpfpbbbenjljfaaDoor
