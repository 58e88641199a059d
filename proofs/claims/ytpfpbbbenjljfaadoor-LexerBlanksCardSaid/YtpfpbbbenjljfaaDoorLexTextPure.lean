/- A token's text, and the tokens of a line that is laid out (layer 18): plain. -/
import Derived.Test.YtpfpbbbenjljfaaDoorLexBlankPure
import Derived.Test.YtpfpbbbenjljfaaDoorHandleRound
set_option linter.unusedVariables false
set_option linter.unusedSimpArgs false
namespace Go.Proofs.YtpfpbbbenjljfaaDoor
open Go.RowKit

namespace Lex

theorem dec_small {m : Nat} (h : m < 10) : Lib.decDigits m = [UInt8.ofNat (48 + m)] := by rw [Lib.decDigits, dif_pos h]
theorem dec_big {m : Nat} (h : ¬ m < 10) : Lib.decDigits m = Lib.decDigits (m / 10) ++ [UInt8.ofNat (48 + m % 10)] := by rw [Lib.decDigits, dif_neg h]
theorem digits_len {m : Nat} (h : m < 18446744073709551616) : (Lib.decDigits m).length ≤ 20 := by
  rw [Lib.decDigits_length]
  by_cases h1 : 1 ≤ m
  · have := Lib.numDigits_eq m h1 h
    split at this <;> omega
  · obtain rfl : m = 0 := by omega
    rw [Lib.nDigits_small (by decide)]; decide
/-- A number's figures. -/
def decS (m : Nat) : ByteArray := ⟨(Lib.decDigits m).toArray⟩
theorem decS_small {m : Nat} (h : m < 10) : decS m = ⟨#[UInt8.ofNat (48 + m)]⟩ := by unfold decS; rw [dec_small h]
theorem decS_big {m : Nat} (h : ¬ m < 10) : decS m = decS (m / 10) ++ ⟨#[UInt8.ofNat (48 + m % 10)]⟩ := by
  unfold decS
  rw [dec_big h]
  apply ByteArray.ext
  rw [ByteArray.data_append]
  apply Array.ext'
  simp
theorem bt_one (x : UInt8) : bt ⟨#[x]⟩ 0 = (x.toNat : Int) := bt_in (s := ⟨#[x]⟩) (Nat.zero_lt_one)
theorem fig_nat {k : Nat} (h : k < 10) : bt ⟨#[UInt8.ofNat (48 + k)]⟩ 0 = 48 + (k : Int) := by
  rw [bt_one, UInt8.toNat_ofNat']
  omega
theorem decS_pos (m : Nat) : 0 < (decS m).size := by
  by_cases h : m < 10
  · rw [decS_small h]; exact Nat.zero_lt_one
  · rw [decS_big h, app_size]; show 0 < _ + 1; omega
theorem decS_le {m : Nat} (h : m < 18446744073709551616) : (decS m).size ≤ 20 := by
  have := digits_len h
  show (Lib.decDigits m).toArray.size ≤ 20
  rw [List.size_toArray]
  exact this
theorem decS_fig (m : Nat) : (∀ i, i < (decS m).size → figB (bt (decS m) i) = true) ∧ decTo (decS m) (decS m).size = m := by
  induction m using Nat.strongRecOn with
  | ind m ih =>
    by_cases h : m < 10
    · have e := fig_nat h
      rw [decS_small h]
      refine ⟨fun i hi => ?_, ?_⟩
      · obtain rfl : i = 0 := by
          have : i < 1 := hi
          omega
        rw [e, figB_iff]; omega
      · show 10 * 0 + (bt ⟨#[UInt8.ofNat (48 + m)]⟩ 0 - 48) = _
        rw [e]; omega
    · obtain ⟨ih1, ih2⟩ := ih (m / 10) (by omega)
      have e := fig_nat (k := m % 10) (by omega)
      have hz : (⟨#[UInt8.ofNat (48 + m % 10)]⟩ : ByteArray).size = 1 := rfl
      rw [decS_big h]
      have hl : bt (decS (m / 10) ++ ⟨#[UInt8.ofNat (48 + m % 10)]⟩) (decS (m / 10)).size = 48 + ((m % 10 : Nat) : Int) := by
        rw [bt_app_hi (Nat.le_refl _), Nat.sub_self, e]
      refine ⟨fun i hi => ?_, ?_⟩
      · rw [app_size, hz] at hi
        rcases Nat.lt_or_ge i (decS (m / 10)).size with q | q
        · rw [bt_app_lo q]; exact ih1 i q
        · obtain rfl : i = (decS (m / 10)).size := by omega
          rw [hl, figB_iff]; omega
      · rw [app_size, hz]
        show 10 * decTo _ (decS (m / 10)).size + (bt _ (decS (m / 10)).size - 48) = _
        rw [hl, decTo_app (Nat.le_refl _), ih2]
        omega

/-- A token that may be. -/
def okTk (t : Tk) : Prop :=
  ((t.kind = 0 ∨ t.kind = 1) ∧ nameB t.text = true ∧ t.text.size ≤ 20 ∧ t.num = 0) ∨ ((t.kind = 2 ∨ t.kind = 3) ∧ t.text = ⟨#[]⟩ ∧ 0 ≤ t.num ∧ t.num ≤ 18446744073709551615) ∨ (t.kind = 4 ∧ t.text = ⟨#[]⟩ ∧ t.num = 0)
def textOf (t : Tk) : ByteArray :=
  if t.kind = 1 then ⟨#[36]⟩ ++ t.text else if t.kind = 2 then decS t.num.toNat else if t.kind = 3 then ⟨#[35]⟩ ++ Handle.text t.num else if t.kind = 4 then ⟨#[61]⟩ else t.text
theorem rest_cons (x : UInt8) (a : ByteArray) : rest (⟨#[x]⟩ ++ a) = a := by
  have h1 : (⟨#[x]⟩ : ByteArray).size = 1 := rfl
  refine bytes_ext (by rw [rest_size, app_size, h1]; omega) (fun i hi => ?_)
  rw [bt_rest, bt_app_hi (by rw [h1]; omega), h1]
  rfl
theorem bt_cons (x : UInt8) (a : ByteArray) : bt (⟨#[x]⟩ ++ a) 0 = (x.toNat : Int) := by rw [bt_app_lo (Nat.zero_lt_one), bt_one]
theorem name_eit {a : ByteArray} (h : nameB a = true) : Front eitB a a.size := ⟨Nat.le_refl _, ((nameB_iff a).1 h).2.2, fun q => absurd q (Nat.lt_irrefl _)⟩
theorem extract_all {a : ByteArray} {n : Nat} (h : n = a.size) : a.extract 0 n = a := by subst h; exact ByteArray.extract_zero_size
theorem textv_size (x : Int) : (Handle.text x).size = 16 := Handle.text_size x
theorem hex_text {x : Int} : Front hexB (Handle.text x) 16 := by
  have hs := Handle.text_size x
  refine ⟨by omega, fun i hi => ?_, fun q => by omega⟩
  have hv := (Handle.okTo_iff _ 16).1 (Handle.text_ok x) i hi
  rw [Handle.byteAt_in (by omega)] at hv
  rw [bt_in (by omega)]
  generalize ((Handle.text x)[i]'_).toNat = b at *
  unfold Handle.val at hv
  unfold hexB
  split at hv
  · rename_i q
    rw [(figB_iff _).2 (by omega)]; rfl
  · split at hv
    · rename_i q
      rw [(lowB_iff _).2 (by omega), Bool.or_true]
    · exact absurd rfl hv
theorem tok_text {t : Tk} (h : okTk t) : tok (textOf t) = ⟨t.kind, t.text, t.num, (textOf t).size⟩ ∧ 0 < (textOf t).size ∧ (textOf t).size ≤ 21 ∧ bt (textOf t) 0 ≠ 32 := by
  obtain ⟨k, a, x, n⟩ := t
  rcases h with ⟨hk, hn, hz, hx⟩ | ⟨hk, ha, hx⟩ | ⟨hk, ha, hx⟩
  · dsimp only at hk hn hz hx
    subst hx
    obtain ⟨h1, h2, h3⟩ := (nameB_iff a).1 hn
    have hl := (letB_iff _).1 h2
    rcases hk with rfl | rfl
    · have e : textOf ⟨0, a, 0, n⟩ = a := rfl
      have hf := (front_rest h1 (fr_is eitB (rest a)) (by unfold eitB; rw [h2]; rfl)).one (name_eit hn)
      rw [e, tok_let h2, extract_all hf, hf]
      exact ⟨rfl, h1, by omega, by omega⟩
    · have e : textOf ⟨1, a, 0, n⟩ = ⟨#[36]⟩ ++ a := rfl
      have h1s : (⟨#[36]⟩ : ByteArray).size = 1 := rfl
      have er := rest_cons 36 a
      have hf : fr eitB (rest (⟨#[36]⟩ ++ a)) = a.size := by rw [er]; exact (name_eit hn).is.symm
      have hb1 : bt (⟨#[36]⟩ ++ a) 1 = bt a 0 := by rw [bt_app_hi (by rw [h1s]; omega), h1s]
      have ex : (⟨#[36]⟩ ++ a).extract 1 (a.size + 1) = a := by
        have hs2 : (⟨#[36]⟩ ++ a).size = a.size + 1 := by rw [app_size, h1s]; omega
        have := er
        unfold rest at this
        rw [hs2] at this
        exact this
      rw [e, tok_ref (bt_cons 36 a) (by rw [hf]; exact h1) (by rw [hb1]; exact h2), hf, ex]
      refine ⟨?_, by rw [app_size, h1s]; omega, by rw [app_size, h1s]; omega, by rw [bt_cons]; decide⟩
      rw [app_size, h1s, Nat.add_comm]
  · dsimp only at hk ha hx
    subst ha
    rcases hk with rfl | rfl
    · have e : textOf ⟨2, ⟨#[]⟩, x, n⟩ = decS x.toNat := rfl
      obtain ⟨d1, d2⟩ := decS_fig x.toNat
      have hp := decS_pos x.toNat
      have hle := decS_le (m := x.toNat) (by omega)
      have hfr : fr figB (decS x.toNat) = (decS x.toNat).size := (Front.is ⟨Nat.le_refl _, d1, fun q => absurd q (Nat.lt_irrefl _)⟩).symm
      have hb := (figB_iff _).1 (d1 0 hp)
      have hx2 : ((x.toNat : Nat) : Int) = x := by omega
      rw [e, tok_num (d1 0 hp) (by rw [hfr, d2]; omega), hfr, d2, hx2]
      exact ⟨rfl, hp, by omega, by omega⟩
    · have e : textOf ⟨3, ⟨#[]⟩, x, n⟩ = ⟨#[35]⟩ ++ Handle.text x := rfl
      have h1s : (⟨#[35]⟩ : ByteArray).size = 1 := rfl
      have h16 := Handle.text_size x
      have hf : fr hexB (rest (⟨#[35]⟩ ++ Handle.text x)) = 16 := by rw [rest_cons]; exact hex_text.is.symm
      have hs2 : (⟨#[35]⟩ ++ Handle.text x).size = 16 + 1 := by rw [app_size, h1s, h16]
      have ex : hexOf (⟨#[35]⟩ ++ Handle.text x) = Handle.text x := by
        have := rest_cons 35 (Handle.text x)
        unfold rest at this
        rw [hs2] at this
        unfold hexOf
        rw [hf]
        exact this
      have hp := Handle.parse_text hx
      rw [e, tok_hex (bt_cons 35 _) (by rw [ex, hp]), ex, hp, hs2]
      exact ⟨rfl, by omega, by omega, by rw [bt_cons]; decide⟩
  · dsimp only at hk ha hx
    subst hk ha hx
    have e : textOf ⟨4, ⟨#[]⟩, 0, n⟩ = ⟨#[61]⟩ := rfl
    rw [e, tok_eq (bt_one 61)]
    exact ⟨rfl, by decide, by decide, by rw [bt_one]; decide⟩

/-- One token more, behind blanks. -/
theorem scan_more {a : ByteArray} {L : List (Tk × Nat)} (h : scan a 0 [] = (L, none)) {k : Nat} (hk : 0 < k) {t : Tk} (ht : okTk t) :
    scan (a ++ blanks k ++ textOf t) 0 [] = (L ++ [(⟨t.kind, t.text, t.num, (textOf t).size⟩, a.size + k)], none) := by
  obtain ⟨h1, h2, h3, h4⟩ := tok_text ht
  have hb := blanks_size k
  have hs : (a ++ blanks k ++ textOf t).size = a.size + k + (textOf t).size := by rw [app_size, app_size, hb]
  have hu : Sep (blanks k ++ textOf t) := .inr (by rw [bt_app_lo (a := blanks k) (by omega)]; exact bt_blanks hk)
  have e1 := (scan_app (a := a) hu a.size 0 [] (by omega)).1 (by rw [h])
  rw [h, ← ByteArray.append_assoc] at e1
  have hb2 : ∀ j, j < k → bt (a ++ blanks k ++ textOf t) (a.size + j) = 32 := fun j hj => by
    rw [bt_app_lo (a := a ++ blanks k) (by rw [app_size, hb]; omega), bt_app_hi (a := a) (by omega), Nat.add_sub_cancel_left]
    exact bt_blanks hj
  have hf : fromAt (a ++ blanks k ++ textOf t) (a.size + k) = textOf t := by
    refine bytes_ext (by rw [fromAt_size, hs]; omega) (fun i hi => ?_)
    rw [bt_fromAt, bt_app_hi (a := a ++ blanks k) (by rw [app_size, hb]; omega), app_size, hb]
    congr 1
    omega
  have hb3 : bt (a ++ blanks k ++ textOf t) (a.size + k) = bt (textOf t) 0 := by
    rw [bt_app_hi (a := a ++ blanks k) (by rw [app_size, hb]; omega), app_size, hb, Nat.sub_self]
  rw [e1, scan_blanks (s := a ++ blanks k ++ textOf t) L k a.size (by omega) hb2, scan_tok (s := a ++ blanks k ++ textOf t) (i := a.size + k) (by omega) (by rw [hb3]; exact h4) (by rw [hf, h1]; show (textOf t).size ≠ 0; omega), hf, h1, scan_end (s := a ++ blanks k ++ textOf t) (by rw [hs]; exact Nat.le_refl _)]

end Lex
end Go.Proofs.YtpfpbbbenjljfaaDoor
