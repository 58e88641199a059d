/- Tokens of a line, reckoned (layer 18): plain. -/
import Derived.Test.YtpfpbbbenjljfaaDoorLexScanPure
set_option linter.unusedVariables false
set_option linter.unusedSimpArgs false
namespace Go.Proofs.YtpfpbbbenjljfaaDoor
open Go.RowKit

namespace Lex

def frC (p : Int → Bool) (s : ByteArray) : Nat → Nat → Nat
  | 0, i => i
  | f + 1, i => if decide (i < s.size) && p (bt s i) then frC p s f (i + 1) else i
theorem frC_front (p : Int → Bool) (s : ByteArray) : ∀ (f i : Nat), s.size - i ≤ f → i ≤ s.size → (∀ j, j < i → p (bt s j) = true) → Front p s (frC p s f i)
  | 0, i, h, hi, ha => ⟨hi, ha, fun q => by unfold frC at q; omega⟩
  | f + 1, i, h, hi, ha => by
    unfold frC
    by_cases hlt : i < s.size
    · cases hp : p (bt s i) with
      | true =>
        rw [if_pos (by rw [decide_eq_true hlt]; rfl)]
        exact frC_front p s f (i + 1) (by omega) (by omega) (fun j hj => by
          rcases Nat.lt_or_ge j i with q | q
          · exact ha j q
          · obtain rfl : j = i := by omega
            exact hp)
      | false =>
        rw [if_neg (by rw [Bool.and_false]; decide)]
        exact ⟨hi, ha, fun _ => hp⟩
    · rw [if_neg (by rw [decide_eq_false hlt]; simp)]
      exact ⟨hi, ha, fun q => absurd q hlt⟩
theorem fr_C (p : Int → Bool) (s : ByteArray) : fr p s = frC p s s.size 0 := ((frC_front p s s.size 0 (by omega) (Nat.zero_le _) (fun j hj => absurd hj (Nat.not_lt_zero j))).is).symm
def hexOfC (s : ByteArray) : ByteArray := s.extract 1 (frC hexB (rest s) (rest s).size 0 + 1)
def tokC (s : ByteArray) : Tk :=
  if bt s 0 = 61 then ⟨4, ⟨#[]⟩, 0, 1⟩
  else if letB (bt s 0) = true then ⟨0, s.extract 0 (frC eitB (rest s) (rest s).size 0 + 1), 0, frC eitB (rest s) (rest s).size 0 + 1⟩
  else if bt s 0 = 36 then if 0 < frC eitB (rest s) (rest s).size 0 ∧ letB (bt s 1) = true then ⟨1, s.extract 1 (frC eitB (rest s) (rest s).size 0 + 1), 0, frC eitB (rest s) (rest s).size 0 + 1⟩ else .none
  else if bt s 0 = 35 then if (Handle.parse (hexOfC s)).2 = 0 then ⟨3, ⟨#[]⟩, (Handle.parse (hexOfC s)).1, 17⟩ else .none
  else if figB (bt s 0) = true then if decTo s (frC figB s s.size 0) ≤ 18446744073709551615 then ⟨2, ⟨#[]⟩, decTo s (frC figB s s.size 0), frC figB s s.size 0⟩ else .none
  else .none
theorem tok_C (s : ByteArray) : tok s = tokC s := by
  have e : hexOf s = hexOfC s := by unfold hexOf hexOfC; rw [fr_C]
  unfold tok tokC
  rw [e, fr_C, fr_C]
def scanC (s : ByteArray) : Nat → Nat → List (Tk × Nat) → List (Tk × Nat) × Option Nat
  | 0, i, l => (l, none)
  | f + 1, i, l => if i < s.size then if bt s i = 32 then scanC s f (i + 1) l else if (tokC (fromAt s i)).n = 0 then (l, some i) else scanC s f (i + (tokC (fromAt s i)).n) (l ++ [(tokC (fromAt s i), i)]) else (l, none)
theorem scan_C (s : ByteArray) : ∀ (f i : Nat) (l : List (Tk × Nat)), s.size - i < f → scan s i l = scanC s f i l
  | 0, i, l, h => absurd h (Nat.not_lt_zero _)
  | f + 1, i, l, h => by
    unfold scanC
    by_cases hlt : i < s.size
    · rw [if_pos hlt]
      by_cases hb : bt s i = 32
      · rw [if_pos hb, scan_blank hlt hb]
        exact scan_C s f (i + 1) l (by omega)
      · rw [if_neg hb, ← tok_C]
        by_cases hn : (tok (fromAt s i)).n = 0
        · rw [if_pos hn, scan_bad hlt hb hn]
        · rw [if_neg hn, scan_tok hlt hb hn]
          exact scan_C s f _ _ (by omega)
    · rw [if_neg hlt, scan_end (by omega)]
theorem scanV_C (s : ByteArray) (f : Nat) (h : s.size < f) (h1 : ¬ 1000 < s.size) : scanV s = outV (scanC s f 0 []) := by unfold scanV; rw [if_neg h1, scan_C s f 0 [] (by omega)]
/-- The live question's lines. -/
abbrev l1 : ByteArray := ⟨#[32, 97, 49, 61, 49, 50, 32, 108, 111, 97, 100, 36, 98, 50, 32, 35, 48, 48, 48, 48, 48, 48, 48, 48, 48, 48, 48, 48, 48, 48, 102, 102, 61]⟩
abbrev l2 : ByteArray := ⟨#[97, 32, 36, 32, 98]⟩
abbrev l3 : ByteArray := ⟨#[49, 32, 49, 56, 52, 52, 54, 55, 52, 52, 48, 55, 51, 55, 48, 57, 53, 53, 49, 54, 49, 54]⟩
abbrev l4 : ByteArray := ⟨#[195, 169]⟩
theorem v1 : scanV l1 = ([(⟨0, ⟨#[97, 49]⟩, 0, 2⟩, 1), (⟨4, ⟨#[]⟩, 0, 1⟩, 3), (⟨2, ⟨#[]⟩, 12, 2⟩, 4), (⟨0, ⟨#[108, 111, 97, 100]⟩, 0, 4⟩, 7), (⟨1, ⟨#[98, 50]⟩, 0, 3⟩, 11), (⟨3, ⟨#[]⟩, 255, 17⟩, 15), (⟨4, ⟨#[]⟩, 0, 1⟩, 32)], 0, 0) := by
  rw [scanV_C l1 40 (by decide) (by decide)]
  decide +kernel
theorem v2 : scanV l2 = ([], 2, 2) := by
  rw [scanV_C l2 40 (by decide) (by decide)]
  decide +kernel
theorem v3 : scanV l3 = ([], 2, 2) := by
  rw [scanV_C l3 40 (by decide) (by decide)]
  decide +kernel
theorem v4 : scanV l4 = ([], 0, 2) := by
  rw [scanV_C l4 40 (by decide) (by decide)]
  decide +kernel

end Lex
end Go.Proofs.YtpfpbbbenjljfaaDoor
