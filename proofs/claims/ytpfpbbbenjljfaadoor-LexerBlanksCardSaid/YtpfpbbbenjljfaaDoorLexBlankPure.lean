/- Tokens laid out with blanks are scanned as they are (layer 18): plain. -/
import Derived.Test.YtpfpbbbenjljfaaDoorLexScan
import Derived.Test.YtpfpbbbenjljfaaDoorHandleRefText
import Derived.Lib.ItoaMem
set_option linter.unusedVariables false
set_option linter.unusedSimpArgs false
namespace Go.Proofs.YtpfpbbbenjljfaaDoor
open Go.RowKit

namespace Lex

theorem app_size (a u : ByteArray) : (a ++ u).size = a.size + u.size := ByteArray.size_append
theorem bt_app_lo {a u : ByteArray} {i : Nat} (h : i < a.size) : bt (a ++ u) i = bt a i := by
  rw [bt_in h, bt_in (by rw [app_size]; omega)]
  congr 2
  exact ByteArray.getElem_append_left h
theorem bt_app_hi {a u : ByteArray} {i : Nat} (h : a.size ≤ i) : bt (a ++ u) i = bt u (i - a.size) := by
  rcases Nat.lt_or_ge (i - a.size) u.size with q | q
  · rw [bt_in q, bt_in (by rw [app_size]; omega)]
    congr 2
    exact ByteArray.getElem_append_right h
  · rw [bt_out q, bt_out (by rw [app_size]; omega)]
theorem bytes_ext {a b : ByteArray} (hs : a.size = b.size) (h : ∀ i, i < a.size → bt a i = bt b i) : a = b := by
  apply ByteArray.ext_getElem hs
  intro i h1 h2
  have := h i h1
  rw [bt_in h1, bt_in h2] at this
  exact UInt8.toNat_inj.1 (by omega)
theorem bt_extract {s : ByteArray} {i j k : Nat} (hj : j ≤ s.size) (hk : i + k < j) : bt (s.extract i j) k = bt s (i + k) := by
  have h1 : k < (s.extract i j).size := by rw [ByteArray.size_extract]; omega
  rw [bt_in h1, bt_in (by omega)]
  congr 2
  exact ByteArray.getElem_extract h1
theorem size_extract' {s : ByteArray} {i j : Nat} (hj : j ≤ s.size) : (s.extract i j).size = j - i := by rw [ByteArray.size_extract]; omega
theorem extract_app {a u : ByteArray} {i j : Nat} (hj : j ≤ a.size) : (a ++ u).extract i j = a.extract i j := by
  have e1 := size_extract' (s := a) (i := i) hj
  have e2 := size_extract' (s := a ++ u) (i := i) (j := j) (by rw [app_size]; omega)
  refine bytes_ext (e2.trans e1.symm) (fun k hk => ?_)
  rw [e2] at hk
  rw [bt_extract (by rw [app_size]; omega) (by omega), bt_extract hj (by omega), bt_app_lo (by omega)]

/-- Nothing, or a blank. -/
def Sep (u : ByteArray) : Prop := u.size = 0 ∨ bt u 0 = 32
theorem Front.app {p : Int → Bool} {a u : ByteArray} {n : Nat} (h : Front p a n) (hp : p 32 = false) (hu : Sep u) : Front p (a ++ u) n := by
  have hl := h.le
  refine ⟨by rw [app_size]; omega, fun i hi => by rw [bt_app_lo (by omega)]; exact h.all i hi, fun q => ?_⟩
  rcases Nat.lt_or_ge n a.size with r | r
  · rw [bt_app_lo r]; exact h.stop r
  · rw [app_size] at q
    obtain rfl : n = a.size := by omega
    rw [bt_app_hi (Nat.le_refl _), Nat.sub_self]
    rcases hu with hu | hu
    · omega
    · rw [hu]; exact hp
theorem fr_app {p : Int → Bool} {a u : ByteArray} (hp : p 32 = false) (hu : Sep u) : fr p (a ++ u) = fr p a := ((fr_is p a).app hp hu).is.symm
theorem rest_app {a u : ByteArray} (h : 0 < a.size) : rest (a ++ u) = rest a ++ u := by
  refine bytes_ext (by rw [rest_size, app_size, app_size, rest_size]; omega) (fun i hi => ?_)
  rw [bt_rest]
  rcases Nat.lt_or_ge (i + 1) a.size with q | q
  · rw [bt_app_lo q, bt_app_lo (by rw [rest_size]; omega), bt_rest]
  · rw [bt_app_hi q, bt_app_hi (by rw [rest_size]; omega), rest_size]
    congr 1
    omega
theorem decTo_app {a u : ByteArray} : ∀ {n : Nat}, n ≤ a.size → decTo (a ++ u) n = decTo a n
  | 0, _ => rfl
  | n + 1, h => by
    show 10 * decTo (a ++ u) n + (bt (a ++ u) n - 48) = 10 * decTo a n + (bt a n - 48)
    rw [decTo_app (by omega), bt_app_lo (by omega)]
theorem tok_app {a u : ByteArray} (h : 0 < a.size) (hu : Sep u) : tok (a ++ u) = tok a := by
  have e0 : bt (a ++ u) 0 = bt a 0 := bt_app_lo h
  have er := rest_app (u := u) h
  have e1 : fr eitB (rest (a ++ u)) = fr eitB (rest a) := by rw [er]; exact fr_app (by decide) hu
  have e2 : fr hexB (rest (a ++ u)) = fr hexB (rest a) := by rw [er]; exact fr_app (by decide) hu
  have e3 : fr figB (a ++ u) = fr figB a := fr_app (by decide) hu
  have l1 := (fr_is eitB (rest a)).le
  have l2 := (fr_is hexB (rest a)).le
  have l3 := (fr_is figB a).le
  rw [rest_size] at l1 l2
  have e4 : hexOf (a ++ u) = hexOf a := by unfold hexOf; rw [e2]; exact extract_app (by omega)
  have e5 : decTo (a ++ u) (fr figB (a ++ u)) = decTo a (fr figB a) := by rw [e3]; exact decTo_app l3
  have e6 : 0 < fr eitB (rest a) → bt (a ++ u) 1 = bt a 1 := fun q => bt_app_lo (by omega)
  have e7 : (a ++ u).extract 0 (fr eitB (rest a) + 1) = a.extract 0 (fr eitB (rest a) + 1) := extract_app (by omega)
  have e8 : (a ++ u).extract 1 (fr eitB (rest a) + 1) = a.extract 1 (fr eitB (rest a) + 1) := extract_app (by omega)
  by_cases h1 : bt a 0 = 61
  · rw [tok_eq h1, tok_eq (e0.trans h1)]
  by_cases h2 : letB (bt a 0) = true
  · rw [tok_let h2, tok_let (e0 ▸ h2), e1, e7]
  have h2' : letB (bt a 0) = false := by simpa using h2
  by_cases h3 : bt a 0 = 36
  · by_cases q : 0 < fr eitB (rest a) ∧ letB (bt a 1) = true
    · rw [tok_ref h3 q.1 q.2, tok_ref (e0.trans h3) (e1 ▸ q.1) (by rw [e6 q.1]; exact q.2), e1, e8]
    · rw [tok_ref_no h3 q, tok_ref_no (e0.trans h3) (fun r => q ⟨e1 ▸ r.1, by rw [← e6 (e1 ▸ r.1)]; exact r.2⟩)]
  by_cases h4 : bt a 0 = 35
  · by_cases q : (Handle.parse (hexOf a)).2 = 0
    · rw [tok_hex h4 q, tok_hex (e0.trans h4) (by rw [e4]; exact q), e4]
    · rw [tok_hex_no h4 q, tok_hex_no (e0.trans h4) (by rw [e4]; exact q)]
  by_cases h5 : figB (bt a 0) = true
  · by_cases q : decTo a (fr figB a) ≤ 18446744073709551615
    · rw [tok_num h5 q, tok_num (e0 ▸ h5) (by rw [e5]; exact q), e5, e3]
    · rw [tok_num_no h5 q, tok_num_no (e0 ▸ h5) (by rw [e5]; exact q)]
  · have h5' : figB (bt a 0) = false := by simpa using h5
    rw [tok_other h1 h2' h3 h4 h5', tok_other (e0 ▸ h1) (e0 ▸ h2') (e0 ▸ h3) (e0 ▸ h4) (e0 ▸ h5')]
theorem fromAt_app {a u : ByteArray} {i : Nat} (h : i ≤ a.size) : fromAt (a ++ u) i = fromAt a i ++ u := by
  refine bytes_ext (by rw [fromAt_size, app_size, app_size, fromAt_size]; omega) (fun k hk => ?_)
  rw [bt_fromAt]
  rcases Nat.lt_or_ge (i + k) a.size with q | q
  · rw [bt_app_lo q, bt_app_lo (by rw [fromAt_size]; omega), bt_fromAt]
  · rw [bt_app_hi q, bt_app_hi (by rw [fromAt_size]; omega), fromAt_size]
    congr 1
    omega
/-- Behind a line stands nothing, or a blank: it is scanned as it was. -/
theorem scan_app {a u : ByteArray} (hu : Sep u) : ∀ (m i : Nat) (l : List (Tk × Nat)), i + m = a.size →
    ((scan a i l).2 = none → scan (a ++ u) i l = scan (a ++ u) a.size (scan a i l).1) ∧ ((scan a i l).2 ≠ none → scan (a ++ u) i l = scan a i l) := by
  intro m
  induction m using Nat.strongRecOn with
  | ind m ih =>
    intro i l h
    by_cases hlt : i < a.size
    · have hlt2 : i < (a ++ u).size := by rw [app_size]; omega
      have hb0 : bt (a ++ u) i = bt a i := bt_app_lo hlt
      by_cases hb : bt a i = 32
      · rw [scan_blank hlt hb, scan_blank hlt2 (hb0.trans hb)]
        exact ih (m - 1) (by omega) (i + 1) l (by omega)
      · have ht : tok (fromAt (a ++ u) i) = tok (fromAt a i) := by rw [fromAt_app (by omega)]; exact tok_app (by rw [fromAt_size]; omega) hu
        by_cases hn : (tok (fromAt a i)).n = 0
        · rw [scan_bad hlt hb hn, scan_bad hlt2 (by rw [hb0]; exact hb) (by rw [ht]; exact hn)]
          exact ⟨(fun q => by cases q), fun _ => rfl⟩
        · have := tok_n a i hlt
          rw [scan_tok hlt hb hn, scan_tok hlt2 (by rw [hb0]; exact hb) (by rw [ht]; exact hn), ht]
          exact ih (m - (tok (fromAt a i)).n) (by omega) _ _ (by omega)
    · obtain rfl : i = a.size := by omega
      rw [scan_end (Nat.le_refl _)]
      exact ⟨fun _ => rfl, fun q => absurd rfl q⟩
/-- Tokens that stand so much further on. -/
def moved (d : Nat) (l : List (Tk × Nat)) : List (Tk × Nat) := l.map (fun x => (x.1, d + x.2))
theorem moved_snoc (d : Nat) (l : List (Tk × Nat)) (x : Tk × Nat) : moved d (l ++ [x]) = moved d l ++ [(x.1, d + x.2)] := by unfold moved; rw [List.map_append]; rfl
theorem scan_moved (p a : ByteArray) : ∀ (m i : Nat) (l : List (Tk × Nat)), i + m = a.size → scan (p ++ a) (p.size + i) (moved p.size l) = (moved p.size (scan a i l).1, (scan a i l).2.map (p.size + ·)) := by
  intro m
  induction m using Nat.strongRecOn with
  | ind m ih =>
    intro i l h
    by_cases hlt : i < a.size
    · have hlt2 : p.size + i < (p ++ a).size := by rw [app_size]; omega
      have hb0 : bt (p ++ a) (p.size + i) = bt a i := by rw [bt_app_hi (by omega)]; congr 1; omega
      have ht : fromAt (p ++ a) (p.size + i) = fromAt a i := by
        refine bytes_ext (by rw [fromAt_size, app_size, fromAt_size]; omega) (fun k hk => ?_)
        rw [bt_fromAt, bt_fromAt, bt_app_hi (by omega)]
        congr 1
        omega
      by_cases hb : bt a i = 32
      · rw [scan_blank hlt hb, scan_blank hlt2 (hb0.trans hb), Nat.add_assoc]
        exact ih (m - 1) (by omega) (i + 1) l (by omega)
      · by_cases hn : (tok (fromAt a i)).n = 0
        · rw [scan_bad hlt hb hn, scan_bad hlt2 (by rw [hb0]; exact hb) (by rw [ht]; exact hn)]
          rfl
        · have := tok_n a i hlt
          rw [scan_tok hlt hb hn, scan_tok hlt2 (by rw [hb0]; exact hb) (by rw [ht]; exact hn), ht, Nat.add_assoc]
          have := ih (m - (tok (fromAt a i)).n) (by omega) (i + (tok (fromAt a i)).n) (l ++ [(tok (fromAt a i), i)]) (by omega)
          rw [moved_snoc] at this
          exact this
    · rw [scan_end (s := a) (by omega), scan_end (s := p ++ a) (by rw [app_size]; omega)]
      rfl

/-- So many blanks. -/
def blanks (k : Nat) : ByteArray := ⟨(List.replicate k 32).toArray⟩
theorem blanks_size (k : Nat) : (blanks k).size = k := by show (List.replicate k 32).toArray.size = k; simp
theorem bt_blanks {k i : Nat} (h : i < k) : bt (blanks k) i = 32 := by
  rw [bt_in (by rw [blanks_size]; exact h)]
  have : (blanks k)[i]'(by rw [blanks_size]; exact h) = 32 := by
    show (List.replicate k (32 : UInt8)).toArray[i]'_ = 32
    simp
  rw [this]; rfl
theorem blanks_succ (s : ByteArray) (k : Nat) : s ++ blanks k ++ ⟨#[32]⟩ = s ++ blanks (k + 1) := by
  rw [ByteArray.append_assoc]
  congr 1
  apply ByteArray.ext
  apply Array.ext'
  rw [ByteArray.data_append, Array.toList_append]
  show List.replicate k (32 : UInt8) ++ [32] = List.replicate (k + 1) 32
  rw [List.replicate_succ']
theorem blanks_zero (s : ByteArray) : s ++ blanks 0 = s := bytes_ext (by rw [app_size, blanks_size]; rfl) (fun i hi => by rw [app_size, blanks_size] at hi; exact bt_app_lo (by omega))

/-- A line that is scanned, with blanks ahead, and behind. -/
theorem scan_around {a : ByteArray} : outV (scan (blanks 3 ++ a ++ blanks 2) 0 []) = match outV (scan a 0 []) with | (l, i, e) => (moved 3 l, (if e = 0 then 0 else 3 + i), e) := by
  have h3 := blanks_size 3
  have h2 := blanks_size 2
  have hu : Sep (blanks 2) := .inr (bt_blanks (by decide))
  have e1 : scan (blanks 3 ++ a) 0 [] = (moved 3 (scan a 0 []).1, (scan a 0 []).2.map (3 + ·)) := by
    rw [scan_blanks (s := blanks 3 ++ a) [] 3 0 (by rw [app_size]; omega) (fun j hj => by rw [Nat.zero_add, bt_app_lo (by omega)]; exact bt_blanks hj)]
    have := scan_moved (blanks 3) a a.size 0 [] (by omega)
    rw [h3] at this
    exact this
  have h := scan_app (a := blanks 3 ++ a) (u := blanks 2) hu (blanks 3 ++ a).size 0 [] (by omega)
  rw [e1] at h
  rcases hs : scan a 0 [] with ⟨l, _ | i⟩
  · rw [hs] at h
    rw [h.1 rfl, scan_blanks _ 2 _ (by rw [app_size (blanks 3 ++ a)]; omega) (fun j hj => by rw [bt_app_hi (by omega), Nat.add_sub_cancel_left]; exact bt_blanks hj), scan_end (by rw [app_size (blanks 3 ++ a)]; omega)]
    rfl
  · rw [hs] at h
    rw [h.2 (by simp)]
    rfl

end Lex
end Go.Proofs.YtpfpbbbenjljfaaDoor
