/- The plain law of layer 15 (proxy): no entry, with its generation, is granted twice; what was granted shows what it should. -/
import Derived.Test.YtboajbbnnbnpaaaProxyPlain
import Derived.Test.YtboajbbnnbnpaaaOwn
set_option linter.unusedVariables false
set_option linter.unusedSimpArgs false
namespace Go.Proofs.Ytboajbbnnbnpaaa
open Go.RowKit

namespace Proxy

/-- An act: its kind, and two numbers. -/
structure Tr where
  k : Int
  a : Int
  b : Int
def enc3 (t : Tr) : List Value := [.int .u8 t.k, .int .i64 t.a, .int .i64 t.b]
def encs3 (l : List Tr) : List Value := l.flatMap enc3
def act (l : List Tr) (i : Nat) : Tr := l.getD i ⟨0, 0, 0⟩
theorem encs3_length (l : List Tr) : (encs3 l).length = l.length * 3 := by
  unfold encs3 enc3
  induction l with
  | nil => rfl
  | cons e l ih => simp [ih]; omega
theorem encs3_push {l : List Tr} {t : Tr} : encs3 (l ++ [t]) = encs3 l ++ enc3 t := by simp [encs3]
theorem encs3_get {l : List Tr} {i : Nat} (h : i < l.length) : (encs3 l)[i * 3 + 1]? = some (.int .i64 (act l i).a) ∧ (encs3 l)[i * 3 + 2]? = some (.int .i64 (act l i).b) := by
  induction l generalizing i with
  | nil => simp at h
  | cons e l ih =>
    cases i with
    | zero => simp [encs3, enc3, act]
    | succ i =>
      have h1 := ih (i := i) (by simpa using h)
      have e0 : ∀ k, (encs3 (e :: l))[(i + 1) * 3 + k]? = (encs3 l)[i * 3 + k]? := fun k => by
        rw [show (i + 1) * 3 + k = (i * 3 + k) + 1 + 1 + 1 by omega]; simp [encs3, enc3]
      have e1 : act (e :: l) (i + 1) = act l i := by simp [act]
      rw [e0, e0, e1]
      exact h1
theorem act_push {l : List Tr} {t : Tr} {k : Nat} : act (l ++ [t]) k = if k < l.length then act l k else if k = l.length then t else ⟨0, 0, 0⟩ := by
  unfold act
  simp only [List.getD_eq_getElem?_getD, List.getElem?_append]
  split
  · rfl
  · rename_i h
    split
    · rename_i e; subst e; simp
    · rename_i e; rw [List.getElem?_eq_none (by simp; omega)]; rfl

/-- What was granted is open (1), revoked (2), or gone (3). -/
def State (e : En) (t : Tr) (g i : Int) : Prop := (i = 1 ∧ e.is = 1 ∧ e.gen = g ∧ e.cell = t.a ∧ e.cg = t.b) ∨ (i = 2 ∧ e.is = 2 ∧ e.gen = g) ∨ (i = 3 ∧ g < e.gen)
structure Once (l : List En) (ts : List Tr) (es gs is : List Int) : Prop where
  la : ts.length = es.length
  lg : gs.length = es.length
  li : is.length = es.length
  seen : ∀ k, k < es.length → ∃ x : Nat, nthI es k = x ∧ x < 8 ∧ 1 ≤ nthI gs k ∧ State (ent l x) (act ts k) (nthI gs k) (nthI is k)

/-- How what was granted stands behind an act. -/
def stat (k A B r e g i : Int) : Int := if k % 6 = 2 ∧ r = 0 ∧ e = A ∧ i = 1 then 2 else if k % 6 = 4 ∧ r = 0 ∧ e = A ∧ g = B then 3 else i

theorem stat_rev {k A B r e g i : Int} (h2 : k % 6 = 2) (hr : r = 0) : stat k A B r e g i = if e = A ∧ i = 1 then 2 else i := by
  unfold stat
  by_cases q : e = A ∧ i = 1
  · rw [if_pos ⟨h2, hr, q.1, q.2⟩, if_pos q]
  · rw [if_neg (fun z => q z.2.2), if_neg (fun z => by omega), if_neg q]
theorem stat_close {k A B r e g i : Int} (h4 : k % 6 = 4) (hr : r = 0) : stat k A B r e g i = if e = A ∧ g = B then 3 else i := by
  unfold stat
  rw [if_neg (fun z => by omega)]
  by_cases q : e = A ∧ g = B
  · rw [if_pos ⟨h4, hr, q.1, q.2⟩, if_pos q]
  · rw [if_neg (fun z => q z.2.2), if_neg q]
theorem stat_not {k A B r e g i : Int} (h : ¬ (k % 6 = 2 ∧ r = 0)) (h' : ¬ (k % 6 = 4 ∧ r = 0)) : stat k A B r e g i = i := by
  unfold stat; rw [if_neg (fun q => h ⟨q.1, q.2.1⟩), if_neg (fun q => h' ⟨q.1, q.2.1⟩)]

theorem once_nil (l : List En) : Once l [] [] [] [] := ⟨rfl, rfl, rfl, fun k hk => absurd hk (Nat.not_lt_zero k)⟩

theorem State.bd {e : En} {t : Tr} {g i : Int} (h : State e t g i) : i = 1 ∨ i = 2 ∨ i = 3 := by unfold State at h; omega

theorem Once.news {ts : List Tr} {es gs is : List Int} (h : Once news ts es gs is) : es.length = 0 := by
  refine Nat.eq_zero_of_not_pos fun hp => ?_
  obtain ⟨x, -, hx, hg, h⟩ := h.seen 0 hp
  have e : ent Proxy.news x = freshE 1 := ent_rep hx
  rw [e] at h
  unfold State freshE at h
  simp at h
  omega

/-- An act that grants nothing. -/
theorem Once.step {l l2 : List En} {ts : List Tr} {es gs is is' : List Int} (h : Once l ts es gs is) (hI : Inv l) {k A B p q r : Int} (hk : 0 ≤ k) (hS : saidP l k A B = (l2, p, q, r)) (hno : ¬ (k % 6 < 2 ∧ r = 0))
    (hl : is'.length = es.length) (hi : ∀ m, m < es.length → nthI is' m = stat k A B r (nthI es m) (nthI gs m) (nthI is m)) : Once l2 ts es gs is' := by
  have hlen := hI.len
  have keep : l2 = l → ¬ (k % 6 = 2 ∧ r = 0) → ¬ (k % 6 = 4 ∧ r = 0) → Once l2 ts es gs is' := fun e n1 n2 => by
    subst e
    refine ⟨h.la, h.lg, hl, fun m hm => ?_⟩
    rw [hi m hm, stat_not n1 n2]
    exact h.seen m hm
  unfold saidP at hS
  split at hS
  · rename_i h2
    injection hS with e1 e2; injection e2 with e2 e3; injection e3 with e3 e4
    unfold revoke at e1 e4
    split at e1 <;> rename_i hin
    · rw [if_pos hin] at e4
      rw [inB_iff] at hin
      obtain ⟨y, rfl⟩ : ∃ y : Nat, A = y := ⟨A.toNat, by omega⟩
      simp only [Int.toNat_natCast] at e1 e4
      split at e1 <;> rename_i h1
      · rw [if_pos h1] at e4
        have hr : r = 0 := e4.symm
        refine ⟨h.la, h.lg, hl, fun m hm => ?_⟩
        obtain ⟨x, a1, a2, a3, a4⟩ := h.seen m hm
        refine ⟨x, a1, a2, a3, ?_⟩
        rw [hi m hm, a1, stat_rev h2 hr, ← e1, ent_set _ (by omega)]
        by_cases hxy : y = x
        · subst hxy
          rw [if_pos rfl]
          rcases a4 with q | q | q
          · rw [if_pos ⟨rfl, q.1⟩]
            exact .inr (.inl ⟨rfl, rfl, q.2.2.1⟩)
          · have := q.2.1; omega
          · rw [if_neg (fun z => by omega)]
            exact .inr (.inr q)
        · rw [if_neg hxy, if_neg (fun z => by omega)]
          exact a4
      · rw [if_neg h1] at e4
        exact keep e1.symm (fun q => by have := (e4.trans q.2); simp at this) (fun q => by omega)
    · rw [if_neg hin] at e4
      exact keep e1.symm (fun q => by have := (e4.trans q.2); simp at this) (fun q => by omega)
  · rename_i h2
    split at hS
    · rename_i h3
      injection hS with e1 e2
      exact keep e1.symm (fun q => h2 q.1) (fun q => by omega)
    · rename_i h3
      split at hS
      · rename_i h4
        injection hS with e1 e2; injection e2 with e2 e3; injection e3 with e3 e4
        unfold close at e1 e4
        split at e1 <;> rename_i hw
        · rw [if_pos hw] at e4
          have hr : r = 0 := e4.symm
          obtain ⟨y, rfl, hy, hg, h0⟩ := wrong_ok hw
          simp only [Int.toNat_natCast] at e1
          refine ⟨h.la, h.lg, hl, fun m hm => ?_⟩
          obtain ⟨x, a1, a2, a3, a4⟩ := h.seen m hm
          refine ⟨x, a1, a2, a3, ?_⟩
          rw [hi m hm, a1, stat_close h4 hr, ← e1, ent_set _ (by omega)]
          by_cases hxy : y = x
          · subst hxy
            rw [if_pos rfl]
            have e5 : (freshE ((ent l y).gen + 1)).gen = (ent l y).gen + 1 := rfl
            rcases a4 with q | q | q
            · rw [if_pos ⟨rfl, by omega⟩]
              exact .inr (.inr ⟨rfl, by rw [e5]; omega⟩)
            · rw [if_pos ⟨rfl, by omega⟩]
              exact .inr (.inr ⟨rfl, by rw [e5]; omega⟩)
            · split
              · exact .inr (.inr ⟨rfl, by rw [e5]; omega⟩)
              · exact .inr (.inr ⟨q.1, by rw [e5]; omega⟩)
          · rw [if_neg hxy, if_neg (fun z => by omega)]
            exact a4
        · rw [if_neg hw] at e4
          exact keep e1.symm (fun q => h2 q.1) (fun q => hw (e4.trans q.2))
      · rename_i h4
        split at hS
        · rename_i h5
          injection hS with e1 e2; injection e2 with e2 e3; injection e3 with e3 e4
          unfold start at e1
          split at e1 <;> rename_i hs
          · obtain ⟨-, rfl⟩ := hs
            have hz := h.news
            exact ⟨h.la, h.lg, hl, fun m hm => by omega⟩
          · exact keep e1.symm (fun q => h2 q.1) (fun q => h4 q.1)
        · rename_i h5
          injection hS with e1 e2; injection e2 with e2 e3; injection e3 with e3 e4
          have h6 : k % 6 < 2 := by omega
          have hr : r ≠ 0 := fun q => hno ⟨h6, q⟩
          unfold grant at e1 e4
          split at e1 <;> rename_i hok
          · rw [if_pos hok] at e4
            split at e1 <;> rename_i hsl
            · rw [if_pos hsl] at e4
              exact absurd e4.symm hr
            · exact keep e1.symm (fun q => h2 q.1) (fun q => h4 q.1)
          · exact keep e1.symm (fun q => h2 q.1) (fun q => h4 q.1)

/-- An act that grants. -/
theorem Once.grant {l l2 : List En} {ts : List Tr} {es gs is : List Int} (h : Once l ts es gs is) (hI : Inv l) {k A B p q r : Int} (hk : 0 ≤ k) (hS : saidP l k A B = (l2, p, q, r)) (h6 : k % 6 < 2) (hr : r = 0) :
    (∀ m, m < es.length → nthI es m = p → nthI gs m ≠ gen l2 p ∧ nthI is m = 3) ∧ Once l2 (ts ++ [⟨k, A, B⟩]) (es ++ [p]) (gs ++ [gen l2 p]) (is ++ [1]) := by
  have hlen := hI.len
  unfold saidP at hS
  rw [if_neg (by omega), if_neg (by omega), if_neg (by omega), if_neg (by omega)] at hS
  injection hS with e1 e2; injection e2 with e2 e3; injection e3 with e3 e4
  unfold Proxy.grant at e1 e2 e4
  split at e1 <;> rename_i hok
  case isFalse => rw [if_neg hok] at e4; exact absurd (show (1 : Int) = 0 from e4.trans hr) (by decide)
  rw [if_pos hok] at e2 e4
  split at e1 <;> rename_i hsl
  case isFalse => rw [if_neg hsl] at e4; exact absurd (show (8 : Int) = 0 from e4.trans hr) (by decide)
  rw [if_pos hsl] at e2 e4
  have hcan := slot_can (l := l) (by omega)
  rw [canB_iff] at hcan
  obtain ⟨s, hs⟩ : ∃ s, slot l = s := ⟨_, rfl⟩
  rw [hs] at e1 e2 hcan hsl
  replace e2 : p = s := e2.symm
  have hg2 : gen l2 p = (ent l s).gen := by
    rw [e2, gen_in hsl, ← e1, ent_set _ (by omega), if_pos rfl]
  have hgs := (hI.gen s hsl).1
  refine ⟨fun m hm em => ?_, by simp [h.la], by simp [h.lg], by simp [h.li], fun m hm => ?_⟩
  · obtain ⟨x, a1, a2, a3, a4⟩ := h.seen m hm
    have hx : x = s := by omega
    subst hx
    rw [hg2]
    rcases a4 with z | z | z
    · omega
    · omega
    · exact ⟨by omega, z.1⟩
  · rw [List.length_append, List.length_singleton] at hm
    rw [nthI_push, nthI_push, nthI_push, act_push, h.la, h.lg, h.li]
    by_cases hml : m < es.length
    · rw [if_pos hml, if_pos hml, if_pos hml, if_pos hml]
      obtain ⟨x, a1, a2, a3, a4⟩ := h.seen m hml
      refine ⟨x, a1, a2, a3, ?_⟩
      rw [← e1, ent_set _ (by omega)]
      by_cases hx : s = x
      · subst hx
        rw [if_pos rfl]
        rcases a4 with z | z | z
        · omega
        · omega
        · exact .inr (.inr ⟨z.1, z.2⟩)
      · rw [if_neg hx]; exact a4
    · have hme : m = es.length := by omega
      rw [if_neg hml, if_neg hml, if_neg hml, if_neg hml, if_pos hme, if_pos hme, if_pos hme, if_pos hme]
      refine ⟨s, e2, hsl, by omega, ?_⟩
      rw [← e1, ent_set _ (by omega), if_pos rfl]
      exact .inl ⟨rfl, rfl, by rw [e1, hg2], rfl, rfl⟩

/-- What is shown of it. -/
theorem Once.looks {l : List En} {ts : List Tr} {es gs is : List Int} (h : Once l ts es gs is) {m : Nat} (hm : m < es.length) :
    (nthI is m = 1 ∧ look l (nthI es m) (nthI gs m) = ((act ts m).a, (act ts m).b, 0)) ∨ (nthI is m = 2 ∧ look l (nthI es m) (nthI gs m) = (0, 0, 6)) ∨ (nthI is m = 3 ∧ look l (nthI es m) (nthI gs m) = (0, 0, 5)) := by
  obtain ⟨x, a1, a2, a3, a4⟩ := h.seen m hm
  rw [a1]
  rcases a4 with q | q | q
  · left
    have hw : wrong l x (nthI gs m) = 0 := by rw [wrong_in a2, if_neg (by omega), if_neg (by omega)]
    unfold look
    rw [hw, Int.toNat_natCast, if_pos rfl, if_neg (by omega), q.2.2.2.1, q.2.2.2.2]
    exact ⟨q.1, rfl⟩
  · right; left
    have hw : wrong l x (nthI gs m) = 0 := by rw [wrong_in a2, if_neg (by omega), if_neg (by omega)]
    unfold look
    rw [hw, Int.toNat_natCast, if_pos rfl, if_pos q.2.1]
    exact ⟨q.1, rfl⟩
  · right; right
    have hw : wrong l x (nthI gs m) = 5 := by rw [wrong_in a2, if_neg (by omega), if_pos (by omega)]
    unfold look
    rw [hw, if_neg (by decide)]
    exact ⟨q.1, rfl⟩

end Proxy
end Go.Proofs.Ytboajbbnnbnpaaa
