/- The plain law of layer 15 (proxy): the entries of a table, what each act does to them. -/
import Derived.Test.YtboajbbnnbnpaaaWords
set_option linter.unusedVariables false
set_option linter.unusedSimpArgs false
namespace Go.Proofs.Ytboajbbnnbnpaaa
open Go.RowKit

namespace Proxy

/-- An entry: 0 empty, 1 open, 2 revoked; its generation; a cell, the cell's generation. -/
structure En where
  is : Int
  gen : Int
  cell : Int
  cg : Int
  deriving DecidableEq

def enc (e : En) : List Value := [.int .i64 e.is, .int .i64 e.gen, .int .i64 e.cell, .int .i64 e.cg]
def encs (l : List En) : List Value := l.flatMap enc
def freshE (g : Int) : En := ⟨0, g, 0, 0⟩
def ent (l : List En) (i : Nat) : En := l.getD i (freshE 1)

theorem encs_length (l : List En) : (encs l).length = l.length * 4 := by
  unfold encs enc
  induction l with
  | nil => rfl
  | cons e l ih => simp [ih]; omega

theorem encs_get {l : List En} {i : Nat} (h : i < l.length) : (encs l)[i * 4]? = some (.int .i64 (ent l i).is) ∧ (encs l)[i * 4 + 1]? = some (.int .i64 (ent l i).gen) ∧
    (encs l)[i * 4 + 2]? = some (.int .i64 (ent l i).cell) ∧ (encs l)[i * 4 + 3]? = some (.int .i64 (ent l i).cg) := by
  induction l generalizing i with
  | nil => simp at h
  | cons e l ih =>
    cases i with
    | zero => simp [encs, enc, ent]
    | succ i =>
      have h1 := ih (i := i) (by simpa using h)
      have e0 : ∀ k, (encs (e :: l))[(i + 1) * 4 + k]? = (encs l)[i * 4 + k]? := fun k => by
        rw [show (i + 1) * 4 + k = (i * 4 + k) + 1 + 1 + 1 + 1 by omega]; simp [encs, enc]
      have e1 : ent (e :: l) (i + 1) = ent l i := by simp [ent]
      have := e0 0
      simp only [Nat.add_zero] at this
      rw [this, e0, e0, e0, e1]
      exact h1

theorem encs_set {l : List En} {i : Nat} (h : i < l.length) : (∀ x, (encs l).set (i * 4) (.int .i64 x) = encs (l.set i { ent l i with is := x })) ∧ (∀ x, (encs l).set (i * 4 + 1) (.int .i64 x) = encs (l.set i { ent l i with gen := x })) ∧
    (∀ x, (encs l).set (i * 4 + 2) (.int .i64 x) = encs (l.set i { ent l i with cell := x })) ∧ (∀ x, (encs l).set (i * 4 + 3) (.int .i64 x) = encs (l.set i { ent l i with cg := x })) := by
  induction l generalizing i with
  | nil => simp at h
  | cons e l ih =>
    cases i with
    | zero => simp [encs, enc, ent]
    | succ i =>
      obtain ⟨h1, h2, h3, h4⟩ := ih (i := i) (by simpa using h)
      have e0 : ∀ k v, (encs (e :: l)).set ((i + 1) * 4 + k) v = enc e ++ (encs l).set (i * 4 + k) v := fun k v => by
        rw [show (i + 1) * 4 + k = (i * 4 + k) + 1 + 1 + 1 + 1 by omega]; simp [encs, enc]
      have e1 : ent (e :: l) (i + 1) = ent l i := by simp [ent]
      have e2 : ∀ x, encs ((e :: l).set (i + 1) x) = enc e ++ encs (l.set i x) := fun x => by simp [encs]
      refine ⟨fun x => ?_, fun x => ?_, fun x => ?_, fun x => ?_⟩
      · have := e0 0 (.int .i64 x); simp only [Nat.add_zero] at this; rw [this, e2, e1, h1]
      · rw [e0, e2, e1, h2]
      · rw [e0, e2, e1, h3]
      · rw [e0, e2, e1, h4]

theorem ent_set {l : List En} {i k : Nat} (x : En) (h : k < l.length) : ent (l.set i x) k = if i = k then x else ent l k := by
  unfold ent; simp only [List.getD_eq_getElem?_getD, List.getElem?_set]; split
  · rename_i e; subst e; simp [h]
  · rfl

/-- An entry put in whole. -/
theorem put_enc {l : List En} {i : Nat} (h : i < l.length) (x : En) : (encs l).take (i * 4) ++ enc x ++ (encs l).drop (i * 4 + 4) = encs (l.set i x) := by
  induction l generalizing i with
  | nil => simp at h
  | cons e l ih =>
    cases i with
    | zero => simp [encs, enc]
    | succ i =>
      have := ih (i := i) (by simpa using h)
      rw [show (i + 1) * 4 = i * 4 + 1 + 1 + 1 + 1 by omega]
      rw [show i * 4 + 1 + 1 + 1 + 1 + 4 = (i * 4 + 4) + 1 + 1 + 1 + 1 by omega]
      have e2 : encs ((e :: l).set (i + 1) x) = enc e ++ encs (l.set i x) := by simp [encs]
      rw [e2, ← this]
      simp [encs, enc]

/-- Is an entry to be had? -/
def canB (e : En) : Bool := decide (e.is = 0) && decide (e.gen < 4294967295)
theorem canB_iff (e : En) : canB e = true ↔ e.is = 0 ∧ e.gen < 4294967295 := by simp [canB]
theorem canB_not (e : En) : canB e = false ↔ e.is ≠ 0 ∨ 4294967295 ≤ e.gen := by
  rw [← Bool.not_eq_true, canB_iff]; omega
/-- The first one; the length: there is none. -/
def slot (l : List En) : Nat := l.findIdx canB
theorem slot_at {l : List En} {j : Nat} (hj : j < l.length) (h : canB (ent l j) = true) (hb : ∀ k, k < j → canB (ent l k) = false) : slot l = j := by
  unfold slot
  have e : ∀ k, (hk : k < l.length) → ent l k = l[k] := fun k hk => by simp [ent, hk]
  rw [List.findIdx_eq hj]
  refine ⟨by rw [← e j hj]; exact h, fun k hk => ?_⟩
  rw [← e k (by omega)]; exact hb k hk
theorem slot_none {l : List En} (hb : ∀ k, k < l.length → canB (ent l k) = false) : slot l = l.length := by
  unfold slot
  have e : ∀ k, (hk : k < l.length) → ent l k = l[k] := fun k hk => by simp [ent, hk]
  rw [List.findIdx_eq_length]
  intro x hx
  obtain ⟨k, hk, rfl⟩ := List.getElem_of_mem hx
  rw [← e k hk]; exact hb k hk
theorem slot_le (l : List En) : slot l ≤ l.length := List.findIdx_le_length
theorem slot_can {l : List En} (h : slot l < l.length) : canB (ent l (slot l)) = true := by
  have e : ∀ k, (hk : k < l.length) → ent l k = l[k] := fun k hk => by simp [ent, hk]
  rw [e _ h]; exact List.findIdx_getElem

def okG (c g : Int) : Bool := decide (0 ≤ c) && decide (c < 192) && decide (0 ≤ g) && decide (g ≤ 4294967295)
theorem okG_iff (c g : Int) : okG c g = true ↔ 0 ≤ c ∧ c < 192 ∧ 0 ≤ g ∧ g ≤ 4294967295 := by simp [okG, and_assoc]
theorem okG_not (c g : Int) : okG c g = false ↔ c < 0 ∨ 192 ≤ c ∨ g < 0 ∨ 4294967295 < g := by
  rw [← Bool.not_eq_true, okG_iff]; omega

/-- Grant: the entries, the answer, the error. -/
def grant (l : List En) (c g : Int) : List En × Int × Int :=
  if okG c g = true then (if slot l < 8 then (l.set (slot l) ⟨1, (ent l (slot l)).gen, c, g⟩, slot l, 0) else (l, 0, 8)) else (l, 0, 1)
def inB (i : Int) : Bool := decide (0 ≤ i) && decide (i < 8)
theorem inB_iff (i : Int) : inB i = true ↔ 0 ≤ i ∧ i < 8 := by simp [inB]
theorem inB_not (i : Int) : inB i = false ↔ i < 0 ∨ 8 ≤ i := by rw [← Bool.not_eq_true, inB_iff]; omega
def gen (l : List En) (i : Int) : Int := if inB i = true then (ent l i.toNat).gen else 0
/-- Revoke, the program's. -/
def revoke (l : List En) (i : Int) : List En × Int :=
  if inB i = true then (if (ent l i.toNat).is = 1 then (l.set i.toNat { ent l i.toNat with is := 2 }, 0) else (l, 9)) else (l, 1)
/-- The error of an entry, and a generation. -/
def wrong (l : List En) (i g : Int) : Int :=
  if inB i = true then (if (ent l i.toNat).gen < g then 4 else if g < (ent l i.toNat).gen ∨ (ent l i.toNat).is = 0 then 5 else 0) else 4
def look (l : List En) (i g : Int) : Int × Int × Int :=
  if wrong l i g = 0 then (if (ent l i.toNat).is = 2 then (0, 0, 6) else ((ent l i.toNat).cell, (ent l i.toNat).cg, 0)) else (0, 0, wrong l i g)
def close (l : List En) (i g : Int) : List En × Int :=
  if wrong l i g = 0 then (l.set i.toNat (freshE ((ent l i.toNat).gen + 1)), 0) else (l, wrong l i g)
def okS (g : Int) : Bool := decide (1 ≤ g) && decide (g ≤ 4294967295)
theorem okS_iff (g : Int) : okS g = true ↔ 1 ≤ g ∧ g ≤ 4294967295 := by simp [okS]
theorem okS_not (g : Int) : okS g = false ↔ g < 1 ∨ 4294967295 < g := by rw [← Bool.not_eq_true, okS_iff]; omega
def news : List En := List.replicate 8 (freshE 1)
def start (l : List En) (g : Int) : List En × Int :=
  if okS g = true ∧ l = news then (List.replicate 8 (freshE g), 0) else (l, 1)

theorem gen_out {l : List En} {i : Int} (h : inB i = false) : gen l i = 0 := by unfold gen; rw [h]; rfl
theorem gen_in {l : List En} {i : Nat} (h : i < 8) : gen l i = (ent l i).gen := by unfold gen; rw [if_pos ((inB_iff _).2 (by omega))]; rfl
theorem revoke_out {l : List En} {i : Int} (h : inB i = false) : revoke l i = (l, 1) := by unfold revoke; rw [h]; rfl
theorem revoke_yes {l : List En} {i : Nat} (h : i < 8) (h1 : (ent l i).is = 1) : revoke l i = (l.set i { ent l i with is := 2 }, 0) := by
  unfold revoke; rw [if_pos ((inB_iff _).2 (by omega)), Int.toNat_natCast, if_pos h1]
theorem revoke_no {l : List En} {i : Nat} (h : i < 8) (h1 : (ent l i).is ≠ 1) : revoke l i = (l, 9) := by
  unfold revoke; rw [if_pos ((inB_iff _).2 (by omega)), Int.toNat_natCast, if_neg h1]
theorem wrong_out {l : List En} {i g : Int} (h : inB i = false) : wrong l i g = 4 := by unfold wrong; rw [h]; rfl
theorem wrong_in {l : List En} {i : Nat} {g : Int} (h : i < 8) : wrong l i g = if (ent l i).gen < g then 4 else if g < (ent l i).gen ∨ (ent l i).is = 0 then 5 else 0 := by
  unfold wrong; rw [if_pos ((inB_iff _).2 (by omega)), Int.toNat_natCast]
theorem wrong_ok {l : List En} {i g : Int} (h : wrong l i g = 0) : ∃ k : Nat, i = k ∧ k < 8 ∧ (ent l k).gen = g ∧ (ent l k).is ≠ 0 := by
  cases hi : inB i with
  | false => rw [wrong_out hi] at h; omega
  | true =>
    rw [inB_iff] at hi
    obtain ⟨i, rfl⟩ : ∃ k : Nat, i = k := ⟨i.toNat, by omega⟩
    rw [wrong_in (by omega)] at h
    split at h
    · omega
    · split at h
      · omega
      · exact ⟨i, rfl, by omega, by omega, by omega⟩
theorem wrong_is (l : List En) (i g : Int) : wrong l i g = 0 ∨ wrong l i g = 4 ∨ wrong l i g = 5 := by
  unfold wrong; repeat' split
  all_goals omega
theorem grant_bad {l : List En} {c g : Int} (h : okG c g = false) : grant l c g = (l, 0, 1) := by unfold grant; rw [h]; rfl
theorem grant_full {l : List En} {c g : Int} (h : okG c g = true) (h2 : slot l = 8) : grant l c g = (l, 0, 8) := by unfold grant; rw [if_pos h, h2]; rfl
theorem grant_at {l : List En} {c g : Int} {j : Nat} (h : okG c g = true) (h2 : slot l = j) (h3 : j < 8) : grant l c g = (l.set j ⟨1, (ent l j).gen, c, g⟩, (j : Int), 0) := by
  unfold grant; rw [if_pos h, h2, if_pos h3]

end Proxy
end Go.Proofs.Ytboajbbnnbnpaaa
