/- The plain law of layer 6 (free): which cells are free, as the program keeps it. -/
import Derived.Test.YtngbhhcicakolaaWords
import Derived.Test.YtngbhhcicakolaaConfPure
set_option linter.unusedVariables false
set_option linter.unusedSimpArgs false
namespace Go.Proofs.Ytngbhhcicakolaa
open Go.RowKit

namespace Free

/-- A list: the share, the free cells of each class (the last one is taken first), how many are retired, the generations, what is taken. -/
structure Fr where
  s : Conf.Sh
  p : Nat → List Int
  r : Nat → Int
  g : List Int
  t : List Bool

def upd {α : Type} (f : Nat → α) (c : Nat) (x : α) : Nat → α := fun k => if k = c then x else f k
theorem upd_same {α : Type} (f : Nat → α) (c : Nat) (x : α) : upd f c x c = x := by unfold upd; rw [if_pos rfl]
theorem upd_other {α : Type} (f : Nat → α) {c k : Nat} (x : α) (h : k ≠ c) : upd f c x k = f k := by unfold upd; rw [if_neg h]

def n (f : Fr) : Nat := f.g.length
def cls (f : Fr) (x : Int) : Int := (Conf.find f.s x).1
def genAt (f : Fr) (x : Int) : Int := f.g.getD x.toNat 0
def takenAt (f : Fr) (x : Int) : Bool := f.t.getD x.toNat false
def clsB (c : Int) : Bool := decide (0 ≤ c) && decide (c < 3)
theorem clsB_iff (c : Int) : clsB c = true ↔ 0 ≤ c ∧ c < 3 := by simp [clsB]
theorem clsB_not (c : Int) : clsB c = false ↔ c < 0 ∨ 3 ≤ c := by rw [← Bool.not_eq_true, clsB_iff]; omega
def cellB (f : Fr) (x : Int) : Bool := decide (0 ≤ x) && decide (x < n f)
theorem cellB_iff (f : Fr) (x : Int) : cellB f x = true ↔ 0 ≤ x ∧ x < n f := by simp [cellB]
theorem cellB_not (f : Fr) (x : Int) : cellB f x = false ↔ x < 0 ∨ (n f : Int) ≤ x := by rw [← Bool.not_eq_true, cellB_iff]; omega

def last (l : List Int) : Int := l.getD (l.length - 1) 0
/-- Take, of a class that there is, with free cells. -/
def took (f : Fr) (c : Nat) : Fr := { f with p := upd f.p c (f.p c).dropLast, t := f.t.set (last (f.p c)).toNat true }
def take (f : Fr) (c : Int) : Fr × Int × Int :=
  if clsB c = true then (if f.p c.toNat = [] then (f, 0, 8) else (took f c.toNat, last (f.p c.toNat), 0)) else (f, 0, 1)
/-- Give, of a cell that is taken. -/
def gave (f : Fr) (x : Int) : Fr × Bool :=
  if genAt f x + 1 = 4294967295 then ({ f with r := upd f.r (cls f x).toNat (f.r (cls f x).toNat + 1), g := f.g.set x.toNat (genAt f x + 1), t := f.t.set x.toNat false }, true)
  else ({ f with p := upd f.p (cls f x).toNat (f.p (cls f x).toNat ++ [x]), g := f.g.set x.toNat (genAt f x + 1), t := f.t.set x.toNat false }, false)
def give (f : Fr) (x : Int) : Fr × Bool × Int :=
  if cellB f x = true then (if takenAt f x = true then ((gave f x).1, (gave f x).2, 0) else (f, false, 9)) else (f, false, 1)
def gen (f : Fr) (x : Int) : Int := if cellB f x = true then genAt f x else 0
def taken (f : Fr) (x : Int) : Bool := cellB f x && takenAt f x
def free (f : Fr) (c : Int) : Int := if clsB c = true then (f.p c.toNat).length else 0
def retired (f : Fr) (c : Int) : Int := if clsB c = true then f.r c.toNat else 0

/-- What holds of a list, as far as its walks need it. -/
structure Inv (f : Fr) : Prop where
  ok : Conf.ok f.s = true
  cnt : (n f : Int) = Conf.count f.s
  tl : f.t.length = n f
  p : ∀ c, c < 3 → ∀ x ∈ f.p c, 0 ≤ x ∧ x < n f ∧ cls f x = c ∧ takenAt f x = false ∧ genAt f x < 4294967295
  nd : ∀ c, c < 3 → (f.p c).Nodup
  g : ∀ x ∈ f.g, 1 ≤ x ∧ x ≤ 4294967295
  tg : ∀ k, k < n f → takenAt f k = true → genAt f k < 4294967295
  r : ∀ c, c < 3 → 0 ≤ f.r c ∧ f.r c ≤ 192

theorem nodup_len : ∀ (n : Nat) (l : List Int), l.Nodup → (∀ x ∈ l, 0 ≤ x ∧ x < n) → l.length ≤ n
  | 0, l, _, h => by
    cases l with
    | nil => simp
    | cons x l => have := h x (by simp); omega
  | n + 1, l, hd, h => by
    have h1 := nodup_len n (l.erase (n : Int)) (hd.erase _) (fun x hx => by
      have h2 := h x (List.mem_of_mem_erase hx)
      have h3 : x ≠ (n : Int) := ((List.Nodup.mem_erase_iff hd).1 hx).1
      omega)
    rw [List.length_erase] at h1
    split at h1 <;> omega
theorem Inv.len {f : Fr} (h : Inv f) {c : Nat} (hc : c < 3) : (f.p c).length ≤ n f := nodup_len _ _ (h.nd c hc) (fun x hx => by have := h.p c hc x hx; omega)
theorem Inv.small {f : Fr} (h : Inv f) : n f ≤ 192 := by have := h.cnt; have := Conf.count_bd f.s; omega

theorem Inv.cls_lt {f : Fr} (h : Inv f) {x : Nat} (hx : x < n f) : ∃ c : Nat, c < 3 ∧ cls f x = c := by
  have hc := h.cnt
  have hok := (Conf.ok_iff f.s).1 h.ok
  unfold Conf.count at hc
  rw [if_pos h.ok] at hc
  unfold cls Conf.find
  rw [if_pos ⟨h.ok, by omega⟩]
  by_cases h1 : (x : Int) < f.s.c0
  · rw [if_pos h1]; exact ⟨0, by omega, rfl⟩
  · rw [if_neg h1]
    by_cases h2 : (x : Int) - f.s.c0 < f.s.c1
    · rw [if_pos h2]; exact ⟨1, by omega, rfl⟩
    · rw [if_neg h2, if_pos (by omega)]; exact ⟨2, by omega, rfl⟩
theorem Inv.gen_bd {f : Fr} (h : Inv f) {x : Nat} (hx : x < n f) : 1 ≤ genAt f x ∧ genAt f x ≤ 4294967295 := by
  unfold genAt
  rw [Int.toNat_natCast, List.getD_eq_getElem?_getD, List.getElem?_eq_getElem hx]
  exact h.g _ (List.getElem_mem hx)

end Free
end Go.Proofs.Ytngbhhcicakolaa
