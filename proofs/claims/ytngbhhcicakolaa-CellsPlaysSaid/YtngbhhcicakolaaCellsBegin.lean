/- The plain law of layer 7 (cells): as they begin. -/
import Derived.Test.YtngbhhcicakolaaCellsActs
set_option linter.unusedVariables false
set_option linter.unusedSimpArgs false
namespace Go.Proofs.Ytngbhhcicakolaa
open Go.RowKit

namespace Cells
open Free (Fr genAt takenAt)
open Arena (nth zeroed)

def begin_ (s : Conf.Sh) (m : Nat) : Cs := ⟨Free.initTo s m m, List.replicate m 0, (List.range m).map (fun (x : Nat) => List.replicate (slots s x).toNat (0, 0))⟩
theorem begin_n (s : Conf.Sh) (m : Nat) : n (begin_ s m) = m := Free.initTo_n s (Nat.le_refl m)
theorem begin_cnt (s : Conf.Sh) (m x : Nat) : cntAt (begin_ s m) x = 0 := by
  unfold cntAt begin_
  rw [List.getD_eq_getElem?_getD, List.getElem?_replicate]
  split <;> rfl
theorem begin_vals (s : Conf.Sh) {m x : Nat} (h : x < m) : valsAt (begin_ s m) x = List.replicate (slots s x).toNat (0, 0) := by
  unfold valsAt begin_
  rw [List.getD_eq_getElem?_getD, List.getElem?_map, List.getElem?_range h]
  rfl
theorem begin_val (s : Conf.Sh) (m x k : Nat) : valAt (begin_ s m) x k = (0, 0) := by
  unfold valAt
  by_cases h : x < m
  · rw [begin_vals s h, List.getD_eq_getElem?_getD, List.getElem?_replicate]
    split <;> rfl
  · have : valsAt (begin_ s m) x = [] := by
      unfold valsAt begin_
      rw [List.getD_eq_getElem?_getD, List.getElem?_eq_none (by simp; omega)]
      rfl
    rw [this]; rfl
theorem begin_taken (s : Conf.Sh) (m : Nat) (x : Nat) : takenAt (begin_ s m).f x = false := by
  unfold takenAt begin_ Free.initTo
  simp only [Int.toNat_natCast]
  rw [List.getD_eq_getElem?_getD, List.getElem?_replicate]
  split <;> rfl
theorem begin_inv {s : Conf.Sh} (h : Conf.ok s = true) {m : Nat} (hm : Conf.count s = m) : Inv (begin_ s m) := by
  have hr := Free.rel_init h hm
  refine ⟨hr.2, ⟨_, hr.1⟩, ?_, ?_, ?_, ?_, ?_, ?_⟩
  · rw [begin_n]; simp [begin_]
  · rw [begin_n]; simp [begin_]
  · rw [begin_n]
    intro x hx
    rw [begin_vals s hx, List.length_replicate]
    have := (slots_bd s x).1
    show _ = slots s x
    omega
  · intro x _; rw [begin_cnt]; omega
  · rw [begin_n]
    intro x hx p hp
    rw [begin_vals s hx] at hp
    obtain ⟨-, rfl⟩ := List.mem_replicate.1 hp
    exact ⟨by decide, by decide⟩
  · intro x _ _
    exact ⟨begin_cnt s m x, fun k => begin_val s m x k⟩

/-- The first j cells are laid. -/
structure LayTo (base : Nat) (l0 : List Int) (c : Cs) (j : Nat) (l : List Int) : Prop where
  len : l.length = l0.length
  room : (base : Int) + Conf.words c.f.s ≤ l.length
  hd : ∀ x : Nat, x < n c → x < j → nth l (base + (place c.f.s x).toNat) = headW c x
  sl : ∀ x k : Nat, x < n c → x < j → (k : Int) < slots c.f.s x → nth l (base + (place c.f.s x).toNat + 1 + k) = slotW c x k
  out : ∀ i : Nat, i < base ∨ (base : Int) + Conf.words c.f.s ≤ i → nth l i = nth l0 i
theorem LayTo.all {base : Nat} {l0 l : List Int} {c : Cs} (h : LayTo base l0 c (n c) l) : Lay base l0 c l :=
  ⟨h.len, h.room, fun x hx => h.hd x hx hx, fun x k hx hk => h.sl x k hx hx hk, h.out⟩
theorem LayTo.step {base : Nat} {l0 l : List Int} {c : Cs} {j : Nat} (h : LayTo base l0 c j l) (hI : Inv c) (hj : j < n c) (ht : takenAt c.f j = false) {p q : Nat} (e1 : place c.f.s j = p) (e2 : slots c.f.s j = q) :
    LayTo base l0 c (j + 1) ((zeroed l (base + p) (q + 1)).set (base + p) (Head.word (genAt c.f j) 0 false)) := by
  obtain ⟨p0, q0, e10, e20, q1, q4, ew⟩ := hI.place hj
  obtain rfl : p = p0 := by omega
  obtain rfl : q = q0 := by omega
  have hr := h.room
  have hw : base + p + (q + 1) ≤ l.length := by omega
  have hzl := Arena.zeroed_length hw
  have hz := hI.z j hj ht
  refine ⟨by rw [List.length_set, hzl]; exact h.len, by rw [List.length_set, hzl]; exact h.room, fun y hy hyj => ?_, fun y k hy hyj hk => ?_, fun i hi => ?_⟩
  · rw [nth_set, nth_zeroed _ hw]
    by_cases e : y = j
    · subst e
      rw [e1, Int.toNat_natCast, if_pos ⟨rfl, by rw [hzl]; omega⟩]
      unfold headW
      rw [ht, hz.1]
    · obtain ⟨p', q', e1', e2', q1', q4', ew'⟩ := hI.place hy
      have := hI.two hj hy (fun z => e z.symm) e1 e2 e1' e2'
      have hh := h.hd y hy (by omega)
      rw [e1', Int.toNat_natCast] at hh ⊢
      rw [if_neg (by omega), if_neg (by omega), hh]
  · rw [nth_set, nth_zeroed _ hw]
    by_cases e : y = j
    · subst e
      rw [e2] at hk
      rw [e1, Int.toNat_natCast, if_neg (by omega), if_pos (by omega)]
      unfold slotW
      rw [hz.2]
      rfl
    · obtain ⟨p', q', e1', e2', q1', q4', ew'⟩ := hI.place hy
      have := hI.two hj hy (fun z => e z.symm) e1 e2 e1' e2'
      have hh := h.sl y k hy (by omega) hk
      rw [e2'] at hk
      rw [e1', Int.toNat_natCast] at hh ⊢
      rw [if_neg (by omega), if_neg (by omega), hh]
  · rw [nth_set, nth_zeroed _ hw, if_neg, if_neg, h.out i hi]
    · omega
    · omega

end Cells
end Go.Proofs.Ytngbhhcicakolaa
