/- The plain law of layer 7 (cells): which words of an arena a tenant's cells are. -/
import Derived.Test.YtngbhhcicakolaaFreePlain3
import Derived.Test.YtngbhhcicakolaaArenaWalks
import Derived.Test.YtngbhhcicakolaaHeadPure
import Derived.Test.YtngbhhcicakolaaWordWalks
set_option linter.unusedVariables false
set_option linter.unusedSimpArgs false
namespace Go.Proofs.Ytngbhhcicakolaa
open Go.RowKit

namespace Cells
open Free (Fr genAt takenAt)
open Arena (nth zeroed)

/-- A tenant's cells: what is free, each cell's count, its values. -/
structure Cs where
  f : Fr
  cn : List Int
  v : List (List (Int × Int))

def n (c : Cs) : Nat := Free.n c.f
def cntAt (c : Cs) (x : Nat) : Int := c.cn.getD x 0
def valsAt (c : Cs) (x : Nat) : List (Int × Int) := c.v.getD x []
def valAt (c : Cs) (x k : Nat) : Int × Int := (valsAt c x).getD k (0, 0)
def slots (s : Conf.Sh) (x : Int) : Int := Conf.slots (Conf.find s x).1
def place (s : Conf.Sh) (x : Int) : Int := (Conf.find s x).2
def isCell (c : Cs) (x : Int) : Bool := decide (0 ≤ x) && decide (x < n c)
theorem isCell_iff (c : Cs) (x : Int) : isCell c x = true ↔ 0 ≤ x ∧ x < n c := by simp [isCell]
theorem isCell_not (c : Cs) (x : Int) : isCell c x = false ↔ x < 0 ∨ (n c : Int) ≤ x := by rw [← Bool.not_eq_true, isCell_iff]; omega

/-! ### Places -/
theorem slots_pos {s : Conf.Sh} (h : Conf.ok s = true) {x : Nat} (hx : (x : Int) < Conf.count s) : 1 ≤ slots s x ∧ slots s x ≤ 4 ∧ Conf.size (Conf.find s x).1 = slots s x + 1 ∧ 0 ≤ place s x := by
  have hl := Conf.cl_length h
  have hp := Conf.find_pos h (i := x) (by omega)
  unfold slots place
  have h1 := hp.1
  have h2 := hp.2.1
  refine ⟨?_, ?_, ?_, hp.2.2⟩
  all_goals
    generalize (Conf.find s (x : Int)).1 = c at *
    obtain rfl | rfl | rfl : c = 0 ∨ c = 1 ∨ c = 2 := by omega
    all_goals simp [Conf.slots, Conf.size]
theorem slots_none {s : Conf.Sh} (h : Conf.ok s = true) {x : Int} (hx : x < 0 ∨ Conf.count s ≤ x) : slots s x = 0 := by
  have hl := Conf.cl_length h
  unfold slots
  rw [Conf.find_neg h (by omega)]
  rfl
theorem slots_bd (s : Conf.Sh) (x : Int) : 0 ≤ slots s x ∧ slots s x ≤ 4 := by
  unfold slots Conf.slots
  repeat' split
  all_goals omega
/-- The next one begins where a cell ends. -/
theorem place_next {s : Conf.Sh} (h : Conf.ok s = true) {x : Nat} (hx : (x : Int) + 1 < Conf.count s) : place s ((x + 1 : Nat) : Int) = place s x + slots s x + 1 := by
  have hl := Conf.cl_length h
  have h1 := Conf.cl_at h (i := x) (by omega)
  have h2 := Conf.cl_at h (i := x + 1) (by omega)
  have h3 := Conf.sizes_succ (l := Conf.cl s) (j := x) (by omega)
  have h4 := (slots_pos h (x := x) (by omega)).2.2.1
  unfold place
  rw [h2.1, h3, ← h1.1, ← h1.2, h4]
  omega
theorem place_last {s : Conf.Sh} (h : Conf.ok s = true) {x : Nat} (hx : (x : Int) < Conf.count s) : place s x + slots s x + 1 ≤ Conf.words s := by
  have hl := Conf.cl_length h
  have h1 := Conf.cl_at h (i := x) (by omega)
  have h3 := Conf.sizes_succ (l := Conf.cl s) (j := x) (by omega)
  have h4 := (slots_pos h hx).2.2.1
  have h5 : Conf.sizes (Conf.cl s) = Conf.sizes ((Conf.cl s).take (x + 1)) + Conf.sizes ((Conf.cl s).drop (x + 1)) := by rw [← Conf.sizes_app, List.take_append_drop]
  have h6 := (Conf.sizes_bd (l := (Conf.cl s).drop (x + 1)) (fun c hc => Conf.cl_mem s c (List.mem_of_mem_drop hc))).1
  rw [← Conf.cl_words h, h5, h3, ← h1.1, ← h1.2, h4]
  unfold place
  omega
theorem place_mono {s : Conf.Sh} (h : Conf.ok s = true) {x : Nat} : ∀ {y : Nat}, x < y → (y : Int) < Conf.count s → place s x + slots s x + 1 ≤ place s y
  | 0, h1, _ => by omega
  | y + 1, h1, h2 => by
    have h3 := place_next h (x := y) (by omega)
    have h4 := (slots_pos h (x := y) (by omega)).1
    by_cases e : x = y
    · subst e; omega
    · have := place_mono h (x := x) (y := y) (by omega) (by omega)
      omega
/-- No word of two cells. -/
theorem place_apart {s : Conf.Sh} (h : Conf.ok s = true) {x y : Nat} (hx : (x : Int) < Conf.count s) (hy : (y : Int) < Conf.count s) (hne : x ≠ y) : place s x + slots s x + 1 ≤ place s y ∨ place s y + slots s y + 1 ≤ place s x := by
  rcases Nat.lt_or_gt_of_ne hne with q | q
  · exact .inl (place_mono h q hy)
  · exact .inr (place_mono h q hx)

/-! ### What holds of cells -/
structure Inv (c : Cs) : Prop where
  f : Free.Inv c.f
  rel : ∃ r, Free.Rel c.f r
  cl : c.cn.length = n c
  vl : c.v.length = n c
  vs : ∀ x : Nat, x < n c → ((valsAt c x).length : Int) = slots c.f.s x
  cb : ∀ x : Nat, x < n c → 0 ≤ cntAt c x ∧ cntAt c x ≤ 2147483647
  vr : ∀ x : Nat, x < n c → ∀ p ∈ valsAt c x, Word.vright p.1 p.2 = true ∧ 0 ≤ p.2
  z : ∀ x : Nat, x < n c → takenAt c.f x = false → cntAt c x = 0 ∧ ∀ k, valAt c x k = (0, 0)

theorem Inv.lt {c : Cs} (h : Inv c) {x : Nat} (hx : x < n c) : (x : Int) < Conf.count c.f.s := by have := h.f.cnt; unfold n at hx; omega
theorem Inv.cell {c : Cs} (h : Inv c) (x : Int) : slots c.f.s x = 0 ↔ isCell c x = false := by
  have hc := h.f.cnt
  rw [isCell_not]
  constructor
  · intro q
    by_cases hx : 0 ≤ x ∧ x < n c
    · obtain ⟨m, rfl⟩ : ∃ m : Nat, x = m := ⟨x.toNat, by omega⟩
      have := (slots_pos h.f.ok (x := m) (h.lt (by omega))).1
      omega
    · omega
  · intro q
    exact slots_none h.f.ok (by unfold n at q; omega)

def headW (c : Cs) (x : Nat) : Int := Head.word (genAt c.f x) (cntAt c x) (takenAt c.f x)
def slotW (c : Cs) (x k : Nat) : Int := Word.vword (valAt c x k).1 (valAt c x k).2

/-- The cells lie so in an arena, from 'base' on; the rest of it is as in l0. -/
structure Lay (base : Nat) (l0 : List Int) (c : Cs) (l : List Int) : Prop where
  len : l.length = l0.length
  room : (base : Int) + Conf.words c.f.s ≤ l.length
  hd : ∀ x : Nat, x < n c → nth l (base + (place c.f.s x).toNat) = headW c x
  sl : ∀ x k : Nat, x < n c → (k : Int) < slots c.f.s x → nth l (base + (place c.f.s x).toNat + 1 + k) = slotW c x k
  out : ∀ i : Nat, i < base ∨ (base : Int) + Conf.words c.f.s ≤ i → nth l i = nth l0 i

theorem nth_set (l : List Int) (i : Nat) (x : Int) (j : Nat) : nth (l.set i x) j = if j = i ∧ i < l.length then x else nth l j := by
  unfold nth
  rw [List.getD_eq_getElem?_getD, List.getElem?_set, List.getD_eq_getElem?_getD]
  by_cases h : i = j
  · subst h
    by_cases h2 : i < l.length
    · simp [h2]
    · rw [if_pos rfl, if_neg h2, if_neg (by omega), List.getElem?_eq_none (by omega)]
  · rw [if_neg h, if_neg (by omega)]
theorem nth_zeroed (l : List Int) {i m : Nat} (h : i + m ≤ l.length) (j : Nat) : nth (zeroed l i m) j = if i ≤ j ∧ j < i + m then 0 else nth l j := by
  unfold nth zeroed
  simp only [List.getD_eq_getElem?_getD, List.getElem?_append, List.getElem?_replicate, List.getElem?_take, List.getElem?_drop, List.length_replicate, List.length_take]
  repeat' split
  all_goals first | rfl | (exfalso; omega) | skip
  all_goals
    congr 2
    omega

theorem Inv.place {c : Cs} (h : Inv c) {x : Nat} (hx : x < n c) : ∃ p q : Nat, place c.f.s x = p ∧ slots c.f.s x = q ∧ 1 ≤ q ∧ q ≤ 4 ∧ ((p + q + 1 : Nat) : Int) ≤ Conf.words c.f.s := by
  have h1 := slots_pos h.f.ok (h.lt hx)
  have h2 := place_last h.f.ok (h.lt hx)
  exact ⟨(Cells.place c.f.s x).toNat, (slots c.f.s x).toNat, by omega, by omega, by omega, by omega, by omega⟩
theorem Inv.two {c : Cs} (h : Inv c) {x y : Nat} (hx : x < n c) (hy : y < n c) (hne : x ≠ y) {p q p' q' : Nat} (e1 : Cells.place c.f.s x = p) (e2 : slots c.f.s x = q) (e3 : Cells.place c.f.s y = p') (e4 : slots c.f.s y = q') :
    p + q + 1 ≤ p' ∨ p' + q' + 1 ≤ p := by
  have := place_apart h.f.ok (h.lt hx) (h.lt hy) hne
  rw [e1, e2, e3, e4] at this
  omega

/-- A cell's header is written. -/
theorem Lay.head {base : Nat} {l0 l : List Int} {c c' : Cs} (h : Lay base l0 c l) (hI : Inv c) {x : Nat} (hx : x < n c) (hs : c'.f.s = c.f.s) (hn : n c' = n c) (ho : ∀ y : Nat, y < n c → y ≠ x → headW c' y = headW c y)
    (hv : c'.v = c.v) : Lay base l0 c' (l.set (base + (place c.f.s x).toNat) (headW c' x)) := by
  have hsl : ∀ y k, slotW c' y k = slotW c y k := fun y k => by unfold slotW valAt valsAt; rw [hv]
  obtain ⟨p, q, e1, e2, q1, q4, ew⟩ := hI.place hx
  refine ⟨by simpa using h.len, by rw [hs]; simpa using h.room, fun y hy => ?_, fun y k hy hk => ?_, fun i hi => ?_⟩
  · rw [hn] at hy
    rw [hs, nth_set]
    by_cases e : y = x
    · subst e
      rw [if_pos ⟨rfl, by have := h.room; rw [e1]; simp; omega⟩]
    · obtain ⟨p', q', e1', e2', q1', q4', ew'⟩ := hI.place hy
      have := hI.two hx hy (fun q => e q.symm) e1 e2 e1' e2'
      rw [if_neg (by rw [e1, e1']; simp; omega), h.hd y hy, ho y hy e]
  · rw [hn] at hy
    rw [hs] at hk ⊢
    rw [nth_set, hsl]
    obtain ⟨p', q', e1', e2', q1', q4', ew'⟩ := hI.place hy
    rw [if_neg, h.sl y k hy hk]
    rw [e1, e1']
    rw [e2'] at hk
    by_cases e : y = x
    · subst e; rw [e1] at e1'; simp; omega
    · have := hI.two hx hy (fun q => e q.symm) e1 e2 e1' e2'
      simp; omega
  · rw [hs] at hi
    rw [nth_set, if_neg, h.out i hi]
    rw [e1]
    simp
    omega

/-- A slot of a cell is written. -/
theorem Lay.slot {base : Nat} {l0 l : List Int} {c c' : Cs} (h : Lay base l0 c l) (hI : Inv c) {x k : Nat} (hx : x < n c) (hk : (k : Int) < slots c.f.s x) (hf : c'.f = c.f) (hc : c'.cn = c.cn)
    (ho : ∀ y j : Nat, ¬ (y = x ∧ j = k) → valAt c' y j = valAt c y j) : Lay base l0 c' (l.set (base + (place c.f.s x).toNat + 1 + k) (slotW c' x k)) := by
  have hn : n c' = n c := by unfold n; rw [hf]
  have hh : ∀ y, headW c' y = headW c y := fun y => by unfold headW cntAt; rw [hf, hc]
  obtain ⟨p, q, e1, e2, q1, q4, ew⟩ := hI.place hx
  rw [e2] at hk
  refine ⟨by simpa using h.len, by rw [hf]; simpa using h.room, fun y hy => ?_, fun y j hy hj => ?_, fun i hi => ?_⟩
  · rw [hn] at hy
    rw [hf, nth_set, hh]
    obtain ⟨p', q', e1', e2', q1', q4', ew'⟩ := hI.place hy
    rw [if_neg, h.hd y hy]
    rw [e1, e1']
    by_cases e : y = x
    · subst e; rw [e1] at e1'; simp; omega
    · have := hI.two hx hy (fun q => e q.symm) e1 e2 e1' e2'
      simp; omega
  · rw [hn] at hy
    rw [hf] at hj ⊢
    rw [nth_set]
    obtain ⟨p', q', e1', e2', q1', q4', ew'⟩ := hI.place hy
    by_cases e : y = x ∧ j = k
    · obtain ⟨rfl, rfl⟩ := e
      rw [if_pos ⟨rfl, by have := h.room; rw [e1]; simp; omega⟩]
    · rw [if_neg, h.sl y j hy hj]
      · unfold slotW; rw [ho y j e]
      · rw [e1, e1']
        rw [e2'] at hj
        by_cases e' : y = x
        · subst e'
          rw [e1] at e1'
          have : j ≠ k := fun q => e ⟨rfl, q⟩
          simp; omega
        · have := hI.two hx hy (fun q => e' q.symm) e1 e2 e1' e2'
          simp; omega
  · rw [hf] at hi
    rw [nth_set, if_neg, h.out i hi]
    rw [e1]
    simp
    omega

/-- A cell is wiped: its words are 0, then its header is written. -/
theorem Lay.wiped {base : Nat} {l0 l : List Int} {c c' : Cs} (h : Lay base l0 c l) (hI : Inv c) {x : Nat} (hx : x < n c) (hs : c'.f.s = c.f.s) (hn : n c' = n c) (ho : ∀ y : Nat, y < n c → y ≠ x → headW c' y = headW c y)
    (hv : ∀ y j : Nat, y ≠ x → valAt c' y j = valAt c y j) (hz : ∀ j, valAt c' x j = (0, 0)) {m : Nat} (hm : (m : Int) = 1 + slots c.f.s x) :
    Lay base l0 c' ((zeroed l (base + (place c.f.s x).toNat) m).set (base + (place c.f.s x).toNat) (headW c' x)) := by
  obtain ⟨p, q, e1, e2, q1, q4, ew⟩ := hI.place hx
  have hr := h.room
  rw [e2] at hm
  have hw : base + (place c.f.s x).toNat + m ≤ l.length := by rw [e1]; simp; omega
  have hzl := Arena.zeroed_length hw
  refine ⟨by rw [List.length_set, hzl]; exact h.len, by rw [hs, List.length_set, hzl]; exact h.room, fun y hy => ?_, fun y k hy hk => ?_, fun i hi => ?_⟩
  · rw [hn] at hy
    rw [hs, nth_set, nth_zeroed _ hw]
    by_cases e : y = x
    · subst e
      rw [if_pos ⟨rfl, by rw [hzl, e1]; simp; omega⟩]
    · obtain ⟨p', q', e1', e2', q1', q4', ew'⟩ := hI.place hy
      have := hI.two hx hy (fun q => e q.symm) e1 e2 e1' e2'
      rw [if_neg (by rw [e1, e1']; simp; omega), if_neg (by rw [e1, e1']; simp; omega), h.hd y hy, ho y hy e]
  · rw [hn] at hy
    rw [hs] at hk ⊢
    rw [nth_set, nth_zeroed _ hw]
    obtain ⟨p', q', e1', e2', q1', q4', ew'⟩ := hI.place hy
    by_cases e : y = x
    · subst e
      rw [e2] at hk
      rw [if_neg (by omega), if_pos (by omega)]
      unfold slotW
      rw [hz]
      rfl
    · have := hI.two hx hy (fun q => e q.symm) e1 e2 e1' e2'
      rw [e2'] at hk
      rw [if_neg (by rw [e1, e1']; simp; omega), if_neg (by rw [e1, e1']; simp; omega), h.sl y k hy (by rw [e2']; exact hk)]
      unfold slotW
      rw [hv y k e]
  · rw [hs] at hi
    rw [nth_set, nth_zeroed _ hw, if_neg, if_neg, h.out i hi]
    · rw [e1]; simp; omega
    · rw [e1]; simp; omega

end Cells
end Go.Proofs.Ytngbhhcicakolaa
