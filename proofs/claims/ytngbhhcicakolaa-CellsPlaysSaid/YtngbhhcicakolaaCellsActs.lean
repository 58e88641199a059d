/- The plain law of layer 7 (cells): what each act does, and that it keeps all in order. -/
import Derived.Test.YtngbhhcicakolaaCellsPure
set_option linter.unusedVariables false
set_option linter.unusedSimpArgs false
namespace Go.Proofs.Ytngbhhcicakolaa
open Go.RowKit

namespace Cells
open Free (Fr genAt takenAt)
open Arena (nth zeroed)

theorem take_keep {f : Fr} (hI : Free.Inv f) {k : Int} (h : (Free.take f k).2.2 = 0) : ∃ x : Nat, (Free.take f k).2.1 = x ∧ x < Free.n f ∧ takenAt f x = false ∧ takenAt (Free.take f k).1 x = true ∧
    (∀ y : Nat, genAt (Free.take f k).1 y = genAt f y) ∧ (∀ y : Nat, y ≠ x → takenAt (Free.take f k).1 y = takenAt f y) ∧ Free.n (Free.take f k).1 = Free.n f ∧ (Free.take f k).1.s = f.s := by
  cases hc : Free.clsB k with
  | false => exfalso; unfold Free.take at h; rw [hc] at h; exact absurd (show (1 : Int) = 0 from h) (by decide)
  | true =>
    by_cases hp : f.p k.toNat = []
    · exfalso; unfold Free.take at h; rw [hc, if_pos rfl, if_pos hp] at h; exact absurd (show (8 : Int) = 0 from h) (by decide)
    · have e : Free.take f k = (Free.took f k.toNat, Free.last (f.p k.toNat), 0) := by unfold Free.take; rw [hc, if_pos rfl, if_neg hp]
      rw [Free.clsB_iff] at hc
      obtain ⟨c, rfl⟩ : ∃ m : Nat, k = m := ⟨k.toNat, by omega⟩
      rw [Int.toNat_natCast] at e hp
      have hm := hI.p c (by omega) _ (Free.last_mem hp)
      obtain ⟨x, hx⟩ : ∃ x : Nat, Free.last (f.p c) = x := ⟨(Free.last (f.p c)).toNat, by omega⟩
      rw [e]
      rw [hx] at hm
      have ht := Free.takenAt_set (f := f) (x := x) true (by rw [hI.tl]; omega) rfl
      have hts : ∀ y : Nat, takenAt (Free.took f c) y = if y = x then true else takenAt f y := fun y => by
        have := ht y
        unfold takenAt Free.took
        rw [hx, Int.toNat_natCast, Int.toNat_natCast]
        exact this
      exact ⟨x, hx, by omega, hm.2.2.2.1, by rw [hts, if_pos rfl], fun y => rfl, fun y hy => by rw [hts, if_neg hy], rfl, rfl⟩

theorem inv_take {f : Fr} (hI : Free.Inv f) (hr : ∃ r, Free.Rel f r) (k : Int) : Free.Inv (Free.take f k).1 ∧ ∃ r, Free.Rel (Free.take f k).1 r := by
  obtain ⟨r, hr⟩ := hr
  have := Free.rel_take hr hI k
  exact ⟨this.2.2, _, this.2.1⟩
theorem inv_give {f : Fr} (hI : Free.Inv f) (hr : ∃ r, Free.Rel f r) (k : Int) : Free.Inv (Free.give f k).1 ∧ ∃ r, Free.Rel (Free.give f k).1 r := by
  obtain ⟨r, hr⟩ := hr
  have := Free.rel_give hr hI k
  exact ⟨this.2.2, _, this.2.1⟩

/-! ### Alloc -/
def alloc (c : Cs) (k : Int) : Cs × Int × Int := ({ c with f := (Free.take c.f k).1 }, (Free.take c.f k).2.1, (Free.take c.f k).2.2)
theorem alloc_no {c : Cs} {k : Int} (h : (alloc c k).2.2 ≠ 0) : (alloc c k).1 = c := by
  unfold alloc at h ⊢
  rw [Free.take_no h]
theorem alloc_inv {c : Cs} (hI : Inv c) (k : Int) : Inv (alloc c k).1 := by
  by_cases h : (alloc c k).2.2 = 0
  · obtain ⟨x, h1, h2, h3, h4, h5, h6, h7, h8⟩ := take_keep hI.f h
    have hn : n (alloc c k).1 = n c := h7
    have hi := inv_take hI.f hI.rel k
    refine ⟨hi.1, hi.2, ?_, ?_, ?_, ?_, ?_, ?_⟩
    · rw [hn]; exact hI.cl
    · rw [hn]; exact hI.vl
    · rw [hn]
      intro y hy
      have := hI.vs y hy
      show ((valsAt c y).length : Int) = slots (Free.take c.f k).1.s y
      rw [h8]; exact this
    · rw [hn]; exact hI.cb
    · rw [hn]; exact hI.vr
    · rw [hn]
      intro y hy ht
      by_cases e : y = x
      · subst e; rw [show takenAt (alloc c k).1.f y = true from h4] at ht; cases ht
      · exact hI.z y hy (by rw [← h6 y e]; exact ht)
  · rw [alloc_no h]; exact hI
theorem alloc_ok {c : Cs} (hI : Inv c) {k : Int} (h : (alloc c k).2.2 = 0) : ∃ x : Nat, (alloc c k).2.1 = x ∧ x < n c ∧ n (alloc c k).1 = n c ∧ (alloc c k).1.f.s = c.f.s ∧ takenAt (alloc c k).1.f x = true ∧
    headW (alloc c k).1 x = Head.word (genAt (alloc c k).1.f x) 0 true ∧ cntAt (alloc c k).1 x = 0 ∧ (∀ j, valAt (alloc c k).1 x j = (0, 0)) ∧ (∀ y : Nat, y ≠ x → takenAt (alloc c k).1.f y = takenAt c.f y) ∧ (∀ y : Nat, genAt (alloc c k).1.f y = genAt c.f y) := by
  obtain ⟨x, h1, h2, h3, h4, h5, h6, h7, h8⟩ := take_keep hI.f h
  have hz := hI.z x h2 h3
  refine ⟨x, h1, h2, h7, h8, h4, ?_, hz.1, hz.2, h6, h5⟩
  unfold headW
  rw [show takenAt (alloc c k).1.f x = true from h4, show cntAt (alloc c k).1 x = 0 from hz.1]
theorem alloc_lay {base : Nat} {l0 l : List Int} {c : Cs} {k : Int} (hI : Inv c) (h : Lay base l0 c l) {x : Nat} (e : (alloc c k).2.2 = 0) (hx : (alloc c k).2.1 = x) :
    Lay base l0 (alloc c k).1 (l.set (base + (place c.f.s x).toNat) (Head.word (genAt (alloc c k).1.f x) 0 true)) := by
  obtain ⟨y, h1, h2, h3, h4, h5, h6, h7, h8, h9, h10⟩ := alloc_ok hI e
  obtain rfl : x = y := by omega
  rw [← h6]
  refine h.head hI h2 h4 h3 (fun z hz hne => ?_) rfl
  unfold headW
  rw [h9 z hne, h10 z]
  rfl

/-! ### Free -/
def gone (c : Cs) (f : Fr) (x : Nat) : Cs := ⟨f, c.cn.set x 0, c.v.set x (List.replicate (valsAt c x).length (0, 0))⟩
def free (c : Cs) (x : Int) : Cs × Bool × Int :=
  if (Free.give c.f x).2.2 = 0 then (gone c (Free.give c.f x).1 x.toNat, (Free.give c.f x).2.1, 0) else (c, false, (Free.give c.f x).2.2)
theorem gone_cnt {c : Cs} {f : Fr} {x : Nat} (h : x < c.cn.length) (y : Nat) : cntAt (gone c f x) y = if y = x then 0 else cntAt c y := by
  unfold cntAt gone
  exact Free.getD_set_int 0 h y
theorem gone_vals {c : Cs} {f : Fr} {x : Nat} (h : x < c.v.length) (y : Nat) : valsAt (gone c f x) y = if y = x then List.replicate (valsAt c x).length (0, 0) else valsAt c y := by
  unfold valsAt gone
  simp only [List.getD_eq_getElem?_getD, List.getElem?_set]
  by_cases e : y = x
  · subst e; simp [h, valsAt, List.getD_eq_getElem?_getD]
  · rw [if_neg (fun q => e q.symm), if_neg e]
theorem gone_val {c : Cs} {f : Fr} {x : Nat} (h : x < c.v.length) (y j : Nat) : valAt (gone c f x) y j = if y = x then (0, 0) else valAt c y j := by
  unfold valAt
  rw [gone_vals h]
  split
  · simp only [List.getD_eq_getElem?_getD, List.getElem?_replicate]
    split <;> rfl
  · rfl
theorem free_ok {c : Cs} (hI : Inv c) {x : Int} (h : (free c x).2.2 = 0) : ∃ y : Nat, x = y ∧ y < n c ∧ free c x = (gone c (Free.give c.f x).1 y, (Free.give c.f x).2.1, 0) ∧ (Free.give c.f x).2.2 = 0 ∧
    takenAt (Free.give c.f x).1 y = false ∧ (∀ z : Nat, z ≠ y → genAt (Free.give c.f x).1 z = genAt c.f z ∧ takenAt (Free.give c.f x).1 z = takenAt c.f z) ∧ Free.n (Free.give c.f x).1 = n c ∧ (Free.give c.f x).1.s = c.f.s ∧ takenAt c.f y = true := by
  by_cases hg : (Free.give c.f x).2.2 = 0
  · obtain ⟨y, rfl, h2, h3, h4, h5, h6, h7, h8, -⟩ := Free.give_ok hI.f hg
    exact ⟨y, rfl, h2, by unfold free; rw [if_pos hg, Int.toNat_natCast], hg, h5, h6, h7, h8, h3⟩
  · exfalso
    unfold free at h
    rw [if_neg hg] at h
    exact hg h
theorem free_no {c : Cs} {x : Int} (h : (free c x).2.2 ≠ 0) : (free c x).1 = c := by
  unfold free at h ⊢
  split
  · rename_i e; rw [if_pos e] at h; exact absurd rfl h
  · rfl
theorem gone_inv {c : Cs} (hI : Inv c) {x : Nat} (hx : x < n c) {f : Fr} (hf : Free.Inv f ∧ ∃ r, Free.Rel f r) (ht : takenAt f x = false) (ho : ∀ z : Nat, z ≠ x → takenAt f z = takenAt c.f z) (hn : Free.n f = n c) (hs : f.s = c.f.s) : Inv (gone c f x) := by
  have hn' : n (gone c f x) = n c := hn
  have cl := hI.cl
  have vl := hI.vl
  refine ⟨hf.1, hf.2, ?_, ?_, ?_, ?_, ?_, ?_⟩
  · rw [hn']; unfold gone; simpa using cl
  · rw [hn']; unfold gone; simpa using vl
  · rw [hn']
    intro y hy
    rw [gone_vals (by omega)]
    show _ = slots f.s y
    rw [hs]
    split
    · rename_i e; subst e; rw [List.length_replicate]; exact hI.vs y hy
    · exact hI.vs y hy
  · rw [hn']
    intro y hy
    rw [gone_cnt (by omega)]
    split
    · omega
    · exact hI.cb y hy
  · rw [hn']
    intro y hy p hp
    rw [gone_vals (by omega)] at hp
    split at hp
    · obtain ⟨-, rfl⟩ := List.mem_replicate.1 hp
      exact ⟨by decide, by decide⟩
    · exact hI.vr y hy p hp
  · rw [hn']
    intro y hy hty
    rw [gone_cnt (by omega)]
    by_cases e : y = x
    · rw [if_pos e]
      exact ⟨rfl, fun k => by rw [gone_val (by omega), if_pos e]⟩
    · rw [if_neg e]
      have := hI.z y hy (by rw [← ho y e]; exact hty)
      exact ⟨this.1, fun k => by rw [gone_val (by omega), if_neg e]; exact this.2 k⟩
theorem free_inv {c : Cs} (hI : Inv c) (x : Int) : Inv (free c x).1 := by
  by_cases h : (free c x).2.2 = 0
  · obtain ⟨y, rfl, h2, h3, h4, h5, h6, h7, h8, h9⟩ := free_ok hI h
    rw [h3]
    exact gone_inv hI h2 (inv_give hI.f hI.rel _) h5 (fun z hz => (h6 z hz).2) h7 h8
  · rw [free_no h]; exact hI
theorem free_lay {base : Nat} {l0 l : List Int} {c : Cs} (hI : Inv c) (h : Lay base l0 c l) {x : Nat} (e : (free c x).2.2 = 0) {m : Nat} (hm : (m : Int) = 1 + slots c.f.s x) :
    Lay base l0 (free c x).1 ((zeroed l (base + (place c.f.s x).toNat) m).set (base + (place c.f.s x).toNat) (Head.word (genAt (Free.give c.f x).1 x) 0 false)) := by
  obtain ⟨y, h1, h2, h3, h4, h5, h6, h7, h8, h9⟩ := free_ok hI e
  obtain rfl : x = y := by omega
  have cl := hI.cl
  have vl := hI.vl
  rw [h3]
  have hw : headW (gone c (Free.give c.f x).1 x) x = Head.word (genAt (Free.give c.f x).1 x) 0 false := by
    unfold headW
    rw [gone_cnt (by omega), if_pos rfl]
    show Head.word (genAt (Free.give c.f x).1 x) 0 (takenAt (Free.give c.f x).1 x) = _
    rw [h5]
  rw [← hw]
  refine h.wiped (c' := gone c (Free.give c.f x).1 x) hI h2 h8 h7 (fun z hz hne => ?_) (fun z j hne => ?_) (fun j => ?_) hm
  · unfold headW
    rw [gone_cnt (by omega), if_neg hne]
    show Head.word (genAt (Free.give c.f x).1 z) _ (takenAt (Free.give c.f x).1 z) = _
    rw [(h6 z hne).1, (h6 z hne).2]
  · rw [gone_val (by omega), if_neg hne]
  · rw [gone_val (by omega), if_pos rfl]

/-! ### Header, SetCount -/
def header (c : Cs) (x : Int) : (Int × Int × Bool) × Int := if isCell c x = true then ((genAt c.f x.toNat, cntAt c x.toNat, takenAt c.f x.toNat), 0) else ((0, 0, false), 1)
def cntOK (m : Int) : Bool := decide (0 ≤ m) && decide (m ≤ 2147483647)
theorem cntOK_iff (m : Int) : cntOK m = true ↔ 0 ≤ m ∧ m ≤ 2147483647 := by simp [cntOK]
theorem cntOK_not (m : Int) : cntOK m = false ↔ m < 0 ∨ 2147483647 < m := by rw [← Bool.not_eq_true, cntOK_iff]; omega
def setCount (c : Cs) (x m : Int) : Cs × Int :=
  if isCell c x = true ∧ cntOK m = true then (if takenAt c.f x.toNat = true then ({ c with cn := c.cn.set x.toNat m }, 0) else (c, 9)) else (c, 1)
theorem setCount_ok {c : Cs} {x : Nat} {m : Int} (hx : x < n c) (hm : cntOK m = true) (ht : takenAt c.f x = true) : setCount c x m = ({ c with cn := c.cn.set x m }, 0) := by
  unfold setCount
  rw [if_pos ⟨(isCell_iff c x).2 ⟨by omega, by omega⟩, hm⟩, Int.toNat_natCast, if_pos ht]
theorem counted_inv {c : Cs} (hI : Inv c) {x : Nat} {m : Int} (hx : x < n c) (hm : cntOK m = true) (ht : takenAt c.f x = true) : Inv { c with cn := c.cn.set x m } := by
  have cl := hI.cl
  have hc := Free.getD_set_int (l := c.cn) (x := x) m (by omega)
  have hm' := (cntOK_iff m).1 hm
  refine ⟨hI.f, hI.rel, by show (c.cn.set x m).length = n c; rw [List.length_set]; exact cl, hI.vl, hI.vs, fun y hy => ?_, hI.vr, fun y hy hty => ?_⟩
  · unfold cntAt
    rw [hc y]
    split
    · omega
    · exact hI.cb y hy
  · unfold cntAt
    rw [hc y]
    split
    · rename_i e; subst e; rw [show takenAt c.f y = true from ht] at hty; cases hty
    · exact hI.z y hy hty
theorem setCount_inv {c : Cs} (hI : Inv c) (x m : Int) : Inv (setCount c x m).1 := by
  unfold setCount
  split
  · rename_i h
    have h1 := (isCell_iff c x).1 h.1
    obtain ⟨y, rfl⟩ : ∃ y : Nat, x = y := ⟨x.toNat, by omega⟩
    rw [Int.toNat_natCast]
    split
    · rename_i ht; exact counted_inv hI (by omega) h.2 ht
    · exact hI
  · exact hI
theorem counted_lay {base : Nat} {l0 l : List Int} {c : Cs} (hI : Inv c) (h : Lay base l0 c l) {x : Nat} {m : Int} (hx : x < n c) (ht : takenAt c.f x = true) :
    Lay base l0 { c with cn := c.cn.set x m } (l.set (base + (place c.f.s x).toNat) (Head.word (genAt c.f x) m true)) := by
  have cl := hI.cl
  have hc := Free.getD_set_int (l := c.cn) (x := x) m (by omega)
  have hw : headW { c with cn := c.cn.set x m } x = Head.word (genAt c.f x) m true := by
    unfold headW cntAt
    rw [hc x, if_pos rfl, show takenAt c.f x = true from ht]
  rw [← hw]
  refine h.head (c' := { c with cn := c.cn.set x m }) hI hx rfl rfl (fun y hy hne => ?_) rfl
  unfold headW cntAt
  rw [hc y, if_neg hne]

/-! ### Get, Set -/
def slotOK (c : Cs) (x k : Int) : Bool := decide (0 ≤ k) && decide (k < slots c.f.s x)
theorem slotOK_iff (c : Cs) (x k : Int) : slotOK c x k = true ↔ 0 ≤ k ∧ k < slots c.f.s x := by simp [slotOK]
theorem slotOK_not (c : Cs) (x k : Int) : slotOK c x k = false ↔ k < 0 ∨ slots c.f.s x ≤ k := by rw [← Bool.not_eq_true, slotOK_iff]; omega
theorem slotOK_cell {c : Cs} (hI : Inv c) {x k : Int} (h : slotOK c x k = true) : isCell c x = true := by
  rw [slotOK_iff] at h
  cases e : isCell c x with
  | true => rfl
  | false => have := (hI.cell x).2 e; omega
def get (c : Cs) (x k : Int) : (Int × Int) × Int := if slotOK c x k = true then (if takenAt c.f x.toNat = true then (valAt c x.toNat k.toNat, 0) else ((0, 0), 9)) else ((0, 0), 1)
def putV (c : Cs) (x k : Nat) (p : Int × Int) : Cs := { c with v := c.v.set x ((valsAt c x).set k p) }
def set (c : Cs) (x k : Int) (p : Int × Int) : Cs × Int :=
  if Word.vright p.1 p.2 = true ∧ slotOK c x k = true then (if takenAt c.f x.toNat = true then (putV c x.toNat k.toNat p, 0) else (c, 9)) else (c, 1)
theorem putV_vals {c : Cs} {x k : Nat} {p : Int × Int} (h : x < c.v.length) (y : Nat) : valsAt (putV c x k p) y = if y = x then (valsAt c x).set k p else valsAt c y := by
  unfold valsAt putV
  simp only [List.getD_eq_getElem?_getD, List.getElem?_set]
  by_cases e : y = x
  · subst e; simp [h, valsAt, List.getD_eq_getElem?_getD]
  · rw [if_neg (fun q => e q.symm), if_neg e]
theorem putV_val {c : Cs} {x k : Nat} {p : Int × Int} (h : x < c.v.length) (hk : k < (valsAt c x).length) (y j : Nat) : valAt (putV c x k p) y j = if y = x ∧ j = k then p else valAt c y j := by
  unfold valAt
  rw [putV_vals h]
  by_cases e : y = x
  · subst e
    rw [if_pos rfl, List.getD_eq_getElem?_getD, List.getElem?_set]
    by_cases e2 : j = k
    · subst e2; simp [hk]
    · rw [if_neg (fun q => e2 q.symm), if_neg (fun q => e2 q.2), List.getD_eq_getElem?_getD]
  · rw [if_neg e, if_neg (fun q => e q.1)]
theorem putV_inv {c : Cs} (hI : Inv c) {x k : Nat} {p : Int × Int} (hx : x < n c) (hk : (k : Int) < slots c.f.s x) (hp : Word.vright p.1 p.2 = true ∧ 0 ≤ p.2) (ht : takenAt c.f x = true) : Inv (putV c x k p) := by
  have vl := hI.vl
  have hs := hI.vs x hx
  refine ⟨hI.f, hI.rel, hI.cl, by show (c.v.set x _).length = n c; rw [List.length_set]; exact vl, fun y hy => ?_, hI.cb, fun y hy q hq => ?_, fun y hy hty => ?_⟩
  · rw [putV_vals (by omega)]
    split
    · rename_i e; subst e; rw [List.length_set]; exact hI.vs y hy
    · exact hI.vs y hy
  · rw [putV_vals (by omega)] at hq
    split at hq
    · rcases List.mem_or_eq_of_mem_set hq with r | rfl
      · exact hI.vr x hx q r
      · exact hp
    · exact hI.vr y hy q hq
  · have e : y ≠ x := fun e => by
      subst e
      have q : takenAt c.f y = false := hty
      rw [ht] at q; cases q
    have := hI.z y hy hty
    exact ⟨this.1, fun j => by rw [putV_val (by omega) (by omega), if_neg (fun q => e q.1)]; exact this.2 j⟩
theorem set_inv {c : Cs} (hI : Inv c) (x k : Int) (p : Int × Int) (hp : 0 ≤ p.2) : Inv (set c x k p).1 := by
  unfold set
  split
  · rename_i h
    have h0 := slotOK_cell hI h.2
    have h1 := (isCell_iff c x).1 h0
    have h2 := (slotOK_iff c x k).1 h.2
    obtain ⟨y, rfl⟩ : ∃ y : Nat, x = y := ⟨x.toNat, by omega⟩
    obtain ⟨j, rfl⟩ : ∃ j : Nat, k = j := ⟨k.toNat, by omega⟩
    rw [Int.toNat_natCast, Int.toNat_natCast]
    split
    · rename_i ht; exact putV_inv hI (by omega) h2.2 ⟨h.1, hp⟩ ht
    · exact hI
  · exact hI
theorem putV_lay {base : Nat} {l0 l : List Int} {c : Cs} (hI : Inv c) (h : Lay base l0 c l) {x k : Nat} {p : Int × Int} (hx : x < n c) (hk : (k : Int) < slots c.f.s x) :
    Lay base l0 (putV c x k p) (l.set (base + (place c.f.s x).toNat + 1 + k) (Word.vword p.1 p.2)) := by
  have vl := hI.vl
  have hs := hI.vs x hx
  have hw : slotW (putV c x k p) x k = Word.vword p.1 p.2 := by unfold slotW; rw [putV_val (by omega) (by omega), if_pos ⟨rfl, rfl⟩]
  rw [← hw]
  exact h.slot hI hx hk rfl rfl (fun y j e => by rw [putV_val (by omega) (by omega), if_neg e])

/-! ### Live -/
def liveTo (c : Cs) (m : Nat) : List Int := ((List.range m).filter (fun (x : Nat) => takenAt c.f x)).map (fun (x : Nat) => (x : Int))
def live (c : Cs) : List Int := liveTo c (n c)
theorem liveTo_succ (c : Cs) (m : Nat) : liveTo c (m + 1) = if takenAt c.f m = true then liveTo c m ++ [(m : Int)] else liveTo c m := by
  unfold liveTo
  rw [List.range_succ, List.filter_append]
  cases h : takenAt c.f m <;> simp [h]
theorem liveTo_len (c : Cs) (m : Nat) : (liveTo c m).length ≤ m := by
  unfold liveTo
  rw [List.length_map]
  exact Nat.le_trans (List.length_filter_le _ _) (by simp)

end Cells
end Go.Proofs.Ytngbhhcicakolaa
