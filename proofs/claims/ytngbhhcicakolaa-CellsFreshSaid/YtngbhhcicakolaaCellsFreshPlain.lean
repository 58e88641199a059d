/- The plain law CellsFresh: what an act does to one cell leaves any other one as it was; what is allocated is empty. -/
import Derived.Test.YtngbhhcicakolaaCellsActs
set_option linter.unusedVariables false
set_option linter.unusedSimpArgs false
namespace Go.Proofs.Ytngbhhcicakolaa
open Go.RowKit

namespace Cells
open Free (Fr genAt takenAt)
open Arena (nth zeroed)

/-- A cell is as it was. -/
def Same (c c' : Cs) (o : Int) : Prop := header c' o = header c o ∧ get c' o 0 = get c o 0
theorem Same.refl (c : Cs) (o : Int) : Same c c o := ⟨rfl, rfl⟩
theorem same_of {c c' : Cs} {y : Nat} (hn : n c' = n c) (hs : c'.f.s = c.f.s) (hg : genAt c'.f y = genAt c.f y) (ht : takenAt c'.f y = takenAt c.f y) (hc : cntAt c' y = cntAt c y) (hv : valAt c' y 0 = valAt c y 0) : Same c c' y := by
  have e1 : isCell c' (y : Int) = isCell c (y : Int) := by unfold isCell; rw [hn]
  have e2 : slotOK c' (y : Int) 0 = slotOK c (y : Int) 0 := by unfold slotOK; rw [hs]
  constructor
  · unfold header
    rw [e1, Int.toNat_natCast, hg, ht, hc]
  · unfold get
    rw [e2, Int.toNat_natCast, ht, show (0 : Int).toNat = 0 from rfl, hv]
theorem alloc_same {c : Cs} (hI : Inv c) {k : Int} {o : Nat} (h : (alloc c k).2.2 = 0 → (o : Int) ≠ (alloc c k).2.1) : Same c (alloc c k).1 o := by
  by_cases e : (alloc c k).2.2 = 0
  · obtain ⟨x, h1, h2, h3, h4, h5, h6, h7, h8, h9, h10⟩ := alloc_ok hI e
    have ne : o ≠ x := by have := h e; omega
    exact same_of h3 h4 (h10 o) (h9 o ne) rfl rfl
  · rw [alloc_no e]; exact Same.refl _ _
theorem free_same {c : Cs} (hI : Inv c) {x : Int} {o : Nat} (h : (o : Int) ≠ x) : Same c (free c x).1 o := by
  by_cases e : (free c x).2.2 = 0
  · obtain ⟨y, rfl, h2, h3, h4, h5, h6, h7, h8, h9⟩ := free_ok hI e
    have cl := hI.cl
    have vl := hI.vl
    have ne : o ≠ y := by omega
    rw [h3]
    exact same_of h7 h8 (h6 o ne).1 (h6 o ne).2 (by rw [gone_cnt (by omega), if_neg ne]) (by rw [gone_val (by omega), if_neg ne])
  · rw [free_no e]; exact Same.refl _ _
theorem setCount_same {c : Cs} (hI : Inv c) {x m : Int} {o : Nat} (h : (o : Int) ≠ x) : Same c (setCount c x m).1 o := by
  have cl := hI.cl
  unfold setCount
  split
  · rename_i q
    have h1 := (isCell_iff c x).1 q.1
    split
    · refine same_of rfl rfl rfl rfl ?_ rfl
      unfold cntAt
      rw [Free.getD_set_int (l := c.cn) (x := x.toNat) m (by omega), if_neg (by omega)]
    · exact Same.refl _ _
  · exact Same.refl _ _
theorem set_same {c : Cs} (hI : Inv c) {x k : Int} {p : Int × Int} {o : Nat} (h : (o : Int) ≠ x) : Same c (set c x k p).1 o := by
  have vl := hI.vl
  unfold set
  split
  · rename_i q
    have h0 := slotOK_cell hI q.2
    have h1 := (isCell_iff c x).1 h0
    have h2 := (slotOK_iff c x k).1 q.2
    have h3 := hI.vs x.toNat (by omega)
    rw [Int.toNat_of_nonneg h1.1] at h3
    split
    · exact same_of rfl rfl rfl rfl rfl (by rw [putV_val (by omega) (by omega), if_neg (by omega)])
    · exact Same.refl _ _
  · exact Same.refl _ _
theorem alloc_s (c : Cs) (k : Int) (hI : Inv c) : (alloc c k).1.f.s = c.f.s ∧ n (alloc c k).1 = n c := by
  by_cases e : (alloc c k).2.2 = 0
  · obtain ⟨x, h1, h2, h3, h4, h5, h6, h7, h8, h9, h10⟩ := alloc_ok hI e
    exact ⟨h4, h3⟩
  · rw [alloc_no e]; exact ⟨rfl, rfl⟩
theorem free_s (c : Cs) (x : Int) (hI : Inv c) : (free c x).1.f.s = c.f.s ∧ n (free c x).1 = n c := by
  by_cases e : (free c x).2.2 = 0
  · obtain ⟨y, rfl, h2, h3, h4, h5, h6, h7, h8, h9⟩ := free_ok hI e
    rw [h3]; exact ⟨h8, h7⟩
  · rw [free_no e]; exact ⟨rfl, rfl⟩
theorem setCount_s (c : Cs) (x m : Int) : (setCount c x m).1.f = c.f := by
  unfold setCount
  repeat' split
  all_goals rfl
theorem set_s (c : Cs) (x k : Int) (p : Int × Int) : (set c x k p).1.f = c.f := by
  unfold set
  repeat' split
  all_goals rfl

/-- A live cell with count 0 and nil in all slots. -/
structure Empty (c : Cs) (x : Nat) : Prop where
  lt : x < n c
  tk : takenAt c.f x = true
  cz : cntAt c x = 0
  vz : ∀ k, valAt c x k = (0, 0)
theorem Empty.head {c : Cs} {x : Nat} (h : Empty c x) : header c x = ((genAt c.f x, 0, true), 0) := by
  unfold header
  rw [if_pos ((isCell_iff c x).2 ⟨by omega, by have := h.lt; omega⟩), Int.toNat_natCast, h.tk, h.cz]
theorem Empty.get {c : Cs} {x : Nat} (h : Empty c x) {k : Nat} (hk : (k : Int) < slots c.f.s x) : get c x k = ((0, 0), 0) := by
  unfold Cells.get
  rw [if_pos ((slotOK_iff c x k).2 ⟨by omega, hk⟩), Int.toNat_natCast, if_pos h.tk, h.vz]
theorem alloc_empty {c : Cs} (hI : Inv c) {k : Int} (e : (alloc c k).2.2 = 0) : ∃ x : Nat, (alloc c k).2.1 = x ∧ Empty (alloc c k).1 x := by
  obtain ⟨x, h1, h2, h3, h4, h5, h6, h7, h8, h9, h10⟩ := alloc_ok hI e
  exact ⟨x, h1, by rw [h3]; exact h2, h5, h7, h8⟩

end Cells
end Go.Proofs.Ytngbhhcicakolaa
