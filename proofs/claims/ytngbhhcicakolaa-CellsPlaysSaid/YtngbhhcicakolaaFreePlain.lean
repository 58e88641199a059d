/- The plain law of layer 6 (free): the document's one pile, class by class, is the program's piles; all counts agree. -/
import Derived.Test.YtngbhhcicakolaaFreeRefTake
set_option linter.unusedVariables false
set_option linter.unusedSimpArgs false
namespace Go.Proofs.Ytngbhhcicakolaa
open Go.RowKit

namespace Free

/-! ### How many numbers below n are so -/
def cnt (n : Nat) (P : Nat → Bool) : Nat := ((List.range n).filter P).length
theorem cnt_succ (n : Nat) (P : Nat → Bool) : cnt (n + 1) P = cnt n P + if P n = true then 1 else 0 := by
  unfold cnt; rw [List.range_succ, List.filter_append, List.length_append]
  by_cases h : P n = true <;> simp [h]
theorem cnt_congr {n : Nat} {P Q : Nat → Bool} (h : ∀ k, k < n → P k = Q k) : cnt n P = cnt n Q := by
  unfold cnt; congr 1
  exact List.filter_congr (fun x hx => h x (by simpa using hx))
theorem cnt_one {P Q : Nat → Bool} {x : Nat} (h : ∀ k, k ≠ x → P k = Q k) : ∀ {n : Nat}, x < n → cnt n P + (if Q x = true then 1 else 0) = cnt n Q + (if P x = true then 1 else 0)
  | 0, hx => by omega
  | n + 1, hx => by
    rw [cnt_succ, cnt_succ]
    by_cases e : n = x
    · subst e
      rw [cnt_congr (n := n) (P := P) (Q := Q) (fun k hk => h k (by omega))]
      omega
    · rw [h n e]
      have := cnt_one h (n := n) (by omega)
      omega

/-- What a cell is: free, taken, retired. -/
def isOf (f : Fr) (x : Nat) : Int := if takenAt f x = true then 1 else if genAt f x = 4294967295 then 2 else 0
def isB (f : Fr) (k : Int) (c : Nat) (x : Nat) : Bool := decide (isOf f x = k) && decide (cls f x = c)

/-- The program's list, and the document's. -/
structure Rel (f : Fr) (r : Rf) : Prop where
  s : r.s = f.s
  g : r.g = f.g
  il : r.i.length = n f
  is : ∀ x, x < n f → ris r x = isOf f x
  p : ∀ c : Nat, c < 3 → r.p.filter (fun x => decide ((Conf.find f.s x).1 = (c : Int))) = f.p c
  mem : ∀ x ∈ r.p, 0 ≤ x ∧ x < n f
  nd : r.p.Nodup
  fr : ∀ c : Nat, c < 3 → (f.p c).length = cnt (n f) (isB f 0 c)
  rt : ∀ c : Nat, c < 3 → f.r c = cnt (n f) (isB f 2 c)

theorem Rel.n {f : Fr} {r : Rf} (h : Rel f r) : rn r = n f := by unfold rn Free.n; rw [h.g]
theorem Rel.gen {f : Fr} {r : Rf} (h : Rel f r) (x : Nat) : rgen r x = genAt f x := by unfold rgen genAt; rw [h.g]; simp
theorem Rel.len {f : Fr} {r : Rf} (h : Rel f r) (hI : Inv f) : r.p.length ≤ 192 := Nat.le_trans (nodup_len (Free.n f) r.p h.nd (fun x hx => h.mem x hx)) hI.small
theorem Rel.top {f : Fr} {r : Rf} (h : Rel f r) : ∀ k, k < r.p.length → 0 ≤ rtop r k ∧ rtop r k < rn r := fun k hk => by
  rw [h.n]; unfold rtop; rw [List.getD_eq_getElem?_getD, List.getElem?_eq_getElem hk]; exact h.mem _ (List.getElem_mem hk)

theorem genR_is {f : Fr} {r : Rf} (h : Rel f r) (x : Int) : genR r x = gen f x := by
  unfold genR Free.gen rcell cellB
  rw [h.n]
  split
  · rename_i hc
    simp at hc
    obtain ⟨x, rfl⟩ : ∃ k : Nat, x = k := ⟨x.toNat, by omega⟩
    rw [Int.toNat_natCast, h.gen]
  · rfl
theorem isOf_one {f : Fr} {x : Nat} : isOf f x = 1 ↔ takenAt f x = true := by
  unfold isOf; split
  · rename_i e; simp [e]
  · rename_i e; split <;> simp [e]
theorem takenR_is {f : Fr} {r : Rf} (h : Rel f r) (x : Int) : takenR r x = taken f x := by
  unfold takenR taken rcell cellB
  rw [h.n]
  by_cases hc : 0 ≤ x ∧ x < (Free.n f : Int)
  · obtain ⟨x, rfl⟩ : ∃ k : Nat, x = k := ⟨x.toNat, by omega⟩
    rw [Int.toNat_natCast, h.is x (by omega)]
    cases e : takenAt f x with
    | true => rw [isOf_one.2 e]; simp
    | false =>
      have : ¬ isOf f x = 1 := fun q => by rw [isOf_one, e] at q; cases q
      simp [this]
  · have : (decide (0 ≤ x) && decide (x < (Free.n f : Int))) = false := by simp; omega
    rw [this]; rfl
theorem numR_cnt {f : Fr} {r : Rf} (h : Rel f r) (c : Nat) (k : Int) : numR r c k (rn r) = cnt (Free.n f) (isB f k c) := by
  unfold numR
  rw [h.n]
  show ((cnt _ _ : Nat) : Int) = _
  congr 1
  refine cnt_congr (fun x hx => ?_)
  unfold isB cls
  rw [h.is x hx, h.s]
theorem numR_out {f : Fr} {r : Rf} (h : Rel f r) (hI : Inv f) {c : Int} (hc : clsB c = false) (k : Int) : numR r c k (rn r) = 0 := by
  unfold numR
  rw [clsB_not] at hc
  have : (List.range (rn r)).filter (fun x => decide (ris r x = k) && decide ((Conf.find r.s (x : Int)).1 = c)) = [] := by
    rw [List.filter_eq_nil_iff]
    intro x hx
    rw [h.n] at hx
    obtain ⟨d, hd, e⟩ := hI.cls_lt (x := x) (by simpa using hx)
    unfold cls at e
    rw [h.s, e]
    simp; omega
  rw [this]; rfl
theorem numR_free {f : Fr} {r : Rf} (h : Rel f r) (hI : Inv f) (c : Int) : numR r c 0 (rn r) = free f c := by
  unfold free
  cases hc : clsB c with
  | false => rw [numR_out h hI hc]; rfl
  | true =>
    rw [if_pos rfl]
    rw [clsB_iff] at hc
    obtain ⟨c, rfl⟩ : ∃ k : Nat, c = k := ⟨c.toNat, by omega⟩
    rw [numR_cnt h, Int.toNat_natCast, h.fr c (by omega)]
theorem numR_ret {f : Fr} {r : Rf} (h : Rel f r) (hI : Inv f) (c : Int) : numR r c 2 (rn r) = retired f c := by
  unfold retired
  cases hc : clsB c with
  | false => rw [numR_out h hI hc]; rfl
  | true =>
    rw [if_pos rfl]
    rw [clsB_iff] at hc
    obtain ⟨c, rfl⟩ : ∃ k : Nat, c = k := ⟨c.toNat, by omega⟩
    rw [numR_cnt h, Int.toNat_natCast, h.rt c (by omega)]

/-! ### Take -/
theorem lastTo_none {r : Rf} {c : Int} : ∀ {k : Nat}, lastTo r c k = none → ∀ j, j < k → (Conf.find r.s (rtop r j)).1 ≠ c
  | 0, _, j, hj => by omega
  | k + 1, h, j, hj => by
    unfold lastTo at h
    split at h
    · cases h
    · rename_i e
      by_cases q : j = k
      · rw [q]; exact e
      · exact lastTo_none h j (by omega)
theorem lastTo_some {r : Rf} {c : Int} : ∀ {k j : Nat}, lastTo r c k = some j → ∀ i, j < i → i < k → (Conf.find r.s (rtop r i)).1 ≠ c
  | 0, j, h, _, _, _ => by cases h
  | k + 1, j, h, i, h1, h2 => by
    unfold lastTo at h
    split at h
    · cases h; omega
    · rename_i e
      by_cases q : i = k
      · rw [q]; exact e
      · exact lastTo_some h i h1 (by omega)

theorem filter_split {α : Type} (l : List α) (k : Nat) (hk : k < l.length) (P : α → Bool) : l.filter P = (l.take k).filter P ++ ((if P l[k] = true then [l[k]] else []) ++ (l.drop (k + 1)).filter P) := by
  conv => lhs; rw [← List.take_append_drop k l, List.drop_eq_getElem_cons hk]
  rw [List.filter_append, List.filter_cons]
  split <;> simp
theorem filter_erase {α : Type} (l : List α) (k : Nat) (hk : k < l.length) (P : α → Bool) : (l.eraseIdx k).filter P = (l.take k).filter P ++ (l.drop (k + 1)).filter P := by
  rw [List.eraseIdx_eq_take_drop_succ, List.filter_append]

theorem takenAt_set {f : Fr} {t : List Bool} {x : Nat} (b : Bool) (h : x < f.t.length) (ht : t = f.t.set x b) (k : Nat) : t.getD k false = if k = x then b else f.t.getD k false := by
  rw [ht]; simp only [List.getD_eq_getElem?_getD, List.getElem?_set]
  by_cases e : x = k
  · subst e; simp [h]
  · rw [if_neg e, if_neg (fun q => e q.symm)]
theorem getD_set_int {l : List Int} {x : Nat} (v : Int) (h : x < l.length) (k : Nat) : (l.set x v).getD k 0 = if k = x then v else l.getD k 0 := by
  simp only [List.getD_eq_getElem?_getD, List.getElem?_set]
  by_cases e : x = k
  · subst e; simp [h]
  · rw [if_neg e, if_neg (fun q => e q.symm)]

theorem rel_take {f : Fr} {r : Rf} (h : Rel f r) (hI : Inv f) (c : Int) : (takeR r c).2 = (take f c).2 ∧ Rel (take f c).1 (takeR r c).1 ∧ Inv (take f c).1 := by
  cases hc : clsB c with
  | false =>
    rw [takeR_bad hc, show take f c = (f, 0, 1) by unfold take; rw [hc]; rfl]
    exact ⟨rfl, h, hI⟩
  | true =>
    have hc' := hc
    rw [clsB_iff] at hc
    obtain ⟨c, rfl⟩ : ∃ k : Nat, c = k := ⟨c.toNat, by omega⟩
    have hc3 : c < 3 := by omega
    have hp := h.p c hc3
    cases hl : lastTo r c r.p.length with
    | none =>
      have hn : f.p c = [] := by
        rw [← hp, List.filter_eq_nil_iff]
        intro x hx
        obtain ⟨j, hj, rfl⟩ := List.getElem_of_mem hx
        have e := lastTo_none hl j hj
        unfold rtop at e
        rw [List.getD_eq_getElem?_getD, List.getElem?_eq_getElem hj] at e
        simp at e ⊢
        rw [← h.s]; exact e
      rw [takeR_none hc' hl, show take f (c : Int) = (f, 0, 8) by unfold take; rw [hc', Int.toNat_natCast, hn]; rfl]
      exact ⟨rfl, h, hI⟩
    | some k =>
      obtain ⟨hk, hkc⟩ := lastTo_lt hl
      have hlast := lastTo_some hl
      have hrt : ∀ i, (hi : i < r.p.length) → rtop r i = r.p[i] := fun i hi => by unfold rtop; rw [List.getD_eq_getElem?_getD, List.getElem?_eq_getElem hi]; rfl
      have hdrop : (r.p.drop (k + 1)).filter (fun x => decide ((Conf.find f.s x).1 = (c : Int))) = [] := by
        rw [List.filter_eq_nil_iff]
        intro x hx
        obtain ⟨j, hj, rfl⟩ := List.getElem_of_mem hx
        simp at hj
        have e := hlast (k + 1 + j) (by omega) (by omega)
        rw [hrt _ (by omega), h.s] at e
        simpa using e
      have hPk : decide ((Conf.find f.s r.p[k]).1 = (c : Int)) = true := by
        rw [hrt k hk, h.s] at hkc; simpa using hkc
      have hfp : f.p c = (r.p.take k).filter (fun x => decide ((Conf.find f.s x).1 = (c : Int))) ++ [r.p[k]] := by
        rw [← hp, filter_split r.p k hk, if_pos hPk, hdrop]; simp
      have hne : f.p c ≠ [] := by rw [hfp]; simp
      have hlv : last (f.p c) = r.p[k] := by unfold last; rw [hfp]; simp
      have hx := h.mem _ (List.getElem_mem hk)
      obtain ⟨x, hxe⟩ : ∃ x : Nat, r.p[k] = x := ⟨r.p[k].toNat, by omega⟩
      have hxn : x < n f := by omega
      have hmem : r.p[k] ∈ f.p c := by rw [hfp]; simp
      obtain ⟨-, -, hxc, hxt, hxg⟩ := hI.p c hc3 _ hmem
      rw [hxe] at hxc hxt hxg
      rw [takeR_at hc' hl, show take f (c : Int) = (took f c, last (f.p c), 0) by unfold take; rw [hc', Int.toNat_natCast, if_neg hne]; rfl]
      have ht : ∀ j, takenAt (took f c) (j : Nat) = if j = x then true else takenAt f j := fun j => by
        unfold takenAt took
        simp only [hlv, hxe, Int.toNat_natCast]
        exact takenAt_set (f := f) true (by rw [hI.tl]; exact hxn) rfl j
      have hg : ∀ j : Nat, genAt (took f c) j = genAt f j := fun j => rfl
      have his : ∀ j, isOf (took f c) j = if j = x then 1 else isOf f j := fun j => by
        unfold isOf; rw [ht, hg]
        by_cases e : j = x
        · simp [e]
        · simp [e]
      have hcl : ∀ y, cls (took f c) y = cls f y := fun y => rfl
      have hnn : n (took f c) = n f := rfl
      have hx0 : isOf f x = 0 := by unfold isOf; rw [hxt]; rw [if_neg (by simp), if_neg (by omega)]
      have hpd : ∀ d, (took f c).p d = if d = c then (f.p c).dropLast else f.p d := fun d => rfl
      have hA : (f.p c).dropLast = (r.p.take k).filter (fun x => decide ((Conf.find f.s x).1 = (c : Int))) := by rw [hfp, List.dropLast_concat]
      have hnd := hI.nd c hc3
      refine ⟨by rw [hrt k hk, hlv], ⟨h.s, h.g, ?_, fun j hj => ?_, fun d hd => ?_, fun y hy => h.mem y (List.mem_of_mem_eraseIdx hy), (List.eraseIdx_sublist _ _).nodup h.nd, fun d hd => ?_, fun d hd => ?_⟩, ?_⟩
      · show (r.i.set _ _).length = _
        rw [List.length_set]; exact h.il
      · show (r.i.set (rtop r k).toNat 1).getD j 0 = _
        rw [hrt k hk, hxe, Int.toNat_natCast, getD_set_int _ (by rw [h.il]; exact hxn), his]
        split
        · rfl
        · exact h.is j hj
      · show (r.p.eraseIdx k).filter _ = (took f c).p d
        rw [filter_erase r.p k hk, hpd]
        by_cases e : d = c
        · subst e
          rw [if_pos rfl, hA]
          show _ ++ (r.p.drop (k + 1)).filter (fun x => decide ((Conf.find f.s x).1 = (d : Int))) = _
          rw [hdrop]; simp; rfl
        · rw [if_neg e, ← h.p d hd, filter_split r.p k hk]
          have hq : ¬ decide ((Conf.find f.s r.p[k]).1 = (d : Int)) = true := by
            simp at hPk; simp [hPk]; omega
          rw [if_neg hq]; simp; rfl
      · rw [hpd]
        have h1 := h.fr d hd
        have h2 := cnt_one (P := isB (took f c) 0 d) (Q := isB f 0 d) (x := x) (fun j hj => by unfold isB; rw [his, if_neg hj, hcl]) hxn
        have h3 : isB (took f c) 0 d x = false := by unfold isB; rw [his, if_pos rfl]; simp
        have h4 : isB f 0 d x = decide (c = d) := by unfold isB; rw [hx0, hxc, Bool.eq_iff_iff]; simp; omega
        rw [h3, h4] at h2
        show _ = cnt (n f) (isB (took f c) 0 d)
        by_cases e : d = c
        · subst e
          rw [if_pos rfl, List.length_dropLast]
          rw [if_pos (by simp), if_neg (by simp)] at h2
          omega
        · rw [if_neg e]
          rw [if_neg (by simp; omega), if_neg (by simp)] at h2
          omega
      · show f.r d = cnt (n f) _
        rw [h.rt d hd]
        congr 1
        refine (cnt_congr (fun j hj => ?_)).symm
        unfold isB; rw [his, hcl]
        split
        · rename_i e; subst e; rw [hx0]; simp
        · rfl
      · refine ⟨hI.ok, hI.cnt, ?_, fun d hd y hy => ?_, fun d hd => ?_, hI.g, fun j hj hjt => ?_, hI.r⟩
        · show (f.t.set _ _).length = _
          rw [List.length_set]; exact hI.tl
        · have hyo : y ∈ f.p d ∧ y ≠ x := by
            rw [hpd] at hy
            by_cases e : d = c
            · subst e
              rw [if_pos rfl] at hy
              refine ⟨(List.dropLast_sublist _).subset hy, fun q => ?_⟩
              rw [hfp, List.nodup_append] at hnd
              rw [hA] at hy
              exact hnd.2.2 y hy r.p[k] (by simp) (by rw [q, hxe])
            · rw [if_neg e] at hy
              refine ⟨hy, fun q => ?_⟩
              have := (hI.p d hd y hy).2.2.1
              rw [q, hxc] at this
              omega
          obtain ⟨h1, h2, h3, h4, h5⟩ := hI.p d hd y hyo.1
          obtain ⟨y, rfl⟩ : ∃ z : Nat, y = z := ⟨y.toNat, by omega⟩
          refine ⟨h1, h2, h3, ?_, h5⟩
          rw [ht, if_neg (fun q => hyo.2 (by rw [q])), h4]
        · rw [hpd]
          split
          · exact (List.dropLast_sublist _).nodup hnd
          · exact hI.nd d hd
        · rw [hg]
          rw [ht] at hjt
          by_cases e : j = x
          · rw [e]; exact hxg
          · rw [if_neg e] at hjt; exact hI.tg j hj hjt

end Free
end Go.Proofs.Ytngbhhcicakolaa
