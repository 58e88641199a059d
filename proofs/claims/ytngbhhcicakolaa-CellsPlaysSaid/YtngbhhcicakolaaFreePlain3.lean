/- The plain law of layer 6 (free): what is taken was never taken with this generation, and no cell of class 0 is lost. -/
import Derived.Test.YtngbhhcicakolaaFreePlain2
set_option linter.unusedVariables false
set_option linter.unusedSimpArgs false
namespace Go.Proofs.Ytngbhhcicakolaa
open Go.RowKit

namespace Free

/-- What FreeOnce has seen: the pairs of a cell and its generation, and how many cells of class 0 are held. -/
structure Once (f : Fr) (cs gs : List Int) (held : Int) : Prop where
  len : gs.length = cs.length
  seen : ∀ k, k < cs.length → ∃ x : Nat, cs.getD k 0 = x ∧ x < n f ∧ (gs.getD k 0 < genAt f x ∨ gs.getD k 0 = genAt f x ∧ takenAt f x = true)
  bal : ((f.p 0).length : Int) + f.r 0 + held = f.s.c0

theorem last_mem {l : List Int} (h : l ≠ []) : last l ∈ l := by
  unfold last
  have : 0 < l.length := List.length_pos_iff.2 h
  rw [List.getD_eq_getElem?_getD, List.getElem?_eq_getElem (by omega)]
  exact List.getElem_mem _

theorem take_no {f : Fr} {c : Int} (h : (take f c).2.2 ≠ 0) : (take f c).1 = f := by
  unfold take at h ⊢
  split
  · split
    · rfl
    · rename_i a b; rw [if_pos a, if_neg b] at h; exact absurd rfl h
  · rfl

theorem take_ok {f : Fr} (hI : Inv f) {c : Int} (h : (take f c).2.2 = 0) : ∃ x : Nat, (take f c).2.1 = x ∧ x < n f ∧ cls f x = c ∧ takenAt f x = false ∧ genAt f x < 4294967295 ∧
    takenAt (take f c).1 x = true ∧ (∀ y : Nat, genAt (take f c).1 y = genAt f y) ∧ (∀ y : Nat, takenAt f y = true → takenAt (take f c).1 y = true) ∧ n (take f c).1 = n f ∧ (take f c).1.s = f.s ∧
    (((take f c).1.p 0).length : Int) + (take f c).1.r 0 + (if c = 0 then 1 else 0) = ((f.p 0).length : Int) + f.r 0 := by
  cases hc : clsB c with
  | false => exfalso; unfold take at h; rw [hc] at h; exact absurd (show (1 : Int) = 0 from h) (by decide)
  | true =>
    by_cases hp : f.p c.toNat = []
    · exfalso; unfold take at h; rw [hc, if_pos rfl, if_pos hp] at h; exact absurd (show (8 : Int) = 0 from h) (by decide)
    · have e : take f c = (took f c.toNat, last (f.p c.toNat), 0) := by unfold take; rw [hc, if_pos rfl, if_neg hp]
      rw [clsB_iff] at hc
      obtain ⟨c, rfl⟩ : ∃ k : Nat, c = k := ⟨c.toNat, by omega⟩
      rw [Int.toNat_natCast] at e hp
      have hm := hI.p c (by omega) _ (last_mem hp)
      obtain ⟨x, hx⟩ : ∃ x : Nat, last (f.p c) = x := ⟨(last (f.p c)).toNat, by omega⟩
      rw [e]
      rw [hx] at hm
      have ht := takenAt_set (f := f) (x := x) true (by rw [hI.tl]; omega) rfl
      have hts : ∀ y : Nat, takenAt (took f c) y = if y = x then true else takenAt f y := fun y => by
        have := ht y
        unfold takenAt took
        rw [hx, Int.toNat_natCast, Int.toNat_natCast]
        exact this
      refine ⟨x, hx, by omega, hm.2.2.1, hm.2.2.2.1, hm.2.2.2.2, ?_, fun y => rfl, fun y hy => ?_, rfl, rfl, ?_⟩
      · rw [hts, if_pos rfl]
      · rw [hts]; split
        · rfl
        · exact hy
      · show ((upd f.p c (f.p c).dropLast 0).length : Int) + f.r 0 + _ = _
        by_cases h0 : c = 0
        · subst h0
          rw [upd_same, List.length_dropLast, if_pos (by rfl)]
          have := List.length_pos_iff.2 hp
          omega
        · rw [upd_other _ _ (fun q => h0 q.symm), if_neg (by omega)]; omega

theorem give_no {f : Fr} {x : Int} (h : (give f x).2.2 ≠ 0) : (give f x).1 = f := by
  unfold give at h ⊢
  split
  · split
    · rename_i a b; rw [if_pos a, if_pos b] at h; exact absurd rfl h
    · rfl
  · rfl

theorem give_ok {f : Fr} (hI : Inv f) {x : Int} (h : (give f x).2.2 = 0) : ∃ y : Nat, x = y ∧ y < n f ∧ takenAt f y = true ∧ genAt (give f x).1 y = genAt f y + 1 ∧ takenAt (give f x).1 y = false ∧
    (∀ z : Nat, z ≠ y → genAt (give f x).1 z = genAt f z ∧ takenAt (give f x).1 z = takenAt f z) ∧ n (give f x).1 = n f ∧ (give f x).1.s = f.s ∧ (give f x).2.1 = decide (genAt f y + 1 = 4294967295) ∧
    (((give f x).1.p 0).length : Int) + (give f x).1.r 0 = ((f.p 0).length : Int) + f.r 0 + (if cls f y = 0 then 1 else 0) := by
  cases hc : cellB f x with
  | false => exfalso; unfold give at h; rw [hc] at h; exact absurd (show (1 : Int) = 0 from h) (by decide)
  | true =>
    cases ht : takenAt f x with
    | false => exfalso; unfold give at h; rw [hc, ht] at h; exact absurd (show (9 : Int) = 0 from h) (by decide)
    | true =>
      have e : give f x = ((gave f x).1, (gave f x).2, 0) := by unfold give; rw [hc, if_pos rfl, ht, if_pos rfl]
      rw [cellB_iff] at hc
      obtain ⟨y, rfl⟩ : ∃ k : Nat, x = k := ⟨x.toNat, by omega⟩
      have hy : y < n f := by omega
      obtain ⟨c, hc3, hcl⟩ := hI.cls_lt hy
      rw [e]
      have t1 := takenAt_set (f := f) (x := y) false (by rw [hI.tl]; exact hy) rfl
      have g1 := getD_set_int (l := f.g) (x := y) (genAt f y + 1) hy
      by_cases hg : genAt f y + 1 = 4294967295
      · have eg : gave f y = ({ f with r := upd f.r c (f.r c + 1), g := f.g.set y (genAt f y + 1), t := f.t.set y false }, true) := by
          unfold gave; rw [if_pos hg, hcl, Int.toNat_natCast, Int.toNat_natCast]
        rw [eg]
        refine ⟨y, rfl, hy, ht, ?_, ?_, fun z hz => ⟨?_, ?_⟩, ?_, rfl, (decide_eq_true hg).symm, ?_⟩
        · have := g1 y; rw [if_pos rfl] at this; exact this
        · have := t1 y; rw [if_pos rfl] at this; exact this
        · have := g1 z; rw [if_neg hz] at this; exact this
        · have := t1 z; rw [if_neg hz] at this; exact this
        · unfold n; simp
        · show ((f.p 0).length : Int) + upd f.r c (f.r c + 1) 0 = _
          by_cases h0 : c = 0
          · subst h0
            rw [upd_same, if_pos (by rw [hcl]; rfl)]; omega
          · rw [upd_other _ _ (fun q => h0 q.symm), if_neg (by omega)]; omega
      · have eg : gave f y = ({ f with p := upd f.p c (f.p c ++ [(y : Int)]), g := f.g.set y (genAt f y + 1), t := f.t.set y false }, false) := by
          unfold gave; rw [if_neg hg, hcl, Int.toNat_natCast, Int.toNat_natCast]
        rw [eg]
        refine ⟨y, rfl, hy, ht, ?_, ?_, fun z hz => ⟨?_, ?_⟩, ?_, rfl, (decide_eq_false hg).symm, ?_⟩
        · have := g1 y; rw [if_pos rfl] at this; exact this
        · have := t1 y; rw [if_pos rfl] at this; exact this
        · have := g1 z; rw [if_neg hz] at this; exact this
        · have := t1 z; rw [if_neg hz] at this; exact this
        · unfold n; simp
        · show ((upd f.p c (f.p c ++ [(y : Int)]) 0).length : Int) + f.r 0 = _
          by_cases h0 : c = 0
          · subst h0
            rw [upd_same, if_pos (by rw [hcl]; rfl), List.length_append]; simp; omega
          · rw [upd_other _ _ (fun q => h0 q.symm), if_neg (by omega)]; omega

theorem Once.fresh {f : Fr} {cs gs : List Int} {held : Int} (h : Once f cs gs held) {x : Nat} (ht : takenAt f x = false) : ∀ k, k < cs.length → ¬ (cs.getD k 0 = x ∧ gs.getD k 0 = genAt f x) := by
  intro k hk ⟨a, b⟩
  obtain ⟨y, hy, h1, h2⟩ := h.seen k hk
  obtain rfl : x = y := by omega
  rcases h2 with q | ⟨-, q⟩
  · omega
  · rw [ht] at q; cases q

theorem getD_push {l : List Int} {v : Int} {k : Nat} : (l ++ [v]).getD k 0 = if k < l.length then l.getD k 0 else if k = l.length then v else 0 := by
  simp only [List.getD_eq_getElem?_getD, List.getElem?_append]
  split
  · rfl
  · rename_i h
    split
    · rename_i e; subst e; simp
    · rename_i e; rw [List.getElem?_eq_none (by simp; omega)]; rfl

theorem Once.took {f : Fr} {cs gs : List Int} {held : Int} (h : Once f cs gs held) (hI : Inv f) {c : Int} (e : (Free.take f c).2.2 = 0) :
    Once (Free.take f c).1 (cs ++ [(Free.take f c).2.1]) (gs ++ [genAt (Free.take f c).1 (Free.take f c).2.1]) (if c = 0 then held + 1 else held) := by
  obtain ⟨x, e1, hx, -, -, -, ht, hg, htm, hn, hs, hb⟩ := take_ok hI e
  refine ⟨by simp [h.len], fun k hk => ?_, ?_⟩
  · rw [List.length_append, List.length_singleton] at hk
    rw [getD_push, getD_push, h.len]
    by_cases hkl : k < cs.length
    · rw [if_pos hkl, if_pos hkl]
      obtain ⟨y, a1, a2, a3⟩ := h.seen k hkl
      refine ⟨y, a1, by rw [hn]; exact a2, ?_⟩
      rw [hg]
      exact a3.imp id (fun q => ⟨q.1, htm y q.2⟩)
    · have : k = cs.length := by omega
      rw [if_neg hkl, if_neg hkl, if_pos this, if_pos this, e1]
      exact ⟨x, rfl, by rw [hn]; exact hx, .inr ⟨rfl, ht⟩⟩
  · rw [hs, ← h.bal]
    split at hb <;> rename_i q
    · rw [if_pos q]; omega
    · rw [if_neg q]; omega

theorem Once.gave {f : Fr} {cs gs : List Int} {held : Int} (h : Once f cs gs held) (hI : Inv f) {x : Int} (e : (Free.give f x).2.2 = 0) :
    Once (Free.give f x).1 cs gs (if cls f x = 0 then held - 1 else held) := by
  obtain ⟨y, rfl, hy, -, hg, ht, ho, hn, hs, -, hb⟩ := give_ok hI e
  refine ⟨h.len, fun k hk => ?_, ?_⟩
  · obtain ⟨z, a1, a2, a3⟩ := h.seen k hk
    refine ⟨z, a1, by rw [hn]; exact a2, ?_⟩
    by_cases hz : z = y
    · subst hz
      rw [hg]; left
      rcases a3 with q | q
      · omega
      · omega
    · rw [(ho z hz).1, (ho z hz).2]; exact a3
  · rw [hs, ← h.bal]
    split at hb <;> rename_i q
    · rw [if_pos q]; omega
    · rw [if_neg q]; omega

theorem cnt_below (c : Nat) : ∀ m, c ≤ m → cnt m (fun x => decide (x < c)) = c
  | 0, h => by have : c = 0 := by omega
               subst this; rfl
  | m + 1, h => by
    rw [cnt_succ]
    by_cases hc : c ≤ m
    · rw [cnt_below c m hc, if_neg (by simp; omega)]; rfl
    · have : c = m + 1 := by omega
      subst this
      have e : cnt m (fun x => decide (x < m + 1)) = cnt m (fun x => decide (x < m)) := cnt_congr (fun k hk => by rw [decide_eq_true (by omega : k < m + 1), decide_eq_true hk])
      rw [e, cnt_below m m (Nat.le_refl _), if_pos (by simp)]

theorem once_init {s : Conf.Sh} (h : Conf.ok s = true) {m : Nat} (hm : Conf.count s = m) : Once (initTo s m m) [] [] 0 := by
  have hok := (Conf.ok_iff s).1 h
  refine ⟨rfl, fun k hk => absurd hk (Nat.not_lt_zero k), ?_⟩
  obtain ⟨c, hc⟩ : ∃ k : Nat, s.c0 = k := ⟨s.c0.toNat, by omega⟩
  have hcn := hm
  unfold Conf.count at hcn
  rw [if_pos h] at hcn
  have hp : ((initTo s m m).p 0).length = c := by
    show (((List.range m).map (fun (i : Nat) => (m : Int) - 1 - (i : Int))).filter (fun x => decide ((Conf.find s x).1 = ((0 : Nat) : Int)))).length = c
    rw [nat_filter_map, ← cnt_below c m (by omega)]
    refine cnt_congr (fun x hx => ?_)
    rw [decide_eq_decide]
    unfold Conf.find
    rw [if_pos ⟨h, by omega⟩]
    by_cases h1 : (x : Int) < s.c0
    · rw [if_pos h1]; simp; omega
    · rw [if_neg h1]
      by_cases h2 : (x : Int) - s.c0 < s.c1
      · rw [if_pos h2]; simp; omega
      · rw [if_neg h2]; split <;> (simp; omega)
  rw [hp]
  show (c : Int) + 0 + 0 = s.c0
  omega

end Free
end Go.Proofs.Ytngbhhcicakolaa
