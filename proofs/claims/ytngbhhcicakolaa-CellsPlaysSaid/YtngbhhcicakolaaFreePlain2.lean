/- The plain law of layer 6 (free), further: Give, and the beginning. -/
import Derived.Test.YtngbhhcicakolaaFreePlain
set_option linter.unusedVariables false
set_option linter.unusedSimpArgs false
namespace Go.Proofs.Ytngbhhcicakolaa
open Go.RowKit

namespace Free

theorem cnt_le (n : Nat) (P : Nat → Bool) : cnt n P ≤ n := by unfold cnt; exact Nat.le_trans (List.length_filter_le _ _) (by simp)

theorem rel_give {f : Fr} {r : Rf} (h : Rel f r) (hI : Inv f) (x : Int) : (giveR r x).2 = (give f x).2 ∧ Rel (give f x).1 (giveR r x).1 ∧ Inv (give f x).1 := by
  have hcell : rcell r x = cellB f x := by unfold rcell cellB; rw [h.n]
  cases hc : cellB f x with
  | false =>
    rw [show giveR r x = (r, false, 1) by unfold giveR; rw [hcell, hc]; rfl, show give f x = (f, false, 1) by unfold give; rw [hc]; rfl]
    exact ⟨rfl, h, hI⟩
  | true =>
    have hc' := hc
    rw [cellB_iff] at hc
    obtain ⟨x, rfl⟩ : ∃ k : Nat, x = k := ⟨x.toNat, by omega⟩
    have hxn : x < n f := by omega
    have hisx := h.is x hxn
    cases htk : takenAt f x with
    | false =>
      have h1 : ¬ ris r x = 1 := by rw [hisx, isOf_one, htk]; simp
      rw [show giveR r (x : Int) = (r, false, 9) by unfold giveR; rw [hcell, hc', Int.toNat_natCast, if_neg h1]; rfl, show give f (x : Int) = (f, false, 9) by unfold give; rw [hc', htk]; rfl]
      exact ⟨rfl, h, hI⟩
    | true =>
      have h1 : ris r x = 1 := by rw [hisx, isOf_one]; exact htk
      rw [show giveR r (x : Int) = ((gaveR r x).1, (gaveR r x).2, 0) by unfold giveR; rw [hcell, hc', Int.toNat_natCast, if_pos h1]; rfl, show give f (x : Int) = ((gave f x).1, (gave f x).2, 0) by unfold give; rw [hc', htk]; rfl]
      obtain ⟨c, hc3, hcl⟩ := hI.cls_lt hxn
      have hgb := hI.gen_bd hxn
      have hgt := hI.tg x hxn htk
      obtain ⟨γ, hγ⟩ : ∃ γ, genAt f x = γ := ⟨_, rfl⟩
      have hrg : rgen r x = γ := by rw [h.gen]; exact hγ
      rw [hγ] at hgb hgt
      have ht0 : ∀ j : Nat, takenAt (gave0 f x) j = if j = x then false else takenAt f j := fun j => by
        unfold takenAt gave0
        simp only [Int.toNat_natCast]
        exact takenAt_set (f := f) false (by rw [hI.tl]; exact hxn) rfl j
      have hg0 : ∀ j : Nat, genAt (gave0 f x) j = if j = x then γ + 1 else genAt f j := fun j => by
        unfold genAt gave0
        simp only [Int.toNat_natCast]
        rw [getD_set_int _ hxn, hγ]
      have hn0 : n (gave0 f x) = n f := by unfold n gave0; simp
      have hnotin : ∀ d, d < 3 → ∀ y ∈ f.p d, y ≠ (x : Int) := fun d hd y hy q => by
        have := (hI.p d hd y hy).2.2.2.1
        rw [q, htk] at this; cases this
      have hx1 : isOf f x = 1 := isOf_one.2 htk
      have hmg : ∀ y ∈ (gave0 f x).g, 1 ≤ y ∧ y ≤ 4294967295 := fun y hy => by
        rcases List.mem_or_eq_of_mem_set hy with q | q
        · exact hI.g y q
        · rw [q, hγ]; omega
      have htl : (gave0 f x).t.length = n f := by show (f.t.set _ _).length = _; rw [List.length_set]; exact hI.tl
      by_cases hm : γ + 1 = 4294967295
      · rw [gave_ret hγ hcl hm, show gaveR r x = ({ r with g := r.g.set x (γ + 1), i := r.i.set x 2 }, true) by unfold gaveR; rw [hrg, if_pos hm]]
        obtain ⟨F, hF⟩ : ∃ F, F = { gave0 f x with r := upd f.r c (f.r c + 1) } := ⟨_, rfl⟩
        have hFt : ∀ j : Nat, takenAt F j = if j = x then false else takenAt f j := fun j => by rw [hF]; exact ht0 j
        have hFg : ∀ j : Nat, genAt F j = if j = x then γ + 1 else genAt f j := fun j => by rw [hF]; exact hg0 j
        have hFn : n F = n f := by rw [hF]; exact hn0
        have hFc : ∀ y, cls F y = cls f y := fun y => by rw [hF]; rfl
        have his : ∀ j, isOf F j = if j = x then 2 else isOf f j := fun j => by
          unfold isOf; rw [hFt, hFg]
          by_cases e : j = x
          · simp [e, hm]
          · simp [e]
        have hrt : ∀ d, d < 3 → F.r d = cnt (n f) (isB F 2 d) := fun d hd => by
          have h2 := cnt_one (P := isB F 2 d) (Q := isB f 2 d) (x := x) (fun j hj => by unfold isB; rw [his, if_neg hj, hFc]) hxn
          have h3 : isB F 2 d x = decide (c = d) := by unfold isB; rw [his, if_pos rfl, hFc, hcl, Bool.eq_iff_iff]; simp; omega
          have h4 : isB f 2 d x = false := by unfold isB; rw [hx1]; simp
          rw [h3, h4] at h2
          have h5 := h.rt d hd
          rw [hF]
          show upd f.r c (f.r c + 1) d = _
          rw [← hF]
          unfold upd
          by_cases e : d = c
          · subst e
            rw [if_neg (by simp), if_pos (by simp)] at h2
            rw [if_pos rfl]; omega
          · rw [if_neg (by simp), if_neg (by simp; omega)] at h2
            rw [if_neg e]; omega
        refine ⟨rfl, ?_, ?_⟩
        · show Rel { gave0 f x with r := upd f.r c (f.r c + 1) } _
          rw [← hF]
          refine ⟨by rw [hF]; exact h.s, ?_, ?_, fun j hj => ?_, fun d hd => ?_, fun y hy => by rw [hFn]; exact h.mem y hy, h.nd, fun d hd => ?_, fun d hd => by rw [hFn]; exact hrt d hd⟩
          · rw [hF]; show r.g.set x (γ + 1) = f.g.set x (genAt f x + 1); rw [h.g, hγ]
          · show (r.i.set _ _).length = _; rw [List.length_set, hFn]; exact h.il
          · show (r.i.set x 2).getD j 0 = _
            rw [hFn] at hj
            rw [getD_set_int _ (by rw [h.il]; exact hxn), his]
            split
            · rfl
            · exact h.is j hj
          · rw [hF]; exact h.p d hd
          · have h1 := h.fr d hd
            rw [hFn, show F.p d = f.p d by rw [hF]; rfl, h1]
            refine (cnt_congr (fun j hj => ?_)).symm
            unfold isB; rw [his, hFc]
            split
            · rename_i e; subst e; rw [hx1]; simp
            · rfl
        · show Inv { gave0 f x with r := upd f.r c (f.r c + 1) }
          rw [← hF]
          refine ⟨by rw [hF]; exact hI.ok, by rw [hFn]; rw [hF]; exact hI.cnt, by rw [hFn]; rw [hF]; exact htl, fun d hd y hy => ?_, fun d hd => by rw [hF]; exact hI.nd d hd, by rw [hF]; exact hmg, fun j hj hjt => ?_, fun d hd => ?_⟩
          · rw [show F.p d = f.p d by rw [hF]; rfl] at hy
            have hyx := hnotin d hd y hy
            obtain ⟨a1, a2, a3, a4, a5⟩ := hI.p d hd y hy
            obtain ⟨y, rfl⟩ : ∃ z : Nat, y = z := ⟨y.toNat, by omega⟩
            have hne : ¬ y = x := fun q => hyx (by rw [q])
            rw [hFn, hFc, hFt, hFg, if_neg hne, if_neg hne]
            exact ⟨a1, a2, a3, a4, a5⟩
          · rw [hFn] at hj
            rw [hFt] at hjt
            rw [hFg]
            by_cases e : j = x
            · rw [if_pos e] at hjt; cases hjt
            · rw [if_neg e] at hjt ⊢; exact hI.tg j hj hjt
          · rw [hrt d hd]
            have := cnt_le (n f) (isB F 2 d)
            have := hI.small
            omega
      · rw [gave_push hγ hcl hm, show gaveR r x = ({ r with g := r.g.set x (γ + 1), i := r.i.set x 0, p := r.p ++ [(x : Int)] }, false) by unfold gaveR; rw [hrg, if_neg hm]]
        obtain ⟨F, hF⟩ : ∃ F, F = { gave0 f x with p := upd f.p c (f.p c ++ [(x : Int)]) } := ⟨_, rfl⟩
        have hFt : ∀ j : Nat, takenAt F j = if j = x then false else takenAt f j := fun j => by rw [hF]; exact ht0 j
        have hFg : ∀ j : Nat, genAt F j = if j = x then γ + 1 else genAt f j := fun j => by rw [hF]; exact hg0 j
        have hFn : n F = n f := by rw [hF]; exact hn0
        have hFc : ∀ y, cls F y = cls f y := fun y => by rw [hF]; rfl
        have hFp : ∀ d, F.p d = if d = c then f.p c ++ [(x : Int)] else f.p d := fun d => by rw [hF]; rfl
        have his : ∀ j, isOf F j = if j = x then 0 else isOf f j := fun j => by
          unfold isOf; rw [hFt, hFg]
          by_cases e : j = x
          · simp [e, hm]
          · simp [e]
        have hxp : (x : Int) ∉ r.p := fun q => by
          have : (x : Int) ∈ f.p c := by
            rw [← h.p c hc3, List.mem_filter]
            exact ⟨q, by unfold cls at hcl; simp [hcl]⟩
          exact hnotin c hc3 _ this rfl
        refine ⟨rfl, ?_, ?_⟩
        · show Rel { gave0 f x with p := upd f.p c (f.p c ++ [(x : Int)]) } _
          rw [← hF]
          refine ⟨by rw [hF]; exact h.s, ?_, ?_, fun j hj => ?_, fun d hd => ?_, fun y hy => ?_, ?_, fun d hd => ?_, fun d hd => ?_⟩
          · rw [hF]; show r.g.set x (γ + 1) = f.g.set x (genAt f x + 1); rw [h.g, hγ]
          · show (r.i.set _ _).length = _; rw [List.length_set, hFn]; exact h.il
          · show (r.i.set x 0).getD j 0 = _
            rw [hFn] at hj
            rw [getD_set_int _ (by rw [h.il]; exact hxn), his]
            split
            · rfl
            · exact h.is j hj
          · rw [hFp, show F.s = f.s by rw [hF]; rfl, List.filter_append, h.p d hd]
            unfold cls at hcl
            by_cases e : d = c
            · subst e; rw [if_pos rfl]; simp [hcl]
            · have e' : ¬ c = d := fun q => e q.symm
              rw [if_neg e, List.filter_cons, if_neg (by simp [hcl]; omega)]; simp
          · rw [hFn]
            rcases List.mem_append.1 hy with q | q
            · exact h.mem y q
            · simp at q; omega
          · rw [List.nodup_append]
            exact ⟨h.nd, by simp, fun a ha b hb q => by simp at hb; rw [hb] at q; rw [q] at ha; exact hxp ha⟩
          · rw [hFn, hFp]
            have h1 := h.fr d hd
            have h2 := cnt_one (P := isB F 0 d) (Q := isB f 0 d) (x := x) (fun j hj => by unfold isB; rw [his, if_neg hj, hFc]) hxn
            have h3 : isB F 0 d x = decide (c = d) := by unfold isB; rw [his, if_pos rfl, hFc, hcl, Bool.eq_iff_iff]; simp; omega
            have h4 : isB f 0 d x = false := by unfold isB; rw [hx1]; simp
            rw [h3, h4] at h2
            by_cases e : d = c
            · subst e
              rw [if_neg (by simp), if_pos (by simp)] at h2
              rw [if_pos rfl, List.length_append]; simp; omega
            · rw [if_neg (by simp), if_neg (by simp; omega)] at h2
              rw [if_neg e]; omega
          · have h1 := h.rt d hd
            rw [hFn, show F.r d = f.r d by rw [hF]; rfl, h1]
            congr 1
            refine (cnt_congr (fun j hj => ?_)).symm
            unfold isB; rw [his, hFc]
            split
            · rename_i e; subst e; rw [hx1]; simp
            · rfl
        · show Inv { gave0 f x with p := upd f.p c (f.p c ++ [(x : Int)]) }
          rw [← hF]
          have old : ∀ d, d < 3 → ∀ y ∈ f.p d, 0 ≤ y ∧ y < n F ∧ cls F y = d ∧ takenAt F y = false ∧ genAt F y < 4294967295 := fun d hd y hy => by
            have hyx := hnotin d hd y hy
            obtain ⟨a1, a2, a3, a4, a5⟩ := hI.p d hd y hy
            obtain ⟨y, rfl⟩ : ∃ z : Nat, y = z := ⟨y.toNat, by omega⟩
            have hne : ¬ y = x := fun q => hyx (by rw [q])
            rw [hFn, hFc, hFt, hFg, if_neg hne, if_neg hne]
            exact ⟨a1, a2, a3, a4, a5⟩
          refine ⟨by rw [hF]; exact hI.ok, by rw [hFn]; rw [hF]; exact hI.cnt, by rw [hFn]; rw [hF]; exact htl, fun d hd y hy => ?_, fun d hd => ?_, by rw [hF]; exact hmg, fun j hj hjt => ?_, fun d hd => by rw [hF]; exact hI.r d hd⟩
          · rw [hFp] at hy
            by_cases e : d = c
            · subst e
              rw [if_pos rfl] at hy
              rcases List.mem_append.1 hy with q | q
              · exact old d hd y q
              · have q : y = (x : Int) := by simpa using q
                subst q
                rw [hFn, hFc, hFt, hFg, if_pos rfl, if_pos rfl]
                exact ⟨by omega, by omega, hcl, rfl, by omega⟩
            · rw [if_neg e] at hy; exact old d hd y hy
          · rw [hFp]
            split
            · rw [List.nodup_append]
              exact ⟨hI.nd c hc3, by simp, fun a ha b hb q => by simp at hb; rw [hb] at q; exact hnotin c hc3 a ha q⟩
            · exact hI.nd d hd
          · rw [hFn] at hj
            rw [hFt] at hjt
            rw [hFg]
            by_cases e : j = x
            · rw [if_pos e] at hjt; cases hjt
            · rw [if_neg e] at hjt ⊢; exact hI.tg j hj hjt

theorem down_rev (m : Nat) : (List.range m).map (fun (i : Nat) => (m : Int) - 1 - (i : Int)) = ((List.range m).map (fun (i : Nat) => (i : Int))).reverse := by
  apply List.ext_getElem
  · simp
  · intro k h1 h2
    simp at h1
    simp
    omega
theorem nat_filter_map (m : Nat) (P : Int → Bool) : (((List.range m).map (fun (i : Nat) => (m : Int) - 1 - (i : Int))).filter P).length = cnt m (fun x => P (x : Int)) := by
  rw [down_rev, List.filter_reverse, List.length_reverse, List.filter_map, List.length_map]
  rfl
theorem down_mem {m : Nat} {y : Int} (h : y ∈ (List.range m).map (fun (i : Nat) => (m : Int) - 1 - (i : Int))) : 0 ≤ y ∧ y < m := by
  rw [List.mem_map] at h
  obtain ⟨i, hi, rfl⟩ := h
  simp at hi
  omega
theorem down_nodup (m : Nat) : ((List.range m).map (fun (i : Nat) => (m : Int) - 1 - (i : Int))).Nodup := by
  unfold List.Nodup
  rw [List.pairwise_map]
  exact List.Pairwise.imp (fun {a b} h => by omega) (List.nodup_range (n := m))

/-- The beginning. -/
theorem rel_init {s : Conf.Sh} (h : Conf.ok s = true) {m : Nat} (hm : Conf.count s = m) : Rel (initTo s m m) (beginTo s m m) ∧ Inv (initTo s m m) := by
  have hn : n (initTo s m m) = m := initTo_n s (Nat.le_refl _)
  have hok := (Conf.ok_iff s).1 h
  have hg : ∀ x, x < m → genAt (initTo s m m) (x : Nat) = s.st := fun x hx => by
    unfold genAt initTo
    simp [hx]
  have ht : ∀ x : Nat, takenAt (initTo s m m) x = false := fun x => by
    unfold takenAt initTo
    simp [List.getD_eq_getElem?_getD, List.getElem?_replicate]
    split <;> rfl
  have his : ∀ x, x < m → isOf (initTo s m m) x = 0 := fun x hx => by
    unfold isOf; rw [ht, hg x hx, if_neg (by simp), if_neg (by omega)]
  have hp : ∀ c, (initTo s m m).p c = ((List.range m).map (fun (i : Nat) => (m : Int) - 1 - (i : Int))).filter (fun x => decide ((Conf.find s x).1 = c)) := fun c => rfl
  refine ⟨⟨rfl, rfl, ?_, fun x hx => ?_, fun c hc => rfl, fun y hy => ?_, down_nodup m, fun c hc => ?_, fun c hc => ?_⟩, ⟨h, by rw [hn]; exact hm.symm, ?_, fun c hc y hy => ?_, fun c hc => ?_, fun y hy => ?_, fun k hk hkt => ?_, fun c hc => by show (0 : Int) ≤ 0 ∧ (0 : Int) ≤ 192; omega⟩⟩
  · rw [hn]; show (List.replicate m (0 : Int)).length = m; simp
  · rw [hn] at hx
    rw [his x hx]
    show (List.replicate m (0 : Int)).getD x 0 = 0
    simp [hx]
  · rw [hn]; exact down_mem hy
  · rw [hp, nat_filter_map, hn]
    refine cnt_congr (fun x hx => ?_)
    unfold isB cls
    rw [his x hx, decide_eq_true (rfl : (0 : Int) = 0)]
    rfl
  · show (0 : Int) = _
    rw [hn]
    have : cnt m (isB (initTo s m m) 2 c) = cnt m (fun _ => false) := cnt_congr (fun x hx => by unfold isB; rw [his x hx]; simp)
    rw [this]
    unfold cnt; rw [List.filter_eq_nil_iff.2 (fun x _ => by simp)]; rfl
  · rw [hn]; show (List.replicate m false).length = m; simp
  · rw [hp, List.mem_filter] at hy
    have hy1 := down_mem hy.1
    obtain ⟨y, rfl⟩ : ∃ z : Nat, y = z := ⟨y.toNat, by omega⟩
    rw [hn, ht, hg y (by omega)]
    exact ⟨by omega, by omega, (by have q := hy.2; simp at q; exact q), rfl, by omega⟩
  · rw [hp]; exact (List.filter_sublist).nodup (down_nodup m)
  · have : y = s.st := by
      have q : y ∈ List.replicate (m - m) (0 : Int) ++ List.replicate m s.st := hy
      simp at q
      exact q.2
    rw [this]; omega
  · rw [ht] at hkt; cases hkt

end Free
end Go.Proofs.Ytngbhhcicakolaa
