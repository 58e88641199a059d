/- IntsEq, CellsNil, CellsFreshPlain, CellsTwo, CellsStep, CellsWords, as one text. -/
import Derived.Test.YtngbhhcicakolaaRows
import Derived.Test.YtngbhhcicakolaaRow
import Derived.Test.YtngbhhcicakolaaLists
import Derived.IntWalk
import Derived.Test.YtngbhhcicakolaaCellsReads
import Derived.Test.YtngbhhcicakolaaCellsActs
import Derived.Test.YtngbhhcicakolaaCellsOne
import Derived.Test.YtngbhhcicakolaaCellsDocBegin
import Derived.Test.YtngbhhcicakolaaCellsDocLive
import Derived.Test.YtngbhhcicakolaaFreeBoth
import Derived.Deep.RegionHeld3
import Derived.Test.YtngbhhcicakolaaHeadLaws
import Derived.Test.YtngbhhcicakolaaWordRef
import Derived.Test.YtngbhhcicakolaaConfRef
import Derived.Test.YtngbhhcicakolaaCellsAlive
set_option linter.unusedVariables false
set_option linter.unusedSimpArgs false
namespace Go.Proofs.Ytngbhhcicakolaa
open Go.RowKit

set_option maxHeartbeats 1000000 in
set_option maxRecDepth 100000 in
theorem ints_any (v v' : Value) (o o' : Option Nat) (n n' : Nat) (xs ys : List Int) (w : World) (hR : Row w 3 1 v o n (ints xs)) (hR' : Row w 3 1 v' o' n' (ints ys)) (hn : n ≤ 1000000000) (hn' : n' ≤ 1000000000) :
    Calls Try.prog 14 #[v, v'] w fun e w' => e = .returned (.bool (decide (xs = ys))) ∧ ∃ m, w' = w.drewN m := by
  obtain ⟨a, cap, rfl, hcap, hcap2⟩ := hR.val
  obtain ⟨a', cap', rfl, hcap', hcap2'⟩ := hR'.val
  have hl := hR.ints_len
  have hl' := hR'.ints_len
  by_cases hne : n = n'
  · subst hne
    have HR := Lib.hid hR
    have HL := Lib.hid hl
    have HR' := Lib.hid hR'
    have HL' := Lib.hid hl'
    clear hR hl hR' hl'
    go_enter Try.func14, Try.ntmps14
    go_wp2_with fail
    go_loopg [5] n (fun k i wr => ∃ j m : Nat, j + k = n ∧ i = .int .i64 j ∧ xs.take j = ys.take j ∧ wr = w.drewN m)
    case atStart => exact ⟨0, 0, by omega, rfl, by simp, rfl⟩
    case round =>
      obtain ⟨j, m, hj, rfl, he, rfl⟩ := hrel
      have HE := Lib.hid he
      clear he
      by_cases hlt : j < n
      · obtain ⟨b, off, rfl, ho, hc⟩ := HR.out.ints_at j hlt
        obtain ⟨b', off', rfl, ho', hc'⟩ := HR'.out.ints_at j hlt
        have h1 := take_succ_getD (xs := xs) (j := j) (by rw [HL.out]; exact hlt)
        have h2 := take_succ_getD (xs := ys) (j := j) (by rw [HL'.out]; exact hlt)
        have hxy : (xs.getD j 0 = ys.getD j 0) ∨ xs ≠ ys := by
          by_cases h : xs = ys
          · left; rw [h]
          · right; exact h
        have H1 := Lib.hid h1
        have H2 := Lib.hid h2
        have HXY := Lib.hid hxy
        clear h1 h2 ho ho' hxy
        generalize xs.getD j 0 = y at *
        generalize ys.getD j 0 = z at *
        by_cases hy : y = z
        · have t1 : (y != z) = false := by simp [hy]
          have HY := Lib.hid hy
          clear hy
          go_wp2_with fail
          go_quiet ((fail))
          go_wp2_with fail
          go_roundg (n - (j + 1))
          case measure => omega
          case rel => exact ⟨j + 1, _, by omega, by go_num, by rw [H1.out, H2.out, HE.out, HY.out], rfl⟩
        · have t1 : (y != z) = true := by simp [hy]
          have HN := Lib.hid (show xs ≠ ys from HXY.out.resolve_left hy)
          clear hy
          go_wp2_with fail
          go_quiet ((fail))
          go_wp2_with fail
          go_ret
          exact ⟨by rw [decide_eq_false HN.out]; rfl, _, World.drewN_drewN ..⟩
      · go_wp2_with fail
        go_ret
        refine ⟨ret_eq ?_, m, rfl⟩
        have := HE.out
        rw [List.take_of_length_le (by rw [HL.out]; omega), List.take_of_length_le (by rw [HL'.out]; omega)] at this
        rw [decide_eq_true this]; rfl
  · have hx : xs ≠ ys := fun e => hne (by rw [← hl, ← hl', e])
    have HX := Lib.hid hx
    have t1 : (((n : Nat) : Int) != (n' : Int)) = true := by simp; omega
    clear hR hR' hl hl' hx hne
    go_enter Try.func14, Try.ntmps14
    go_wp2_with fail
    go_ret
    exact ⟨by rw [decide_eq_false HX.out]; rfl, 0, rfl⟩

end Go.Proofs.Ytngbhhcicakolaa

namespace Go.Proofs.Ytngbhhcicakolaa
open Go.RowKit Go.Deep

namespace Cells

set_option maxHeartbeats 8000000 in
set_option maxRecDepth 100000 in
theorem header_nil (x : Int) (w : World) : Calls Try.prog 12 #[.pointer none, .int .i64 x] w fun e w' => e = .returned (.tuple #[.agg #[.int .i64 0, .int .i64 0, .bool false], .int .i64 1]) ∧ But (fun _ => False) w w' := by
  have G0 := (But.refl (fun _ => False) w).alloc (.cells #[.int .i64 0, .int .i64 0, .bool false] 47)
  have B2 := Blk.new w #[.int .i64 0, .int .i64 0, .bool false] 47
  go_enter Try.func12, Try.ntmps12
  go_wp2_with fail
  refine (slots_nil x _).mono ?_
  rintro r w2 ⟨rfl, rfl⟩
  obtain ⟨wa, hwa⟩ : ∃ wa, wa = w.alloc (.cells #[.int .i64 0, .int .i64 0, .bool false] 47) := ⟨_, rfl⟩
  rw [← hwa] at B2 G0 ⊢
  obtain ⟨rb, hrb⟩ : ∃ rb, rb = w.heap.size := ⟨_, rfl⟩
  rw [← hrb] at B2 ⊢
  have HRN := Lib.hid (show w.heap.size ≤ rb by omega)
  have G2 := Lib.hid G0
  clear hrb hwa G0
  have k0 := B2.cell 0
  have f0 := B2.frozen 0
  have k1 := B2.cell 1
  have f1 := B2.frozen 1
  have k2 := B2.cell 2
  have f2 := B2.frozen 2
  go_wp2_with fail
  have GF := ((G2.out.setCell (p := ⟨rb, 0, none⟩) (.inr HRN.out) (.int .i64 0)).setCell (p := ⟨rb, 1, none⟩) (.inr HRN.out) (.int .i64 0)).setCell (p := ⟨rb, 2, none⟩) (.inr HRN.out) (.bool false)
  refine bodyPost_ret (v := .tuple #[.agg #[.int .i64 0, .int .i64 0, .bool false], .int .i64 1]) ?_ rfl ⟨rfl, GF⟩
  simp [results, Try.results12, go_sem, k0, k1, k2]

set_option maxHeartbeats 8000000 in
set_option maxRecDepth 100000 in
theorem get_nil (x : Int) (w : World) : Calls Try.prog 25 #[.pointer none, .int .i64 x, .int .i64 0] w fun e w' => e = .returned (.tuple #[.agg #[.int .i64 0, .int .u64 0], .int .i64 1]) ∧ But (fun _ => False) w w' := by
  have G0 := (But.refl (fun _ => False) w).alloc (.cells #[.int .i64 0, .int .u64 0] 43)
  have B2 := Blk.new w #[.int .i64 0, .int .u64 0] 43
  go_enter Try.func25, Try.ntmps25
  go_wp2_with fail
  refine (slots_nil x _).mono ?_
  rintro r w2 ⟨rfl, rfl⟩
  obtain ⟨wa, hwa⟩ : ∃ wa, wa = w.alloc (.cells #[.int .i64 0, .int .u64 0] 43) := ⟨_, rfl⟩
  rw [← hwa] at B2 G0 ⊢
  obtain ⟨rb, hrb⟩ : ∃ rb, rb = w.heap.size := ⟨_, rfl⟩
  rw [← hrb] at B2 ⊢
  have HRN := Lib.hid (show w.heap.size ≤ rb by omega)
  have G2 := Lib.hid G0
  clear hrb hwa G0
  have k0 := B2.cell 0
  have f0 := B2.frozen 0
  have k1 := B2.cell 1
  have f1 := B2.frozen 1
  go_wp2_with fail
  refine bodyPost_ret (v := .tuple #[.agg #[.int .i64 0, .int .u64 0], .int .i64 1]) ?_ rfl ⟨rfl, (G2.out.setCell (p := ⟨rb, 0, none⟩) (.inr HRN.out) (.int .i64 0)).setCell (p := ⟨rb, 1, none⟩) (.inr HRN.out) (.int .u64 0)⟩
  simp [results, Try.results25, go_sem, k0, k1]

set_option maxHeartbeats 8000000 in
set_option maxRecDepth 100000 in
theorem set_nil (x : Int) (w : World) : Calls Try.prog 26 #[.pointer none, .int .i64 x, .int .i64 0, .agg #[.int .i64 0, .int .u64 0]] w fun e w' => e = .returned (.int .i64 1) ∧ But (fun _ => False) w w' := by
  have G0 := (But.refl (fun _ => False) w).alloc (.cells #[.int .i64 0, .int .u64 0] 43)
  have HEN := Lib.hid (fun w => Word.encode_any 0 0 w (by decide))
  have HE := Lib.hid (show Word.encOf 0 0 = (0, 0) by decide)
  go_enter Try.func26, Try.ntmps26
  go_wp2_with fail
  refine (HEN.out _).mono ?_
  rintro r w2 ⟨rfl, g2⟩
  rw [HE.out]
  go_wp2_with fail
  refine (slots_nil x _).mono ?_
  rintro r w3 ⟨rfl, rfl⟩
  go_wp2_with fail
  go_ret
  exact ⟨rfl, G0.trans g2⟩

set_option maxHeartbeats 8000000 in
set_option maxRecDepth 100000 in
theorem setCount_nil (x m : Int) (w : World) : Calls Try.prog 27 #[.pointer none, .int .i64 x, .int .i64 m] w fun e w' => e = .returned (.int .i64 1) ∧ But (fun _ => False) w w' := by
  go_enter Try.func27, Try.ntmps27
  go_wp2_with fail
  refine (header_nil x _).mono ?_
  rintro r w2 ⟨rfl, g2⟩
  go_wp2_with fail
  go_ret
  exact ⟨rfl, g2.trans ((But.refl (fun _ => False) w2).alloc (.cells #[.int .i64 0, .int .i64 m, .bool false] 47))⟩

end Cells
end Go.Proofs.Ytngbhhcicakolaa

namespace Go.Proofs.Ytngbhhcicakolaa
open Go.RowKit

namespace Cells
open Free (Fr genAt takenAt)
open Arena (nth zeroed)

/-- A cell is as it was. -/
def Same (c c' : Cs) (o : Int) : Prop := header c' o = header c o ∧ get c' o 0 = get c o 0
theorem Same.refl (c : Cs) (o : Int) : Same c c o := ⟨rfl, rfl⟩
theorem same_of {c c' : Cs} {y : Nat} (hn : n c' = n c) (hs : c'.f.s = c.f.s) (hg : genAt c'.f y = genAt c.f y) (ht : takenAt c'.f y = takenAt c.f y) (hc : cntAt c' y = cntAt c y) (hv : valAt c' y 0 = valAt c y 0) : Same c c' y := by
  have e1 : isCell c' (y : Int) = isCell c (y : Int) := by unfold isCell; rw [hn]
  have e2 : slotOK c' (y : Int) 0 = slotOK c (y : Int) 0 := by unfold slotOK; rw [hs]
  constructor
  · unfold header
    rw [e1, Int.toNat_natCast, hg, ht, hc]
  · unfold get
    rw [e2, Int.toNat_natCast, ht, show (0 : Int).toNat = 0 from rfl, hv]
theorem alloc_same {c : Cs} (hI : Inv c) {k : Int} {o : Nat} (h : (alloc c k).2.2 = 0 → (o : Int) ≠ (alloc c k).2.1) : Same c (alloc c k).1 o := by
  by_cases e : (alloc c k).2.2 = 0
  · obtain ⟨x, h1, h2, h3, h4, h5, h6, h7, h8, h9, h10⟩ := alloc_ok hI e
    have ne : o ≠ x := by have := h e; omega
    exact same_of h3 h4 (h10 o) (h9 o ne) rfl rfl
  · rw [alloc_no e]; exact Same.refl _ _
theorem free_same {c : Cs} (hI : Inv c) {x : Int} {o : Nat} (h : (o : Int) ≠ x) : Same c (free c x).1 o := by
  by_cases e : (free c x).2.2 = 0
  · obtain ⟨y, rfl, h2, h3, h4, h5, h6, h7, h8, h9⟩ := free_ok hI e
    have cl := hI.cl
    have vl := hI.vl
    have ne : o ≠ y := by omega
    rw [h3]
    exact same_of h7 h8 (h6 o ne).1 (h6 o ne).2 (by rw [gone_cnt (by omega), if_neg ne]) (by rw [gone_val (by omega), if_neg ne])
  · rw [free_no e]; exact Same.refl _ _
theorem setCount_same {c : Cs} (hI : Inv c) {x m : Int} {o : Nat} (h : (o : Int) ≠ x) : Same c (setCount c x m).1 o := by
  have cl := hI.cl
  unfold setCount
  split
  · rename_i q
    have h1 := (isCell_iff c x).1 q.1
    split
    · refine same_of rfl rfl rfl rfl ?_ rfl
      unfold cntAt
      rw [Free.getD_set_int (l := c.cn) (x := x.toNat) m (by omega), if_neg (by omega)]
    · exact Same.refl _ _
  · exact Same.refl _ _
theorem set_same {c : Cs} (hI : Inv c) {x k : Int} {p : Int × Int} {o : Nat} (h : (o : Int) ≠ x) : Same c (set c x k p).1 o := by
  have vl := hI.vl
  unfold set
  split
  · rename_i q
    have h0 := slotOK_cell hI q.2
    have h1 := (isCell_iff c x).1 h0
    have h2 := (slotOK_iff c x k).1 q.2
    have h3 := hI.vs x.toNat (by omega)
    rw [Int.toNat_of_nonneg h1.1] at h3
    split
    · exact same_of rfl rfl rfl rfl rfl (by rw [putV_val (by omega) (by omega), if_neg (by omega)])
    · exact Same.refl _ _
  · exact Same.refl _ _
theorem alloc_s (c : Cs) (k : Int) (hI : Inv c) : (alloc c k).1.f.s = c.f.s ∧ n (alloc c k).1 = n c := by
  by_cases e : (alloc c k).2.2 = 0
  · obtain ⟨x, h1, h2, h3, h4, h5, h6, h7, h8, h9, h10⟩ := alloc_ok hI e
    exact ⟨h4, h3⟩
  · rw [alloc_no e]; exact ⟨rfl, rfl⟩
theorem free_s (c : Cs) (x : Int) (hI : Inv c) : (free c x).1.f.s = c.f.s ∧ n (free c x).1 = n c := by
  by_cases e : (free c x).2.2 = 0
  · obtain ⟨y, rfl, h2, h3, h4, h5, h6, h7, h8, h9⟩ := free_ok hI e
    rw [h3]; exact ⟨h8, h7⟩
  · rw [free_no e]; exact ⟨rfl, rfl⟩
theorem setCount_s (c : Cs) (x m : Int) : (setCount c x m).1.f = c.f := by
  unfold setCount
  repeat' split
  all_goals rfl
theorem set_s (c : Cs) (x k : Int) (p : Int × Int) : (set c x k p).1.f = c.f := by
  unfold set
  repeat' split
  all_goals rfl

/-- A live cell with count 0 and nil in all slots. -/
structure Empty (c : Cs) (x : Nat) : Prop where
  lt : x < n c
  tk : takenAt c.f x = true
  cz : cntAt c x = 0
  vz : ∀ k, valAt c x k = (0, 0)
theorem Empty.head {c : Cs} {x : Nat} (h : Empty c x) : header c x = ((genAt c.f x, 0, true), 0) := by
  unfold header
  rw [if_pos ((isCell_iff c x).2 ⟨by omega, by have := h.lt; omega⟩), Int.toNat_natCast, h.tk, h.cz]
theorem Empty.get {c : Cs} {x : Nat} (h : Empty c x) {k : Nat} (hk : (k : Int) < slots c.f.s x) : get c x k = ((0, 0), 0) := by
  unfold Cells.get
  rw [if_pos ((slotOK_iff c x k).2 ⟨by omega, hk⟩), Int.toNat_natCast, if_pos h.tk, h.vz]
theorem alloc_empty {c : Cs} (hI : Inv c) {k : Int} (e : (alloc c k).2.2 = 0) : ∃ x : Nat, (alloc c k).2.1 = x ∧ Empty (alloc c k).1 x := by
  obtain ⟨x, h1, h2, h3, h4, h5, h6, h7, h8, h9, h10⟩ := alloc_ok hI e
  exact ⟨x, h1, by rw [h3]; exact h2, h5, h7, h8⟩

end Cells
end Go.Proofs.Ytngbhhcicakolaa

namespace Go.Proofs.Ytngbhhcicakolaa
open Go.RowKit Go.Deep

/-- Two things as one. -/
def Pc.pair (p q : Pc) : Pc where
  is := fun w => p.is w ∧ q.is w ∧ Apart p.S q.S
  S := fun k => p.S k ∨ q.S k
  keep := fun h g a => ⟨p.keep h.1 g (fun k u v => a k u (.inl v)), q.keep h.2.1 g (fun k u v => a k u (.inr v)), h.2.2⟩
  lt := fun h k hk => by
    rcases hk with hk | hk
    · exact p.lt h.1 k hk
    · exact q.lt h.2.1 k hk
def Pc.none' : Pc := ⟨fun _ => True, fun _ => False, fun _ _ _ => trivial, fun _ k hk => hk.elim⟩
theorem Own.split {w0 w : World} {p q : Pc} {L : List Pc} (h : Own w0 w (Pc.pair p q :: L)) : Own w0 w (p :: q :: L) := by
  have h0 : (Pc.pair p q).is w := h.get 0 rfl
  obtain ⟨h1, h2, h3⟩ := h0
  have ap : ∀ j (hj : j < L.length), Apart (Pc.pair p q).S L[j].S := fun j hj => h.apart 0 (j + 1) (by simp) (by simpa using hj) (by omega)
  refine ⟨fun i hi => ?_, fun i j hi hj ne => ?_, fun i hi k hk => ?_, h.but⟩
  · match i, hi with
    | 0, _ => exact h1
    | 1, _ => exact h2
    | i + 2, hi => exact h.is (i + 1) (by simpa using hi)
  · match i, j, hi, hj with
    | 0, 0, _, _ => exact absurd rfl ne
    | 0, 1, _, _ => exact h3
    | 1, 0, _, _ => exact h3.symm
    | 1, 1, _, _ => exact absurd rfl ne
    | 0, j + 2, _, hj => exact fun k a b => ap j (by simpa using hj) k (.inl a) b
    | 1, j + 2, _, hj => exact fun k a b => ap j (by simpa using hj) k (.inr a) b
    | i + 2, 0, hi, _ => exact fun k a b => ap i (by simpa using hi) k (.inl b) a
    | i + 2, 1, hi, _ => exact fun k a b => ap i (by simpa using hi) k (.inr b) a
    | i + 2, j + 2, hi, hj => exact h.apart (i + 1) (j + 1) (by simpa using hi) (by simpa using hj) (by omega)
  · match i, hi with
    | 0, _ => exact h.new 0 (by simp) k (.inl hk)
    | 1, _ => exact h.new 0 (by simp) k (.inr hk)
    | i + 2, hi => exact h.new (i + 1) (by simpa using hi) k hk
theorem Own.join {w0 w : World} {p q : Pc} {L : List Pc} (h : Own w0 w (p :: q :: L)) : Own w0 w (Pc.pair p q :: L) := by
  have h1 : p.is w := h.get 0 rfl
  have h2 : q.is w := h.get 1 rfl
  have h3 : Apart p.S q.S := h.apart 0 1 (by simp) (by simp) (by decide)
  have ap : ∀ j (hj : j < L.length), Apart (Pc.pair p q).S L[j].S := fun j hj k a b => by
    rcases a with a | a
    · exact h.apart 0 (j + 2) (by simp) (by simpa using hj) (by omega) k a b
    · exact h.apart 1 (j + 2) (by simp) (by simpa using hj) (by omega) k a b
  refine ⟨fun i hi => ?_, fun i j hi hj ne => ?_, fun i hi k hk => ?_, h.but⟩
  · match i, hi with
    | 0, _ => exact ⟨h1, h2, h3⟩
    | i + 1, hi => exact h.is (i + 2) (by simpa using hi)
  · match i, j, hi, hj with
    | 0, 0, _, _ => exact absurd rfl ne
    | 0, j + 1, _, hj => exact ap j (by simpa using hj)
    | i + 1, 0, hi, _ => exact (ap i (by simpa using hi)).symm
    | i + 1, j + 1, hi, hj => exact h.apart (i + 2) (j + 2) (by simpa using hi) (by simpa using hj) (by omega)
  · match i, hi with
    | 0, _ =>
      rcases hk with hk | hk
      · exact h.new 0 (by simp) k hk
      · exact h.new 1 (by simp) k hk
    | i + 1, hi => exact h.new (i + 2) (by simpa using hi) k hk

namespace Cells
open Free (Fr genAt takenAt)

/-- The program's cells c1, the document's c, and X beside them; at most t0 words were touched. -/
structure Two (X : Pc) (b fb ab ca base : Nat) (l0 : List Int) (c1 : Cs) (t0 : Int) (d : Nat) (c : Cs) (w0 w : World) : Prop where
  ex : ∃ S, Doc w0 (Pc.pair (Pc.cob b fb ab ca base l0 c1 t0 S) X) d c w
section
variable {X : Pc} {b fb ab ca base : Nat} {l0 : List Int} {c1 c : Cs} {t0 : Int} {d : Nat} {w0 w : World}

/-- Seen as the program's cells ahead of all else. -/
theorem Two.open (h : Two X b fb ab ca base l0 c1 t0 d c w0 w) : ∃ L, One (X :: L) b fb ab ca base l0 c1 t0 w0 w ∧
    ∀ X' c2 t2 w', One (X' :: L) b fb ab ca base l0 c2 t2 w0 w' → Two X' b fb ab ca base l0 c2 t2 d c w0 w' := by
  obtain ⟨S, h⟩ := h.ex
  obtain ⟨r, ⟨rb, Sr, vs, v1, v2, o1, o2, W, hv⟩, hr⟩ := h.ex
  refine ⟨_, ⟨S, Own.split W⟩, fun X' c2 t2 w' h2 => ?_⟩
  obtain ⟨S', W'⟩ := h2.ex
  exact ⟨S', ⟨r, ⟨rb, Sr, vs, v1, v2, o1, o2, Own.join W', hv⟩, hr⟩, h.inv⟩
theorem Two.lift {f : FuncId} {args : Array Value} {R : Value} {c2 : Cs} {t2 : Int} (h : Two X b fb ab ca base l0 c1 t0 d c w0 w)
    (hc : ∀ L, One L b fb ab ca base l0 c1 t0 w0 w → Calls Try.prog f args w fun r w' => r = .returned R ∧ One L b fb ab ca base l0 c2 t2 w0 w') :
    Calls Try.prog f args w fun r w' => r = .returned R ∧ Two X b fb ab ca base l0 c2 t2 d c w0 w' := by
  obtain ⟨L, h1, h2⟩ := h.open
  exact (hc _ h1).mono fun r w' ⟨a, o⟩ => ⟨a, h2 X _ _ _ o⟩
theorem Two.doc {f : FuncId} {args : Array Value} {R : Value} {c2 : Cs} (h : Two X b fb ab ca base l0 c1 t0 d c w0 w)
    (hc : ∀ P, Doc w0 P d c w → Calls Try.prog f args w fun r w' => r = .returned R ∧ Doc w0 P d c2 w') :
    Calls Try.prog f args w fun r w' => r = .returned R ∧ Two X b fb ab ca base l0 c1 t0 d c2 w0 w' := by
  obtain ⟨S, h⟩ := h.ex
  exact (hc _ h).mono fun r w' ⟨a, o⟩ => ⟨a, S, o⟩
theorem Two.same {w' : World} (h : Two X b fb ab ca base l0 c1 t0 d c w0 w) (g : But (fun _ => False) w w') : Two X b fb ab ca base l0 c1 t0 d c w0 w' := by
  obtain ⟨S, h⟩ := h.ex
  exact ⟨S, h.same g⟩
theorem Two.but (h : Two X b fb ab ca base l0 c1 t0 d c w0 w) : But (fun _ => False) w0 w := by
  obtain ⟨S, h⟩ := h.ex
  exact h.but
theorem Two.inv (h : Two X b fb ab ca base l0 c1 t0 d c w0 w) : Inv c := by
  obtain ⟨S, h⟩ := h.ex
  exact h.inv
theorem Two.beside (h : Two X b fb ab ca base l0 c1 t0 d c w0 w) : X.is w := by
  obtain ⟨L, h1, h2⟩ := h.open
  obtain ⟨S, h1⟩ := h1.ex
  exact h1.get 1 rfl
theorem Two.up {t2 : Int} (h : Two X b fb ab ca base l0 c1 t0 d c w0 w) (ht : t0 ≤ t2) : Two X b fb ab ca base l0 c1 t2 d c w0 w := by
  obtain ⟨L, h1, h2⟩ := h.open
  obtain ⟨l, t, Sf, q1, q2, q3⟩ := h1.cel
  exact h2 X _ _ _ (One.turn q3 q1 (by omega) (But.refl _ w) (fun j hj => .inl hj))
theorem Two.add {w' : World} {q : Pc} (h : Two X b fb ab ca base l0 c1 t0 d c w0 w) (hq : q.is w') (g : But (fun _ => False) w w') (hn : ∀ k, q.S k → w.heap.size ≤ k) : Two (Pc.pair q X) b fb ab ca base l0 c1 t0 d c w0 w' := by
  obtain ⟨L, h1, h2⟩ := h.open
  obtain ⟨S, h1⟩ := h1.ex
  have A1 := (h1.add hq g hn).swap
  -- cob :: q :: X :: L
  have A2 : Own w0 w' (Pc.cob b fb ab ca base l0 c1 t0 S :: Pc.pair q X :: L) := by
    have B1 := A1.swap
    -- q :: cob :: X :: L
    have B2 : Own w0 w' (Pc.pair q (Pc.pair (Pc.cob b fb ab ca base l0 c1 t0 S) X) :: L) := by
      have C1 := A1
      refine Own.join (p := q) ?_
      -- q :: pair cob X :: L
      have D1 : Own w0 w (Pc.pair (Pc.cob b fb ab ca base l0 c1 t0 S) X :: L) := h1.join
      exact D1.add hq g hn
    have E0 : (Pc.pair q (Pc.pair (Pc.cob b fb ab ca base l0 c1 t0 S) X)).is w' := B2.get 0 rfl
    obtain ⟨e1, ⟨e2, e3, e4⟩, e5⟩ := E0
    refine ⟨fun i hi => ?_, fun i j hi hj ne => ?_, fun i hi k hk => ?_, B2.but⟩
    · match i, hi with
      | 0, _ => exact e2
      | 1, _ => exact ⟨e1, e3, fun k a z => e5 k a (.inr z)⟩
      | i + 2, hi => exact B2.is (i + 1) (by simpa using hi)
    · have f1 : Apart (Pc.cob b fb ab ca base l0 c1 t0 S).S (Pc.pair q X).S := fun k a z => by
        rcases z with z | z
        · exact e5 k z (.inl a)
        · exact e4 k a z
      have f2 : ∀ j (hj : j < L.length), Apart (Pc.pair q (Pc.pair (Pc.cob b fb ab ca base l0 c1 t0 S) X)).S L[j].S := fun j hj => B2.apart 0 (j + 1) (by simp) (by simpa using hj) (by omega)
      have f3 : ∀ j (hj : j < L.length), Apart (Pc.cob b fb ab ca base l0 c1 t0 S).S L[j].S := fun j hj k a z => f2 j hj k (.inr (.inl a)) z
      have f4 : ∀ j (hj : j < L.length), Apart (Pc.pair q X).S L[j].S := fun j hj k a z => by
        rcases a with a | a
        · exact f2 j hj k (.inl a) z
        · exact f2 j hj k (.inr (.inr a)) z
      match i, j, hi, hj with
      | 0, 0, _, _ => exact absurd rfl ne
      | 0, 1, _, _ => exact f1
      | 1, 0, _, _ => exact f1.symm
      | 1, 1, _, _ => exact absurd rfl ne
      | 0, j + 2, _, hj => exact f3 j (by simpa using hj)
      | 1, j + 2, _, hj => exact f4 j (by simpa using hj)
      | i + 2, 0, hi, _ => exact (f3 i (by simpa using hi)).symm
      | i + 2, 1, hi, _ => exact (f4 i (by simpa using hi)).symm
      | i + 2, j + 2, hi, hj => exact B2.apart (i + 1) (j + 1) (by simpa using hi) (by simpa using hj) (by omega)
    · have f5 : ∀ k, (Pc.pair q (Pc.pair (Pc.cob b fb ab ca base l0 c1 t0 S) X)).S k → w0.heap.size ≤ k := fun k hk => B2.new 0 (by simp) k hk
      match i, hi with
      | 0, _ => exact f5 k (.inr (.inl hk))
      | 1, _ =>
        rcases hk with hk | hk
        · exact f5 k (.inl hk)
        · exact f5 k (.inr (.inr hk))
      | i + 2, hi => exact B2.new (i + 1) (by simpa using hi) k hk
  exact h2 (Pc.pair q X) c1 t0 w' ⟨S, A2⟩
theorem Two.addBlk (h : Two X b fb ab ca base l0 c1 t0 d c w0 w) (cs : Array Value) (T : TypeId) : Two (Pc.pair (Pc.blk w.heap.size cs T) X) b fb ab ca base l0 c1 t0 d c w0 (w.alloc (.cells cs T)) :=
  h.add (q := Pc.blk w.heap.size cs T) (Blk.new w cs T) ((But.refl _ w).alloc _) (fun k hk => by
    have : k = w.heap.size := hk
    omega)
theorem Two.drop {q : Pc} (h : Two (Pc.pair q X) b fb ab ca base l0 c1 t0 d c w0 w) : Two X b fb ab ca base l0 c1 t0 d c w0 w := by
  obtain ⟨L, h1, h2⟩ := h.open
  obtain ⟨S, h1⟩ := h1.ex
  exact h2 X _ _ _ ⟨S, h1.swap.split.drop.swap⟩
theorem Two.blk {B : Nat} {cs : Array Value} {T : TypeId} (h : Two (Pc.pair (Pc.blk B cs T) X) b fb ab ca base l0 c1 t0 d c w0 w) : Blk w B cs T := h.beside.1
/-- As they begin. -/
theorem two_begin {w1 : World} {rb : Nat} {r : Free.Rf} {Sr : Nat → Prop} {vs : List (Nat × List (Int × Int))} {v1 v2 : Value} {o1 o2 : Option Nat} {P : Pc} (h : One [] b fb ab ca base l0 c1 t0 w0 w1) (W : Own w1 w (rl P d rb r Sr c.cn vs v1 v2 o1 o2)) (hv : vs.map (·.2) = c.v) (hr : Free.Rel c.f r) (hI : Inv c) :
    Two Pc.none' b fb ab ca base l0 c1 t0 d c w0 w := by
  obtain ⟨S, h⟩ := h.ex
  have hz := h.but.size
  have W2 : Own w1 w (Pc.none' :: (rl P d rb r Sr c.cn vs v1 v2 o1 o2).tail) := (Own.drop W).add (q := Pc.none') trivial (But.refl _ w) (fun k hk => hk.elim)
  have W3 := Own.cons h W2
  exact ⟨S, ⟨r, ⟨rb, Sr, vs, v1, v2, o1, o2, Own.join W3, hv⟩, hr⟩, hI⟩

/-! ### The document's acts -/
theorem td_alloc (h : Two X b fb ab ca base l0 c1 t0 d c w0 w) (k : Int) : Calls Try.prog 46 #[.pointer (some ⟨d, 0, none⟩), .int .i64 k] w fun e w' => e = .returned (.tuple #[.int .i64 (alloc c k).2.1, .int .i64 (alloc c k).2.2]) ∧ Two X b fb ab ca base l0 c1 t0 d (alloc c k).1 w0 w' :=
  h.doc fun P D => d_alloc D k
theorem td_free (h : Two X b fb ab ca base l0 c1 t0 d c w0 w) (x : Int) : Calls Try.prog 42 #[.pointer (some ⟨d, 0, none⟩), .int .i64 x] w fun e w' => e = .returned (.tuple #[.bool (free c x).2.1, .int .i64 (free c x).2.2]) ∧ Two X b fb ab ca base l0 c1 t0 d (free c x).1 w0 w' :=
  h.doc fun P D => d_free D x
theorem td_setCount (h : Two X b fb ab ca base l0 c1 t0 d c w0 w) (x m : Int) : Calls Try.prog 43 #[.pointer (some ⟨d, 0, none⟩), .int .i64 x, .int .i64 m] w fun e w' => e = .returned (.int .i64 (setCount c x m).2) ∧ Two X b fb ab ca base l0 c1 t0 d (setCount c x m).1 w0 w' :=
  h.doc fun P D => d_setCount D x m
theorem td_set (h : Two X b fb ab ca base l0 c1 t0 d c w0 w) (x z kk nn : Int) (hn : 0 ≤ nn ∧ nn ≤ 18446744073709551615) : Calls Try.prog 44 #[.pointer (some ⟨d, 0, none⟩), .int .i64 x, .int .i64 z, .agg #[.int .i64 kk, .int .u64 nn]] w fun e w' => e = .returned (.int .i64 (set c x z (kk, nn)).2) ∧ Two X b fb ab ca base l0 c1 t0 d (set c x z (kk, nn)).1 w0 w' :=
  h.doc fun P D => d_set D x z kk nn hn
theorem Two.quiet {f : FuncId} {args : Array Value} {R : Value} (h : Two X b fb ab ca base l0 c1 t0 d c w0 w) (hc : ∀ P, Doc w0 P d c w → Calls Try.prog f args w fun r w' => r = .returned R ∧ But (fun _ => False) w w') :
    Calls Try.prog f args w fun r w' => r = .returned R ∧ Two X b fb ab ca base l0 c1 t0 d c w0 w' :=
  h.doc fun P D => (hc P D).mono fun r w' ⟨a, g⟩ => ⟨a, D.same g⟩
theorem td_header {x g m e : Int} {u : Bool} (h : Two X b fb ab ca base l0 c1 t0 d c w0 w) (e1 : header c x = ((g, m, u), e)) : Calls Try.prog 13 #[.pointer (some ⟨d, 0, none⟩), .int .i64 x] w fun r w' => r = .returned (.tuple #[.agg #[.int .i64 g, .int .i64 m, .bool u], .int .i64 e]) ∧ Two X b fb ab ca base l0 c1 t0 d c w0 w' :=
  h.quiet fun P D => by
    have := d_header D x
    rw [e1] at this
    exact this
theorem td_get {x z kk nn e : Int} (h : Two X b fb ab ca base l0 c1 t0 d c w0 w) (e1 : get c x z = ((kk, nn), e)) : Calls Try.prog 45 #[.pointer (some ⟨d, 0, none⟩), .int .i64 x, .int .i64 z] w fun r w' => r = .returned (.tuple #[.agg #[.int .i64 kk, .int .u64 nn], .int .i64 e]) ∧ Two X b fb ab ca base l0 c1 t0 d c w0 w' :=
  h.quiet fun P D => by
    have := d_get D x z
    rw [e1] at this
    exact this
theorem td_slots (h : Two X b fb ab ca base l0 c1 t0 d c w0 w) (x : Int) : Calls Try.prog 19 #[.pointer (some ⟨d, 0, none⟩), .int .i64 x] w fun r w' => r = .returned (.int .i64 (slots c.f.s x)) ∧ w = w' := by
  obtain ⟨S, h⟩ := h.ex
  exact d_slots h x
/-- The live cells, told in a slice that is new. -/
theorem td_live (h : Two X b fb ab ca base l0 c1 t0 d c w0 w) : Calls Try.prog 16 #[.pointer (some ⟨d, 0, none⟩)] w fun r w' => ∃ v o, r = .returned v ∧ Row w' 3 1 v o (live c).length (ints (live c)) ∧ But (fun _ => False) w w' ∧ Two X b fb ab ca base l0 c1 t0 d c w0 w' := by
  obtain ⟨S, h'⟩ := h.ex
  refine (d_live h').mono ?_
  rintro r w' ⟨v, o, rfl, hR, hN, g⟩
  exact ⟨v, o, rfl, hR, g, h.same g⟩
theorem t_live (h : Two X b fb ab ca base l0 c1 t0 d c w0 w) : Calls Try.prog 15 #[.pointer (some ⟨b, 0, none⟩)] w fun r w' => ∃ v o, r = .returned v ∧ Row w' 3 1 v o (live c1).length (ints (live c1)) ∧ But (fun _ => False) w w' ∧ Two X b fb ab ca base l0 c1 t0 d c w0 w' := by
  obtain ⟨L, h1, h2⟩ := h.open
  refine (o_live h1 rfl).mono ?_
  rintro r w' ⟨a, cap, o, rfl, hR, hN, h3, g⟩
  exact ⟨_, o, rfl, hR, g, h2 X _ _ _ h3⟩
theorem t_slots (h : Two X b fb ab ca base l0 c1 t0 d c w0 w) {x : Int} (hx : -9223372036854775808 ≤ x ∧ x ≤ 9223372036854775807) : Calls Try.prog 18 #[.pointer (some ⟨b, 0, none⟩), .int .i64 x] w fun r w' => r = .returned (.int .i64 (slots c1.f.s x)) ∧ But (fun _ => False) w w' := by
  obtain ⟨L, h1, h2⟩ := h.open
  refine (o_slots h1 hx rfl).mono ?_
  rintro r w' ⟨rfl, h3, g⟩
  exact ⟨rfl, g⟩
theorem t_room (h : Two X b fb ab ca base l0 c1 t0 d c w0 w) (x : Int) : Calls Try.prog 17 #[.pointer (some ⟨b, 0, none⟩), .int .i64 x] w fun r w' => r = .returned (.tuple #[.int .i64 (Free.free c1.f x), .int .i64 (Free.retired c1.f x)]) ∧ Two X b fb ab ca base l0 c1 t0 d c w0 w' := by
  obtain ⟨L, h1, h2⟩ := h.open
  refine (o_room h1 rfl rfl).mono ?_
  rintro r w' ⟨rfl, h3, g⟩
  exact ⟨rfl, h2 X _ _ _ h3⟩
/-- The list within the document's cells. -/
theorem td_list (h : Two X b fb ab ca base l0 c1 t0 d c w0 w) : ∃ rb, w.cell? ⟨d, 0, none⟩ = some (.pointer (some ⟨rb, 0, none⟩)) ∧
    (∀ x w', But (fun _ => False) w w' → Calls Try.prog 20 #[.pointer (some ⟨rb, 0, none⟩), .int .i64 x] w' fun e w'' => e = .returned (.int .i64 (Free.free c.f x)) ∧ But (fun _ => False) w' w'') ∧
    (∀ x w', But (fun _ => False) w w' → Calls Try.prog 21 #[.pointer (some ⟨rb, 0, none⟩), .int .i64 x] w' fun e w'' => e = .returned (.int .i64 (Free.retired c.f x)) ∧ But (fun _ => False) w' w'') := by
  obtain ⟨S, h⟩ := h.ex
  obtain ⟨rb, r, Sr, a1, cap1, a2, cap2, hS⟩ := h.seen
  refine ⟨rb, hS.k0, fun x w' g => ?_, fun x w' g => ?_⟩
  · have := Free.ref_free rb r x w' Sr (hS.rob.but g (fun _ q _ => q))
    rw [Free.numR_free hS.rel h.inv.f] at this
    exact this
  · have := Free.ref_retired rb r x w' Sr (hS.rob.but g (fun _ q _ => q))
    rw [Free.numR_ret hS.rel h.inv.f] at this
    exact this
end

end Cells
end Go.Proofs.Ytngbhhcicakolaa

namespace Go.Proofs.Ytngbhhcicakolaa
open Go.RowKit Go.Deep

namespace Cells
open Free (Fr genAt takenAt)

/-- What an act makes of cells. -/
def act (c : Cs) (K C N D Y : Int) : Cs :=
  if K % 7 = 2 then (free c C).1 else if K % 7 = 3 then (setCount c C N).1 else if K % 7 = 4 ∨ K % 7 = 5 then (set c C N (D, Y)).1 else if K % 7 = 6 then c else (alloc c N).1

def Acb (K C N D Y : Int) : Array Value := #[.int .u8 K, .int .i64 C, .int .i64 N, .int .i64 D, .int .u64 Y]
section
variable {X : Pc} {b fb ab ca base : Nat} {l0 : List Int} {c : Cs} {t0 : Int} {d : Nat} {w0 w : World}

theorem act_cells {bx : Nat} {K C N D Y : Int} {c1 c2 : Cs} {t : Int} {w' : World} (h : Two (Pc.pair (Pc.blk bx (Acb K C N D Y) 45) X) b fb ab ca base l0 c1 t d c2 w0 w') :
    w'.cell? ⟨bx, 0, none⟩ = some (.int .u8 K) ∧ w'.cell? ⟨bx, 1, none⟩ = some (.int .i64 C) ∧ w'.cell? ⟨bx, 2, none⟩ = some (.int .i64 N) ∧ w'.cell? ⟨bx, 3, none⟩ = some (.int .i64 D) ∧ w'.cell? ⟨bx, 3 + 1, none⟩ = some (.int .u64 Y) :=
  ⟨h.blk.cell 0, h.blk.cell 1, h.blk.cell 2, h.blk.cell 3, h.blk.cell 4⟩

set_option maxHeartbeats 8000000 in
set_option maxRecDepth 100000 in
theorem step_any (h : Two X b fb ab ca base l0 c t0 d c w0 w) (hb : base ≤ 1000000000) (ht : t0 ≤ 800000000000) (K C N D Y : Int) (bk : 0 ≤ K ∧ K ≤ 255) (bc : -9223372036854775808 ≤ C ∧ C ≤ 9223372036854775807) (bn : -9223372036854775808 ≤ N ∧ N ≤ 9223372036854775807) (by' : 0 ≤ Y ∧ Y ≤ 18446744073709551615) :
    Calls Try.prog 11 #[.pointer (some ⟨b, 0, none⟩), .pointer (some ⟨d, 0, none⟩), .agg #[.int .u8 K, .int .i64 C, .int .i64 N, .int .i64 D, .int .u64 Y]] w fun e w' => e = .returned (.bool true) ∧ Two X b fb ab ca base l0 (act c K C N D Y) (t0 + 6) d (act c K C N D Y) w0 w' := by
  have H1 := h.addBlk (Acb K C N D Y) 45
  unfold Acb at H1
  obtain ⟨k0, k1, k2, k3, k4⟩ := act_cells (by unfold Acb; exact H1)
  by_cases hk2 : K % 7 = 2
  · have hE : act c K C N D Y = (free c C).1 := by unfold act; rw [if_pos hk2]
    rw [hE]
    obtain ⟨c', x, f, hal⟩ : ∃ c' x f, free c C = (c', x, f) := ⟨_, _, _, rfl⟩
    have HAL := Lib.hid hal
    rw [hal]
    clear hal hE h
    go_enter Try.func11, Try.ntmps11
    go_wp2_with fail
    refine (H1.lift (fun L O => o_free O hb (by omega) bc HAL.out)).mono ?_
    rintro e w2 ⟨rfl, H2⟩
    clear k0 k1 k2 k3 k4 H1
    obtain ⟨k0, k1, k2, k3, k4⟩ := act_cells (by unfold Acb; exact H2)
    go_wp2_with fail
    have hd := td_free H2 C
    rw [HAL.out] at hd
    refine hd.mono ?_
    rintro e w3 ⟨rfl, H3⟩
    clear k0 k1 k2 k3 k4 H2 hd
    go_wp2_with fail
    go_ret
    exact ⟨rfl, H3.drop⟩
  by_cases hk3 : K % 7 = 3
  · have hE : act c K C N D Y = (setCount c C N).1 := by unfold act; rw [if_neg hk2, if_pos hk3]
    rw [hE]
    obtain ⟨c', f, hal⟩ : ∃ c' f, setCount c C N = (c', f) := ⟨_, _, rfl⟩
    have HAL := Lib.hid hal
    rw [hal]
    clear hal hE h
    go_enter Try.func11, Try.ntmps11
    go_wp2_with fail
    obtain ⟨bx, hbx⟩ : ∃ bx, bx = w.heap.size := ⟨_, rfl⟩
    obtain ⟨wx, hwx⟩ : ∃ wx, wx = w.alloc (.cells #[.int .u8 K, .int .i64 C, .int .i64 N, .int .i64 D, .int .u64 Y] 45) := ⟨_, rfl⟩
    rw [← hbx, ← hwx] at H1 k0 k1 k2 k3 k4 ⊢
    clear hbx hwx
    go_region_held3 (fun w' => w'.cell? ⟨bx, 1, none⟩ = some (.int .i64 C) ∧ w'.cell? ⟨bx, 2, none⟩ = some (.int .i64 N))
      (first | exact ⟨k1, k2⟩ | (refine ⟨(act_cells (K := K) (D := D) (Y := Y) (by assumption)).2.1, (act_cells (K := K) (D := D) (Y := Y) (by assumption)).2.2.1⟩))
      (first | (go_at_call 27; refine ((H1.same (But.refl _ wx).drew).lift (fun L O => o_setCount O hb (by omega) bc HAL.out)).mono ?_; rintro e w2 ⟨rfl, H2⟩) | (go_at_call 43; refine (td_setCount (c := c) (by assumption) C N).mono ?_; rw [HAL.out]; rintro e w3 ⟨rfl, H3⟩))
    go_wp2_with fail
    go_ret
    exact ⟨rfl, Two.up (Two.drop (by assumption)) (by omega)⟩
  by_cases hk4 : K % 7 = 4 ∨ K % 7 = 5
  · have hE : act c K C N D Y = (set c C N (D, Y)).1 := by unfold act; rw [if_neg hk2, if_neg hk3, if_pos hk4]
    rw [hE]
    obtain ⟨c', f, hal⟩ : ∃ c' f, set c C N (D, Y) = (c', f) := ⟨_, _, rfl⟩
    have HAL := Lib.hid hal
    rw [hal]
    clear hal hE h
    rcases hk4 with hk4 | hk4
    all_goals
      go_enter Try.func11, Try.ntmps11
      go_wp2_with fail
      obtain ⟨bx, hbx⟩ : ∃ bx, bx = w.heap.size := ⟨_, rfl⟩
      obtain ⟨wx, hwx⟩ : ∃ wx, wx = w.alloc (.cells #[.int .u8 K, .int .i64 C, .int .i64 N, .int .i64 D, .int .u64 Y] 45) := ⟨_, rfl⟩
      rw [← hbx, ← hwx] at H1 k0 k1 k2 k3 k4 ⊢
      clear hbx hwx
      go_region_held3 (fun w' => w'.cell? ⟨bx, 1, none⟩ = some (.int .i64 C) ∧ w'.cell? ⟨bx, 2, none⟩ = some (.int .i64 N) ∧ w'.cell? ⟨bx, 3, none⟩ = some (.int .i64 D) ∧ w'.cell? ⟨bx, 3 + 1, none⟩ = some (.int .u64 Y))
        (first | exact ⟨k1, k2, k3, k4⟩ | (exact (act_cells (K := K) (by assumption)).2))
        (first | (go_at_call 26; refine ((H1.same (But.refl _ wx).drew).lift (fun L O => o_set O hb (by omega) bc by' HAL.out)).mono ?_; rintro e w2 ⟨rfl, H2⟩) | (go_at_call 44; refine (td_set (c := c) (by assumption) C N D Y by').mono ?_; rw [HAL.out]; rintro e w3 ⟨rfl, H3⟩))
      go_wp2_with fail
      go_ret
      exact ⟨rfl, Two.up (Two.drop (by assumption)) (by omega)⟩
  have n4 : ¬ K % 7 = 4 := fun q => hk4 (.inl q)
  have n5 : ¬ K % 7 = 5 := fun q => hk4 (.inr q)
  by_cases hk6 : K % 7 = 6
  · have hE : act c K C N D Y = c := by unfold act; rw [if_neg hk2, if_neg hk3, if_neg hk4, if_pos hk6]
    rw [hE]
    obtain ⟨kk, nn, f, hal⟩ : ∃ kk nn f, get c C N = ((kk, nn), f) := ⟨_, _, _, rfl⟩
    have HAL := Lib.hid hal
    clear hal hE h hk4
    go_enter Try.func11, Try.ntmps11
    go_wp2_with fail
    refine (H1.lift (fun L O => o_get O hb (by omega) bc HAL.out)).mono ?_
    rintro e w2 ⟨rfl, H2⟩
    clear k0 k1 k2 k3 k4 H1
    have H3 := H2.addBlk #[.int .i64 kk, .int .u64 nn] 43
    obtain ⟨k0, k1, k2, k3, k4⟩ := act_cells (by unfold Acb; exact H3.drop)
    go_wp2_with fail
    obtain ⟨vb, hvb⟩ : ∃ vb, vb = w2.heap.size := ⟨_, rfl⟩
    rw [← hvb] at H3 ⊢
    clear hvb
    refine (td_get H3 HAL.out).mono ?_
    rintro e w3 ⟨rfl, H4⟩
    clear k0 k1 k2 k3 k4 H2 H3
    have H5 := H4.addBlk #[.int .i64 kk, .int .u64 nn] 43
    have z0 : (w3.alloc (.cells #[.int .i64 kk, .int .u64 nn] 43)).cell? ⟨w3.heap.size, 0, none⟩ = some (.int .i64 kk) := H5.blk.cell 0
    have z1 : (w3.alloc (.cells #[.int .i64 kk, .int .u64 nn] 43)).cell? ⟨w3.heap.size, 1, none⟩ = some (.int .u64 nn) := H5.blk.cell 1
    have y0 : (w3.alloc (.cells #[.int .i64 kk, .int .u64 nn] 43)).cell? ⟨vb, 0, none⟩ = some (.int .i64 kk) := H5.drop.blk.cell 0
    have y1 : (w3.alloc (.cells #[.int .i64 kk, .int .u64 nn] 43)).cell? ⟨vb, 1, none⟩ = some (.int .u64 nn) := H5.drop.blk.cell 1
    clear H4
    go_wp2_with fail
    go_ret
    exact ⟨rfl, H5.drop.drop.drop.up (by omega)⟩
  have hE : act c K C N D Y = (alloc c N).1 := by unfold act; rw [if_neg hk2, if_neg hk3, if_neg hk4, if_neg hk6]
  rw [hE]
  obtain ⟨c', x, f, hal⟩ : ∃ c' x f, alloc c N = (c', x, f) := ⟨_, _, _, rfl⟩
  have HAL := Lib.hid hal
  rw [hal]
  clear hal hE h hk4
  go_enter Try.func11, Try.ntmps11
  go_wp2_with fail
  refine (H1.lift (fun L O => o_alloc O hb (by omega) HAL.out)).mono ?_
  rintro e w2 ⟨rfl, H2⟩
  clear k0 k1 k2 k3 k4 H1
  obtain ⟨k0, k1, k2, k3, k4⟩ := act_cells (by unfold Acb; exact H2)
  go_wp2_with fail
  have hd := td_alloc H2 N
  rw [HAL.out] at hd
  refine hd.mono ?_
  rintro e w3 ⟨rfl, H3⟩
  clear k0 k1 k2 k3 k4 H2 hd
  go_wp2_with fail
  go_ret
  exact ⟨rfl, H3.drop.up (by omega)⟩
end

end Cells
end Go.Proofs.Ytngbhhcicakolaa

namespace Go.Proofs.Ytngbhhcicakolaa
open Go.RowKit Go.Deep

namespace Cells
open Free (Fr genAt takenAt)
open Arena (nth zeroed)
section
variable {X : Pc} {b fb ab ca base : Nat} {l0 : List Int} {c : Cs} {t0 : Int} {d : Nat} {w0 w : World}

theorem Two.seen {c1 : Cs} (h : Two X b fb ab ca base l0 c1 t0 d c w0 w) : ∃ rb r Sr a1 cap1 a2 cap2, Seen d c w rb r Sr a1 cap1 a2 cap2 := by
  obtain ⟨S, h⟩ := h.ex
  exact h.seen
theorem Two.room {c1 : Cs} (h : Two X b fb ab ca base l0 c1 t0 d c w0 w) : (base : Int) + Conf.words c1.f.s ≤ l0.length := by
  obtain ⟨L, h1, h2⟩ := h.open
  obtain ⟨l, t, Sf, q1, q2, q3⟩ := h1.cel
  have := q1.lay.room
  have := q1.lay.len
  omega
theorem head_ok {c : Cs} (hI : Inv c) {y : Nat} (hy : y < n c) : Head.right (genAt c.f y) (cntAt c y) = true := by
  have h1 := hI.f.gen_bd (x := y) hy
  have h2 := hI.cb y hy
  exact (Head.right_iff _ _).2 ⟨⟨by omega, by omega⟩, h2⟩

set_option maxHeartbeats 8000000 in
set_option maxRecDepth 100000 in
theorem words_any (h : Two X b fb ab ca base l0 c t0 d c w0 w) (hb : base ≤ 1000000000) (ht : t0 ≤ 800000000000) {s : Conf.Sh} (hs : c.f.s = s) :
    Calls Try.prog 22 #[.pointer (some ⟨ab, 0, none⟩), .int .i64 base, .agg (Conf.sh s), .pointer (some ⟨d, 0, none⟩)] w fun e w' => e = .returned (.bool true) ∧ Two X b fb ab ca base l0 c (t0 + 1000) d c w0 w' := by
  have H1 := h.addBlk (Conf.sh s) 24
  have hat := fun w i => Conf.ref_at s i w
  unfold Conf.sh at H1 hat ⊢
  have HAT := Lib.hid hat
  have HI := Lib.hid h.inv
  have HRM := Lib.hid h.room
  have hsm : n c ≤ 192 := h.inv.f.small
  obtain ⟨m, hm⟩ : ∃ m, n c = m := ⟨_, rfl⟩
  have HM := Lib.hid hm
  have HS := Lib.hid hs
  rw [hm] at hsm
  clear hat hm h hs
  go_enter Try.func22, Try.ntmps22
  go_wp2_with fail
  obtain ⟨bx, hbx⟩ : ∃ bx, bx = w.heap.size := ⟨_, rfl⟩
  obtain ⟨wx, hwx⟩ : ∃ wx, wx = w.alloc (.cells #[.int .i64 s.c0, .int .i64 s.c1, .int .i64 s.c2, .int .i64 s.q, .int .i64 s.st] 24) := ⟨_, rfl⟩
  rw [← hbx, ← hwx] at H1
  rw [← hbx, ← hwx]
  clear hbx hwx
  go_loopg [9] m (fun k i1 wr => ∃ j : Nat, j + k = m ∧ i1 = .int .i64 j ∧ Two (Pc.pair (Pc.blk bx #[.int .i64 s.c0, .int .i64 s.c1, .int .i64 s.c2, .int .i64 s.q, .int .i64 s.st] 24) X) b fb ab ca base l0 c (t0 + 5 * j) d c w0 wr)
  case atStart => exact ⟨0, by omega, rfl, H1.up (by omega)⟩
  case round =>
    obtain ⟨j, hj, rfl, hO⟩ := hrel
    clear H1
    obtain ⟨rb, r, Sr, a1, cap1, a2, cap2, hS⟩ := hO.seen
    have c2 := hS.k2
    rw [HM.out] at c2
    by_cases hlt : j < m
    · have hy : j < n c := by rw [HM.out]; exact hlt
      obtain ⟨p, q, e1, e2, q1, q4, ew⟩ := HI.out.place hy
      have hbk := hO.blk
      have k0 : wr.cell? ⟨bx, 0, none⟩ = some (.int .i64 s.c0) := hbk.cell 0
      have k1 : wr.cell? ⟨bx, 1, none⟩ = some (.int .i64 s.c1) := hbk.cell 1
      have k2 : wr.cell? ⟨bx, 2, none⟩ = some (.int .i64 s.c2) := hbk.cell 2
      have k3 : wr.cell? ⟨bx, 3, none⟩ = some (.int .i64 s.q) := hbk.cell 3
      have k4 : wr.cell? ⟨bx, 4, none⟩ = some (.int .i64 s.st) := hbk.cell 4
      have HP := Lib.hid (show (Conf.find s (j : Int)).2 = (p : Int) by rw [← HS.out]; exact e1)
      have HE1 := Lib.hid e1
      have HE2 := Lib.hid e2
      have hpl : base + p + 1 + q ≤ l0.length := by have := HRM.out; omega
      have hw640 := (Conf.words_bd c.f.s).2
      have hp6 : p + q + 1 ≤ 640 := by omega
      obtain ⟨g, hg⟩ : ∃ g, genAt c.f j = g := ⟨_, rfl⟩
      obtain ⟨ct, hct⟩ : ∃ ct, cntAt c j = ct := ⟨_, rfl⟩
      obtain ⟨u, hu⟩ : ∃ u, takenAt c.f j = u := ⟨_, rfl⟩
      have HHD := Lib.hid (show header c (j : Int) = ((g, ct, u), 0) by unfold header; rw [(isCell_iff c j).2 ⟨by omega, by omega⟩, if_pos rfl, Int.toNat_natCast, hg, hct, hu])
      have HRT := Lib.hid (show Head.right g ct = true by rw [← hg, ← hct]; exact head_ok HI.out hy)
      obtain ⟨wd, hwd⟩ : ∃ wd, Head.word g ct u = wd := ⟨_, rfl⟩
      have HWD := Lib.hid hwd
      have HHW := Lib.hid (show ∀ l, Lay base l0 c l → nth l (base + p) = wd from fun l hl => by
        have := hl.hd j hy
        rw [HE1.out, Int.toNat_natCast] at this
        rw [this]
        unfold headW
        rw [hg, hct, hu, hwd])
      have HLEN := Lib.hid (show (valsAt c j).length = q by have := HI.out.vs j hy; rw [HE2.out] at this; omega)
      clear hS hbk e1 e2 ew hg hct hu hwd hw640
      go_wp2_with fail
      refine (HAT.out _ _).mono ?_
      rintro e w2 ⟨rfl, g2⟩
      rw [HP.out]
      have O2 := hO.same g2
      clear k0 k1 k2 k3 k4 c2 hO g2
      go_wp2_with fail
      refine (td_header O2 HHD.out).mono ?_
      rintro e w3 ⟨rfl, O3⟩
      have O4 := O3.addBlk #[.int .i64 g, .int .i64 ct, .bool u] 47
      have z0 : (w3.alloc (.cells #[.int .i64 g, .int .i64 ct, .bool u] 47)).cell? ⟨w3.heap.size, 0, none⟩ = some (.int .i64 g) := O4.blk.cell 0
      have z1 : (w3.alloc (.cells #[.int .i64 g, .int .i64 ct, .bool u] 47)).cell? ⟨w3.heap.size, 1, none⟩ = some (.int .i64 ct) := O4.blk.cell 1
      have z2 : (w3.alloc (.cells #[.int .i64 g, .int .i64 ct, .bool u] 47)).cell? ⟨w3.heap.size, 2, none⟩ = some (.bool u) := O4.blk.cell 2
      clear O2 O3
      go_wp2_with fail
      clear z0 z1 z2
      refine (Head.ref_encode_yes g ct u _ HRT.out).mono ?_
      rintro e w5 ⟨rfl, g5⟩
      rw [HWD.out]
      have O5 := (O4.same g5).drop
      clear O4 g5
      go_wp2_with fail
      refine (O5.lift (fun L O => by
        have := o_word (i := base + p) (x := wd) O (by omega) (by omega) HHW.out
        rw [show ((base + p : Nat) : Int) = (base : Int) + (p : Int) by omega] at this
        exact this)).mono ?_
      rintro e w6 ⟨rfl, O6⟩
      clear O5
      go_wp2_with fail
      go_loopg [17] q (fun k' i2 wr' => ∃ z : Nat, z + k' = q ∧ i2 = .int .i64 z ∧ Two (Pc.pair (Pc.blk bx #[.int .i64 s.c0, .int .i64 s.c1, .int .i64 s.c2, .int .i64 s.q, .int .i64 s.st] 24) X) b fb ab ca base l0 c (t0 + 5 * j + 1 + z) d c w0 wr')
      case atStart => exact ⟨0, by omega, rfl, O6.up (by omega)⟩
      case round =>
        obtain ⟨z, hz, rfl, hO'⟩ := hrel
        clear O6
        obtain ⟨rb', r', Sr', b1, cap1', b2, cap2', hS'⟩ := hO'.seen
        obtain ⟨vbb, voff, vb, rfl, -, -, e3, -, e4⟩ := hS'.vs j hy
        have c2 := hS'.k2
        rw [HM.out] at c2
        rw [HLEN.out] at e3 e4
        clear hS'
        by_cases hzl : z < q
        · obtain ⟨e5, e6, -, -⟩ := e4 z hzl
          obtain ⟨v, hv⟩ : ∃ v, valAt c j z = v := ⟨_, rfl⟩
          rw [hv] at e5 e6
          have hvr : Word.vright v.1 v.2 = true ∧ 0 ≤ v.2 := by
            rw [← hv]
            refine HI.out.vr j hy _ ?_
            unfold valAt
            rw [List.getD_eq_getElem?_getD, List.getElem?_eq_getElem (by rw [HLEN.out]; exact hzl)]
            exact List.getElem_mem _
          obtain ⟨vk, vn⟩ := v
          obtain ⟨vw, hvw⟩ : ∃ vw, Word.vword vk vn = vw := ⟨_, rfl⟩
          have HEN := Lib.hid (show Word.encOf vk vn = (vw, 0) by unfold Word.encOf; rw [if_pos hvr.1, hvw])
          have hn : 0 ≤ vn ∧ vn ≤ 18446744073709551615 := by
            rcases Word.vright_parts hvr.1 with ⟨_, q⟩ | ⟨_, q⟩ | ⟨_, q⟩ <;> exact ⟨hvr.2, by omega⟩
          have HSW := Lib.hid (show ∀ l, Lay base l0 c l → nth l (base + p + 1 + z) = vw from fun l hl => by
            have := hl.sl j z hy (by rw [HE2.out]; omega)
            rw [HE1.out, Int.toNat_natCast] at this
            rw [this]
            unfold slotW
            rw [hv, hvw])
          have hre := Word.ref_encode vk vn
          clear hv hvw hvr e4
          go_wp2_with fail
          refine (hre _ hn).mono ?_
          rintro e w7 ⟨rfl, g7⟩
          rw [HEN.out]
          have O7 := hO'.same g7
          clear e3 e5 e6 c2 hO' g7 hre
          go_wp2_with fail
          refine (O7.lift (fun L O => by
            have := o_word (i := base + p + 1 + z) (x := vw) O (by omega) (by omega) HSW.out
            rw [show ((base + p + 1 + z : Nat) : Int) = (base : Int) + (p : Int) + 1 + (z : Int) by omega] at this
            exact this)).mono ?_
          rintro e w8 ⟨rfl, O8⟩
          clear O7
          go_wp2_with fail
          go_roundg (q - (z + 1))
          case measure => omega
          case rel => exact ⟨z + 1, by omega, by go_num, O8.up (by omega)⟩
        · clear e4
          go_wp2_with fail
          go_roundg (m - (j + 1))
          case measure => omega
          case rel => exact ⟨j + 1, by omega, by go_num, hO'.up (by omega)⟩
    · clear hS
      go_wp2_with fail
      go_ret
      exact ⟨rfl, hO.drop.up (by omega)⟩
end

end Cells
end Go.Proofs.Ytngbhhcicakolaa
