/- The document's cells (layer 7) in memory: what is read of them, and how they are turned. -/
import Derived.Test.YtngbhhcicakolaaCellsMem
import Derived.Test.YtngbhhcicakolaaFreeRefTake
set_option linter.unusedVariables false
set_option linter.unusedSimpArgs false
namespace Go.Proofs.Ytngbhhcicakolaa
open Go.RowKit

namespace Cells
open Free (Fr genAt takenAt)

/-- The document's cells, behind something else. -/
structure Doc (w0 : World) (P : Pc) (d : Nat) (c : Cs) (w : World) : Prop where
  ex : ∃ r, Rc w0 P d r c.cn c.v w ∧ Free.Rel c.f r
  inv : Inv c
theorem Doc.same {w0 w w' : World} {P : Pc} {d : Nat} {c : Cs} (h : Doc w0 P d c w) (g : But (fun _ => False) w w') : Doc w0 P d c w' := by
  obtain ⟨r, h1, h2⟩ := h.ex
  exact ⟨⟨r, h1.same g, h2⟩, h.inv⟩
theorem Doc.but {w0 w : World} {P : Pc} {d : Nat} {c : Cs} (h : Doc w0 P d c w) : But (fun _ => False) w0 w := by
  obtain ⟨r, h1, h2⟩ := h.ex
  exact h1.but

/-- What is read of them. -/
structure Seen (d : Nat) (c : Cs) (w : World) (rb : Nat) (r : Free.Rf) (Sr : Nat → Prop) (a1 : Option Addr) (cap1 : Nat) (a2 : Option Addr) (cap2 : Nat) : Prop where
  k0 : w.cell? ⟨d, 0, none⟩ = some (.pointer (some ⟨rb, 0, none⟩))
  k1 : w.cell? ⟨d, 1, none⟩ = some (.slice a1 (n c) cap1)
  k2 : w.cell? ⟨d, 2, none⟩ = some (.slice a2 (n c) cap2)
  rob : Free.Rob rb r w Sr
  rel : Free.Rel c.f r
  cn : ∀ x : Nat, x < n c → ∃ b off, a1 = some ⟨b, off, none⟩ ∧ b < w.heap.size ∧ w.cell? ⟨b, off + x, none⟩ = some (.int .i64 (cntAt c x)) ∧ w.frozen? ⟨b, off + x, none⟩ = false
  vs : ∀ x : Nat, x < n c → ∃ b off vb, a2 = some ⟨b, off, none⟩ ∧ b < w.heap.size ∧ vb < w.heap.size ∧ w.cell? ⟨b, off + x, none⟩ = some (.slice (some ⟨vb, 0, none⟩) (valsAt c x).length (valsAt c x).length) ∧ w.frozen? ⟨b, off + x, none⟩ = false ∧
    ∀ k, k < (valsAt c x).length → w.cell? ⟨vb, k * 2, none⟩ = some (.int .i64 (valAt c x k).1) ∧ w.cell? ⟨vb, k * 2 + 1, none⟩ = some (.int .u64 (valAt c x k).2) ∧ w.frozen? ⟨vb, k * 2, none⟩ = false ∧ w.frozen? ⟨vb, k * 2 + 1, none⟩ = false

theorem vs_at {vs : List (Nat × List (Int × Int))} {c : Cs} (hv : vs.map (·.2) = c.v) {x : Nat} (hx : x < c.v.length) : ∃ vb, vs[x]? = some (vb, valsAt c x) := by
  have hl : vs.length = c.v.length := by rw [← hv, List.length_map]
  refine ⟨vs[x].1, ?_⟩
  rw [List.getElem?_eq_getElem (by omega)]
  have : valsAt c x = vs[x].2 := by
    unfold valsAt
    rw [List.getD_eq_getElem?_getD, ← hv, List.getElem?_map, List.getElem?_eq_getElem (by omega)]
    rfl
  rw [this]
theorem cn_at {c : Cs} {x : Nat} (hx : x < c.cn.length) : (ints c.cn)[x]? = some (.int .i64 (cntAt c x)) := by
  unfold ints cntAt
  rw [List.getElem?_map, List.getD_eq_getElem?_getD, List.getElem?_eq_getElem hx]
  rfl

theorem own_seen {w0 w : World} {P : Pc} {d rb : Nat} {c : Cs} {r : Free.Rf} {Sr : Nat → Prop} {vs : List (Nat × List (Int × Int))} {v1 v2 : Value} {o1 o2 : Option Nat} (W : Own w0 w (rl P d rb r Sr c.cn vs v1 v2 o1 o2)) (hv : vs.map (·.2) = c.v) (hr : Free.Rel c.f r) (cl : c.cn.length = n c) (vl : c.v.length = n c) :
    ∃ a1 cap1 a2 cap2, v1 = .slice a1 (n c) cap1 ∧ v2 = .slice a2 (n c) cap2 ∧ Seen d c w rb r Sr a1 cap1 a2 cap2 := by
  have hl : vs.length = n c := by rw [← vl, ← hv, List.length_map]
  have B1 : Blk w d #[.pointer (some ⟨rb, 0, none⟩), v1, v2] 59 := W.get 1 rfl
  have B2 : Free.Rob rb r w Sr := W.get 2 rfl
  have R3 : Row w 3 1 v1 o1 c.cn.length (ints c.cn) := W.get 3 rfl
  have R4 : Row w 89 1 v2 o2 vs.length (vs.map vsl) := W.get 4 rfl
  rw [cl] at R3
  rw [hl] at R4
  obtain ⟨a1, cap1, rfl, -, -⟩ := R3.val
  obtain ⟨a2, cap2, rfl, -, -⟩ := R4.val
  refine ⟨a1, cap1, a2, cap2, rfl, rfl, B1.cell 0, B1.cell 1, B1.cell 2, B2, hr, fun x hx => ?_, fun x hx => ?_⟩
  · obtain ⟨b, off, cap, e, ho, hlt, -, hc, hf⟩ := R3.cells (by omega)
    simp at e
    obtain ⟨rfl, rfl⟩ := e
    exact ⟨b, off, rfl, hlt, by rw [hc x (by omega), cn_at (by omega)], hf _⟩
  · obtain ⟨b, off, cap, e, ho, hlt, -, hc, hf⟩ := R4.cells (by omega)
    simp at e
    obtain ⟨rfl, rfl⟩ := e
    obtain ⟨vb, hvb⟩ := vs_at hv (x := x) (by omega)
    have BV : Blk w vb (valCells (valsAt c x)).toArray 43 := W.get (x + 5) (p := vbk (vb, valsAt c x)) (by show (vs.map vbk)[x]? = _; rw [List.getElem?_map, hvb]; rfl)
    refine ⟨b, off, vb, rfl, hlt, BV.lt, ?_, hf _, fun k hk => ?_⟩
    · rw [hc x (by omega), List.getElem?_map, hvb]; rfl
    · have h1 := valCells_get (valsAt c x) k hk
      have e1 := BV.cell (k * 2)
      have e2 := BV.cell (k * 2 + 1)
      rw [List.getElem?_toArray] at e1 e2
      exact ⟨e1.trans h1.1, e2.trans h1.2, BV.frozen _, BV.frozen _⟩
theorem Doc.seen {w0 w : World} {P : Pc} {d : Nat} {c : Cs} (h : Doc w0 P d c w) : ∃ rb r Sr a1 cap1 a2 cap2, Seen d c w rb r Sr a1 cap1 a2 cap2 := by
  obtain ⟨r, ⟨rb, Sr, vs, v1, v2, o1, o2, W, hv⟩, hr⟩ := h.ex
  obtain ⟨a1, cap1, a2, cap2, e1, e2, hS⟩ := own_seen W hv hr h.inv.cl h.inv.vl
  exact ⟨rb, r, Sr, a1, cap1, a2, cap2, hS⟩

/-! ### Turns -/
/-- The list of what is free is turned. -/
theorem own_moved {w0 w w' : World} {P : Pc} {d rb : Nat} {cn : List Int} {r r' : Free.Rf} {Sr : Nat → Prop} {vs : List (Nat × List (Int × Int))} {v1 v2 : Value} {o1 o2 : Option Nat} (W : Own w0 w (rl P d rb r Sr cn vs v1 v2 o1 o2)) (hm : Moves (Free.Rob rb r') Sr w w') :
    ∃ Sr', Own w0 w' (rl P d rb r' Sr' cn vs v1 v2 o1 o2) := by
  obtain ⟨S', h1, h2, h3⟩ := hm
  exact ⟨S', W.put 2 (p := Pc.rob rb r Sr) (q := Pc.rob rb r' S') rfl h1 h2 h3⟩
/-- A count is written. -/
theorem own_count {w0 w : World} {P : Pc} {d rb b off cap : Nat} {cn : List Int} {r : Free.Rf} {Sr : Nat → Prop} {vs : List (Nat × List (Int × Int))} {v2 : Value} {o1 o2 : Option Nat} (W : Own w0 w (rl P d rb r Sr cn vs (.slice (some ⟨b, off, none⟩) cn.length cap) v2 o1 o2)) {x : Nat} (hx : x < cn.length) (m : Int) :
    Own w0 (w.setCell ⟨b, off + x, none⟩ (.int .i64 m)) (rl P d rb r Sr (cn.set x m) vs (.slice (some ⟨b, off, none⟩) cn.length cap) v2 o1 o2) := by
  have R3 : Row w 3 1 (.slice (some ⟨b, off, none⟩) cn.length cap) o1 cn.length (ints cn) := W.get 3 rfl
  have ho : o1 = some b := by
    obtain ⟨b', off', cap', e, ho, -⟩ := R3.cells (by omega)
    simp at e
    rw [ho, e.1.1]
  have R := R3.set (j := x) (by omega) (.int .i64 m)
  rw [ints_set] at R
  have := W.put 3 (p := Pc.row 3 1 (.slice (some ⟨b, off, none⟩) cn.length cap) o1 cn.length (ints cn)) (q := Pc.row 3 1 (.slice (some ⟨b, off, none⟩) cn.length cap) o1 cn.length (ints (cn.set x m))) rfl R
    ((But.refl _ w).setCell (p := ⟨b, off + x, none⟩) (.inl ho) _) (fun k hk => .inl hk)
  rw [show (rl P d rb r Sr (cn.set x m) vs (.slice (some ⟨b, off, none⟩) cn.length cap) v2 o1 o2) = (rl P d rb r Sr cn vs (.slice (some ⟨b, off, none⟩) cn.length cap) v2 o1 o2).set 3 (Pc.row 3 1 (.slice (some ⟨b, off, none⟩) cn.length cap) o1 cn.length (ints (cn.set x m))) by unfold rl; rw [List.length_set]; rfl]
  exact this
/-- A value is written. -/
theorem own_value {w0 w : World} {P : Pc} {d rb vb : Nat} {cn : List Int} {r : Free.Rf} {Sr : Nat → Prop} {vs : List (Nat × List (Int × Int))} {v1 v2 : Value} {o1 o2 : Option Nat} (W : Own w0 w (rl P d rb r Sr cn vs v1 v2 o1 o2)) {x k : Nat} {l : List (Int × Int)} (hx : vs[x]? = some (vb, l)) (hk : k < l.length) (p : Int × Int) :
    Own w0 ((w.setCell ⟨vb, k * 2, none⟩ (.int .i64 p.1)).setCell ⟨vb, k * 2 + 1, none⟩ (.int .u64 p.2)) (rl P d rb r Sr cn (vs.set x (vb, l.set k p)) v1 v2 o1 o2) := by
  have BV : Blk w vb (valCells l).toArray 43 := W.get (x + 5) (p := vbk (vb, l)) (by show (vs.map vbk)[x]? = _; rw [List.getElem?_map, hx]; rfl)
  have B2 := (BV.set (k * 2) (.int .i64 p.1)).set (k * 2 + 1) (.int .u64 p.2)
  rw [List.setIfInBounds_toArray, List.setIfInBounds_toArray, valCells_set l p k hk] at B2
  have := W.put (x + 5) (p := vbk (vb, l)) (q := vbk (vb, l.set k p)) (by show (vs.map vbk)[x]? = _; rw [List.getElem?_map, hx]; rfl) B2
    (((But.refl (fun q => q = vb) w).setCell (p := ⟨vb, k * 2, none⟩) (.inl rfl) _).setCell (p := ⟨vb, k * 2 + 1, none⟩) (.inl rfl) _) (fun k hk => .inl hk)
  have e1 : (vs.set x (vb, l.set k p)).map vsl = vs.map vsl := by
    rw [List.map_set]
    have : vsl (vb, l.set k p) = vsl (vb, l) := by unfold vsl; simp
    rw [this]
    refine List.ext_getElem? fun i => ?_
    rw [List.getElem?_set]
    split
    · rename_i e; subst e
      rw [List.getElem?_map, hx]
      have := (List.getElem?_eq_some_iff.1 hx).1
      simp [this]
    · rfl
  have e2 : (rl P d rb r Sr cn (vs.set x (vb, l.set k p)) v1 v2 o1 o2) = (rl P d rb r Sr cn vs v1 v2 o1 o2).set (x + 5) (vbk (vb, l.set k p)) := by
    unfold rl
    rw [e1, List.length_set, List.map_set]
    rfl
  rw [e2]
  exact this
/-- A cell's values are made anew. -/
theorem own_values {w0 w : World} {P : Pc} {d rb vb b off cap : Nat} {cn : List Int} {r : Free.Rf} {Sr : Nat → Prop} {vs : List (Nat × List (Int × Int))} {v1 : Value} {o1 o2 : Option Nat} (W : Own w0 w (rl P d rb r Sr cn vs v1 (.slice (some ⟨b, off, none⟩) vs.length cap) o1 o2)) {x : Nat} {l : List (Int × Int)} (hx : vs[x]? = some (vb, l)) (l' : List (Int × Int)) :
    Own w0 ((w.setCell ⟨b, off + x, none⟩ (.slice (some ⟨w.heap.size, 0, none⟩) l'.length l'.length)).alloc (.cells (valCells l').toArray 43)) (rl P d rb r Sr cn (vs.set x (w.heap.size, l')) v1 (.slice (some ⟨b, off, none⟩) vs.length cap) o1 o2) := by
  have hlt := (List.getElem?_eq_some_iff.1 hx).1
  obtain ⟨nb, hnb⟩ : ∃ nb, nb = w.heap.size := ⟨_, rfl⟩
  have R4 : Row w 89 1 (.slice (some ⟨b, off, none⟩) vs.length cap) o2 vs.length (vs.map vsl) := W.get 4 rfl
  have ho : o2 = some b := by
    obtain ⟨b', off', cap', e, ho, -⟩ := R4.cells (by omega)
    simp at e
    rw [ho, e.1.1]
  have R := R4.set (j := x) (by omega) (.slice (some ⟨nb, 0, none⟩) l'.length l'.length)
  have W1 := W.put 4 (p := Pc.row 89 1 (.slice (some ⟨b, off, none⟩) vs.length cap) o2 vs.length (vs.map vsl)) (q := Pc.row 89 1 (.slice (some ⟨b, off, none⟩) vs.length cap) o2 vs.length ((vs.map vsl).set x (.slice (some ⟨nb, 0, none⟩) l'.length l'.length))) rfl R
    ((But.refl _ w).setCell (p := ⟨b, off + x, none⟩) (.inl ho) _) (fun k hk => .inl hk)
  rw [← hnb]
  have hsz : (w.setCell ⟨b, off + x, none⟩ (.slice (some ⟨nb, 0, none⟩) l'.length l'.length)).heap.size = nb := by rw [hnb]; simp [World.setCell]
  obtain ⟨w1, hw1⟩ : ∃ w1, w1 = w.setCell ⟨b, off + x, none⟩ (.slice (some ⟨nb, 0, none⟩) l'.length l'.length) := ⟨_, rfl⟩
  rw [← hw1] at W1 hsz ⊢
  have BN := Blk.new w1 (valCells l').toArray 43
  rw [hsz] at BN
  have W2 := W1.put (x + 5) (p := vbk (vb, l)) (q := vbk (nb, l')) (by show (vs.map vbk)[x]? = _; rw [List.getElem?_map, hx]; rfl) BN ((But.refl _ w1).alloc _) (fun k hk => .inr (by have : k = nb := hk; omega))
  have e2 : (rl P d rb r Sr cn (vs.set x (nb, l')) v1 (.slice (some ⟨b, off, none⟩) vs.length cap) o1 o2) = ((rl P d rb r Sr cn vs v1 (.slice (some ⟨b, off, none⟩) vs.length cap) o1 o2).set 4 (Pc.row 89 1 (.slice (some ⟨b, off, none⟩) vs.length cap) o2 vs.length ((vs.map vsl).set x (.slice (some ⟨nb, 0, none⟩) l'.length l'.length)))).set (x + 5) (vbk (nb, l')) := by
    unfold rl
    rw [List.length_set, List.map_set, List.map_set]
    rfl
  rw [e2]
  exact W2

end Cells
end Go.Proofs.Ytngbhhcicakolaa
