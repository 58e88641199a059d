/- Cells (layer 7) in memory: the program's, in an arena; the document's. -/
import Derived.Test.YtngbhhcicakolaaCellsActs
import Derived.Test.YtngbhhcicakolaaFreeBoth
import Derived.Test.YtngbhhcicakolaaOwn
set_option linter.unusedVariables false
set_option linter.unusedSimpArgs false
namespace Go.Proofs.Ytngbhhcicakolaa
open Go.RowKit

namespace Cells
open Free (Fr genAt takenAt)

/-- The header of cells at block b: the list at fb, the arena at ab, the first place, the share. -/
def hdr (fb ab base : Nat) (s : Conf.Sh) : Array Value := #[.pointer (some ⟨fb, 0, none⟩), .pointer (some ⟨ab, 0, none⟩), .int .i64 base, .int .i64 s.c0, .int .i64 s.c1, .int .i64 s.c2, .int .i64 s.q, .int .i64 s.st]

/-- Cells in memory: header, list, arena; they lie in S. -/
structure Cel (b fb ab ca base : Nat) (l0 : List Int) (c : Cs) (l : List Int) (t : Int) (w : World) (Sf : Nat → Prop) : Prop where
  blk : Blk w b (hdr fb ab base c.f.s) 85
  fob : Free.Fob fb c.f w Sf
  ar : Arena.Ar 77 w ab ca l t
  lay : Lay base l0 c l
  inv : Inv c
  n1 : ¬ Sf b
  n2 : ¬ Sf ab
  n3 : ¬ Sf ca
  n4 : b ≠ ab ∧ b ≠ ca

def foot (b ab ca : Nat) (Sf : Nat → Prop) : Nat → Prop := fun k => k = b ∨ k = ab ∨ k = ca ∨ Sf k
theorem Cel.but {b fb ab ca base : Nat} {l0 l : List Int} {c : Cs} {t : Int} {w w' : World} {Sf U : Nat → Prop} (h : Cel b fb ab ca base l0 c l t w Sf) (g : But U w w') (a : Apart U (foot b ab ca Sf)) : Cel b fb ab ca base l0 c l t w' Sf :=
  ⟨h.blk.but g (fun q => a b q (.inl rfl)), h.fob.but g (fun k q r => a k q (.inr (.inr (.inr r)))), h.ar.but g (fun q => a ab q (.inr (.inl rfl))) (fun q => a ca q (.inr (.inr (.inl rfl)))), h.lay, h.inv, h.n1, h.n2, h.n3, h.n4⟩
theorem Cel.keep {b fb ab ca base : Nat} {l0 l : List Int} {c : Cs} {t : Int} {w w' : World} {Sf : Nat → Prop} (h : Cel b fb ab ca base l0 c l t w Sf) (g : But (fun _ => False) w w') : Cel b fb ab ca base l0 c l t w' Sf := h.but g (fun _ q _ => q)
theorem Cel.lt {b fb ab ca base : Nat} {l0 l : List Int} {c : Cs} {t : Int} {w : World} {Sf : Nat → Prop} (h : Cel b fb ab ca base l0 c l t w Sf) : ∀ k, foot b ab ca Sf k → k < w.heap.size := by
  rintro k (rfl | rfl | rfl | q)
  · exact h.blk.lt
  · exact h.ar.blk.lt
  · exact h.ar.row.lt
  · exact h.fob.lt k q

/-- All of it, its parts unnamed: at most m words more were touched than t0. -/
def Cob (b fb ab ca base : Nat) (l0 : List Int) (c : Cs) (t0 : Int) (w : World) (S : Nat → Prop) : Prop := ∃ l t Sf, Cel b fb ab ca base l0 c l t w Sf ∧ t ≤ t0 ∧ S = foot b ab ca Sf
theorem Cob.but {b fb ab ca base : Nat} {l0 : List Int} {c : Cs} {t0 : Int} {w w' : World} {S U : Nat → Prop} (h : Cob b fb ab ca base l0 c t0 w S) (g : But U w w') (a : Apart U S) : Cob b fb ab ca base l0 c t0 w' S := by
  obtain ⟨l, t, Sf, h1, h2, rfl⟩ := h
  exact ⟨l, t, Sf, h1.but g a, h2, rfl⟩
theorem Cob.lt {b fb ab ca base : Nat} {l0 : List Int} {c : Cs} {t0 : Int} {w : World} {S : Nat → Prop} (h : Cob b fb ab ca base l0 c t0 w S) : ∀ k, S k → k < w.heap.size := by
  obtain ⟨l, t, Sf, h1, h2, rfl⟩ := h
  exact h1.lt
theorem Cob.inv {b fb ab ca base : Nat} {l0 : List Int} {c : Cs} {t0 : Int} {w : World} {S : Nat → Prop} (h : Cob b fb ab ca base l0 c t0 w S) : Inv c := by
  obtain ⟨l, t, Sf, h1, h2, rfl⟩ := h
  exact h1.inv
def Pc.cob (b fb ab ca base : Nat) (l0 : List Int) (c : Cs) (t0 : Int) (S : Nat → Prop) : Pc :=
  ⟨fun w => Cob b fb ab ca base l0 c t0 w S, S, fun h g a => h.but g a, fun h k hk => h.lt k hk⟩

/-! ### The document's -/
def valCells (xs : List (Int × Int)) : List Value := xs.flatMap (fun p => [.int .i64 p.1, .int .u64 p.2])
theorem valCells_len (xs : List (Int × Int)) : (valCells xs).length = xs.length * 2 := by
  unfold valCells
  induction xs with
  | nil => rfl
  | cons x xs ih => rw [List.flatMap_cons, List.length_append, ih]; simp; omega
theorem valCells_get (xs : List (Int × Int)) : ∀ (k : Nat), k < xs.length → (valCells xs)[k * 2]? = some (.int .i64 (xs.getD k (0, 0)).1) ∧ (valCells xs)[k * 2 + 1]? = some (.int .u64 (xs.getD k (0, 0)).2) := by
  induction xs with
  | nil => intro k hk; simp at hk
  | cons x xs ih =>
    intro k hk
    have e : valCells (x :: xs) = .int .i64 x.1 :: .int .u64 x.2 :: valCells xs := by unfold valCells; rw [List.flatMap_cons]; rfl
    cases k with
    | zero => rw [e]; exact ⟨rfl, rfl⟩
    | succ k =>
      have := ih k (by simpa using hk)
      rw [e, show (k + 1) * 2 = k * 2 + 2 by omega]
      simpa using this
theorem valCells_set (xs : List (Int × Int)) (p : Int × Int) : ∀ (k : Nat), k < xs.length → ((valCells xs).set (k * 2) (.int .i64 p.1)).set (k * 2 + 1) (.int .u64 p.2) = valCells (xs.set k p) := by
  induction xs with
  | nil => intro k hk; simp at hk
  | cons x xs ih =>
    intro k hk
    have e : ∀ y : Int × Int, ∀ ys, valCells (y :: ys) = .int .i64 y.1 :: .int .u64 y.2 :: valCells ys := fun y ys => by unfold valCells; rw [List.flatMap_cons]; rfl
    cases k with
    | zero => rw [List.set_cons_zero, e, e]; rfl
    | succ k =>
      have := ih k (by simpa using hk)
      rw [List.set_cons_succ, e, e, show (k + 1) * 2 = k * 2 + 2 by omega, ← this]
      rfl
theorem valCells_rep (k : Nat) : valCells (List.replicate k (0, 0)) = (List.replicate k [Value.int .i64 0, Value.int .u64 0]).flatten := by
  unfold valCells
  rw [List.flatMap_def, List.map_replicate]

def Pc.rob (rb : Nat) (r : Free.Rf) (S : Nat → Prop) : Pc := ⟨fun w => Free.Rob rb r w S, S, fun h g a => h.but g a, fun h k hk => Free.Rob.lt h k hk⟩
/-- A cell's values, in a block of their own. -/
def vsl (p : Nat × List (Int × Int)) : Value := .slice (some ⟨p.1, 0, none⟩) p.2.length p.2.length
def vbk (p : Nat × List (Int × Int)) : Pc := Pc.blk p.1 (valCells p.2).toArray 43

/-- All that the document's cells lie in, behind something else. -/
def rl (P : Pc) (d rb : Nat) (r : Free.Rf) (Sr : Nat → Prop) (cn : List Int) (vs : List (Nat × List (Int × Int))) (v1 v2 : Value) (o1 o2 : Option Nat) : List Pc :=
  P :: Pc.blk d #[.pointer (some ⟨rb, 0, none⟩), v1, v2] 59 :: Pc.rob rb r Sr :: Pc.row 3 1 v1 o1 cn.length (ints cn) :: Pc.row 89 1 v2 o2 vs.length (vs.map vsl) :: vs.map vbk
structure Rc (w0 : World) (P : Pc) (d : Nat) (r : Free.Rf) (cn : List Int) (v : List (List (Int × Int))) (w : World) : Prop where
  ex : ∃ rb Sr vs v1 v2 o1 o2, Own w0 w (rl P d rb r Sr cn vs v1 v2 o1 o2) ∧ vs.map (·.2) = v

theorem Rc.same {w0 w w' : World} {P : Pc} {d : Nat} {r : Free.Rf} {cn : List Int} {v : List (List (Int × Int))} (h : Rc w0 P d r cn v w) (g : But (fun _ => False) w w') : Rc w0 P d r cn v w' := by
  obtain ⟨rb, Sr, vs, v1, v2, o1, o2, h1, h2⟩ := h.ex
  exact ⟨rb, Sr, vs, v1, v2, o1, o2, h1.same g, h2⟩
theorem Rc.but {w0 w : World} {P : Pc} {d : Nat} {r : Free.Rf} {cn : List Int} {v : List (List (Int × Int))} (h : Rc w0 P d r cn v w) : But (fun _ => False) w0 w := by
  obtain ⟨rb, Sr, vs, v1, v2, o1, o2, h1, h2⟩ := h.ex
  exact h1.but
theorem Rc.get {w0 w : World} {P : Pc} {d : Nat} {r : Free.Rf} {cn : List Int} {v : List (List (Int × Int))} (h : Rc w0 P d r cn v w) : P.is w := by
  obtain ⟨rb, Sr, vs, v1, v2, o1, o2, h1, h2⟩ := h.ex
  exact h1.get 0 rfl
/-- What lies beside the document's cells is turned. -/
theorem Rc.put {w0 w w' : World} {P Q : Pc} {d : Nat} {r : Free.Rf} {cn : List Int} {v : List (List (Int × Int))} (h : Rc w0 P d r cn v w) (hq : Q.is w') (hb : But P.S w w') (hn : ∀ k, Q.S k → P.S k ∨ w.heap.size ≤ k) : Rc w0 Q d r cn v w' := by
  obtain ⟨rb, Sr, vs, v1, v2, o1, o2, h1, h2⟩ := h.ex
  exact ⟨rb, Sr, vs, v1, v2, o1, o2, h1.put 0 rfl hq hb hn, h2⟩

end Cells
end Go.Proofs.Ytngbhhcicakolaa
