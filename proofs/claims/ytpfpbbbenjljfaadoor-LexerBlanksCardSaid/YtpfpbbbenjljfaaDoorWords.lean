/- Words that the walks of this place share: blocks of memory known whole, and what a call leaves as it was. -/
import Derived.WalkKit
import Derived.WalkSpells
import Derived.WalkLawsBesides
import Derived.Lib.Hide
import Derived.Deep.QuietTactic
import Derived.BigQuiet
import Derived.Deep.RegionWith
import Derived.Deep.LoopGhost
import Derived.Deep.RegionHeld3
set_option linter.unusedVariables false
set_option linter.unusedSimpArgs false
namespace Go.Proofs.YtpfpbbbenjljfaaDoor
open Go.RowKit

/-- The world w' is as w was, but for the blocks in S, and for new ones. -/
structure But (S : Nat → Prop) (w w' : World) : Prop where
  os : w'.os = w.os
  tape : w'.tape = w.tape
  output : w'.output = w.output
  size : w.heap.size ≤ w'.heap.size
  block : ∀ k, k < w.heap.size → ¬ S k → w'.heap[k]? = w.heap[k]?

theorem But.refl (S : Nat → Prop) (w : World) : But S w w := ⟨rfl, rfl, rfl, Nat.le_refl _, fun _ _ _ => rfl⟩

theorem But.trans {S : Nat → Prop} {a b c : World} (h : But S a b) (k : But S b c) : But S a c :=
  ⟨k.os.trans h.os, k.tape.trans h.tape, k.output.trans h.output, Nat.le_trans h.size k.size,
    fun i hi hs => (k.block i (Nat.lt_of_lt_of_le hi h.size) hs).trans (h.block i hi hs)⟩

/-- Two steps: the second may have turned what is new behind the first. -/
theorem But.trans' {S T : Nat → Prop} {a b c : World} (h : But S a b) (k : But T b c) (hT : ∀ i, T i → S i ∨ a.heap.size ≤ i) : But S a c :=
  ⟨k.os.trans h.os, k.tape.trans h.tape, k.output.trans h.output, Nat.le_trans h.size k.size,
    fun i hi hs => (k.block i (Nat.lt_of_lt_of_le hi h.size) (fun ht => by rcases hT i ht with q | q; exact hs q; omega)).trans (h.block i hi hs)⟩

theorem But.mono {S T : Nat → Prop} {a b : World} (h : But S a b) (hT : ∀ i, S i → T i ∨ a.heap.size ≤ i) : But T a b :=
  ⟨h.os, h.tape, h.output, h.size, fun i hi hs => h.block i hi (fun ht => by rcases hT i ht with q | q; exact hs q; omega)⟩

theorem But.drew {S : Nat → Prop} {a w : World} (h : But S a w) : But S a w.drew := ⟨h.os, h.tape, h.output, h.size, h.block⟩
theorem But.drewN {S : Nat → Prop} {a w : World} (h : But S a w) (n : Nat) : But S a (w.drewN n) :=
  h.trans ⟨rfl, rfl, rfl, Nat.le_refl _, fun _ _ _ => rfl⟩

theorem But.alloc {S : Nat → Prop} {a w : World} (h : But S a w) (o : Obj) : But S a (w.alloc o) :=
  h.trans ⟨rfl, rfl, rfl, by simp, fun k hk _ => Below.heap_alloc _ _ _ hk⟩

theorem But.one {a : World} (b i : Nat) (u : Value) : But (fun k => k = b) a (a.setCell ⟨b, i, none⟩ u) :=
  ⟨rfl, rfl, rfl, by simp [World.setCell], fun k _ hs => Below.heap_setCell _ _ _ _ hs⟩

theorem But.setCell {S : Nat → Prop} {a w : World} (h : But S a w) {p : Addr} (hp : S p.block ∨ a.heap.size ≤ p.block) (u : Value) : But S a (w.setCell p u) :=
  ⟨h.os, h.tape, h.output, by have := h.size; simp [World.setCell]; exact this, fun k hk hs => by
    rw [Below.heap_setCell _ _ _ _ (fun e => by subst e; rcases hp with q | q; exact hs q; omega)]
    exact h.block k hk hs⟩

theorem But.grown {S : Nat → Prop} {a w w' : World} {row : Option Nat} (h : But S a w) (hg : w.grownBy w' row) (hr : ∀ k, row = some k → S k ∨ a.heap.size ≤ k) : But S a w' :=
  ⟨hg.os.trans h.os, hg.tape.trans h.tape, hg.output.trans h.output, Nat.le_trans h.size hg.size, fun k hk hs => by
    rw [hg.block k (Nat.lt_of_lt_of_le hk h.size) (fun e => by rcases hr k e.symm with q | q; exact hs q; omega)]
    exact h.block k hk hs⟩

theorem But.of_below {w w' : World} (h : Below w.heap.size w w') (S : Nat → Prop) : But S w w' :=
  ⟨h.os, h.tape, h.output, h.size, fun k hk _ => h.block k hk⟩

theorem But.below {w w' : World} (h : But (fun _ => False) w w') : Below w.heap.size w w' :=
  ⟨h.os, h.tape, h.output, h.size, fun k hk => h.block k hk (fun q => q)⟩

/-- Only new blocks may differ from block B on. -/
theorem But.belowB {S : Nat → Prop} {w w' : World} {B : Nat} (h : But S w w') (hB : B ≤ w.heap.size) (hS : ∀ k, S k → B ≤ k) : Below B w w' :=
  ⟨h.os, h.tape, h.output, h.size, fun k hk => h.block k (by omega) (fun q => by have := hS k q; omega)⟩

/-- Block b is known whole: its cells. -/
structure Blk (w : World) (b : Nat) (cs : Array Value) (T : TypeId) : Prop where
  out : w.heap[b]? = some (.cells cs T (0, 0))

theorem Blk.lt {w : World} {b : Nat} {cs : Array Value} {T : TypeId} (h : Blk w b cs T) : b < w.heap.size := (Array.getElem?_eq_some_iff.1 h.out).1
theorem Blk.cell {w : World} {b : Nat} {cs : Array Value} {T : TypeId} (h : Blk w b cs T) (i : Nat) : w.cell? ⟨b, i, none⟩ = cs[i]? := by simp [World.cell?, h.out]
theorem Blk.frozen {w : World} {b : Nat} {cs : Array Value} {T : TypeId} (h : Blk w b cs T) (i : Nat) : w.frozen? ⟨b, i, none⟩ = false := by simp [World.frozen?, h.out]
theorem Blk.drew {w : World} {b : Nat} {cs : Array Value} {T : TypeId} (h : Blk w b cs T) : Blk w.drew b cs T := ⟨h.out⟩
theorem Blk.drewN {w : World} {b : Nat} {cs : Array Value} {T : TypeId} (h : Blk w b cs T) (n : Nat) : Blk (w.drewN n) b cs T := ⟨h.out⟩
theorem Blk.alloc {w : World} {b : Nat} {cs : Array Value} {T : TypeId} (h : Blk w b cs T) (o : Obj) : Blk (w.alloc o) b cs T :=
  ⟨(Below.heap_alloc w o b h.lt).trans h.out⟩
theorem Blk.new (w : World) (cs : Array Value) (T : TypeId) : Blk (w.alloc (.cells cs T)) w.heap.size cs T :=
  ⟨by show (w.heap.push _)[w.heap.size]? = _; simp⟩
theorem Blk.set {w : World} {b : Nat} {cs : Array Value} {T : TypeId} (h : Blk w b cs T) (i : Nat) (u : Value) : Blk (w.setCell ⟨b, i, none⟩ u) b (cs.setIfInBounds i u) T :=
  ⟨by simp only [World.setCell, Array.getElem?_modify, h.out]; simp⟩
theorem Blk.put {w : World} {b : Nat} {cs cs' : Array Value} {T : TypeId} (h : Blk w b cs T) (i : Nat) (u : Value) (e : cs.setIfInBounds i u = cs') : Blk (w.setCell ⟨b, i, none⟩ u) b cs' T := e ▸ h.set i u
theorem Blk.far {w : World} {b : Nat} {cs : Array Value} {T : TypeId} (h : Blk w b cs T) {p : Addr} (hp : b ≠ p.block) (u : Value) : Blk (w.setCell p u) b cs T :=
  ⟨(Below.heap_setCell w p u b hp).trans h.out⟩
theorem Blk.but {w w' : World} {b : Nat} {cs : Array Value} {T : TypeId} (h : Blk w b cs T) {S : Nat → Prop} (hb : But S w w') (hs : ¬ S b) : Blk w' b cs T :=
  ⟨(hb.block b h.lt hs).trans h.out⟩
theorem Blk.grown {w w' : World} {b : Nat} {cs : Array Value} {T : TypeId} (h : Blk w b cs T) {row : Option Nat} (hg : w.grownBy w' row) (hne : some b ≠ row) : Blk w' b cs T :=
  ⟨(hg.block b h.lt hne).trans h.out⟩
theorem Blk.below {w w' : World} {b B : Nat} {cs : Array Value} {T : TypeId} (h : Blk w b cs T) (hb : Below B w w') (hB : b < B) : Blk w' b cs T :=
  ⟨(hb.block b hB).trans h.out⟩

/-- The callee only read: its contract met inside a region that draws. -/
theorem quiet_same {P : Program} {f : FuncId} {args : Array Value} {w : World} {n : Nat} {v : Value}
    (h : Calls P f args (w.drewN n) fun e w' => e = .returned v ∧ w.drewN n = w') : Calls P f args (w.drewN n) fun e w'' => e = .returned v ∧ ∃ m, w'' = w.drewN m :=
  h.mono fun _ _ ⟨he, hm⟩ => ⟨he, n, hm.symm⟩

/-- What is kept through a region that draws its order. -/
theorem keepN {w2 w' : World} {P : World → Prop} (hP : ∀ w', But (fun _ => False) w2 w' → P w') (h : But (fun _ => False) w2 w') : But (fun _ => False) w2 w' ∧ P w' := ⟨h, hP _ h⟩
theorem keep_step {w2 a b : World} {p : Prop} (h : But (fun _ => False) w2 a ∧ p) (k : But (fun _ => False) a b) : But (fun _ => False) w2 b := h.1.trans k

/-- A thing that lies in the blocks S has turned into one that lies in some S': those, and new ones; all else is as it was. -/
def Moves (R : World → (Nat → Prop) → Prop) (S : Nat → Prop) (w w' : World) : Prop := ∃ S', R w' S' ∧ But S w w' ∧ ∀ k, S' k → S k ∨ w.heap.size ≤ k

def Apart (S T : Nat → Prop) : Prop := ∀ k, S k → T k → False
theorem Apart.symm {S T : Nat → Prop} (h : Apart S T) : Apart T S := fun k a b => h k b a
theorem Apart.step {S S' T : Nat → Prop} {w : World} (h : Apart S T) (hT : ∀ k, T k → k < w.heap.size) (hS : ∀ k, S' k → S k ∨ w.heap.size ≤ k) : Apart S' T := fun k a b => by
  rcases hS k a with q | q
  · exact h k q b
  · have := hT k b; omega

/-- A contract whose result is told otherwise. -/
theorem to_ret {P : Program} {f : FuncId} {args : Array Value} {w : World} {v v' : Value} {R : World → Prop} (hv : v = v') (h : Calls P f args w fun e w' => e = .returned v ∧ R w') :
    Calls P f args w fun e w' => e = .returned v' ∧ R w' := hv ▸ h

theorem ret_eq {a b : Value} (h : a = b) : Ending.returned a = .returned b := by rw [h]

end Go.Proofs.YtpfpbbbenjljfaaDoor
