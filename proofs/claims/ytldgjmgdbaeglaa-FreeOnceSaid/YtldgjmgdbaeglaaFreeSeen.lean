/- What FreeOnce keeps in memory: the list, and two rows of the pairs seen. -/
import Derived.Test.YtldgjmgdbaeglaaFreeBoth
import Derived.Test.YtldgjmgdbaeglaaFreePlain3
set_option linter.unusedVariables false
set_option linter.unusedSimpArgs false
namespace Go.Proofs.Ytldgjmgdbaeglaa
open Go.RowKit Go.ChangeShapes Go.WideShapes

namespace Free

/-- The list and the pairs seen, in memory since w0. -/
structure Mem (b : Nat) (f : Fr) (cv gv : Value) (cs gs : List Int) (w0 w : World) : Prop where
  out : ∃ S oc og, Fob b f w S ∧ Row w 3 1 cv oc cs.length (ints cs) ∧ Row w 3 1 gv og gs.length (ints gs) ∧ (∀ k, S k → oc ≠ some k ∧ og ≠ some k) ∧ (∀ k, oc = some k → og ≠ some k) ∧
    (∀ k, S k → w0.heap.size ≤ k) ∧ (∀ k, oc = some k → w0.heap.size ≤ k) ∧ (∀ k, og = some k → w0.heap.size ≤ k)
  but : But (fun _ => False) w0 w
  inv : Inv f ∧ ∃ r, Rel f r

theorem Mem.new {b : Nat} {f : Fr} {w0 w : World} {S : Nat → Prop} (h : Fob b f w S) (g : But (fun _ => False) w0 w) (hl : ∀ k, S k → w0.heap.size ≤ k) (hI : Inv f ∧ ∃ r, Rel f r) : Mem b f (.slice none 0 0) (.slice none 0 0) [] [] w0 w := by
  refine ⟨⟨S, none, none, h, Row.nil _ _ _, Row.nil _ _ _, fun k _ => ⟨by simp, by simp⟩, ?_, hl, ?_, ?_⟩, g, hI⟩
  · intro k q; cases q
  · intro k q; cases q
  · intro k q; cases q

theorem Mem.step {b : Nat} {f f' : Fr} {cv gv : Value} {cs gs : List Int} {w0 w w' : World} {S : Nat → Prop} {oc og : Option Nat} (h1 : Fob b f w S) (h2 : Row w 3 1 cv oc cs.length (ints cs)) (h3 : Row w 3 1 gv og gs.length (ints gs))
    (h4 : ∀ k, S k → oc ≠ some k ∧ og ≠ some k) (h5 : ∀ k, oc = some k → og ≠ some k) (h6 : ∀ k, S k → w0.heap.size ≤ k) (h7 : ∀ k, oc = some k → w0.heap.size ≤ k) (h8 : ∀ k, og = some k → w0.heap.size ≤ k)
    (hb : But (fun _ => False) w0 w) (hm : Moves (Fob b f') S w w') (hI : Inv f' ∧ ∃ r, Rel f' r) : Mem b f' cv gv cs gs w0 w' := by
  obtain ⟨S', a1, a2, a3⟩ := hm
  have hz := hb.size
  refine ⟨⟨S', oc, og, a1, h2.but a2 (fun k hk q => (h4 k q).1 hk), h3.but a2 (fun k hk q => (h4 k q).2 hk), fun k hk => ?_, h5, fun k hk => ?_, h7, h8⟩, hb.trans' a2 (fun k hk => .inr (h6 k hk)), hI⟩
  · rcases a3 k hk with q | q
    · exact h4 k q
    · exact ⟨fun e => by have := h2.lt e; omega, fun e => by have := h3.lt e; omega⟩
  · rcases a3 k hk with q | q
    · exact h6 k q
    · omega

theorem Mem.same {b : Nat} {f : Fr} {cv gv : Value} {cs gs : List Int} {w0 w w' : World} (h : Mem b f cv gv cs gs w0 w) (g : But (fun _ => False) w w') : Mem b f cv gv cs gs w0 w' := by
  obtain ⟨S, oc, og, h1, h2, h3, h4, h5, h6, h7, h8⟩ := h.out
  exact ⟨⟨S, oc, og, h1.but g (fun _ q _ => q), h2.but g (fun _ _ q => q), h3.but g (fun _ _ q => q), h4, h5, h6, h7, h8⟩, h.but.trans g, h.inv⟩

theorem Mem.pushc {b : Nat} {f : Fr} {cv gv : Value} {cs gs : List Int} {w0 w : World} (h : Mem b f cv gv cs gs w0 w) (x : Int) : ∃ oc, Row w 3 1 cv oc cs.length (ints cs) ∧
    ∀ w' cv' oc', Row w' 3 1 cv' oc' (cs.length + 1) (ints cs ++ [.int .i64 x]) → But (fun k => oc = some k) w w' → (∀ k, oc' = some k → oc = some k ∨ w.heap.size ≤ k) → Mem b f cv' gv (cs ++ [x]) gs w0 w' := by
  obtain ⟨S, oc, og, h1, h2, h3, h4, h5, h6, h7, h8⟩ := h.out
  refine ⟨oc, h2, fun w' cv' oc' r g e => ?_⟩
  have hz := h.but.size
  refine ⟨⟨S, oc', og, h1.but g (fun k q s => (h4 k s).1 q), by simpa [ints] using r, h3.but g (fun k hk q => h5 k q hk), fun k hk => ⟨fun q => ?_, (h4 k hk).2⟩, fun k hk q => ?_, h6, fun k hk => ?_, h8⟩, h.but.trans' g (fun k hk => .inr (h7 k hk)), h.inv⟩
  · rcases e k q with p | p
    · exact (h4 k hk).1 p
    · have := h1.lt k hk; omega
  · rcases e k hk with p | p
    · exact h5 k p q
    · have := h3.lt q; omega
  · rcases e k hk with p | p
    · exact h7 k p
    · omega

theorem Mem.pushg {b : Nat} {f : Fr} {cv gv : Value} {cs gs : List Int} {w0 w : World} (h : Mem b f cv gv cs gs w0 w) (x : Int) : ∃ og, Row w 3 1 gv og gs.length (ints gs) ∧
    ∀ w' gv' og', Row w' 3 1 gv' og' (gs.length + 1) (ints gs ++ [.int .i64 x]) → But (fun k => og = some k) w w' → (∀ k, og' = some k → og = some k ∨ w.heap.size ≤ k) → Mem b f cv gv' cs (gs ++ [x]) w0 w' := by
  obtain ⟨S, oc, og, h1, h2, h3, h4, h5, h6, h7, h8⟩ := h.out
  refine ⟨og, h3, fun w' gv' og' r g e => ?_⟩
  have hz := h.but.size
  refine ⟨⟨S, oc, og', h1.but g (fun k q s => (h4 k s).2 q), h2.but g (fun k hk q => h5 k hk q), by simpa [ints] using r, fun k hk => ⟨(h4 k hk).1, fun q => ?_⟩, fun k hk q => ?_, h6, h7, fun k hk => ?_⟩, h.but.trans' g (fun k hk => .inr (h8 k hk)), h.inv⟩
  · rcases e k q with p | p
    · exact (h4 k hk).2 p
    · have := h1.lt k hk; omega
  · rcases e k q with p | p
    · exact h5 k hk p
    · have := h2.lt hk; omega
  · rcases e k hk with p | p
    · exact h8 k p
    · omega

/-- The m-th of a row, as the memory has it. -/
def nth (l : List Int) (m : Nat) : Int := l.getD m 0
theorem row_nth {w : World} {a : Option Addr} {cap n : Nat} {o : Option Nat} {xs : List Int} (h : Row w 3 1 (.slice a n cap) o n (ints xs)) {m : Nat} (hm : m < n) (hn : xs.length = n) :
    ∃ cb coff, a = some ⟨cb, coff, none⟩ ∧ ∀ w', But (fun _ => False) w w' → w'.cell? ⟨cb, coff + m, none⟩ = some (.int .i64 (nth xs m)) := by
  obtain ⟨cb, coff, cap', e, ho, hlt, -, hc, -⟩ := h.cells (by omega)
  simp at e
  refine ⟨cb, coff, e.1, fun w' g => ?_⟩
  rw [World.cell?_of_block (w := w) (g.block cb hlt (fun q => q)), hc m (by omega)]
  unfold ints nth
  rw [List.getElem?_map, List.getElem?_eq_getElem (by omega), List.getD_eq_getElem?_getD, List.getElem?_eq_getElem (by omega)]
  rfl
theorem Mem.cellc {b : Nat} {f : Fr} {a : Option Addr} {cap : Nat} {gv : Value} {cs gs : List Int} {w0 w : World} (h : Mem b f (.slice a cs.length cap) gv cs gs w0 w) {m : Nat} (hm : m < cs.length) :
    ∃ cb coff, a = some ⟨cb, coff, none⟩ ∧ ∀ w', But (fun _ => False) w w' → w'.cell? ⟨cb, coff + m, none⟩ = some (.int .i64 (nth cs m)) := by
  obtain ⟨S, oc, og, -, h2, -⟩ := h.out
  exact row_nth h2 hm rfl
theorem Mem.cellg {b : Nat} {f : Fr} {a : Option Addr} {cap n : Nat} {cv : Value} {cs gs : List Int} {w0 w : World} (h : Mem b f cv (.slice a n cap) cs gs w0 w) {m : Nat} (hn : gs.length = n) (hm : m < n) :
    ∃ cb coff, a = some ⟨cb, coff, none⟩ ∧ ∀ w', But (fun _ => False) w w' → w'.cell? ⟨cb, coff + m, none⟩ = some (.int .i64 (nth gs m)) := by
  subst hn
  obtain ⟨S, oc, og, -, -, h3, -⟩ := h.out
  exact row_nth h3 hm rfl

theorem m_take {b : Nat} {f : Fr} {cv gv : Value} {cs gs : List Int} {w0 w : World} (h : Mem b f cv gv cs gs w0 w) (x : Int) : Calls Try.prog 17 #[.pointer (some ⟨b, 0, none⟩), .int .i64 x] w fun e w' =>
    e = .returned (.tuple #[.int .i64 (take f x).2.1, .int .i64 (take f x).2.2]) ∧ Mem b (take f x).1 cv gv cs gs w0 w' := by
  obtain ⟨S, oc, og, h1, h2, h3, h4, h5, h6, h7, h8⟩ := h.out
  obtain ⟨hI, r, hr⟩ := h.inv
  have e2 := rel_take hr hI x
  exact (take_any b f x w S h1 hI).mono fun e w' ⟨he, hm⟩ => ⟨he, Mem.step h1 h2 h3 h4 h5 h6 h7 h8 h.but hm ⟨e2.2.2, _, e2.2.1⟩⟩
theorem m_give {b : Nat} {f : Fr} {cv gv : Value} {cs gs : List Int} {w0 w : World} (h : Mem b f cv gv cs gs w0 w) (x : Int) (hx : -9223372036854775808 ≤ x ∧ x ≤ 9223372036854775807) : Calls Try.prog 15 #[.pointer (some ⟨b, 0, none⟩), .int .i64 x] w fun e w' =>
    e = .returned (.tuple #[.bool (give f x).2.1, .int .i64 (give f x).2.2]) ∧ Mem b (give f x).1 cv gv cs gs w0 w' := by
  obtain ⟨S, oc, og, h1, h2, h3, h4, h5, h6, h7, h8⟩ := h.out
  obtain ⟨hI, r, hr⟩ := h.inv
  have e2 := rel_give hr hI x
  exact (give_any b f x w S h1 hI hx).mono fun e w' ⟨he, hm⟩ => ⟨he, Mem.step h1 h2 h3 h4 h5 h6 h7 h8 h.but hm ⟨e2.2.2, _, e2.2.1⟩⟩
theorem m_gen {b : Nat} {f : Fr} {cv gv : Value} {cs gs : List Int} {w0 w : World} (h : Mem b f cv gv cs gs w0 w) (x : Int) : Calls Try.prog 19 #[.pointer (some ⟨b, 0, none⟩), .int .i64 x] w fun e w' => e = .returned (.int .i64 (gen f x)) ∧ w = w' := by
  obtain ⟨S, oc, og, h1, -⟩ := h.out
  exact gen_any b f x w S h1 h.inv.1
theorem m_taken {b : Nat} {f : Fr} {cv gv : Value} {cs gs : List Int} {w0 w : World} (h : Mem b f cv gv cs gs w0 w) (x : Int) : Calls Try.prog 21 #[.pointer (some ⟨b, 0, none⟩), .int .i64 x] w fun e w' => e = .returned (.bool (taken f x)) ∧ w = w' := by
  obtain ⟨S, oc, og, h1, -⟩ := h.out
  exact taken_any b f x w S h1 h.inv.1
theorem m_free {b : Nat} {f : Fr} {cv gv : Value} {cs gs : List Int} {w0 w : World} (h : Mem b f cv gv cs gs w0 w) (x : Int) : Calls Try.prog 23 #[.pointer (some ⟨b, 0, none⟩), .int .i64 x] w fun e w' => e = .returned (.int .i64 (free f x)) ∧ w = w' := by
  obtain ⟨S, oc, og, h1, -⟩ := h.out
  exact free_any b f x w S h1
theorem m_retired {b : Nat} {f : Fr} {cv gv : Value} {cs gs : List Int} {w0 w : World} (h : Mem b f cv gv cs gs w0 w) (x : Int) : Calls Try.prog 25 #[.pointer (some ⟨b, 0, none⟩), .int .i64 x] w fun e w' => e = .returned (.int .i64 (retired f x)) ∧ w = w' := by
  obtain ⟨S, oc, og, h1, -⟩ := h.out
  exact retired_any b f x w S h1

end Free
end Go.Proofs.Ytldgjmgdbaeglaa
