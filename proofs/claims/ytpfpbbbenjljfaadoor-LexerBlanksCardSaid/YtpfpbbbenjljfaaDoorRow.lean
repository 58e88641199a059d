/- A slice that lies in a block of its own, told as the list of its cells: read, written, cut, appended to. -/
import Derived.Test.YtpfpbbbenjljfaaDoorWords
import Derived.ArgAppend
import Derived.Laws.IdiomCopy
import Derived.Deep.Upon
set_option linter.unusedVariables false
set_option linter.unusedSimpArgs false
namespace Go.Proofs.YtpfpbbbenjljfaaDoor
open Go.RowKit

/-- v has n elements of 'size' cells each, of type E: the cells xs; they lie in block o alone (none: v is nil). -/
structure Row (w : World) (E : TypeId) (size : Nat) (v : Value) (o : Option Nat) (n : Nat) (xs : List Value) : Prop where
  len : xs.length = n * size
  is : (v = .slice none 0 0 ∧ o = none ∧ n = 0) ∨ ∃ b off cap, ∃ cs : Array Value, v = .slice (some ⟨b, off, none⟩) n cap ∧ o = some b ∧ w.heap[b]? = some (.cells cs E (0, 0)) ∧
    n ≤ cap ∧ cap ≤ maxLen ∧ off + cap * size ≤ cs.size ∧ (cs.toList.drop off).take (n * size) = xs

theorem Row.nil (w : World) (E : TypeId) (size : Nat) : Row w E size (.slice none 0 0) none 0 [] := ⟨by simp, .inl ⟨rfl, rfl, rfl⟩⟩

theorem Row.of_owns {w : World} {base : Nat} {E : TypeId} {size n : Nat} {v : Value} {xs : List Value} (h : w.ownsRow base E size v n xs) :
    ∃ o, Row w E size v o n xs ∧ ∀ k, o = some k → base ≤ k := by
  obtain ⟨hl, h | ⟨g, cap, cur, rfl, hg, hh, h1, h2, h3, h4⟩⟩ := h
  · obtain ⟨rfl, rfl⟩ := h
    exact ⟨none, ⟨hl, .inl ⟨rfl, rfl, rfl⟩⟩, fun k hk => by cases hk⟩
  · exact ⟨some g, ⟨hl, .inr ⟨g, 0, cap, cur, rfl, rfl, hh, h1, h2, by omega, by simpa using h4⟩⟩, fun k hk => by cases hk; exact hg⟩

theorem Row.of_block {w w' : World} {E : TypeId} {size n : Nat} {v : Value} {o : Option Nat} {xs : List Value} (h : Row w E size v o n xs) (hb : ∀ k, o = some k → w'.heap[k]? = w.heap[k]?) : Row w' E size v o n xs := by
  refine ⟨h.len, ?_⟩
  rcases h.is with h | ⟨b, off, cap, cs, e, ho, hh, r⟩
  · exact .inl h
  · exact .inr ⟨b, off, cap, cs, e, ho, (hb b ho).trans hh, r⟩

theorem Row.lt {w : World} {E : TypeId} {size n : Nat} {v : Value} {o : Option Nat} {xs : List Value} (h : Row w E size v o n xs) {k : Nat} (hk : o = some k) : k < w.heap.size := by
  rcases h.is with ⟨_, e, _⟩ | ⟨b, off, cap, cs, _, ho, hh, _⟩
  · rw [e] at hk; cases hk
  · rw [ho] at hk; cases hk; exact (Array.getElem?_eq_some_iff.1 hh).1

theorem Row.but {w w' : World} {E : TypeId} {size n : Nat} {v : Value} {o : Option Nat} {xs : List Value} (h : Row w E size v o n xs) {S : Nat → Prop} (hb : But S w w') (hs : ∀ k, o = some k → ¬ S k) : Row w' E size v o n xs :=
  h.of_block fun k hk => hb.block k (h.lt hk) (hs k hk)
theorem Row.drewN {w : World} {E : TypeId} {size n : Nat} {v : Value} {o : Option Nat} {xs : List Value} (h : Row w E size v o n xs) (m : Nat) : Row (w.drewN m) E size v o n xs := h.of_block fun _ _ => rfl
theorem Row.drew {w : World} {E : TypeId} {size n : Nat} {v : Value} {o : Option Nat} {xs : List Value} (h : Row w E size v o n xs) : Row w.drew E size v o n xs := h.of_block fun _ _ => rfl
theorem Row.alloc {w : World} {E : TypeId} {size n : Nat} {v : Value} {o : Option Nat} {xs : List Value} (h : Row w E size v o n xs) (x : Obj) : Row (w.alloc x) E size v o n xs :=
  h.of_block fun k hk => Below.heap_alloc w x k (h.lt hk)
theorem Row.far {w : World} {E : TypeId} {size n : Nat} {v : Value} {o : Option Nat} {xs : List Value} (h : Row w E size v o n xs) {p : Addr} (hp : o ≠ some p.block) (u : Value) : Row (w.setCell p u) E size v o n xs :=
  h.of_block fun k hk => Below.heap_setCell w p u k (fun e => hp (by rw [hk, e]))

/-- The value written out. -/
theorem Row.val {w : World} {E : TypeId} {size n : Nat} {v : Value} {o : Option Nat} {xs : List Value} (h : Row w E size v o n xs) : ∃ a cap, v = .slice a n cap ∧ n ≤ cap ∧ cap ≤ maxLen := by
  rcases h.is with ⟨rfl, _, rfl⟩ | ⟨b, off, cap, cs, rfl, _, _, h1, h2, _⟩
  · exact ⟨_, _, rfl, Nat.le_refl _, Nat.zero_le _⟩
  · exact ⟨_, _, rfl, h1, h2⟩

theorem Row.cells {w : World} {E : TypeId} {size n : Nat} {v : Value} {o : Option Nat} {xs : List Value} (h : Row w E size v o n xs) (hn : 0 < n * size) :
    ∃ b off cap, v = .slice (some ⟨b, off, none⟩) n cap ∧ o = some b ∧ b < w.heap.size ∧ n ≤ cap ∧ (∀ j, j < n * size → w.cell? ⟨b, off + j, none⟩ = xs[j]?) ∧ (∀ j, w.frozen? ⟨b, j, none⟩ = false) := by
  rcases h.is with ⟨rfl, _, rfl⟩ | ⟨b, off, cap, cs, rfl, ho, hh, h1, h2, h3, h4⟩
  · omega
  · refine ⟨b, off, cap, rfl, ho, (Array.getElem?_eq_some_iff.1 hh).1, h1, fun j hj => ?_, fun j => by simp [World.frozen?, hh]⟩
    rw [← h4, List.getElem?_take, if_pos hj, List.getElem?_drop]
    simp [World.cell?, hh]

/-! ### Many cells at once -/
theorem heap_setCells_other (b : Nat) : ∀ (vs : List Value) (o : Nat) (w : World) (k : Nat), k ≠ b → (w.setCells b o vs).heap[k]? = w.heap[k]?
  | [], _, _, _, _ => rfl
  | v :: vs, o, w, k, hk => by
    show ((w.setCell ⟨b, o, none⟩ v).setCells b (o + 1) vs).heap[k]? = _
    rw [heap_setCells_other b vs (o + 1) _ k hk, Below.heap_setCell _ _ _ _ hk]

theorem size_setCells (b : Nat) : ∀ (vs : List Value) (o : Nat) (w : World), (w.setCells b o vs).heap.size = w.heap.size
  | [], _, _ => rfl
  | v :: vs, o, w => by
    show ((w.setCell ⟨b, o, none⟩ v).setCells b (o + 1) vs).heap.size = _
    rw [size_setCells b vs (o + 1)]; simp [World.setCell]

theorem tape_setCells (b : Nat) : ∀ (vs : List Value) (o : Nat) (w : World), (w.setCells b o vs).tape = w.tape
  | [], _, _ => rfl
  | v :: vs, o, w => (tape_setCells b vs (o + 1) _).trans rfl

/-- The cells of a row, some of them written anew. -/
def putAt (cs : List Value) (o : Nat) (vs : List Value) : List Value := cs.take o ++ vs ++ cs.drop (o + vs.length)

theorem putAt_length {cs vs : List Value} {o : Nat} (h : o + vs.length ≤ cs.length) : (putAt cs o vs).length = cs.length := by
  unfold putAt; simp; omega

theorem heap_setCells_same (b : Nat) (E : TypeId) : ∀ (vs : List Value) (o : Nat) (w : World) (cs : Array Value), w.heap[b]? = some (.cells cs E (0, 0)) → o + vs.length ≤ cs.size →
    ∃ cs' : Array Value, (w.setCells b o vs).heap[b]? = some (.cells cs' E (0, 0)) ∧ cs'.toList = putAt cs.toList o vs
  | [], o, w, cs, h, _ => ⟨cs, h, by simp [putAt]⟩
  | v :: vs, o, w, cs, h, hl => by
    simp only [List.length_cons] at hl
    have h1 : (w.setCell ⟨b, o, none⟩ v).heap[b]? = some (.cells (cs.setIfInBounds o v) E (0, 0)) := by
      simp only [World.setCell, Array.getElem?_modify, h]; simp
    obtain ⟨cs', h2, h3⟩ := heap_setCells_same b E vs (o + 1) _ _ h1 (by simp; omega)
    refine ⟨cs', h2, h3.trans ?_⟩
    unfold putAt
    have ho : o < cs.toList.length := by simp; omega
    simp only [Array.toList_setIfInBounds, List.length_cons]
    rw [List.drop_set_of_lt (by omega), List.take_set]
    have e1 : (cs.toList.take (o + 1)).set o v = cs.toList.take o ++ [v] := by
      rw [List.take_succ_eq_append_getElem ho, List.set_append_right _ _ (by simp; omega)]
      rw [show o - (List.take o cs.toList).length = 0 by simp; simp at ho; omega]; rfl
    rw [e1]
    simp [Nat.add_comm, Nat.add_left_comm]

theorem But.setCells {S : Nat → Prop} {a w : World} (h : But S a w) {b : Nat} (hb : S b ∨ a.heap.size ≤ b) (o : Nat) (vs : List Value) : But S a (w.setCells b o vs) :=
  ⟨(World.os_setCells w b o vs).trans h.os, (tape_setCells b vs o w).trans h.tape, (World.output_setCells w b o vs).trans h.output, by rw [size_setCells]; exact h.size, fun k hk hs => by
    rw [heap_setCells_other b vs o w k (fun e => by subst e; rcases hb with q | q; exact hs q; omega)]
    exact h.block k hk hs⟩

/-! ### append -/
theorem take_putAt {cs vs : List Value} {off m : Nat} {xs : List Value} (hl : off + m + vs.length ≤ cs.length) (hx : (cs.drop off).take m = xs) :
    ((putAt cs (off + m) vs).drop off).take (m + vs.length) = xs ++ vs := by
  unfold putAt
  rw [List.append_assoc, List.drop_append_of_le_length (by simp; omega), List.drop_take, Nat.add_sub_cancel_left, hx]
  have hxl : xs.length = m := by rw [← hx]; simp; omega
  rw [List.take_append, List.take_of_length_le (by omega), hxl, Nat.add_sub_cancel_left, List.take_left]

/-- 'append(s, x...)', s of a row of its own: some value that has the old elements, and the new ones, in the old block or in a new one. -/
theorem wpList_append_row {P : Program} (w : World) {ops : Array Oper} {rest : List Oper} {o : Oper} {a : Act} {Q : Exit → Act → World → Prop}
    (hg : o.guard = none) (s x : Operand) (t : TypeId) (hop : o.op = Op.call { callee := Callee.builtin Builtin.append, args := #[s, x], argTypes := #[t, t] })
    (e : TypeId) (i : TypeInfo) (z : Value) (size bytes : Nat) (h1 : P.underlying t = some (.slice e)) (h2 : P.info? e = some i) (h3 : i.zero = some z) (h4 : i.size = size) (h5 : i.bytes = bytes) (h6 : z.cells.size = size) (h7 : 0 < size)
    (v : Value) (ob : Option Nat) (n : Nat) (olds : List Value) (hR : Row w e size v ob n olds) (hs : a.eval s = v)
    (ad : Addr) (m c : Nat) (news : List Value) (hx : a.eval x = .slice (some ad) m c) (hn : news.length = m * size) (hc : ∀ j u, news[j]? = some u → w.cell? (ad.add j) = some u) (h1c : ∀ u ∈ news, u.oneCell' = true)
    (b1 : n + m ≤ maxLen) (b2 : (n + m) * bytes ≤ 140737488355328)
    (hK : ∀ v' w' ob', Row w' e size v' ob' (n + m) (olds ++ news) → But (fun k => ob = some k) w w' → (∀ k, ob' = some k → ob = some k ∨ w.heap.size ≤ k) → wpList P ops Q rest (a.put o.dst v') w') :
    wpList P ops Q (o :: rest) a w := by
  have fin : ∀ v' w', w'.ownsRow w.heap.size e size v' (n + m) (olds ++ news) → w.grownBy w' none → wpList P ops Q rest (a.put o.dst v') w' := fun v' w' r1 r2 => by
    obtain ⟨ob', hr, hb⟩ := Row.of_owns r1
    exact hK v' w' ob' hr ((But.refl _ _).grown r2 (fun k hk => by cases hk)) (fun k hk => .inr (hb k hk))
  rcases hR.is with ⟨rfl, rfl, rfl⟩ | ⟨b, off, cap, cs, rfl, rfl, hh, g1, g2, g3, g4⟩
  · have ho : olds = [] := List.eq_nil_of_length_eq_zero (by simpa using hR.len)
    subst ho
    refine wpList_plain hg fun K hK' => ?_
    obtain ⟨v', w', hrun, r1, r2, _⟩ := run_append_own (P := P) w w.heap.size t o.type e i z size bytes h1 h2 h3 h4 h5 h6 h7 (.slice none 0 0) 0 [] (World.ownsRow_nil w _ e size) ad m c news hn hc h1c b1 b2 (Nat.le_refl _)
    unfold Oper.wp
    simp [execOp, hop, resolve, invoke, builtin, hs, hx, hrun, Result.andThen]
    exact hK' _ _ (fin v' w' r1 r2)
  · have hold : ∀ j u, olds[j]? = some u → w.cell? ⟨b, off + j, none⟩ = some u := fun j u hj => by
      have hj' : j < n * size := by
        have := (List.getElem?_eq_some_iff.1 hj).1; rw [hR.len] at this; exact this
      rw [← hj, ← g4, List.getElem?_take, if_pos hj', List.getElem?_drop]
      simp [World.cell?, hh]
    refine wpList_append_arg w hg s x t hop e i z size bytes h1 h2 h3 h4 h5 h6 h7 b off n cap olds hs hR.len hold ad m c news hx hn hc h1c (fun hr j hj => ?_) b1 b2 (fun hr => ?_) (fun _ => fin)
    · have hb : off + n * size + j < cs.size := by
        have : n * size + m * size ≤ cap * size := by rw [← Nat.add_mul]; exact Nat.mul_le_mul_right _ hr
        omega
      refine ⟨?_, by simp [World.frozen?, hh]⟩
      simp [World.cell?, hh, hb]
    · have hcap : n * size + m * size ≤ cap * size := by rw [← Nat.add_mul]; exact Nat.mul_le_mul_right _ hr
      obtain ⟨cs', h8, h9⟩ := heap_setCells_same b e news (off + n * size) w cs hh (by omega)
      refine hK _ _ (some b) ⟨by rw [List.length_append, hR.len, hn, Nat.add_mul], .inr ⟨b, off, cap, cs', rfl, rfl, h8, hr, g2, ?_, ?_⟩⟩ ((But.refl (fun k => some b = some k) w).setCells (b := b) (.inl rfl) (off + n * size) news) (fun k hk => .inl hk)
      · have : cs'.toList.length = cs.toList.length := by rw [h9, putAt_length (by simp; omega)]
        simp at this; omega
      · rw [h9, Nat.add_mul, ← hn]
        exact take_putAt (by simp; omega) g4

/-- 'append(s, x...)' where x is nil: s itself. -/
theorem wpList_append_none {P : Program} (w : World) {ops : Array Oper} {rest : List Oper} {o : Oper} {a : Act} {Q : Exit → Act → World → Prop}
    (hg : o.guard = none) (s x : Operand) (t : TypeId) (hop : o.op = Op.call { callee := Callee.builtin Builtin.append, args := #[s, x], argTypes := #[t, t] })
    (e : TypeId) (i : TypeInfo) (h1 : P.underlying t = some (.slice e)) (h2 : P.info? e = some i) (ao : Option Addr) (n cap : Nat) (hs : a.eval s = .slice ao n cap) (hcap : n ≤ cap) (hx : a.eval x = .slice none 0 0)
    (hK : wpList P ops Q rest (a.put o.dst (.slice ao n cap)) w) : wpList P ops Q (o :: rest) a w := by
  refine wpList_plain hg fun K hK' => ?_
  have hrun : (Builtin.append_ #[t, t] o.type #[.slice ao n cap, .slice none 0 0]).run P w = .ok (.slice ao n cap) w := by
    cases ao <;> simp [Builtin.append_, run_underlying h1, sizeOf, typeInfo, h2, Builtin.lenOf, hcap, Builtin.firstCells, storeCells]
  unfold Oper.wp
  simp [execOp, hop, resolve, invoke, builtin, hs, hx, hrun, Result.andThen]
  exact hK' _ _ hK

/-- The first elements alone: 's[:k]'. -/
theorem Row.firsts {w : World} {E : TypeId} {size n : Nat} {a : Option Addr} {cap : Nat} {o : Option Nat} {xs : List Value} (h : Row w E size (.slice a n cap) o n xs) {k : Nat} (hk : k ≤ n) :
    Row w E size (.slice a k cap) o k (xs.take (k * size)) := by
  have hle : k * size ≤ n * size := Nat.mul_le_mul_right _ hk
  refine ⟨by rw [List.length_take, h.len]; omega, ?_⟩
  rcases h.is with ⟨e, ho, rfl⟩ | ⟨b, off, cap', cs, e, ho, hh, h1, h2, h3, h4⟩
  · obtain ⟨rfl, -, rfl⟩ := Value.slice.inj e
    exact .inl ⟨by rw [show k = 0 by omega], ho, by omega⟩
  · obtain ⟨rfl, -, rfl⟩ := Value.slice.inj e
    exact .inr ⟨b, off, cap, cs, rfl, ho, hh, by omega, h2, h3, by rw [← h4, List.take_take, Nat.min_eq_left hle]⟩

/-- All but the first elements: 's[k:]'. -/
theorem Row.rest {w : World} {E : TypeId} {size n : Nat} {b off cap : Nat} {o : Option Nat} {xs : List Value} (h : Row w E size (.slice (some ⟨b, off, none⟩) n cap) o n xs) {k : Nat} (hk : k ≤ n) :
    Row w E size (.slice (some ⟨b, off + k * size, none⟩) (n - k) (cap - k)) o (n - k) (xs.drop (k * size)) := by
  have hle : k * size ≤ n * size := Nat.mul_le_mul_right _ hk
  refine ⟨by rw [List.length_drop, h.len, Nat.sub_mul], ?_⟩
  rcases h.is with ⟨e, _⟩ | ⟨b', off', cap', cs, e, ho, hh, h1, h2, h3, h4⟩
  · simp at e
  · obtain ⟨e1, -, rfl⟩ := Value.slice.inj e
    obtain ⟨rfl, rfl⟩ : b = b' ∧ off = off' := by simpa using e1
    have h5 : k * size ≤ cap * size := Nat.mul_le_mul_right _ (by omega)
    exact .inr ⟨b, off + k * size, cap - k, cs, rfl, ho, hh, by omega, by omega, by rw [Nat.sub_mul]; omega, by rw [← h4, List.drop_take, List.drop_drop, Nat.sub_mul]⟩
/-- .. where the capacity is used up Go keeps the address. -/
theorem Row.rest_full {w : World} {E : TypeId} {size n : Nat} {b off : Nat} {o : Option Nat} {xs : List Value} (h : Row w E size (.slice (some ⟨b, off, none⟩) n n) o n xs) :
    Row w E size (.slice (some ⟨b, off, none⟩) 0 0) o 0 [] := by
  refine ⟨by simp, ?_⟩
  rcases h.is with ⟨e, _⟩ | ⟨b', off', cap', cs, e, ho, hh, h1, h2, h3, h4⟩
  · simp at e
  · obtain ⟨e1, -, rfl⟩ := Value.slice.inj e
    obtain ⟨rfl, rfl⟩ : b = b' ∧ off = off' := by simpa using e1
    exact .inr ⟨b, off, 0, cs, rfl, ho, hh, by omega, by omega, by omega, by simp⟩

/-- One cell written anew. -/
theorem Row.set {w : World} {E : TypeId} {size n : Nat} {b off cap : Nat} {o : Option Nat} {xs : List Value} (h : Row w E size (.slice (some ⟨b, off, none⟩) n cap) o n xs) {j : Nat} (hj : j < n * size) (u : Value) :
    Row (w.setCell ⟨b, off + j, none⟩ u) E size (.slice (some ⟨b, off, none⟩) n cap) o n (xs.set j u) := by
  refine ⟨by rw [List.length_set, h.len], ?_⟩
  rcases h.is with ⟨e, _⟩ | ⟨b', off', cap', cs, e, ho, hh, h1, h2, h3, h4⟩
  · simp at e
  · obtain ⟨e1, -, rfl⟩ := Value.slice.inj e
    obtain ⟨rfl, rfl⟩ : b = b' ∧ off = off' := by simpa using e1
    refine .inr ⟨b, off, cap, cs.setIfInBounds (off + j) u, rfl, ho, ?_, h1, h2, by simpa using h3, ?_⟩
    · simp only [World.setCell, Array.getElem?_modify, hh]; simp
    · rw [← h4, Array.toList_setIfInBounds, List.drop_set, if_neg (by omega), Nat.add_sub_cancel_left, List.take_set]

theorem Row.new (w : World) (E : TypeId) (size n : Nat) (cs : List Value) (h : cs.length = n * size) (hn : n ≤ maxLen) : Row (w.alloc (.cells cs.toArray E)) E size (.slice (some ⟨w.heap.size, 0, none⟩) n n) (some w.heap.size) n cs :=
  ⟨h, .inr ⟨w.heap.size, 0, n, cs.toArray, rfl, rfl, (Blk.new w _ E).out, Nat.le_refl _, hn, by simp [h], by simp [← h]⟩⟩

theorem Row.new' (w : World) (E : TypeId) (size n : Nat) (cs : List Value) (h : cs.length = n * size) (hn : n ≤ maxLen) {b : Nat} (hb : w.heap.size = b) : Row (w.alloc (.cells cs.toArray E)) E size (.slice (some ⟨b, 0, none⟩) n n) (some b) n cs :=
  hb ▸ Row.new w E size n cs h hn

end Go.Proofs.YtpfpbbbenjljfaaDoor
