/- 'append(s, x...)' onto a row of its own: at a step of a region that draws its order, and at one operation. -/
import Derived.Test.YtpfpbbbenjljfaaDoorRow
import Derived.Deep.RegionLaw
set_option linter.unusedVariables false
set_option linter.unusedSimpArgs false
namespace Go.Proofs.YtpfpbbbenjljfaaDoor
open Go.RowKit

theorem new_src (w : World) (cs : List Value) (T : TypeId) : ∀ j u, cs[j]? = some u → (w.alloc (.cells cs.toArray T)).cell? ((⟨w.heap.size, 0, none⟩ : Addr).add j) = some u := fun j u h => by
  have e : (⟨w.heap.size, 0, none⟩ : Addr).add j = ⟨w.heap.size, j, none⟩ := by unfold Addr.add; split <;> simp_all
  rw [e, (Blk.new w cs.toArray T).cell]; simpa using h
theorem new_src' (w : World) (cs : List Value) (T : TypeId) {b : Nat} (hb : w.heap.size = b) : ∀ j u, cs[j]? = some u → (w.alloc (.cells cs.toArray T)).cell? ((⟨b, 0, none⟩ : Addr).add j) = some u := hb ▸ new_src w cs T
theorem row_src {w : World} {E : TypeId} {size b off n cap : Nat} {o : Option Nat} {xs : List Value} (h : Row w E size (.slice (some ⟨b, off, none⟩) n cap) o n xs) : ∀ j u, xs[j]? = some u → w.cell? ((⟨b, off, none⟩ : Addr).add j) = some u := fun j u hj => by
  have hlt : j < n * size := by have := (List.getElem?_eq_some_iff.1 hj).1; rw [h.len] at this; exact this
  obtain ⟨b', off', cap', e, -, -, -, hc, -⟩ := h.cells (by omega)
  simp at e
  obtain ⟨⟨rfl, rfl⟩, rfl⟩ := e
  have e : (⟨b, off, none⟩ : Addr).add j = ⟨b, off + j, none⟩ := by unfold Addr.add; split <;> simp_all
  rw [e, hc j hlt, hj]

theorem run_append_row {P : Program} (w : World) (t ty : TypeId)
    (e : TypeId) (i : TypeInfo) (z : Value) (size bytes : Nat) (h1 : P.underlying t = some (.slice e)) (h2 : P.info? e = some i) (h3 : i.zero = some z) (h4 : i.size = size) (h5 : i.bytes = bytes) (h6 : z.cells.size = size) (h7 : 0 < size)
    (v : Value) (ob : Option Nat) (n : Nat) (olds : List Value) (hR : Row w e size v ob n olds)
    (ad : Addr) (m c : Nat) (news : List Value) (hn : news.length = m * size) (hc : ∀ j u, news[j]? = some u → w.cell? (ad.add j) = some u) (h1c : ∀ u ∈ news, u.oneCell' = true)
    (b1 : n + m ≤ maxLen) (b2 : (n + m) * bytes ≤ 140737488355328) :
    ∃ v' w' ob', (Builtin.append_ #[t, t] ty #[v, .slice (some ad) m c]).run P w = .ok v' w' ∧ Row w' e size v' ob' (n + m) (olds ++ news) ∧ But (fun k => ob = some k) w w' ∧ (∀ k, ob' = some k → ob = some k ∨ w.heap.size ≤ k) := by
  have fin : ∀ v' w', (Builtin.append_ #[t, t] ty #[v, .slice (some ad) m c]).run P w = .ok v' w' → w'.ownsRow w.heap.size e size v' (n + m) (olds ++ news) → w.grownBy w' none →
      ∃ v' w' ob', (Builtin.append_ #[t, t] ty #[v, .slice (some ad) m c]).run P w = .ok v' w' ∧ Row w' e size v' ob' (n + m) (olds ++ news) ∧ But (fun k => ob = some k) w w' ∧ (∀ k, ob' = some k → ob = some k ∨ w.heap.size ≤ k) := fun v' w' hr r1 r2 => by
    obtain ⟨ob', hrow, hb⟩ := Row.of_owns r1
    exact ⟨v', w', ob', hr, hrow, (But.refl _ _).grown r2 (fun k hk => by cases hk), fun k hk => .inr (hb k hk)⟩
  rcases hR.is with ⟨rfl, rfl, rfl⟩ | ⟨b, off, cap, cs, rfl, rfl, hh, g1, g2, g3, g4⟩
  · have ho : olds = [] := List.eq_nil_of_length_eq_zero (by simpa using hR.len)
    subst ho
    obtain ⟨v', w', hrun, r1, r2, _⟩ := run_append_own (P := P) w w.heap.size t ty e i z size bytes h1 h2 h3 h4 h5 h6 h7 (.slice none 0 0) 0 [] (World.ownsRow_nil w _ e size) ad m c news hn hc h1c b1 b2 (Nat.le_refl _)
    exact fin v' w' hrun r1 r2
  · have hold : ∀ j u, olds[j]? = some u → w.cell? ((⟨b, off, none⟩ : Addr).add j) = some u := fun j u hj => by
      have hj' : j < n * size := by
        have := (List.getElem?_eq_some_iff.1 hj).1; rw [hR.len] at this; exact this
      rw [Addr.add_lit, ← hj, ← g4, List.getElem?_take, if_pos hj', List.getElem?_drop]
      simp [World.cell?, hh]
    by_cases hr : n + m ≤ cap
    · have hcap : n * size + m * size ≤ cap * size := by rw [← Nat.add_mul]; exact Nat.mul_le_mul_right _ hr
      subst h4
      have hrun := run_append_room_cells (P := P) w t ty e i h1 h2 b off n cap ad m c news hn hc h1c hr (fun j hj => by
          have hb : off + n * i.size + j < cs.size := by omega
          simp [World.cell?, hh, hb]) (fun j hj => by simp [World.frozen?, hh])
      obtain ⟨cs', h8, h9⟩ := heap_setCells_same b e news (off + n * i.size) w cs hh (by omega)
      refine ⟨_, _, some b, hrun, ⟨by rw [List.length_append, hR.len, hn, Nat.add_mul], .inr ⟨b, off, cap, cs', rfl, rfl, h8, hr, g2, ?_, ?_⟩⟩, ((But.refl (fun k => some b = some k) w).setCells (b := b) (.inl rfl) (off + n * i.size) news), (fun k hk => .inl hk)⟩
      · have : cs'.toList.length = cs.toList.length := by rw [h9, putAt_length (by simp; omega)]
        simp at this; omega
      · rw [h9, Nat.add_mul, ← hn]
        exact take_putAt (by simp; omega) g4
    · obtain ⟨v', w', hrun, r1, r2⟩ := run_append_arg_grows (P := P) w t ty e i z size bytes h1 h2 h3 h4 h5 h6 h7 ⟨b, off, none⟩ n cap olds hR.len hold ad m c news hn hc (by omega) b1 b2
      exact fin v' w' hrun r1 r2

/-- .. as one step of a region that draws. -/
theorem step_append_row {P : Program} {ops : Array Oper} {o : Oper} {a : Act} {w : World} {K : Act → World → Prop} {Q : Exit → Act → World → Prop} {E : Prop}
    (hg : Region.wanted o (yielded ops a.tmps) = true) (s x : Operand) (t : TypeId) (hop : o.op = Op.call { callee := Callee.builtin Builtin.append, args := #[s, x], argTypes := #[t, t] })
    (e : TypeId) (i : TypeInfo) (z : Value) (size bytes : Nat) (h1 : P.underlying t = some (.slice e)) (h2 : P.info? e = some i) (h3 : i.zero = some z) (h4 : i.size = size) (h5 : i.bytes = bytes) (h6 : z.cells.size = size) (h7 : 0 < size)
    (v : Value) (ob : Option Nat) (n : Nat) (olds : List Value) (hR : Row w e size v ob n olds) (hs : a.eval s = v)
    (ad : Addr) (m c : Nat) (news : List Value) (hx : a.eval x = .slice (some ad) m c) (hn : news.length = m * size) (hc : ∀ j u, news[j]? = some u → w.cell? (ad.add j) = some u) (h1c : ∀ u ∈ news, u.oneCell' = true)
    (b1 : n + m ≤ maxLen) (b2 : (n + m) * bytes ≤ 140737488355328)
    (hK : ∀ v' w' ob', Row w' e size v' ob' (n + m) (olds ++ news) → But (fun k => ob = some k) w w' → (∀ k, ob' = some k → ob = some k ∨ w.heap.size ≤ k) → K (a.put o.dst v') w') :
    if Region.wanted o (yielded ops a.tmps) = true then Oper.wp P o a w K Q else E := by
  rw [if_pos hg]
  obtain ⟨v', w', ob', hrun, r1, r2, r3⟩ := run_append_row (P := P) w t o.type e i z size bytes h1 h2 h3 h4 h5 h6 h7 v ob n olds hR ad m c news hn hc h1c b1 b2
  unfold Oper.wp
  simp [execOp, hop, resolve, invoke, builtin, hs, hx, hrun, Result.andThen]
  exact hK v' w' ob' r1 r2 r3

/-- .. where x has no elements (a slice that is nil, or none of whose elements is left): s itself. -/
theorem run_append_none {P : Program} (w : World) (t ty : TypeId) (e : TypeId) (i : TypeInfo) (h1 : P.underlying t = some (.slice e)) (h2 : P.info? e = some i) (ao : Option Addr) (n cap : Nat) (hcap : n ≤ cap) (xa : Option Addr) (xc : Nat) :
    (Builtin.append_ #[t, t] ty #[.slice ao n cap, .slice xa 0 xc]).run P w = .ok (.slice ao n cap) w := by
  cases ao <;> cases xa <;> simp [Builtin.append_, run_underlying h1, sizeOf, typeInfo, h2, Builtin.lenOf, hcap, Builtin.firstCells, storeCells, loadCells, loadCellsFrom]

end Go.Proofs.YtpfpbbbenjljfaaDoor
