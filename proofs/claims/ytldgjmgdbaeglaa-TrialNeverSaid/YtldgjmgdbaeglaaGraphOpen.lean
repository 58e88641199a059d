/- A graph that came in, opened: its nodes, each with what it points to, and its roots. -/
import Derived.Test.YtldgjmgdbaeglaaReads
import Derived.Test.YtldgjmgdbaeglaaOwn
import Derived.Deep.SlicePairs
set_option linter.unusedVariables false
set_option linter.unusedSimpArgs false
namespace Go.Proofs.Ytldgjmgdbaeglaa
open Go.RowKit Go.ChangeShapes Go.WideShapes Go.Deep

/-- A slice of numbers that came in. -/
structure Nums (w : World) (a : Option Addr) (n : Nat) (l : List Int) : Prop where
  len : l.length = n
  at_ : ∀ j, j < n → ∃ b off, a = some ⟨b, off, none⟩ ∧ b < w.heap.size ∧ w.cell? ⟨b, off + j, none⟩ = some (.int .i64 (nthI l j))

theorem Nums.but {w w' : World} {a : Option Addr} {n : Nat} {l : List Int} (h : Nums w a n l) {S : Nat → Prop} (hb : But S w w') (hs : ∀ b, b < w.heap.size → ¬ S b) : Nums w' a n l :=
  ⟨h.len, fun j hj => by
    obtain ⟨b, off, e, hlt, hc⟩ := h.at_ j hj
    exact ⟨b, off, e, Nat.lt_of_lt_of_le hlt hb.size, by rw [← hc]; exact World.cell?_of_block (w := w) (hb.block b hlt (hs b hlt))⟩⟩
theorem Nums.keep {w w' : World} {a : Option Addr} {n : Nat} {l : List Int} (h : Nums w a n l) (hb : But (fun _ => False) w w') : Nums w' a n l := h.but hb (fun _ _ q => q)

theorem Row.nums {w : World} {a : Option Addr} {n cap : Nat} {o : Option Nat} {l : List Int} (h : Row w 3 1 (.slice a n cap) o n (ints l)) : Nums w a n l := by
  have hl : l.length = n := by have := h.len; simp [ints] at this; exact this
  refine ⟨hl, fun j hj => ?_⟩
  obtain ⟨b, off, e, -, hlt, hc, -, -⟩ := row_nth h hj
  exact ⟨b, off, e, hlt, hc⟩

/-- A node: its number, and what it points to. -/
structure Nd where
  id : Int
  out : List Int
def nd (l : List Nd) (i : Nat) : Nd := l.getD i ⟨0, []⟩
/-- Nodes that came in. -/
structure Nodes (w : World) (a : Option Addr) (n : Nat) (l : List Nd) : Prop where
  len : l.length = n
  at_ : ∀ i, i < n → ∃ b off oa on oc, a = some ⟨b, off, none⟩ ∧ b < w.heap.size ∧ w.cell? ⟨b, off + i * 2, none⟩ = some (.int .i64 (nd l i).id) ∧ w.cell? ⟨b, off + i * 2 + 1, none⟩ = some (.slice oa on oc) ∧ on ≤ oc ∧ oc ≤ maxLen ∧ Nums w oa on (nd l i).out
theorem Nodes.keep {w w' : World} {a : Option Addr} {n : Nat} {l : List Nd} (h : Nodes w a n l) (hb : But (fun _ => False) w w') : Nodes w' a n l :=
  ⟨h.len, fun i hi => by
    obtain ⟨b, off, oa, on, oc, e, hlt, h1, h2, h3, h4, h5⟩ := h.at_ i hi
    have hk := hb.block b hlt (fun q => q)
    exact ⟨b, off, oa, on, oc, e, Nat.lt_of_lt_of_le hlt hb.size, by rw [← h1]; exact World.cell?_of_block (w := w) hk, by rw [← h2]; exact World.cell?_of_block (w := w) hk, h3, h4, h5.keep hb⟩⟩

/-- An address whose cell can be read is plain. -/
theorem plain_addr {w : World} {x : Addr} {v : Value} (h : w.cell? x = some v) : ∃ b off, x = ⟨b, off, none⟩ ∧ b < w.heap.size := by
  obtain ⟨b, off, sp⟩ := x
  have hsp : sp = none := by
    unfold World.cell? at h
    split at h
    · cases sp with
      | none => rfl
      | some q => simp at h
    · simp at h
  subst hsp
  refine ⟨b, off, rfl, ?_⟩
  unfold World.cell? at h
  split at h
  · rename_i hb; exact (Array.getElem?_eq_some_iff.1 hb).1
  · simp at h

theorem open_nums {H : Type} {enc : TypeId × Value → H} {w : World} {fuel : Nat} {v : Value} {x : DataW H × List MemPlace}
    (h : DataW.trod enc Try.prog w 0 (fun _ => true) true fuel 43 [v] = some x) : ∃ a n cap l, v = .slice a n cap ∧ n ≤ cap ∧ cap ≤ maxLen ∧ Nums w a n l := by
  rcases open_slice1 Try.underlying43 (by kernel_rfl) h with ⟨hcs, _⟩ | ⟨a, n, cap, m, n', V, D, Pl, hcs, _, hl, hm, hmm, -, hall⟩
  · simp at hcs; subst hcs
    exact ⟨none, 0, 0, [], rfl, Nat.le_refl _, Nat.zero_le _, rfl, fun j hj => absurd hj (Nat.not_lt_zero j)⟩
  · simp at hcs; subst hcs
    simp at hmm; subst hmm
    have each : ∀ j, j < n → ∃ y : Int, w.cell? (a.add j) = some (.int .i64 y) ∧ -9223372036854775808 ≤ y ∧ y ≤ 9223372036854775807 := by
      intro j hj
      obtain ⟨h1, h2⟩ := hall j (by omega)
      obtain ⟨y, e, _, wf⟩ := DataW.trod_int Try.underlying3 h2
      simp at e
      exact ⟨y, by rw [h1, e], bounds_i64 wf⟩
    obtain ⟨F, hF⟩ := choose_lt each
    have nth : ∀ j, j < n → nthI ((List.range n).map F) j = F j := fun j hj => by
      unfold nthI; rw [List.getD_eq_getElem?_getD, List.getElem?_map, List.getElem?_range hj]; rfl
    refine ⟨some a, n, _, (List.range n).map F, rfl, hl, hm, by simp, fun j hj => ?_⟩
    have h0 := (hF 0 (by omega)).1
    have ha0 : a.add 0 = a := by simp [Addr.add]
    rw [ha0] at h0
    obtain ⟨b, off, rfl, hlt⟩ := plain_addr h0
    refine ⟨b, off, rfl, hlt, ?_⟩
    rw [nth j hj, ← (hF j hj).1]
    congr 1
    unfold Addr.add; split
    · simp_all
    · rfl

theorem open_nodes {H : Type} {enc : TypeId × Value → H} {w : World} {fuel : Nat} {v : Value} {x : DataW H × List MemPlace}
    (h : DataW.trod enc Try.prog w 0 (fun _ => true) true fuel 45 [v] = some x) : ∃ a n cap l, v = .slice a n cap ∧ n ≤ cap ∧ cap ≤ maxLen ∧ Nodes w a n l ∧ (n = 0 ∨ ∃ e s, x.1 = .slice e s ∧ n ≤ e.length) := by
  rcases open_slice_pairs Try.underlying45 Try.underlying54 (by kernel_rfl) rfl rfl (by kernel_rfl) (by kernel_rfl) h with ⟨hcs, _⟩ | ⟨a, n, cap, m, n', V0, V1, D0, D1, P0, P1, hcs, _, hl, hm, hmm, hxx, hall⟩
  · simp at hcs; subst hcs
    exact ⟨none, 0, 0, [], rfl, Nat.le_refl _, Nat.zero_le _, ⟨rfl, fun j hj => absurd hj (Nat.not_lt_zero j)⟩, .inl rfl⟩
  · simp at hcs; subst hcs
    simp at hmm; subst hmm
    have each : ∀ i, i < n → ∃ q : Nd × Option Addr × Nat × Nat, w.cell? (a.add (i * 2)) = some (.int .i64 q.1.id) ∧ w.cell? (a.add (i * 2 + 1)) = some (.slice q.2.1 q.2.2.1 q.2.2.2) ∧ q.2.2.1 ≤ q.2.2.2 ∧ q.2.2.2 ≤ maxLen ∧ Nums w q.2.1 q.2.2.1 q.1.out ∧
        -9223372036854775808 ≤ q.1.id ∧ q.1.id ≤ 9223372036854775807 := by
      intro i hi
      obtain ⟨h1, h2, h3, h4⟩ := hall i (by omega)
      obtain ⟨y, e, _, wf⟩ := DataW.trod_int Try.underlying3 h3
      simp at e
      obtain ⟨oa, on, oc, l, e2, g1, g2, g3⟩ := open_nums h4
      exact ⟨⟨⟨y, l⟩, oa, on, oc⟩, by rw [h1, e], by rw [h2, e2], g1, g2, g3, bounds_i64 wf⟩
    haveI : Inhabited Nd := ⟨⟨0, []⟩⟩
    obtain ⟨F, hF⟩ := choose_lt each
    have nth : ∀ j, j < n → nd ((List.range n).map (fun i => (F i).1)) j = (F j).1 := fun j hj => by
      unfold nd; rw [List.getD_eq_getElem?_getD, List.getElem?_map, List.getElem?_range hj]; rfl
    refine ⟨some a, n, _, (List.range n).map (fun i => (F i).1), rfl, hl, hm, ⟨by simp, fun j hj => ?_⟩, .inr ⟨_, _, by rw [hxx], by simp⟩⟩
    have h0 := (hF 0 (by omega)).1
    have ha0 : a.add (0 * 2) = a := by simp [Addr.add]
    rw [ha0] at h0
    obtain ⟨b, off, rfl, hlt⟩ := plain_addr h0
    obtain ⟨q1, q2, q3, q4, q5, -⟩ := hF j hj
    have ea : ∀ k, (⟨b, off, none⟩ : Addr).add k = ⟨b, off + k, none⟩ := fun k => by
      unfold Addr.add; split
      · simp_all
      · rfl
    rw [ea] at q1 q2
    rw [nth j hj]
    exact ⟨b, off, _, _, _, rfl, hlt, q1, by rw [Nat.add_assoc]; exact q2, q3, q4, q5⟩

/-- A graph by value. -/
theorem open_graph {H : Type} {enc : TypeId × Value → H} {w : World} {cs : Array Value} {d : DataW H} {ps : List MemPlace}
    (h : DataW.Trod enc Try.prog w 0 (fun _ => true) true 47 (.agg cs) d ps) :
    ∃ a n cap l ra rn rc R, cs = #[.slice a n cap, .slice ra rn rc] ∧ (n ≤ cap ∧ cap ≤ maxLen ∧ Nodes w a n l) ∧ (rn ≤ rc ∧ rc ≤ maxLen ∧ Nums w ra rn R) ∧ ((∀ m ∈ d.weights Try.prog 47, m ≤ 140737488351232) → n * 32 ≤ 140737488351232) := by
  obtain ⟨fuel, h⟩ := h
  obtain ⟨y0, y1, m, hd, hlen, h0, h1⟩ := trod_struct2 Try.underlying47 h
  have hl2 : Try.prog.cellsOf 47 = 2 := by kernel_rfl
  rw [hl2] at hlen
  obtain ⟨v0, v1, e⟩ : ∃ v0 v1, cs.toList = [v0, v1] := by
    match hq : cs.toList, hlen with
    | [v0, v1], _ => exact ⟨v0, v1, rfl⟩
  have hc0 : Try.prog.cellsOf 45 = 1 := by kernel_rfl
  have hc1 : Try.prog.cellsOf 43 = 1 := by kernel_rfl
  have e2 : (Value.agg cs).cells.toList = [v0, v1] := e
  rw [e2] at h0 h1
  obtain ⟨a, n, cap, l, rfl, g1, g2, g3, g4⟩ := open_nodes (v := v0) (by simpa [hc0] using h0)
  obtain ⟨ra, rn, rc, R, rfl, k1, k2, k3⟩ := open_nums (v := v1) (by simpa [hc1] using h1)
  refine ⟨a, n, cap, l, ra, rn, rc, R, Array.ext' e, ⟨g1, g2, g3⟩, ⟨k1, k2, k3⟩, fun hw => ?_⟩
  rcases g4 with rfl | ⟨el, sp, he, hle⟩
  · exact Nat.zero_le _
  · have hb : Try.prog.bytesOf 54 = 32 := by kernel_rfl
    have e3 : d = .agg [y0.1, y1.1] := by have := congrArg Prod.fst hd; exact this
    have := hw ((el.length + sp.length) * Try.prog.bytesOf 54) (by
      rw [e3, he]
      simp only [DataW.weights, Try.underlying47]
      show _ ∈ DataW.weightsEach Try.prog [45, 43] [DataW.slice el sp, y1.1]
      simp only [DataW.weightsEach, DataW.weights, Try.underlying45]
      simp)
    rw [hb] at this
    omega

end Go.Proofs.Ytldgjmgdbaeglaa
