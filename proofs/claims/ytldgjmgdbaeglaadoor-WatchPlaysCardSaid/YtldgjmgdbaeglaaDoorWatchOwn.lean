/- The law WatchOwn of layer 23, walked: it answers true. -/
import Derived.Test.YtldgjmgdbaeglaaDoorWatchAlive
import Derived.Test.YtldgjmgdbaeglaaDoorWordLaws
import Derived.StillTailTactics
set_option linter.unusedVariables false
set_option linter.unusedSimpArgs false
namespace Go.Proofs.YtldgjmgdbaeglaaDoor
open Go.RowKit Go.ChangeShapes Go.WideShapes Go.Deep

namespace Watch

/-- What came, as it lies in the argument. -/
structure Src (w : World) (a : Option Addr) (n : Nat) (l : List Nt) : Prop where
  len : l.length = n
  at_ : ∀ i, i < n → ∃ b off, a = some ⟨b, off, none⟩ ∧ b < w.heap.size ∧ w.cell? ⟨b, off + i * 4, none⟩ = some (.int .i64 (nthN l i).t) ∧ w.cell? ⟨b, off + i * 4 + 1, none⟩ = some (.int .i64 (nthN l i).a.e) ∧
    w.cell? ⟨b, off + i * 4 + 2, none⟩ = some (.int .i64 (nthN l i).a.k) ∧ w.cell? ⟨b, off + i * 4 + 3, none⟩ = some (.int .u64 (nthN l i).a.n)
theorem Src.keep {w w' : World} {a : Option Addr} {n : Nat} {l : List Nt} (h : Src w a n l) (g : But (fun _ => False) w w') : Src w' a n l :=
  ⟨h.len, fun i hi => by
    obtain ⟨b, off, e, hlt, c0, c1, c2, c3⟩ := h.at_ i hi
    have q : ∀ j, w'.cell? ⟨b, j, none⟩ = w.cell? ⟨b, j, none⟩ := fun j => World.cell?_of_block (w := w) (g.block b hlt (fun q => q))
    exact ⟨b, off, e, Nat.lt_of_lt_of_le hlt g.size, by rw [q]; exact c0, by rw [q]; exact c1, by rw [q]; exact c2, by rw [q]; exact c3⟩⟩
theorem open_one {cs : List Value} (h : All2 [.i .i64, .i .i64, .i .i64, .i .u64] cs) : ∃ x : Nt, cs = encN x ∧ x.a.ok := by
  obtain ⟨v0, r0, e0, ⟨t, rfl, ht⟩, h1⟩ := all2_cons h
  obtain ⟨v1, r1, e1, ⟨e, rfl, he⟩, h2⟩ := all2_cons h1
  obtain ⟨v2, r2, e2, ⟨k, rfl, hk⟩, h3⟩ := all2_cons h2
  obtain ⟨v3, r3, e3, ⟨n, rfl, hn⟩, h4⟩ := all2_cons h3
  have := all2_nil h4
  subst this; subst e3; subst e2; subst e1
  exact ⟨⟨t, ⟨e, k, n⟩⟩, e0, bounds_u64 hn⟩
theorem open_src {w : World} {a : Option Addr} {n : Nat} {V : Nat → Nat → Value} (h : Els w a n 4 V) (f : ∀ i, i < n → All2 [.i .i64, .i .i64, .i .i64, .i .u64] ((List.range 4).map (V i))) : ∃ l, Src w a n l ∧ AllOk l := by
  have key : ∀ m, m ≤ n → ∃ l : List Nt, l.length = m ∧ AllOk l ∧ ∀ i, i < m → V i 0 = .int .i64 (nthN l i).t ∧ V i 1 = .int .i64 (nthN l i).a.e ∧ V i 2 = .int .i64 (nthN l i).a.k ∧ V i 3 = .int .u64 (nthN l i).a.n := by
    intro m
    induction m with
    | zero => intro _; exact ⟨[], rfl, (fun x hx => by cases hx), fun i hi => by omega⟩
    | succ m ih =>
      intro hm
      obtain ⟨l, hl, ho, hc⟩ := ih (by omega)
      obtain ⟨x, hx, hxo⟩ := open_one (f m (by omega))
      have hx2 : [V m 0, V m 1, V m 2, V m 3] = encN x := hx
      unfold encN at hx2
      simp only [List.cons.injEq, and_true] at hx2
      refine ⟨l ++ [x], by simp [hl], ?_, fun i hi => ?_⟩
      · intro y hy
        rcases List.mem_append.1 hy with q | q
        · exact ho y q
        · simp at q; subst q; exact hxo
      · by_cases hlt : i < m
        · have : nthN (l ++ [x]) i = nthN l i := by
            unfold nthN
            rw [List.getD_eq_getElem?_getD, List.getD_eq_getElem?_getD, List.getElem?_append_left (by omega)]
          rw [this]; exact hc i hlt
        · have hi2 : i = m := by omega
          subst hi2
          have : nthN (l ++ [x]) i = x := by
            unfold nthN
            rw [List.getD_eq_getElem?_getD, List.getElem?_append_right (by omega)]
            simp [hl]
          rw [this]; exact hx2
  obtain ⟨l, hl, ho, hc⟩ := key n (Nat.le_refl _)
  refine ⟨l, ⟨hl, fun i hi => ?_⟩, ho⟩
  obtain ⟨b, off, e, hlt, hcell⟩ := h.at_ i hi
  obtain ⟨q0, q1, q2, q3⟩ := hc i hi
  have p0 := hcell 0 (by omega)
  have p1 := hcell 1 (by omega)
  have p2 := hcell 2 (by omega)
  have p3 := hcell 3 (by omega)
  rw [q0] at p0; rw [q1] at p1; rw [q2] at p2; rw [q3] at p3
  exact ⟨b, off, e, hlt, p0, p1, p2, p3⟩

/-- What was noted behind so many. -/
def nA (T : Int) (l : List Nt) : Nat → List Nt
  | 0 => []
  | j + 1 => note T (nA T l j) (nthN l j)
def nB (T t : Int) (l : List Nt) : Nat → List Nt
  | 0 => []
  | j + 1 => if (nthN l j).t = t then note T (nB T t l j) (nthN l j) else nB T t l j
theorem note_len (T : Int) (H : List Nt) (x : Nt) : ((note T H x).length : Int) = H.length + (if noteE T x = 0 then 1 else 0) := by
  unfold note noteE
  cases may T x <;> simp
theorem note_le (T : Int) (H : List Nt) (x : Nt) : (note T H x).length ≤ H.length + 1 := by
  unfold note
  split <;> simp
theorem nA_le (T : Int) (l : List Nt) : ∀ j, (nA T l j).length ≤ j
  | 0 => Nat.le_refl _
  | j + 1 => Nat.le_trans (note_le T _ _) (Nat.succ_le_succ (nA_le T l j))
theorem nB_le (T t : Int) (l : List Nt) : ∀ j, (nB T t l j).length ≤ j
  | 0 => Nat.le_refl _
  | j + 1 => by
    have := nB_le T t l j
    unfold nB
    split
    · exact Nat.le_trans (note_le T _ _) (by omega)
    · omega
theorem nB_is (T t : Int) (l : List Nt) : ∀ j, nB T t l j = (nA T l j).filter (fun x => decide (x.t = t))
  | 0 => rfl
  | j + 1 => by
    have ih := nB_is T t l j
    unfold nB nA
    rw [ih]
    unfold note
    by_cases h : (nthN l j).t = t
    · rw [if_pos h]
      split <;> simp [h]
    · rw [if_neg h]
      split <;> simp [h]
theorem own_log (T t : Int) (l : List Nt) (j : Nat) : logOf (nB T t l j) t = logOf (nA T l j) t := by
  rw [nB_is]
  unfold logOf
  rw [List.filter_filter]
  simp
theorem own_len (T t : Int) (l : List Nt) (j : Nat) : (logOf (nB T t l j) t).length = (nB T t l j).length := by
  rw [nB_is]
  unfold logOf
  rw [List.filter_filter, List.length_map]
  simp

end Watch
end Go.Proofs.YtldgjmgdbaeglaaDoor
