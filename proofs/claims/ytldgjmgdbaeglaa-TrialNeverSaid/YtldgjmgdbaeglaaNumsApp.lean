/- 'append(s, x...)' where x is a slice of numbers that came in. -/
import Derived.Test.YtldgjmgdbaeglaaGraphOpen
import Derived.Test.YtldgjmgdbaeglaaAppend
set_option linter.unusedVariables false
set_option linter.unusedSimpArgs false
namespace Go.Proofs.Ytldgjmgdbaeglaa
open Go.RowKit

theorem Nums.src {w : World} {b off n : Nat} {xs : List Int} (h : Nums w (some ⟨b, off, none⟩) n xs) : ∀ j u, (ints xs)[j]? = some u → w.cell? ((⟨b, off, none⟩ : Addr).add j) = some u := fun j u hj => by
  have hj' : j < n := by have := (List.getElem?_eq_some_iff.1 hj).1; rw [ints_length, h.len] at this; omega
  obtain ⟨b2, off2, e, hlt, hcell⟩ := h.at_ j hj'
  simp at e
  obtain ⟨rfl, rfl⟩ := e
  rw [Addr.add_lit, hcell, ← hj, nthI_get (by rw [h.len]; exact hj')]

/-- Such an append: some value that has the old ones, and the new ones. -/
theorem wpList_append_nums (w : World) {ops : Array Oper} {rest : List Oper} {o : Oper} {a : Act} {Q : Exit → Act → World → Prop}
    (hg : o.guard = none) (s x : Operand) (hop : o.op = Op.call { callee := Callee.builtin Builtin.append, args := #[s, x], argTypes := #[43, 43] })
    (v : Value) (ob : Option Nat) (n : Nat) (olds : List Value) (hR : Row w 3 1 v ob n olds) (hs : a.eval s = v)
    (xa : Option Addr) (m c : Nat) (xs : List Int) (hx : a.eval x = .slice xa m c) (hN : Nums w xa m xs)
    (b1 : n + m ≤ 1000000000000)
    (hK : ∀ v' w' ob', Row w' 3 1 v' ob' (n + m) (olds ++ ints xs) → But (fun k => ob = some k) w w' → (∀ k, ob' = some k → ob = some k ∨ w.heap.size ≤ k) → wpList Try.prog ops Q rest (a.put o.dst v') w') :
    wpList Try.prog ops Q (o :: rest) a w := by
  obtain ⟨i0, hi, hz0, hz1, hz2⟩ := info_parts infoInt
  have hmx : n + m ≤ maxLen := by unfold maxLen; omega
  by_cases hm : 0 < m
  · obtain ⟨b, off, rfl, -, -⟩ := hN.at_ 0 hm
    exact wpList_append_row w hg s x _ hop 3 i0 (.int .i64 0) 1 8 Try.underlying43 hi hz0 hz1 hz2 rfl (by decide) v ob n olds hR hs ⟨b, off, none⟩ m c (ints xs) hx (by rw [ints_length, hN.len]) hN.src oneCell_ints hmx (by omega) hK
  · obtain rfl : m = 0 := by omega
    have hxs : xs = [] := List.eq_nil_of_length_eq_zero hN.len
    subst hxs
    obtain ⟨av, acap, rfl, hac, -⟩ := hR.val
    refine wpList_plain hg fun K hK' => ?_
    have hrun := run_append_none (P := Try.prog) w 43 o.type 3 i0 Try.underlying43 hi av n acap hac xa c
    unfold Oper.wp
    simp [execOp, hop, resolve, invoke, builtin, hs, hx, hrun, Result.andThen]
    exact hK' _ _ (hK _ _ ob (by simpa [ints] using hR) (But.refl _ _) (fun k hk => .inl hk))

end Go.Proofs.Ytldgjmgdbaeglaa
