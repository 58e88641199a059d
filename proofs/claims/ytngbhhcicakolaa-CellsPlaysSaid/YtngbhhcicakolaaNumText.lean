/- strconv.FormatUint at base 10, walked: the numeral. -/
import Derived.Test.YtngbhhcicakolaaShelfNum
import Derived.Test.YtngbhhcicakolaaWords
import Derived.Lib.Walk
import Derived.Lib.ItoaMem
import Derived.IntWalk
set_option linter.unusedVariables false
set_option linter.unusedSimpArgs false
namespace Go.Proofs.Ytngbhhcicakolaa
open Go.RowKit Go.Sort Go.Lib

/-- The table of powers of ten is there. -/
def Tens (w : World) : Prop := Lib.TabIs Try.prog w "internal/strconv.uint64pow10" .u64 Lib.pow10Tab
theorem Tens.keep {w w' : World} (h : Tens w) (g : But (fun _ => False) w w') : Tens w' := by
  unfold Tens Lib.TabIs World.var? at *
  cases hg : Program.globalNamed Try.prog "internal/strconv.uint64pow10" with
  | none => simp [hg] at h
  | some k =>
    simp only [hg, Option.bind_some] at h ⊢
    have hlt : k < w.heap.size := by
      rcases Nat.lt_or_ge k w.heap.size with h' | h'
      · exact h'
      · rw [Array.getElem?_eq_none h'] at h; simp at h
    rw [g.block k hlt (fun q => q)]
    exact h

theorem but_grow {w w' : World} {k : Nat} {os : Array Obj} (h : w' = grow (w.drewN k) os) : But (fun _ => False) w w' := by
  subst h
  refine ⟨rfl, rfl, rfl, ?_, fun i hi _ => ?_⟩
  · show w.heap.size ≤ (w.heap ++ os).size
    simp
  · show (w.heap ++ os)[i]? = _
    rw [Array.getElem?_append_left hi]

end Go.Proofs.Ytngbhhcicakolaa
