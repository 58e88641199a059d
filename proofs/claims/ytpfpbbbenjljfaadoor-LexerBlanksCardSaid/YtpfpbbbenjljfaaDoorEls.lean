/- Words for arguments: a slice whose elements are rows of cells. -/
import Derived.Test.YtpfpbbbenjljfaaDoorWords
set_option linter.unusedVariables false
set_option linter.unusedSimpArgs false
namespace Go.Proofs.YtpfpbbbenjljfaaDoor
open Go.RowKit

/-- A slice whose elements are rows of cells: element i's cell j is V i j. -/
structure Els (w : World) (a : Option Addr) (len size : Nat) (V : Nat → Nat → Value) : Prop where
  at_ : ∀ i, i < len → ∃ b off, a = some ⟨b, off, none⟩ ∧ b < w.heap.size ∧ ∀ j, j < size → w.cell? ⟨b, off + (i * size + j), none⟩ = some (V i j)

theorem Els.but {w w' : World} {a : Option Addr} {len size : Nat} {V : Nat → Nat → Value} (h : Els w a len size V) {S : Nat → Prop} (hb : But S w w') (hs : ∀ b, b < w.heap.size → ¬ S b) : Els w' a len size V :=
  ⟨fun i hi => by
    obtain ⟨b, off, e, hlt, hc⟩ := h.at_ i hi
    exact ⟨b, off, e, Nat.lt_of_lt_of_le hlt hb.size, fun j hj => by rw [← hc j hj]; exact World.cell?_of_block (w := w) (hb.block b hlt (hs b hlt))⟩⟩

end Go.Proofs.YtpfpbbbenjljfaaDoor
