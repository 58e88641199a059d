/- handle.Text, walked: the text of a word. -/
import Derived.Test.YtpfpbbbenjljfaaDoorHandlePure
import Derived.Test.YtpfpbbbenjljfaaDoorBuilder
set_option linter.unusedVariables false
set_option linter.unusedSimpArgs false
namespace Go.Proofs.YtpfpbbbenjljfaaDoor
open Go.RowKit

namespace Handle

/-- A figure of base 16. -/
def fig (n : Int) : UInt8 := if n < 10 then (48 + n).toNat.toUInt8 else (87 + n).toNat.toUInt8
/-- The figures of a word, from the highest one, k of them. -/
def figsTo (x : Int) (k : Nat) : List UInt8 := (List.range k).map (fun (j : Nat) => fig (x / 2 ^ (4 * (15 - j)) % 16))
def text (x : Int) : ByteArray := ⟨(figsTo x 16).toArray⟩

theorem figsTo_length (x : Int) (k : Nat) : (figsTo x k).length = k := by unfold figsTo; simp
theorem cells_len {x : Int} {k : Nat} : (Lib.byteCells (figsTo x k)).length = k := by unfold Lib.byteCells; rw [List.length_map, figsTo_length]
/-- The constant of the sixteen figures. -/
def figures : ByteArray := ⟨#[48, 49, 50, 51, 52, 53, 54, 55, 56, 57, 97, 98, 99, 100, 101, 102]⟩
theorem fig_is : ∀ d : Fin 16, fig (d.val : Int) = figures[d.val]'(d.isLt) := by decide
theorem figsTo_succ {x : Int} {j d : Nat} (hj : j < 16) (hd : d < 16) (h : x / 2 ^ (4 * (15 - j)) % 16 = (d : Int)) : Lib.byteCells (figsTo x (j + 1)) = Lib.byteCells (figsTo x j) ++ [.int .u8 (figures[d]'hd).toNat] := by
  have e : figsTo x (j + 1) = figsTo x j ++ [fig (d : Int)] := by unfold figsTo; rw [List.range_succ, List.map_append, List.map_singleton, h]
  rw [e, fig_is ⟨d, hd⟩]
  unfold Lib.byteCells
  rw [List.map_append]; rfl

end Handle
end Go.Proofs.YtpfpbbbenjljfaaDoor
