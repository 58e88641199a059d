/- handle.Text, walked: the text of a word. -/
import Derived.Test.YtmpnlpheeoadkaaDoorHandlePure
import Derived.Test.YtmpnlpheeoadkaaDoorBuilder
set_option linter.unusedVariables false
set_option linter.unusedSimpArgs false
namespace Go.Proofs.YtmpnlpheeoadkaaDoor
open Go.RowKit

namespace Handle

/-- A figure of base 16. -/
def fig (n : Int) : UInt8 := if n < 10 then (48 + n).toNat.toUInt8 else (87 + n).toNat.toUInt8
/-- The figures of a word, from the highest one, k of them. -/
def figsTo (x : Int) (k : Nat) : List UInt8 := (List.range k).map (fun (j : Nat) => fig (x / 2 ^ (4 * (15 - j)) % 16))
def text (x : Int) : ByteArray := ⟨(figsTo x 16).toArray⟩

theorem figsTo_length (x : Int) (k : Nat) : (figsTo x k).length = k := by unfold figsTo; simp
theorem cells_len {x : Int} {k : Nat} : (Lib.byteCells (figsTo x k)).length = k := by unfold Lib.byteCells; rw [List.length_map, figsTo_length]
/-- The constant of the sixteen figures. -/
def figures : ByteArray := ⟨#[48, 49, 50, 51, 52, 53, 54, 55, 56, 57, 97, 98, 99, 100, 101, 102]⟩
theorem fig_is : ∀ d : Fin 16, fig (d.val : Int) = figures[d.val]'(d.isLt) := by decide
theorem figsTo_succ {x : Int} {j d : Nat} (hj : j < 16) (hd : d < 16) (h : x / 2 ^ (4 * (15 - j)) % 16 = (d : Int)) : Lib.byteCells (figsTo x (j + 1)) = Lib.byteCells (figsTo x j) ++ [.int .u8 (figures[d]'hd).toNat] := by
  have e : figsTo x (j + 1) = figsTo x j ++ [fig (d : Int)] := by unfold figsTo; rw [List.range_succ, List.map_append, List.map_singleton, h]
  rw [e, fig_is ⟨d, hd⟩]
  unfold Lib.byteCells
  rw [List.map_append]; rfl

set_option maxHeartbeats 4000000 in
set_option maxRecDepth 100000 in
theorem text_any (x : Int) (w : World) (hx : 0 ≤ x ∧ x ≤ 18446744073709551615) : Calls Tryd.prog 27 #[.int .u64 x] w fun e w' => e = .returned (.string (text x)) ∧ But (fun _ => False) w w' := by
  have HT := Lib.hid (rfl : text x = text x)
  go_enter Tryd.func27, Tryd.ntmps27
  go_wp2_with fail
  go_loopg [4] 16 (fun k iv wr => ∃ j : Nat, j + k = 16 ∧ iv = .int .i64 (15 - (j : Int)) ∧ Lib.IsBuilder 72 5 w.heap.size w.heap.size (Lib.byteCells (figsTo x j)) wr ∧ Below w.heap.size w wr)
  case atStart => exact ⟨0, by omega, rfl, Lib.fresh_isBuilder _ _ w, (Below.refl _ w).alloc (Nat.le_refl _) _⟩
  case round =>
    obtain ⟨j, hj, rfl, hb, hw⟩ := hrel
    have HB := Lib.hid hb
    have HW := Lib.hid hw
    clear hb hw
    by_cases hlt : j < 16
    · obtain ⟨d, hd, hd16, hbit⟩ : ∃ d : Nat, x / 2 ^ (4 * (15 - j)) % 16 = (d : Int) ∧ d < 16 ∧ Go.bits BinOp.and IntKind.u64 (x / 2 ^ (4 * (15 - j))) 15 = (d : Int) := by
        have h0 : (0 : Int) < 2 ^ (4 * (15 - j)) := Int.pow_pos (by omega)
        have h1 : 0 ≤ x / 2 ^ (4 * (15 - j)) := Int.ediv_nonneg hx.1 (by omega)
        have h2 : x / 2 ^ (4 * (15 - j)) ≤ x := Int.ediv_le_self _ hx.1
        exact ⟨(x / 2 ^ (4 * (15 - j)) % 16).toNat, by omega, by omega, by rw [and4 ⟨h1, by omega⟩]; omega⟩
      have HD := Lib.hid hd
      clear hd
      go_wp2_with fail
      refine (Bld.write_byte _ _ _ _ _ HB.out (by rw [cells_len]; omega) HW.out.size).mono ?_
      rintro e w2 ⟨rfl, h2, g2, -⟩
      have H2 := Lib.hid h2
      have G2 := Lib.hid (HW.out.trans g2)
      clear h2 g2
      go_wp2_with fail
      go_roundg (16 - (j + 1))
      case measure => omega
      case rel => exact ⟨j + 1, by omega, by go_num, by rw [figsTo_succ hlt hd16 HD.out]; exact H2.out, G2.out⟩
    · go_wp2_with fail
      refine (Bld.string _ _ _ _ HB.out HW.out.size).mono ?_
      rintro e w9 ⟨rfl, g9⟩
      go_wp2_with fail
      go_ret
      obtain rfl : j = 16 := by omega
      exact ⟨rfl, But.of_below (HW.out.trans g9) _⟩

end Handle
end Go.Proofs.YtmpnlpheeoadkaaDoor
