/- The laws HandleTells and HandleBack of layer 5, walked: they answer true. -/
import Derived.Test.YtmpnlpheeoadkaaDoorHandleAlive
import Derived.Deep.RegionHeld3
import Derived.Test.YtmpnlpheeoadkaaDoorReads
set_option linter.unusedVariables false
set_option linter.unusedSimpArgs false
namespace Go.Proofs.YtmpnlpheeoadkaaDoor
open Go.RowKit

namespace Handle

theorem rparse_is {s : ByteArray} {x e : Int} (w : World) (hs : s.size ≤ 9223372036854775807) (hh : parse s = (x, e)) : Calls Tryd.prog 22 #[.string s] w fun r w' => r = .returned (.tuple #[.int .u64 x, .int .i64 e]) ∧ But (fun _ => False) w w' := by
  have := ref_parse s w hs
  rw [hh] at this; exact this
theorem rtext_is {x : Int} {s : ByteArray} (w : World) (hx : 0 ≤ x ∧ x ≤ 18446744073709551615) (hh : text x = s) : Calls Tryd.prog 28 #[.int .u64 x] w fun r w' => r = .returned (.string s) ∧ But (fun _ => False) w w' := by
  have := ref_text x w hx
  rw [hh] at this; exact this
/-! ### There and back -/
theorem val_fig {d : Nat} (h : d < 16) : val (fig (d : Int)).toNat = (d : Int) := (fig_val h).1 rfl
theorem text_size (x : Int) : (text x).size = 16 := by
  show (figsTo x 16).toArray.size = 16
  rw [List.size_toArray, figsTo_length]
theorem text_val {x : Int} {i : Nat} (h : i < 16) : val (byteAt (text x) i) = x / 2 ^ (4 * (15 - i)) % 16 := by
  have hs : i < (text x).size := by rw [text_size]; exact h
  rw [byteAt_in hs]
  have e : (text x)[i]'hs = fig (x / 2 ^ (4 * (15 - i)) % 16) := by
    show (figsTo x 16).toArray[i]'(by rw [List.size_toArray, figsTo_length]; exact h) = _
    simp [figsTo]
  rw [e]
  obtain ⟨d, hd⟩ : ∃ d : Nat, x / 2 ^ (4 * (15 - i)) % 16 = (d : Int) := ⟨(x / 2 ^ (4 * (15 - i)) % 16).toNat, by omega⟩
  rw [hd]
  exact val_fig (by omega)
theorem text_ok (x : Int) : okTo (text x) 16 = true := by
  rw [okTo_iff]
  intro i hi
  rw [text_val hi]; omega
theorem text_word {x : Int} (hx : 0 ≤ x ∧ x ≤ 18446744073709551615) : ∀ k, k ≤ 16 → wordTo (text x) k = x / 2 ^ (4 * (16 - k))
  | 0, _ => by
    show (0 : Int) = x / 2 ^ (4 * (16 - 0))
    rw [show (2 : Int) ^ (4 * (16 - 0)) = 18446744073709551616 by decide]; omega
  | k + 1, h => by
    have h1 := text_word hx k (by omega)
    show 16 * wordTo (text x) k + val (byteAt (text x) k) = _
    rw [h1, text_val (by omega), show 16 - (k + 1) = 15 - k by omega, show 4 * (16 - k) = 4 * (15 - k) + 4 by omega, Int.pow_add, ← Int.ediv_ediv_of_nonneg (Int.pow_nonneg (by omega))]
    show 16 * (x / 2 ^ (4 * (15 - k)) / 16) + _ = _
    omega
theorem parse_text {x : Int} (hx : 0 ≤ x ∧ x ≤ 18446744073709551615) : parse (text x) = (x, 0) := by
  rw [parse_yes (text_size x) (text_ok x), text_word hx 16 (Nat.le_refl _)]
  congr 1
  show x / 2 ^ 0 = x
  simp

theorem enc_yes {h : Hd} (hr : right h = true) : enc h = (word h, 0) := by unfold enc; rw [if_pos hr]
theorem enc_no {h : Hd} (hr : right h = false) : enc h = (0, 1) := by unfold enc; rw [hr]; rfl
theorem dec_word {h : Hd} (hr : right h = true) : dec (word h) = (h, 0) := by unfold dec; rw [raw_word hr, if_pos hr]

theorem all2_hd {cs : Array Value} (w0 : All2 [.i .i64, .i .i64, .i .i64, .i .i64] cs.toList) : ∃ k t i g : Int, cs = #[.int .i64 k, .int .i64 t, .int .i64 i, .int .i64 g] := by
  obtain ⟨x0, l0, e0, h0, g0⟩ := all2_cons w0
  obtain ⟨x1, l1, e1, h1, g1⟩ := all2_cons g0
  obtain ⟨x2, l2, e2, h2, g2⟩ := all2_cons g1
  obtain ⟨x3, l3, e3, h3, g3⟩ := all2_cons g2
  have e4 := all2_nil g3
  obtain ⟨n0, rfl, -⟩ := h0
  obtain ⟨n1, rfl, -⟩ := h1
  obtain ⟨n2, rfl, -⟩ := h2
  obtain ⟨n3, rfl, -⟩ := h3
  exact ⟨n0, n1, n2, n3, Array.ext' (by rw [e0, e1, e2, e3, e4])⟩
end Handle
end Go.Proofs.YtmpnlpheeoadkaaDoor
