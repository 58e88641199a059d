/- The live question of layer 5, walked. -/
import Derived.Test.YtmpnlpheeoadkaaDoorHandleWords
import Derived.Test.YtmpnlpheeoadkaaDoorHandleParse2
set_option linter.unusedVariables false
set_option linter.unusedSimpArgs false
namespace Go.Proofs.YtmpnlpheeoadkaaDoor
open Go.RowKit

namespace Handle

theorem parse_is {s : ByteArray} {x e : Int} (w : World) (hs : s.size ≤ 9223372036854775807) (hh : parse s = (x, e)) : Calls Tryd.prog 39 #[.string s] w fun r w' => r = .returned (.tuple #[.int .u64 x, .int .i64 e]) ∧ But (fun _ => False) w w' := by
  have := parse_any s w hs
  rw [hh] at this; exact this
theorem text_is {x : Int} {s : ByteArray} (w : World) (hx : 0 ≤ x ∧ x ≤ 18446744073709551615) (hh : text x = s) : Calls Tryd.prog 27 #[.int .u64 x] w fun r w' => r = .returned (.string s) ∧ But (fun _ => False) w w' := by
  have := text_any x w hx
  rw [hh] at this; exact this

def right_text : ByteArray := ⟨#[50, 56, 48, 48, 48, 48, 48, 53, 48, 48, 48, 48, 48, 49, 48, 50]⟩
def wrong_text : ByteArray := ⟨#[50, 56, 48, 48, 48, 48, 48, 53, 48, 48, 48, 48, 48, 65, 48, 50]⟩
set_option maxRecDepth 100000 in
theorem a_enc : enc ⟨2, 3, 5, 258⟩ = (2882303782991954178, 0) := by decide
set_option maxRecDepth 100000 in
theorem a_enc2 : enc ⟨3, 1, 0, 0⟩ = (0, 1) := by decide
set_option maxRecDepth 100000 in
theorem a_dec : dec 2882303782991954178 = (⟨2, 3, 5, 258⟩, 0) := by decide
set_option maxRecDepth 100000 in
theorem a_dec2 : dec 0 = (⟨0, 0, 0, 0⟩, 4) := by decide
set_option maxRecDepth 100000 in
theorem a_parse : parse right_text = (2882303782991954178, 0) := by decide
set_option maxRecDepth 100000 in
theorem a_parse2 : parse wrong_text = (0, 2) := by decide
set_option maxRecDepth 100000 in
theorem a_text : text 2882303782991954178 = right_text := by
  unfold text right_text
  rw [show figsTo 2882303782991954178 16 = [50, 56, 48, 48, 48, 48, 48, 53, 48, 48, 48, 48, 48, 49, 48, 50] by decide]

end Handle
end Go.Proofs.YtmpnlpheeoadkaaDoor
