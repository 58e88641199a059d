/- The live question of layer 5, walked. -/
import Derived.Test.YtldgjmgdbaeglaaHandleWords
import Derived.Test.YtldgjmgdbaeglaaHandleParse2
set_option linter.unusedVariables false
set_option linter.unusedSimpArgs false
namespace Go.Proofs.Ytldgjmgdbaeglaa
open Go.RowKit

namespace Handle

theorem enc_is {h : Hd} {x e : Int} (w : World) (hh : enc h = (x, e)) : Calls Try.prog 41 #[.agg (hd h)] w fun r w' => r = .returned (.tuple #[.int .u64 x, .int .i64 e]) ∧ But (fun _ => False) w w' := by
  have := encode_any h w
  rw [hh] at this; exact this
theorem dec_is {x k t i g e : Int} (w : World) (hx : 0 ≤ x ∧ x ≤ 18446744073709551615) (hh : dec x = (⟨k, t, i, g⟩, e)) : Calls Try.prog 43 #[.int .u64 x] w fun r w' => r = .returned (.tuple #[.agg #[.int .i64 k, .int .i64 t, .int .i64 i, .int .i64 g], .int .i64 e]) ∧ But (fun _ => False) w w' := by
  have := decode_any x w hx
  rw [hh] at this; exact this
theorem parse_is {s : ByteArray} {x e : Int} (w : World) (hs : s.size ≤ 9223372036854775807) (hh : parse s = (x, e)) : Calls Try.prog 45 #[.string s] w fun r w' => r = .returned (.tuple #[.int .u64 x, .int .i64 e]) ∧ But (fun _ => False) w w' := by
  have := parse_any s w hs
  rw [hh] at this; exact this
theorem text_is {x : Int} {s : ByteArray} (w : World) (hx : 0 ≤ x ∧ x ≤ 18446744073709551615) (hh : text x = s) : Calls Try.prog 49 #[.int .u64 x] w fun r w' => r = .returned (.string s) ∧ But (fun _ => False) w w' := by
  have := text_any x w hx
  rw [hh] at this; exact this

def right_text : ByteArray := ⟨#[50, 56, 48, 48, 48, 48, 48, 53, 48, 48, 48, 48, 48, 49, 48, 50]⟩
def wrong_text : ByteArray := ⟨#[50, 56, 48, 48, 48, 48, 48, 53, 48, 48, 48, 48, 48, 65, 48, 50]⟩
set_option maxRecDepth 100000 in
theorem a_enc : enc ⟨2, 3, 5, 258⟩ = (2882303782991954178, 0) := by decide
set_option maxRecDepth 100000 in
theorem a_enc2 : enc ⟨3, 1, 0, 0⟩ = (0, 1) := by decide
set_option maxRecDepth 100000 in
theorem a_dec : dec 2882303782991954178 = (⟨2, 3, 5, 258⟩, 0) := by decide
set_option maxRecDepth 100000 in
theorem a_dec2 : dec 0 = (⟨0, 0, 0, 0⟩, 4) := by decide
set_option maxRecDepth 100000 in
theorem a_parse : parse right_text = (2882303782991954178, 0) := by decide
set_option maxRecDepth 100000 in
theorem a_parse2 : parse wrong_text = (0, 2) := by decide
set_option maxRecDepth 100000 in
theorem a_text : text 2882303782991954178 = right_text := by
  unfold text right_text
  rw [show figsTo 2882303782991954178 16 = [50, 56, 48, 48, 48, 48, 48, 53, 48, 48, 48, 48, 48, 49, 48, 50] by decide]

set_option maxHeartbeats 4000000 in
set_option maxRecDepth 100000 in
theorem alive_any (w : World) : Calls Try.prog 40 #[] w fun e w' => e = .returned (.bool true) ∧ But (fun _ => False) w w' := by
  go_enter Try.func40, Try.ntmps40
  go_wp2_with fail
  refine (enc_is (h := ⟨2, 3, 5, 258⟩) _ a_enc).mono ?_
  rintro e w1 ⟨rfl, g1⟩
  go_wp2_with fail
  refine (dec_is _ (by omega) a_dec).mono ?_
  rintro e w2 ⟨rfl, g2⟩
  go_wp2_with fail
  have B2 := Blk.new w2 #[.int .i64 2, .int .i64 3, .int .i64 5, .int .i64 258] 57
  have G2 := (g1.trans g2).alloc (.cells #[.int .i64 2, .int .i64 3, .int .i64 5, .int .i64 258] 57)
  obtain ⟨b, hb⟩ : ∃ b, b = w2.heap.size := ⟨_, rfl⟩
  rw [← hb] at B2 ⊢
  clear hb g1 g2
  refine (dec_is _ (by omega) a_dec2).mono ?_
  rintro e w3 ⟨rfl, g3⟩
  have B3 := B2.but g3 (fun q => q)
  have G3 := G2.trans g3
  clear B2 G2 g3
  go_wp2_with fail
  have B4 := B3.alloc (.cells #[.int .i64 0, .int .i64 0, .int .i64 0, .int .i64 0] 57)
  have G4 := G3.alloc (.cells #[.int .i64 0, .int .i64 0, .int .i64 0, .int .i64 0] 57)
  refine (enc_is (h := ⟨3, 1, 0, 0⟩) _ a_enc2).mono ?_
  rintro e w5 ⟨rfl, g5⟩
  have B5 := B4.but g5 (fun q => q)
  have G5 := G4.trans g5
  clear B3 G3 B4 G4 g5
  go_wp2_with fail
  refine (parse_is _ (by decide) a_parse).mono ?_
  rintro e w6 ⟨rfl, g6⟩
  have B6 := B5.but g6 (fun q => q)
  have G6 := G5.trans g6
  clear B5 G5 g6
  go_wp2_with fail
  refine (parse_is _ (by decide) a_parse2).mono ?_
  rintro e w7 ⟨rfl, g7⟩
  have B7 := B6.but g7 (fun q => q)
  have G7 := G6.trans g7
  clear B6 G6 g7
  go_wp2_with fail
  refine (text_is _ (by omega) a_text).mono ?_
  rintro e w8 ⟨rfl, g8⟩
  have B8 := B7.but g8 (fun q => q)
  have G8 := G7.trans g8
  clear B7 G7 g8
  have k0 : w8.cell? ⟨b, 0, none⟩ = some (.int .i64 2) := B8.cell 0
  have k1 : w8.cell? ⟨b, 1, none⟩ = some (.int .i64 3) := B8.cell 1
  have k2 : w8.cell? ⟨b, 2, none⟩ = some (.int .i64 5) := B8.cell 2
  have k3 : w8.cell? ⟨b, 3, none⟩ = some (.int .i64 258) := B8.cell 3
  unfold right_text
  go_wp2_with fail
  go_ret
  exact ⟨rfl, G8⟩

end Handle
end Go.Proofs.Ytldgjmgdbaeglaa
