/- The laws of layer 2 (arena), walked: they answer true. -/
import Derived.Test.YtboajbbnnbnpaaaArenaRef
import Derived.Test.YtboajbbnnbnpaaaReads
set_option linter.unusedVariables false
set_option linter.unusedSimpArgs false
namespace Go.Proofs.Ytboajbbnnbnpaaa
open Go.RowKit

namespace Arena

set_option maxHeartbeats 4000000 in
set_option maxRecDepth 100000 in
theorem alive_any (w : World) :
    Calls Try.prog 41 #[] w fun e w' => e = .returned (.bool true) ∧ But (fun _ => False) w w' := by
  go_enter Try.func41, Try.ntmps41
  go_wp2_with fail
  refine (new_any 8 _ (by omega)).mono ?_
  rintro e w1 ⟨rfl, h1, g1⟩
  have G1 := g1
  go_wp2_with fail
  refine (write_any _ _ _ _ 3 7 _ h1 (by decide)).mono ?_
  rintro e w2 ⟨rfl, h2, g2⟩
  replace h2 : Ar 122 w2 (w.heap.size + 1) w.heap.size [0, 0, 0, 7, 0, 0, 0, 0] 1 := h2
  rw [show (wri (List.replicate 8 0) 3 7).1 = 0 from by decide]
  have G2 := G1.trans' g2 (fun k hk => .inr (by omega))
  go_wp2_with fail
  refine (write_any _ _ _ _ 8 1 _ h2 (by decide)).mono ?_
  rintro e w3 ⟨rfl, h3, g3⟩
  replace h3 : Ar 122 w3 (w.heap.size + 1) w.heap.size [0, 0, 0, 7, 0, 0, 0, 0] 1 := h3
  rw [show (wri [0, 0, 0, 7, 0, 0, 0, 0] 8 1).1 = 1 from by decide]
  have G3 := G2.trans' g3 (fun k hk => .inr (by omega))
  go_wp2_with fail
  refine (read_any _ _ _ _ 3 _ h3 (by decide)).mono ?_
  rintro e w4 ⟨rfl, h4, g4⟩
  replace h4 : Ar 122 w4 (w.heap.size + 1) w.heap.size [0, 0, 0, 7, 0, 0, 0, 0] 2 := h4
  rw [show rd [0, 0, 0, 7, 0, 0, 0, 0] 3 = (7, 0) from by decide]
  have G4 := G3.trans' g4 (fun k hk => .inr (by omega))
  go_wp2_with fail
  refine (zero_any _ _ _ _ 2 4 _ h4 (by decide)).mono ?_
  rintro e w5 ⟨rfl, h5, g5⟩
  replace h5 : Ar 122 w5 (w.heap.size + 1) w.heap.size [0, 0, 0, 0, 0, 0, 0, 0] 6 := h5
  rw [show (zr [0, 0, 0, 7, 0, 0, 0, 0] 2 4).1 = 0 from by decide]
  have G5 := G4.trans' g5 (fun k hk => .inr (by omega))
  go_wp2_with fail
  refine (zero_any _ _ _ _ 6 3 _ h5 (by decide)).mono ?_
  rintro e w6 ⟨rfl, h6, g6⟩
  replace h6 : Ar 122 w6 (w.heap.size + 1) w.heap.size [0, 0, 0, 0, 0, 0, 0, 0] 6 := h6
  rw [show (zr [0, 0, 0, 0, 0, 0, 0, 0] 6 3).1 = 1 from by decide]
  have G6 := G5.trans' g6 (fun k hk => .inr (by omega))
  go_wp2_with fail
  refine (read_any _ _ _ _ 3 _ h6 (by decide)).mono ?_
  rintro e w7 ⟨rfl, h7, g7⟩
  replace h7 : Ar 122 w7 (w.heap.size + 1) w.heap.size [0, 0, 0, 0, 0, 0, 0, 0] 7 := h7
  rw [show rd [0, 0, 0, 0, 0, 0, 0, 0] 3 = (0, 0) from by decide]
  have G7 := G6.trans' g7 (fun k hk => .inr (by omega))
  go_wp2_with fail
  refine (touched_any _ _ _ _ _ h7).mono ?_
  rintro e w8 ⟨rfl, rfl⟩
  go_wp2_with fail
  refine (len_any _ _ _ _ _ h7).mono ?_
  rintro e w8 ⟨rfl, rfl⟩
  go_wp2_with fail
  refine (zero_any _ _ _ _ 8 0 _ h7 (by decide)).mono ?_
  rintro e w8 ⟨rfl, h8, g8⟩
  rw [show (zr [0, 0, 0, 0, 0, 0, 0, 0] 8 0).1 = 0 from by decide]
  have G8 := G7.trans' g8 (fun k hk => .inr (by omega))
  go_wp2_with fail
  go_ret
  exact ⟨rfl, G8⟩

end Arena
end Go.Proofs.Ytboajbbnnbnpaaa
