/- The live question of layer 23, walked. -/
import Derived.Test.YtldgjmgdbaeglaaDoorWatchTexts
set_option linter.unusedVariables false
set_option linter.unusedSimpArgs false
namespace Go.Proofs.YtldgjmgdbaeglaaDoor
open Go.RowKit

namespace Watch

def aH : List Nt := [⟨2, ⟨0, 1, 5⟩⟩, ⟨1, ⟨5, 0, 0⟩⟩]
theorem aOk : AllOk aH := by
  intro x hx
  unfold aH at hx
  simp only [List.mem_cons, List.not_mem_nil, or_false] at hx
  rcases hx with rfl | rfl
  · exact ⟨by decide, by decide⟩
  · exact ⟨by decide, by decide⟩

set_option maxHeartbeats 16000000 in
set_option maxRecDepth 100000 in
theorem alive_any (w : World) (ht : Tens w) : Calls Tryd.prog 16 #[] w fun r w' => r = .returned (.bool true) ∧ But (fun _ => False) w w' := by
  have HT := Lib.hid ht
  clear ht
  have e1 : note 2 [] ⟨2, ⟨0, 1, 5⟩⟩ = [⟨2, ⟨0, 1, 5⟩⟩] := by decide
  have e2 : note 2 [⟨2, ⟨0, 1, 5⟩⟩] ⟨1, ⟨5, 0, 0⟩⟩ = aH := by decide
  have e3 : note 2 aH ⟨3, ⟨0, 0, 0⟩⟩ = aH := by decide
  have e4 : note 2 aH ⟨1, ⟨0, 0, 1⟩⟩ = aH := by decide
  have f1 : noteE 2 ⟨2, ⟨0, 1, 5⟩⟩ = 0 := by decide
  have f2 : noteE 2 ⟨1, ⟨5, 0, 0⟩⟩ = 0 := by decide
  have f3 : noteE 2 ⟨3, ⟨0, 0, 0⟩⟩ = 1 := by decide
  have f4 : noteE 2 ⟨1, ⟨0, 0, 1⟩⟩ = 1 := by decide
  have E1 := Lib.hid e1
  have E2 := Lib.hid e2
  have E3 := Lib.hid e3
  have E4 := Lib.hid e4
  have F1 := Lib.hid f1
  have F2 := Lib.hid f2
  have F3 := Lib.hid f3
  have F4 := Lib.hid f4
  clear e1 e2 e3 e4 f1 f2 f3 f4
  go_enter Tryd.func16, Tryd.ntmps16
  go_wp2_with fail
  refine (new_any 2 w (by decide) (by decide)).mono ?_
  rintro r w1 ⟨b, S1, rfl, hk1, hs1, g1⟩
  have K1 := Lib.hid hk1
  have HS1 := Lib.hid hs1
  have G1 := Lib.hid g1
  clear hk1 hs1 g1
  go_wp2_with fail
  refine (note_any 2 b [] 2 0 1 5 w1 S1 K1.out (by decide) (by decide)).mono ?_
  rintro r w2 ⟨rfl, S2, hk2, g2, hs2⟩
  rw [E1.out] at hk2
  have K2 := Lib.hid hk2
  have HS2 := Lib.hid (show ∀ c, S2 c → w.heap.size ≤ c from fun c hc => by
    rcases hs2 c hc with q | q
    · exact HS1.out c q
    · exact Nat.le_trans G1.out.size q)
  have G2 := Lib.hid (G1.out.trans' g2 (fun c hc => .inr (HS1.out c hc)))
  rw [F1.out]
  clear hk2 hs2 g2
  go_wp2_with fail
  refine (note_any 2 b [⟨2, ⟨0, 1, 5⟩⟩] 1 5 0 0 w2 S2 K2.out (by decide) (by decide)).mono ?_
  rintro r w3 ⟨rfl, S3, hk3, g3, hs3⟩
  rw [E2.out] at hk3
  have K3 := Lib.hid hk3
  have HS3 := Lib.hid (show ∀ c, S3 c → w.heap.size ≤ c from fun c hc => by
    rcases hs3 c hc with q | q
    · exact HS2.out c q
    · exact Nat.le_trans G2.out.size q)
  have G3 := Lib.hid (G2.out.trans' g3 (fun c hc => .inr (HS2.out c hc)))
  rw [F2.out]
  clear hk3 hs3 g3
  go_wp2_with fail
  refine (note_any 2 b aH 3 0 0 0 w3 S3 K3.out (by decide) (by decide)).mono ?_
  rintro r w4 ⟨rfl, S4, hk4, g4, hs4⟩
  rw [E3.out] at hk4
  have K4 := Lib.hid hk4
  have HS4 := Lib.hid (show ∀ c, S4 c → w.heap.size ≤ c from fun c hc => by
    rcases hs4 c hc with q | q
    · exact HS3.out c q
    · exact Nat.le_trans G3.out.size q)
  have G4 := Lib.hid (G3.out.trans' g4 (fun c hc => .inr (HS3.out c hc)))
  rw [F3.out]
  clear hk4 hs4 g4
  go_wp2_with fail
  refine (note_any 2 b aH 1 0 0 1 w4 S4 K4.out (by decide) (by decide)).mono ?_
  rintro r w5 ⟨rfl, S5, hk5, g5, hs5⟩
  rw [E4.out] at hk5
  have K5 := Lib.hid hk5
  have G5 := Lib.hid (G4.out.trans' g5 (fun c hc => .inr (HS4.out c hc)))
  rw [F4.out]
  clear hk5 hs5 g5
  go_wp2_with fail
  refine (texts_any 2 b aH 1 w5 S5 K5.out (by decide) aOk (HT.out.keep G5.out)).mono ?_
  rintro r w6 ⟨vt, ot, rfl, hRt, -, g6⟩
  rw [show logOf aH 1 = [⟨5, 0, 0⟩] by decide] at hRt
  obtain ⟨ct, offt, capt, hvt, -, hct, hcapt, hcells, -⟩ := hRt.cells (by decide)
  subst hvt
  have t0 := hcells 0 (by decide)
  have HR6 := Lib.hid hRt
  have HT0 := Lib.hid (show w6.cell? ⟨ct, offt, none⟩ = some (.string ⟨#[33, 115, 116, 97, 108, 101]⟩) from t0)
  have G6 := Lib.hid (G5.out.trans g6)
  have K6 := Lib.hid (K5.out.keep g6)
  clear hRt hcells t0 g6
  have hct' : 1 ≤ capt := hcapt
  go_wp2_with fail
  refine (log_any 2 b aH 2 w6 S5 K6.out (by decide)).mono ?_
  rintro r w7 ⟨vl, ol, rfl, hRl, -, g7⟩
  rw [show logOf aH 2 = [⟨0, 1, 5⟩] by decide] at hRl
  obtain ⟨cl, offl, capl, hvl, -, hcl, hcapl, hcells, -⟩ := hRl.cells (by decide)
  subst hvl
  have l2 := hcells 2 (by decide)
  have HL2 := Lib.hid (show w7.cell? ⟨cl, offl + 2, none⟩ = some (.int .u64 5) from l2)
  have HT1 := Lib.hid (show w7.cell? ⟨ct, offt, none⟩ = some (.string ⟨#[33, 115, 116, 97, 108, 101]⟩) by rw [World.cell?_of_block (w := w6) (g7.block ct hct (fun q => q))]; exact HT0.out)
  have G7 := Lib.hid (G6.out.trans g7)
  have K7 := Lib.hid (K6.out.keep g7)
  have hct7 : ct < w7.heap.size := Nat.lt_of_lt_of_le hct g7.size
  have hcl' : 1 ≤ capl := hcapl
  clear hRl hcells l2 g7
  go_wp2_with fail
  refine (new_not 17 w7 (by decide)).mono ?_
  rintro r w8 ⟨rfl, g8⟩
  have t8 : w8.cell? ⟨ct, offt, none⟩ = some (.string ⟨#[33, 115, 116, 97, 108, 101]⟩) := by rw [World.cell?_of_block (w := w7) (g8.block ct hct7 (fun q => q))]; exact HT1.out
  have l8 : w8.cell? ⟨cl, offl + 2, none⟩ = some (.int .u64 5) := by rw [World.cell?_of_block (w := w7) (g8.block cl hcl (fun q => q))]; exact HL2.out
  have G8 := Lib.hid (G7.out.trans g8)
  have K8 := Lib.hid (K7.out.keep g8)
  clear g8
  go_wp2_with fail
  refine (len_any 2 b aH w8 S5 K8.out (by decide)).mono ?_
  rintro r w9 ⟨rfl, g9⟩
  rw [show (aH.length : Int) = 2 by rfl]
  go_wp2_with fail
  go_ret
  exact ⟨rfl, G8.out.trans g9⟩

end Watch
end Go.Proofs.YtldgjmgdbaeglaaDoor
