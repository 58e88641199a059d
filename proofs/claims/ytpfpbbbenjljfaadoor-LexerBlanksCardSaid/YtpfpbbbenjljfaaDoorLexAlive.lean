/- The live question of layer 18 (lexer), walked: it answers true. -/
import Derived.Test.YtpfpbbbenjljfaaDoorLexCalc
import Derived.Test.YtpfpbbbenjljfaaDoorLexScan
set_option linter.unusedVariables false
set_option linter.unusedSimpArgs false
namespace Go.Proofs.YtpfpbbbenjljfaaDoor
open Go.RowKit

namespace Lex

/-- A token's cells in a row of tokens. -/
theorem tkCs_get {l : List (Tk × Nat)} {i : Nat} (h : i < l.length) : (tkCs l)[i * 4]? = some (.int .i64 l[i].1.kind) ∧ (tkCs l)[i * 4 + 1]? = some (.string l[i].1.text) ∧ (tkCs l)[i * 4 + 2]? = some (.int .u64 l[i].1.num) ∧ (tkCs l)[i * 4 + 3]? = some (.int .i64 l[i].2) := by
  induction l generalizing i with
  | nil => simp at h
  | cons x l ih =>
    have e : tkCs (x :: l) = tkC x ++ tkCs l := by unfold tkCs; rw [List.flatMap_cons]
    have hx : (tkC x).length = 4 := rfl
    rw [e]
    rcases i with _ | i
    · simp [tkC]
    · have := ih (i := i) (by simpa using h)
      rw [List.getElem?_append_right (by omega), List.getElem?_append_right (by omega), List.getElem?_append_right (by omega), List.getElem?_append_right (by omega), hx]
      rw [show (i + 1) * 4 - 4 = i * 4 by omega, show (i + 1) * 4 + 1 - 4 = i * 4 + 1 by omega, show (i + 1) * 4 + 2 - 4 = i * 4 + 2 by omega, show (i + 1) * 4 + 3 - 4 = i * 4 + 3 by omega]
      simpa using this
theorem rowT_at {w : World} {T : TypeId} {v : Value} {o : Option Nat} {l : List (Tk × Nat)} (h : Row w T 4 v o l.length (tkCs l)) {i : Nat} (hi : i < l.length) :
    ∃ c off cap, v = .slice (some ⟨c, off, none⟩) l.length cap ∧ o = some c ∧ c < w.heap.size ∧ l.length ≤ cap ∧ w.cell? ⟨c, off + i * 4, none⟩ = some (.int .i64 l[i].1.kind) ∧ w.cell? ⟨c, off + i * 4 + 1, none⟩ = some (.string l[i].1.text) ∧ w.cell? ⟨c, off + i * 4 + 2, none⟩ = some (.int .u64 l[i].1.num) ∧ w.cell? ⟨c, off + i * 4 + 3, none⟩ = some (.int .i64 l[i].2) := by
  have e := tkCs_get hi
  obtain ⟨c, off, cap, rfl, ho, hlt, hcap, hc, -⟩ := h.cells (by omega)
  refine ⟨c, off, cap, rfl, ho, hlt, hcap, ?_, ?_, ?_, ?_⟩
  · rw [hc _ (by omega)]; exact e.1
  · rw [Nat.add_assoc, hc _ (by omega)]; exact e.2.1
  · rw [Nat.add_assoc, hc _ (by omega)]; exact e.2.2.1
  · rw [Nat.add_assoc, hc _ (by omega)]; exact e.2.2.2
theorem na1 : nameB ⟨#[97, 49]⟩ = true := by decide +kernel
theorem n1a : nameB ⟨#[49, 97]⟩ = false := by decide +kernel

set_option maxHeartbeats 16000000 in
set_option maxRecDepth 100000 in
theorem alive_any (w : World) (he : Errs w) : Calls Tryd.prog 5 #[] w fun e w' => e = .returned (.bool true) ∧ But (fun _ => False) w w' := by
  have E0 := Lib.hid he
  have N1 := Lib.hid na1
  have N2 := Lib.hid n1a
  have S1 := Lib.hid (scan_any l1 · (by decide))
  have S2 := Lib.hid (scan_any l2 · (by decide))
  have S3 := Lib.hid (scan_any l3 · (by decide))
  have S4 := Lib.hid (scan_any l4 · (by decide))
  rw [v1] at S1
  rw [v2] at S2
  rw [v3] at S3
  rw [v4] at S4
  clear he
  go_enter Tryd.func5, Tryd.ntmps5
  go_wp2_with fail
  refine (S1.out _ E0.out).mono ?_
  rintro r w1 ⟨⟨v, o, rfl, hR, -⟩, g1⟩
  have HR1 := Lib.hid hR
  have G1 := Lib.hid g1
  obtain ⟨a, cap, rfl, hcap, -⟩ := hR.val
  clear g1 hR
  go_wp2_with fail
  refine (S2.out _ (E0.out.keep G1.out)).mono ?_
  rintro r w2 ⟨⟨v2, o2, rfl, -, -⟩, g2⟩
  have G2 := Lib.hid (G1.out.trans g2)
  have HR2 := Lib.hid (HR1.out.but g2 (fun _ _ q => q))
  clear g2 HR1
  go_wp2_with fail
  refine (S3.out _ (E0.out.keep G2.out)).mono ?_
  rintro r w3 ⟨⟨v3, o3, rfl, -, -⟩, g3⟩
  have G3 := Lib.hid (G2.out.trans g3)
  have HR3 := Lib.hid (HR2.out.but g3 (fun _ _ q => q))
  clear g3 HR2
  go_wp2_with fail
  refine (S4.out _ (E0.out.keep G3.out)).mono ?_
  rintro r w4 ⟨⟨v4, o4, rfl, -, -⟩, g4⟩
  have G4 := Lib.hid (G3.out.trans g4)
  have HR4 := Lib.hid (HR3.out.but g4 (fun _ _ q => q))
  clear g4 HR3
  obtain ⟨c, off, cap', e1, -, hlt, hcap2, hc, -⟩ := HR4.out.cells (by decide)
  obtain ⟨rfl, -, -⟩ := Value.slice.inj e1
  have c0 : w4.cell? ⟨c, off, none⟩ = some (.int .i64 0) := hc 0 (by decide)
  have c1 : w4.cell? ⟨c, off + 1, none⟩ = some (.string ⟨#[97, 49]⟩) := hc 1 (by decide)
  have c2 : w4.cell? ⟨c, off + 2, none⟩ = some (.int .u64 0) := hc 2 (by decide)
  have c3 : w4.cell? ⟨c, off + 3, none⟩ = some (.int .i64 1) := hc 3 (by decide)
  have q0 : ∀ w, (Op.equalIn 10000 35 (.agg #[.int .i64 0, .string ⟨#[97, 49]⟩, .int .u64 0, .int .i64 1]) (.agg #[.int .i64 0, .string ⟨#[97, 49]⟩, .int .u64 0, .int .i64 1])).run Tryd.prog w = .ok true w := fun _ => by kernel_rfl
  have c4 : w4.cell? ⟨c, off + 4, none⟩ = some (.int .i64 4) := hc 4 (by decide)
  have c5 : w4.cell? ⟨c, off + 5, none⟩ = some (.string ⟨#[]⟩) := hc 5 (by decide)
  have c6 : w4.cell? ⟨c, off + 6, none⟩ = some (.int .u64 0) := hc 6 (by decide)
  have c7 : w4.cell? ⟨c, off + 7, none⟩ = some (.int .i64 3) := hc 7 (by decide)
  have q1 : ∀ w, (Op.equalIn 10000 35 (.agg #[.int .i64 4, .string ⟨#[]⟩, .int .u64 0, .int .i64 3]) (.agg #[.int .i64 4, .string ⟨#[]⟩, .int .u64 0, .int .i64 3])).run Tryd.prog w = .ok true w := fun _ => by kernel_rfl
  have c8 : w4.cell? ⟨c, off + 8, none⟩ = some (.int .i64 2) := hc 8 (by decide)
  have c9 : w4.cell? ⟨c, off + 9, none⟩ = some (.string ⟨#[]⟩) := hc 9 (by decide)
  have c10 : w4.cell? ⟨c, off + 10, none⟩ = some (.int .u64 12) := hc 10 (by decide)
  have c11 : w4.cell? ⟨c, off + 11, none⟩ = some (.int .i64 4) := hc 11 (by decide)
  have q2 : ∀ w, (Op.equalIn 10000 35 (.agg #[.int .i64 2, .string ⟨#[]⟩, .int .u64 12, .int .i64 4]) (.agg #[.int .i64 2, .string ⟨#[]⟩, .int .u64 12, .int .i64 4])).run Tryd.prog w = .ok true w := fun _ => by kernel_rfl
  have c12 : w4.cell? ⟨c, off + 12, none⟩ = some (.int .i64 0) := hc 12 (by decide)
  have c13 : w4.cell? ⟨c, off + 13, none⟩ = some (.string ⟨#[108, 111, 97, 100]⟩) := hc 13 (by decide)
  have c14 : w4.cell? ⟨c, off + 14, none⟩ = some (.int .u64 0) := hc 14 (by decide)
  have c15 : w4.cell? ⟨c, off + 15, none⟩ = some (.int .i64 7) := hc 15 (by decide)
  have q3 : ∀ w, (Op.equalIn 10000 35 (.agg #[.int .i64 0, .string ⟨#[108, 111, 97, 100]⟩, .int .u64 0, .int .i64 7]) (.agg #[.int .i64 0, .string ⟨#[108, 111, 97, 100]⟩, .int .u64 0, .int .i64 7])).run Tryd.prog w = .ok true w := fun _ => by kernel_rfl
  have c16 : w4.cell? ⟨c, off + 16, none⟩ = some (.int .i64 1) := hc 16 (by decide)
  have c17 : w4.cell? ⟨c, off + 17, none⟩ = some (.string ⟨#[98, 50]⟩) := hc 17 (by decide)
  have c18 : w4.cell? ⟨c, off + 18, none⟩ = some (.int .u64 0) := hc 18 (by decide)
  have c19 : w4.cell? ⟨c, off + 19, none⟩ = some (.int .i64 11) := hc 19 (by decide)
  have q4 : ∀ w, (Op.equalIn 10000 35 (.agg #[.int .i64 1, .string ⟨#[98, 50]⟩, .int .u64 0, .int .i64 11]) (.agg #[.int .i64 1, .string ⟨#[98, 50]⟩, .int .u64 0, .int .i64 11])).run Tryd.prog w = .ok true w := fun _ => by kernel_rfl
  have c20 : w4.cell? ⟨c, off + 20, none⟩ = some (.int .i64 3) := hc 20 (by decide)
  have c21 : w4.cell? ⟨c, off + 21, none⟩ = some (.string ⟨#[]⟩) := hc 21 (by decide)
  have c22 : w4.cell? ⟨c, off + 22, none⟩ = some (.int .u64 255) := hc 22 (by decide)
  have c23 : w4.cell? ⟨c, off + 23, none⟩ = some (.int .i64 15) := hc 23 (by decide)
  have q5 : ∀ w, (Op.equalIn 10000 35 (.agg #[.int .i64 3, .string ⟨#[]⟩, .int .u64 255, .int .i64 15]) (.agg #[.int .i64 3, .string ⟨#[]⟩, .int .u64 255, .int .i64 15])).run Tryd.prog w = .ok true w := fun _ => by kernel_rfl
  clear hc e1
  go_wp2_with fail
  refine (name_any _ _ (by decide)).mono ?_
  rintro r w5 ⟨rfl, g5⟩
  rw [N1.out]
  have G5 := Lib.hid (G4.out.trans g5)
  clear g5
  go_wp2_with fail
  refine (name_any _ _ (by decide)).mono ?_
  rintro r w6 ⟨rfl, g6⟩
  rw [N2.out]
  have G6 := Lib.hid (G5.out.trans g6)
  clear g6
  go_wp2_with fail
  go_ret
  exact ⟨rfl, G6.out⟩

end Lex
end Go.Proofs.YtpfpbbbenjljfaaDoor
