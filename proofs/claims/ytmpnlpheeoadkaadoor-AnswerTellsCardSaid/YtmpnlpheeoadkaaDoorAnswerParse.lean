/- Parse of layer 20 (answer), walked: the program's. -/
import Derived.Test.YtmpnlpheeoadkaaDoorAnswerGuess
set_option linter.unusedVariables false
set_option linter.unusedSimpArgs false
namespace Go.Proofs.YtmpnlpheeoadkaaDoor
open Go.RowKit

namespace Answer

set_option maxHeartbeats 8000000 in
set_option maxRecDepth 100000 in
theorem parse_any (s : ByteArray) (w : World) (hs : s.size ≤ 100) (he : Errs w) (ht : Tens w) :
    Calls Tryd.prog 8 #[.string s] w fun r w' => (∃ e k n q : Int, r = .returned (.tuple #[.agg #[.int .i64 e, .int .i64 k, .int .u64 n], .int .i64 q]) ∧ Tells s.data.toList e k n q) ∧ But (fun _ => False) w w' := by
  have HE := Lib.hid he
  have HT := Lib.hid ht
  clear he ht
  have G1 := Lib.hid ((But.refl (fun _ => False) w).alloc (.cells #[.int .i64 0, .int .i64 0, .int .u64 0] 26))
  go_enter Tryd.func8, Tryd.ntmps8
  go_wp2_with fail
  refine (guess_any s _ hs (HE.out.keep ((But.refl _ w).alloc _))).mono ?_
  rintro r w2 ⟨⟨e, k, n, rfl, hg⟩, g2⟩
  have HG := Lib.hid hg.tells
  have hn0 := hg.2.1
  have hn1 := hg.2.2.1
  clear hg
  have B2 := (Blk.new w #[.int .i64 0, .int .i64 0, .int .u64 0] 26).but g2 (fun q => q)
  have G2 := Lib.hid (((But.refl (fun _ => False) w).alloc (.cells #[.int .i64 0, .int .i64 0, .int .u64 0] 26)).trans g2)
  clear g2 G1
  obtain ⟨b, hb⟩ : ∃ b, b = w.heap.size := ⟨_, rfl⟩
  have HBb := Lib.hid (show w.heap.size ≤ b by omega)
  rw [← hb] at B2 ⊢
  clear hb
  have hlt := B2.lt
  go_wp2_with fail
  refine (text_any e k n _ ⟨hn0, hn1⟩ ((HT.out.keep G2.out).keep ((But.refl _ w2).alloc _))).mono ?_
  rintro r w3 ⟨rfl, g3⟩
  obtain ⟨tx, htx⟩ : ∃ tx : ByteArray, (⟨(textL e k n).toArray⟩ : ByteArray) = tx := ⟨_, rfl⟩
  have HTX := Lib.hid (show tx.toList = textL e k n by rw [Lib.toList_data, ← htx])
  rw [htx]
  have B3 := (B2.alloc (.cells #[.int .i64 e, .int .i64 k, .int .u64 n] 26)).but g3 (fun q => q)
  have A3 := (Blk.new w2 #[.int .i64 e, .int .i64 k, .int .u64 n] 26).but g3 (fun q => q)
  have G3 := Lib.hid ((G2.out.alloc (.cells #[.int .i64 e, .int .i64 k, .int .u64 n] 26)).trans g3)
  clear htx g3
  have k0 := B3.cell 0
  have f0 := B3.frozen 0
  have k1 := B3.cell 1
  have f1 := B3.frozen 1
  have k2 := B3.cell 2
  have f2 := B3.frozen 2
  have a0 := A3.cell 0
  have a1 := A3.cell 1
  have a2 := A3.cell 2
  by_cases hq : textL e k n = s.data.toList
  · have t1 : (tx.toList == s.toList) = true := by rw [HTX.out, Lib.toList_data, hq]; simp
    have t2 : (tx.toList != s.toList) = false := by rw [bne, t1]; rfl
    have TE := Lib.hid (HG.out.1 hq)
    clear hq
    go_wp2_with fail
    refine bodyPost_ret (v := .tuple #[.agg #[.int .i64 e, .int .i64 k, .int .u64 n], .int .i64 0]) ?_ rfl ⟨⟨_, _, _, _, rfl, TE.out⟩, ?_⟩
    · simp [results, Tryd.results8, go_sem, k0, k1, k2]
    · exact (((G3.out.setCell (.inr HBb.out) _).setCell (.inr HBb.out) _).setCell (.inr HBb.out) _)
  · have t1 : (tx.toList == s.toList) = false := by rw [HTX.out, Lib.toList_data]; exact beq_false_of_ne hq
    have t2 : (tx.toList != s.toList) = true := by rw [bne, t1]; rfl
    have TE := Lib.hid (HG.out.2 hq)
    clear hq
    go_wp2_with fail
    refine bodyPost_ret (v := .tuple #[.agg #[.int .i64 0, .int .i64 0, .int .u64 0], .int .i64 2]) ?_ rfl ⟨⟨_, _, _, _, rfl, TE.out⟩, ?_⟩
    · simp [results, Tryd.results8, go_sem, k0, k1, k2]
    · exact (((G3.out.setCell (.inr HBb.out) _).setCell (.inr HBb.out) _).setCell (.inr HBb.out) _)

end Answer
end Go.Proofs.YtmpnlpheeoadkaaDoor
