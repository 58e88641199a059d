/- Len and Texts of a book (layer 23), walked. -/
import Derived.Test.YtldgjmgdbaeglaaDoorWatchBook
set_option linter.unusedVariables false
set_option linter.unusedSimpArgs false
namespace Go.Proofs.YtldgjmgdbaeglaaDoor
open Go.RowKit

namespace Watch

set_option maxHeartbeats 8000000 in
set_option maxRecDepth 1000000 in
theorem len_any (T : Int) (b : Nat) (H : List Nt) (w : World) (S : Nat → Prop) (h : Bk T b H w S) (hH : H.length ≤ 200) :
    Calls Tryd.prog 24 #[.pointer (some ⟨b, 0, none⟩)] w fun r w' => r = .returned (.int .i64 H.length) ∧ But (fun _ => False) w w' := by
  obtain ⟨mb, L, o, h1, h2, h3, h4, h5, -⟩ := h.ex
  obtain ⟨es, clock, hb, hst, hE⟩ := h2.out
  have y0 := h1.cell 0
  have y1 := h1.cell 1
  have hsum : (es.toList.map (fun e => lenV e.val)).sum = H.length := by
    rw [← h5]
    unfold tot
    have := congrArg (fun l => (l.map (fun p => lenV p.2)).sum) hE
    simpa [List.map_map, Function.comp_def] using this
  have hvals : ∀ x ∈ es.toList, ∃ a n c, x.val = .slice a n c := by
    intro x hx
    obtain ⟨j, hj, rfl⟩ := List.getElem_of_mem hx
    obtain ⟨p, hp, -, hv⟩ := map_get hE (List.getElem?_eq_getElem hj)
    have hl := look_get h2.nodup (j := j) (a := p.1) (v := p.2) hp
    have hr := h3 p.1
    rw [hl] at hr
    obtain ⟨a, c, hv2, -⟩ := Row.val hr
    simp only [Option.getD_some] at hv2
    exact ⟨a, _, c, hv.trans hv2⟩
  have HS := Lib.hid hsum
  have HV := Lib.hid hvals
  have HST := Lib.hid hst
  have HB := Lib.hid hb
  have hrg := run_range_map (P := Tryd.prog) w 66 3 47 mb es clock Tryd.underlying66 hb
  clear h h1 h2 h3 h4 h5 hE hsum hvals hst hb
  go_enter Tryd.func24, Tryd.ntmps24
  go_wp2_with fail
  go_loopw [3] (fun s w' => ∃ (w1 : World) (seen : Array Nat), (w1.Alike w ∧ w1.tape = w.tape) ∧ w' = w1.alloc (.mapIter (some mb) clock seen clock) ∧ s = .int .i64 (seenLen es.toList seen)) (fun _ w' => (leftOf es (w'.iterSeen w.heap.size)).size)
  case atStart => exact ⟨w, #[], ⟨⟨rfl, rfl, rfl⟩, rfl⟩, rfl, by rw [seenLen_none]⟩
  case round =>
    obtain ⟨w1, seen, ⟨hal, htp⟩, rfl, rfl⟩ := hrel
    have hsz : w1.heap.size = w.heap.size := by rw [hal.1]
    have hb1 : w1.heap[mb]? = some (.map es clock) := by rw [hal.1]; exact HB.out
    have law := run_next_map (P := Tryd.prog) w1 0 mb clock clock seen es clock hb1 HST.out.1 (Nat.le_refl _)
    have hbd := seenSum_bound seen es.toList
    rw [HS.out] at hbd
    have hbd1 := hbd.1
    have hbd2 := hbd.2
    rw [hsz] at law
    rcases law with ⟨h0, hrun⟩ | ⟨e, he, w2, hal2, hrun⟩
    · have hnx : ∀ ty, (Instr.next (.pointer (some ⟨w.heap.size, 0, none⟩)) false ty).run Tryd.prog (w1.alloc (.mapIter (some mb) clock seen clock)) = _ := fun _ => hrun
      have HEQ := Lib.hid (show seenLen es.toList seen = (H.length : Int) by rw [seenLen_all es seen h0, HS.out])
      go_wp2_with fail
      go_ret
      exact ⟨by rw [← HEQ.out]; rfl, (But.alike hal htp).alloc _⟩
    · obtain ⟨va, vn, vc, hval⟩ := HV.out e (mem_left he).1
      have htp2 : w2.tape = w1.tape := by
        have := TK.next (P := Tryd.prog) w.heap.size 0 _ _ _ hrun
        simpa using this
      rw [hval] at hrun
      have hnx : ∀ ty, (Instr.next (.pointer (some ⟨w.heap.size, 0, none⟩)) false ty).run Tryd.prog (w1.alloc (.mapIter (some mb) clock seen clock)) = _ := fun _ => hrun
      have hsz2 : w2.heap.size = w.heap.size := by rw [hal2.1, hal.1]
      have hb2 : w2.heap[mb]? = some (.map es clock) := by rw [hal2.1]; exact hb1
      have hen := run_entry_map (P := Tryd.prog) w2 mb clock seen es clock e hb2 (mem_left he).1 HST.out.2.1
      rw [hsz2, hval] at hen
      have hpush := seenLen_push seen e (mem_left he).2 es.toList HST.out.2.1 (mem_left he).1
      have hvn : lenV e.val = vn := by rw [hval]; rfl
      rw [hvn] at hpush
      have hbp := seenSum_bound (seen.push e.born) es.toList
      rw [HS.out, hpush] at hbp
      have hbp1 := hbp.1
      have hbp2 := hbp.2
      have HP := Lib.hid hpush
      have HSZ := Lib.hid hsz
      have HSZ2 := Lib.hid hsz2
      have HE := Lib.hid he
      clear hpush hsz hsz2 hvn
      go_wp2_with fail
      go_roundw
      case rel =>
        refine ⟨w2, seen.push e.born, ⟨⟨hal2.1.trans hal.1, hal2.2.1.trans hal.2.1, hal2.2.2.trans hal.2.2⟩, htp2.trans htp⟩, rfl, ?_⟩
        rw [HP.out]
      case measure =>
        rw [← HSZ2.out, World.iterSeen_alloc, HSZ2.out, ← HSZ.out, World.iterSeen_alloc]
        exact left_shrinks es seen e HE.out

end Watch
end Go.Proofs.YtldgjmgdbaeglaaDoor
