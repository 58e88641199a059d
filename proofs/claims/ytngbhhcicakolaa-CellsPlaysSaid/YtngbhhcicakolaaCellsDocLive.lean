/- The document's answer for cells (layer 7), walked: Live. -/
import Derived.Test.YtngbhhcicakolaaCellsDocReads
import Derived.Test.YtngbhhcicakolaaAppend
import Derived.Test.YtngbhhcicakolaaFreeNew
set_option linter.unusedVariables false
set_option linter.unusedSimpArgs false
namespace Go.Proofs.Ytngbhhcicakolaa
open Go.RowKit Go.Deep

namespace Cells
open Free (Fr genAt takenAt)

set_option maxHeartbeats 8000000 in
set_option maxRecDepth 100000 in
theorem d_live {w0 w : World} {P : Pc} {d : Nat} {c : Cs} (h : Doc w0 P d c w) :
    Calls Try.prog 16 #[.pointer (some ⟨d, 0, none⟩)] w (Copied (ints (live c)) (live c).length w) := by
  obtain ⟨i0, hi, hz0, hz1, hz2⟩ := info_parts infoInt
  have HC := Lib.hid h
  have HINV := Lib.hid h.inv
  have hsm := h.inv.f.small
  obtain ⟨n, hn⟩ : ∃ n, Cells.n c = n := ⟨_, rfl⟩
  have hsm : n ≤ 192 := by rw [← hn]; exact hsm
  have HN := Lib.hid hn
  clear hn h
  go_enter Try.func16, Try.ntmps16
  go_wp2_with fail
  go_loopg [3, 4] n (fun k u i wr => ∃ j m : Nat, ∃ a1 cap1 o1, j + k = n ∧ i = .int .i64 j ∧ m ≤ j ∧ u = .slice a1 m cap1 ∧ Row wr 3 1 (.slice a1 m cap1) o1 m (ints (liveTo c j)) ∧ (∀ k, o1 = some k → w.heap.size ≤ k) ∧ But (fun _ => False) w wr)
  case atStart => exact ⟨0, 0, none, 0, none, by omega, rfl, by omega, rfl, by simpa [liveTo, ints] using Row.nil _ _ _, (fun k hk => by cases hk), But.refl _ w⟩
  case round =>
    obtain ⟨j, m, a1, cap1, o1, hj, rfl, hmj, rfl, hR1, hN1, hB1⟩ := hrel
    obtain ⟨rb, r, Sr, b1, q1, b2, q2, hS⟩ := (HC.out.same hB1).seen
    have c0 := hS.k0
    have c2 := hS.k2
    rw [HN.out] at c2
    have HR1 := Lib.hid hR1
    have HB1 := Lib.hid hB1
    have HN1 := Lib.hid hN1
    clear hR1 hB1 hN1
    by_cases hlt : j < n
    · have hjn : (j : Int) < n := by omega
      have htk := Free.ref_taken rb r (j : Int) wr Sr hS.rob
      rw [Free.takenR_is hS.rel, show Free.taken c.f (j : Int) = takenAt c.f j from taken_cell HINV.out ((isCell_iff c j).2 ⟨by omega, by rw [HN.out]; omega⟩)] at htk
      have HT := Lib.hid htk
      have hss := liveTo_succ c j
      clear htk hS
      cases hk : takenAt c.f j with
      | false =>
        have HS := Lib.hid (show liveTo c (j + 1) = liveTo c j by rw [hss, hk]; rfl)
        rw [hk] at HT
        clear hss hk
        go_wp2_with fail
        refine HT.out.mono ?_
        rintro r w4 ⟨rfl, rfl⟩
        go_wp2_with fail
        go_roundg (n - (j + 1))
        case measure => omega
        case rel => exact ⟨j + 1, m, a1, cap1, o1, by omega, by go_num, by omega, rfl, by rw [HS.out]; exact HR1.out, HN1.out, HB1.out⟩
      | true =>
        have HS := Lib.hid (show liveTo c (j + 1) = liveTo c j ++ [(j : Int)] by rw [hss, hk]; rfl)
        rw [hk] at HT
        have hl4 : m + 1 ≤ maxLen := by unfold maxLen; omega
        have hl5 : (m + 1) * 8 ≤ 140737488355328 := by omega
        clear hss hk
        go_wp2_with fail
        refine HT.out.mono ?_
        rintro r w4 ⟨rfl, rfl⟩
        go_wp2_with (first
          | (at_builtin; refine wpList_append_row _ rfl _ _ _ rfl 3 i0 (.int .i64 0) 1 8 Try.underlying51 hi hz0 hz1 hz2 rfl (by decide) _ o1 m (ints (liveTo c j)) (HR1.out.alloc _) rfl ⟨wr.heap.size, 0, none⟩ 1 1 [.int .i64 j] rfl rfl (cell_one_new _ _ _) (by simp [Value.oneCell']) hl4 hl5 ?_; intro v2 w2 o2 hR2 hB2 hN2; obtain ⟨a2, cap2, rfl, hcap2, hcap3⟩ := hR2.val))
        go_roundg (n - (j + 1))
        case measure => omega
        case rel =>
          have hsz := HB1.out.size
          refine ⟨j + 1, m + 1, a2, cap2, o2, by omega, by go_num, by omega, rfl, by rw [HS.out]; simpa [ints] using hR2, fun k hk => ?_, ?_⟩
          · rcases hN2 k hk with h | h
            · exact HN1.out k h
            · have h' : wr.heap.size + 1 ≤ k := by simpa using h
              omega
          · exact (HB1.out.alloc _).trans' hB2 (fun k hk => .inr (HN1.out k hk))
    · have hje : j = n := by omega
      have hnj : ¬ (j : Int) < n := by omega
      have HL := Lib.hid (show liveTo c j = live c by unfold live; rw [HN.out, hje])
      clear hje hS
      go_wp2_with fail
      go_ret
      have hlm := HR1.out.ints_len
      have hR := HR1.out
      rw [HL.out] at hR hlm
      exact ⟨_, o1, rfl, by rw [hlm]; exact hR, HN1.out, HB1.out⟩

end Cells
end Go.Proofs.Ytngbhhcicakolaa
