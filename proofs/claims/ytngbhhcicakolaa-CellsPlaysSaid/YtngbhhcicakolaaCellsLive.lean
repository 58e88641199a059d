/- Live of package cells, walked. -/
import Derived.Test.YtngbhhcicakolaaCellsReads
import Derived.Test.YtngbhhcicakolaaAppend
set_option linter.unusedVariables false
set_option linter.unusedSimpArgs false
namespace Go.Proofs.Ytngbhhcicakolaa
open Go.RowKit Go.Deep

namespace Cells
open Free (Fr genAt takenAt)

theorem live_nil (w : World) : Calls Try.prog 15 #[.pointer none] w fun e w' => e = .returned (.slice none 0 0) ∧ w = w' := by
  go_enter Try.func15, Try.ntmps15
  go_wp2
  go_ret
  exact ⟨rfl, rfl⟩

set_option maxHeartbeats 8000000 in
set_option maxRecDepth 100000 in
theorem live_any (b fb ab ca base : Nat) (l0 l : List Int) (c : Cs) (t : Int) (w : World) (Sf : Nat → Prop) (h : Cel b fb ab ca base l0 c l t w Sf) :
    Calls Try.prog 15 #[.pointer (some ⟨b, 0, none⟩)] w (Copied (ints (live c)) (live c).length w) := by
  obtain ⟨i0, hi, hz0, hz1, hz2⟩ := info_parts infoInt
  have HC := Lib.hid h
  obtain ⟨c0, c1, c2, c3, c4, c5, c6, c7⟩ := hc_of h.blk
  have hcn := h.inv.f.cnt
  have hsm := h.inv.f.small
  have hct := Conf.count_any c.f.s w
  unfold Conf.sh at hct
  rw [← hcn] at hct
  have HCT := Lib.hid hct
  obtain ⟨n, hn⟩ : ∃ n, Free.n c.f = n := ⟨_, rfl⟩
  rw [hn] at HCT hsm
  have HN := Lib.hid hn
  clear hcn hct hn h
  go_enter Try.func15, Try.ntmps15
  go_wp2_with fail
  refine HCT.out.mono ?_
  rintro r w2 ⟨rfl, g2⟩
  have G2 := Lib.hid g2
  clear g2 c0 c1 c2 c3 c4 c5 c6 c7
  go_wp2_with fail
  go_loopg [3, 12] n (fun k u i wr => ∃ j m : Nat, ∃ a1 cap1 o1, j + k = n ∧ i = .int .i64 j ∧ m ≤ j ∧ u = .slice a1 m cap1 ∧ Row wr 3 1 (.slice a1 m cap1) o1 m (ints (liveTo c j)) ∧ (∀ k, o1 = some k → w.heap.size ≤ k) ∧ But (fun _ => False) w wr)
  case atStart => exact ⟨0, 0, none, 0, none, by omega, rfl, by omega, rfl, by simpa [liveTo, ints] using Row.nil _ _ _, (fun k hk => by cases hk), G2.out⟩
  case round =>
    obtain ⟨j, m, a1, cap1, o1, hj, rfl, hmj, rfl, hR1, hN1, hB1⟩ := hrel
    have HR1 := Lib.hid hR1
    have HB1 := Lib.hid hB1
    have HN1 := Lib.hid hN1
    have H1 := Lib.hid (HC.out.keep hB1)
    clear hR1 hB1 hN1
    by_cases hlt : j < n
    · have hjn : (j : Int) < n := by omega
      obtain ⟨c0, c1, c2, c3, c4, c5, c6, c7⟩ := hc_of H1.out.blk
      have htk : Free.taken c.f (j : Int) = takenAt c.f j := taken_cell H1.out.inv ((isCell_iff c j).2 ⟨by omega, by show (j : Int) < (Free.n c.f : Nat); rw [HN.out]; omega⟩)
      have HT := Lib.hid htk
      have hss := liveTo_succ c j
      clear c2 c3 c4 c5 c6 c7 htk
      cases hk : takenAt c.f j with
      | false =>
        have HS := Lib.hid (show liveTo c (j + 1) = liveTo c j by rw [hss, hk]; rfl)
        clear hss
        go_wp2_with fail
        refine (Free.taken_any fb c.f (j : Int) _ Sf H1.out.fob H1.out.inv.f).mono ?_
        rintro r w4 ⟨rfl, rfl⟩
        rw [HT.out, hk]
        go_wp2_with fail
        go_roundg (n - (j + 1))
        case measure => omega
        case rel => exact ⟨j + 1, m, a1, cap1, o1, by omega, by go_num, by omega, rfl, by rw [HS.out]; exact HR1.out, HN1.out, HB1.out⟩
      | true =>
        have HS := Lib.hid (show liveTo c (j + 1) = liveTo c j ++ [(j : Int)] by rw [hss, hk]; rfl)
        have hl4 : m + 1 ≤ maxLen := by unfold maxLen; omega
        have hl5 : (m + 1) * 8 ≤ 140737488355328 := by omega
        clear hss
        go_wp2_with fail
        refine (Free.taken_any fb c.f (j : Int) _ Sf H1.out.fob H1.out.inv.f).mono ?_
        rintro r w4 ⟨rfl, rfl⟩
        rw [HT.out, hk]
        go_wp2_with (first
          | (at_builtin; refine wpList_append_row _ rfl _ _ _ rfl 3 i0 (.int .i64 0) 1 8 Try.underlying51 hi hz0 hz1 hz2 rfl (by decide) _ o1 m (ints (liveTo c j)) (HR1.out.alloc _) rfl ⟨wr.heap.size, 0, none⟩ 1 1 [.int .i64 j] rfl rfl (cell_one_new _ _ _) (by simp [Value.oneCell']) hl4 hl5 ?_; intro v2 w2 o2 hR2 hB2 hN2; obtain ⟨a2, cap2, rfl, hcap2, hcap3⟩ := hR2.val))
        go_roundg (n - (j + 1))
        case measure => omega
        case rel =>
          have hsz := HB1.out.size
          refine ⟨j + 1, m + 1, a2, cap2, o2, by omega, by go_num, by omega, rfl, by rw [HS.out]; simpa [ints] using hR2, fun k hk => ?_, ?_⟩
          · rcases hN2 k hk with h | h
            · exact HN1.out k h
            · have h' : wr.heap.size + 1 ≤ k := by simpa using h
              omega
          · exact (HB1.out.alloc _).trans' hB2 (fun k hk => .inr (HN1.out k hk))
    · have hje : j = n := by omega
      have hnj : ¬ (j : Int) < n := by omega
      have HL := Lib.hid (show liveTo c j = live c by unfold live; rw [show Cells.n c = Free.n c.f from rfl, HN.out, hje])
      clear hje
      go_wp2_with fail
      go_ret
      have hlm := HR1.out.ints_len
      have hR := HR1.out
      rw [HL.out] at hR hlm
      exact ⟨_, o1, rfl, by rw [hlm]; exact hR, HN1.out, HB1.out⟩

end Cells
end Go.Proofs.Ytngbhhcicakolaa
