/- LexerTells (layer 18), walked: it answers true. -/
import Derived.Test.YtpfpbbbenjljfaaDoorLexSame
import Derived.Lib.LaidTab
import Derived.Lib.ItoaNum
set_option linter.unusedVariables false
set_option linter.unusedSimpArgs false
namespace Go.Proofs.YtpfpbbbenjljfaaDoor
open Go.RowKit

namespace Lex

theorem errs_of {w : World} (h1 : ∃ (tp : TypeId) (p : Value), w.var? Tryd.prog "strconv.ErrSyntax" = some #[.iface tp p]) (h2 : ∃ (tp : TypeId) (p : Value), w.var? Tryd.prog "strconv.ErrRange" = some #[.iface tp p]) : Errs w := by
  obtain ⟨t1, p1, h1⟩ := h1
  obtain ⟨t2, p2, h2⟩ := h2
  exact ⟨⟨_, World.var?_cell (g := 3) (by kernel_rfl) h1 0, .inr ⟨t1, p1, rfl⟩⟩, _, World.var?_cell (g := 4) (by kernel_rfl) h2 0, .inr ⟨t2, p2, rfl⟩⟩
theorem scan_len (s : ByteArray) : ∀ (m i : Nat) (l : List (Tk × Nat)), i + m = s.size → l.length ≤ i → (scan s i l).1.length ≤ s.size := by
  intro m
  induction m using Nat.strongRecOn with
  | ind m ih =>
    intro i l h hl
    by_cases hlt : i < s.size
    · by_cases hb : bt s i = 32
      · rw [scan_blank hlt hb]
        exact ih (m - 1) (by omega) (i + 1) l (by omega) (by omega)
      · by_cases hn : (tok (fromAt s i)).n = 0
        · rw [scan_bad hlt hb hn]; show l.length ≤ _; omega
        · have := tok_n s i hlt
          rw [scan_tok hlt hb hn]
          exact ih (m - (tok (fromAt s i)).n) (by omega) _ _ (by omega) (by rw [List.length_append, List.length_singleton]; omega)
    · rw [scan_end (by omega)]; show l.length ≤ _; omega
theorem scanV_len (s : ByteArray) : (scanV s).1.length ≤ 1000 := by
  unfold scanV
  split
  · exact Nat.zero_le _
  · have := scan_len s s.size 0 [] (by omega) (Nat.zero_le _)
    rcases hs : scan s 0 [] with ⟨l, _ | i⟩
    · rw [hs] at this
      show l.length ≤ 1000
      have : l.length ≤ s.size := this
      omega
    · exact Nat.zero_le _

set_option maxHeartbeats 8000000 in
set_option maxRecDepth 100000 in
theorem tells_any (w : World) (ht : Lib.TabIs Tryd.prog w "internal/strconv.uint64pow10" .u64 Lib.pow10Tab) (hy : ∃ (tp : TypeId) (p : Value), w.var? Tryd.prog "strconv.ErrSyntax" = some #[.iface tp p]) (hg : ∃ (tp : TypeId) (p : Value), w.var? Tryd.prog "strconv.ErrRange" = some #[.iface tp p])
    (s : ByteArray) (ws : s.size ≤ 140737488351232) :
    Calls Tryd.prog 3 #[.string s] w fun e w' => e = .returned (.bool true) ∧ But (fun _ => False) w w' := by
  have E := Lib.hid (errs_of hy hg)
  clear ht hy hg
  by_cases hbig : 1200 < s.size
  · have hb2 : (1200 : Int) < s.size := by omega
    go_enter Tryd.func3, Tryd.ntmps3
    go_wp2_with fail
    refine (alive_any _ E.out).mono ?_
    rintro r w1 ⟨rfl, g1⟩
    go_wp2_with fail
    go_ret
    exact ⟨rfl, g1⟩
  have hb2 : ¬ (1200 : Int) < s.size := by omega
  have hs : s.size ≤ 1200 := by omega
  have HS := Lib.hid (scan_any s · (by omega))
  have HR := Lib.hid (rscan_any s · (by omega))
  have HL := Lib.hid (scanV_len s)
  clear hbig ws
  generalize scanV s = V at *
  obtain ⟨l, at1, e1⟩ := V
  dsimp only at HS HR HL
  have d1 : ((at1 : Int) == (at1 : Int)) = true := by simp
  have d2 : (e1 == e1) = true := by simp
  have d3 : (nameB s == nameB s) = true := by simp
  go_enter Tryd.func3, Tryd.ntmps3
  go_wp2_with fail
  refine (HS.out _ E.out).mono ?_
  rintro r w1 ⟨⟨v, o, rfl, hR, -⟩, g1⟩
  have R1 := Lib.hid hR
  have G1 := Lib.hid g1
  clear hR g1
  go_wp2_with fail
  refine (HR.out _).mono ?_
  rintro r w2 ⟨⟨v2, o2, rfl, hR, -⟩, g2⟩
  have Q2 := Lib.hid hR
  have R2 := Lib.hid (R1.out.but g2 (fun _ _ q => q))
  have G2 := Lib.hid (G1.out.trans g2)
  clear hR g2
  go_wp2_with fail
  refine (same_any v v2 o o2 l _ R2.out Q2.out HL.out).mono ?_
  rintro r w3 ⟨rfl, g3⟩
  have G3 := Lib.hid (G2.out.trans g3)
  clear g3
  go_wp2_with fail
  refine (alive_any _ (E.out.keep G3.out)).mono ?_
  rintro r w4 ⟨rfl, g4⟩
  have G4 := Lib.hid (G3.out.trans g4)
  clear g4
  go_wp2_with fail
  refine (name_any s _ (by omega)).mono ?_
  rintro r w5 ⟨rfl, g5⟩
  have G5 := Lib.hid (G4.out.trans g5)
  clear g5
  go_wp2_with fail
  refine (ref_name s _ (by omega)).mono ?_
  rintro r w6 ⟨rfl, rfl⟩
  go_wp2_with fail
  go_ret
  exact ⟨by simp, G5.out⟩

end Lex
end Go.Proofs.YtpfpbbbenjljfaaDoor
