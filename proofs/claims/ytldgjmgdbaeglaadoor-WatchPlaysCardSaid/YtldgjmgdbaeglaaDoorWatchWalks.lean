/- Layer 23 (watch), walked: lists of answers: slices.Clone, the document's Same, Log. -/
import Derived.Test.YtldgjmgdbaeglaaDoorWatchPlain
import Derived.IntWalk
set_option linter.unusedVariables false
set_option linter.unusedSimpArgs false
namespace Go.Proofs.YtldgjmgdbaeglaaDoor
open Go.RowKit

namespace Watch

set_option maxHeartbeats 2000000 in
set_option maxRecDepth 100000 in
theorem clone_any (v : Value) (o : Option Nat) (l : List Ans) (w : World) (hR : RowA w v o l) (hn : l.length ≤ 1000) :
    Calls Tryd.prog 31 #[v] w fun e w' => ∃ v' o', e = .returned v' ∧ RowA w' v' o' l ∧ (∀ k, o' = some k → w.heap.size ≤ k) ∧ But (fun _ => False) w w' := by
  rcases hR.is with ⟨rfl, ho, hl0⟩ | ⟨b, off, cap, cs, rfl, ho, hh, h1, h2, h3, h4⟩
  · have he := fun w => Lib.run_eql_slice_nil (P := Tryd.prog) w 47 42 none 0 0 0 0 Tryd.underlying47
    have HR := Lib.hid hR
    have HL := Lib.hid hl0
    clear hR hl0
    go_enter Tryd.func31, Tryd.ntmps31
    go_wp2
    go_ret
    exact ⟨_, none, rfl, ⟨HR.out.len, .inl ⟨rfl, rfl, HL.out⟩⟩, (fun k hk => by cases hk), But.refl _ _⟩
  · obtain ⟨n, hn0⟩ : ∃ n, n = l.length := ⟨_, rfl⟩
    rw [← hn0] at hn h1 h4 ⊢
    have hlen := hR.len
    unfold RowA at hR
    rw [← hn0] at hR hlen
    have he := fun w => Lib.run_eql_slice_nil (P := Tryd.prog) w 47 42 (some ⟨b, off, none⟩) n cap 0 0 Tryd.underlying47
    obtain ⟨i0, hi, hz0, hz1, hz2⟩ := info_parts infoAns
    have hl2 : 0 + n ≤ maxLen := by unfold maxLen; omega
    have hl3 : (0 + n) * 24 ≤ 140737488355328 := by omega
    have hc : ∀ j u, (encsA l)[j]? = some u → (w.alloc (.cells #[] 42)).cell? ((⟨b, off, none⟩ : Addr).add j) = some u := row_src (hR.alloc _)
    have h1c : ∀ u ∈ encsA l, u.oneCell' = true := oneCell_As
    have HN := Lib.hid hn0
    have HR := Lib.hid hR
    have HC := Lib.hid hc
    have HL := Lib.hid hlen
    clear hh h4 h3 hR hc hlen hn0
    go_enter Tryd.func31, Tryd.ntmps31
    go_wp2_with (at_builtin; refine wpList_append_row _ rfl _ _ _ rfl 42 i0 (.agg #[.int .i64 0, .int .i64 0, .int .u64 0]) 3 24 Tryd.underlying47 hi hz0 hz1 hz2 rfl (by decide) _ (some w.heap.size) 0 [] (Row.new w 42 3 0 [] rfl (Nat.zero_le _)) rfl ⟨b, off, none⟩ n cap (encsA l) rfl HL.out HC.out h1c hl2 hl3 ?_; intro v2 w2 ob2 hR2 hB2 hN2; obtain ⟨a2, cap2, rfl, hcap2, hcap3⟩ := hR2.val)
    go_ret
    refine ⟨_, ob2, rfl, ?_, ?_, ?_⟩
    · simpa [HN.out] using hR2
    · intro k hk
      rcases hN2 k hk with h | h
      · cases h; exact Nat.le_refl _
      · simp at h; omega
    · exact ((But.refl _ _).alloc _).trans' hB2 (fun k hk => .inr (by cases hk; exact Nat.le_refl _))

end Watch
end Go.Proofs.YtldgjmgdbaeglaaDoor
