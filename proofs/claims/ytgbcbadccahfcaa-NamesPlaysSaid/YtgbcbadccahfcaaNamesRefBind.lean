/- The document's Bind and Word for layer 22, walked. -/
import Derived.Test.YtgbcbadccahfcaaNamesKept
import Derived.Test.YtgbcbadccahfcaaLexRefName
set_option linter.unusedVariables false
set_option linter.unusedSimpArgs false
namespace Go.Proofs.Ytgbcbadccahfcaa
open Go.RowKit

namespace Names
open Lex

theorem infoRBound : (Try.prog.info? 55).map (fun i => (i.zero, i.size, i.bytes)) = some (some (.agg #[.string ⟨#[]⟩, .int .u64 0]), 2, 24) := by kernel_rfl
theorem cellsK_one (K : List Wd) : ∀ u ∈ cellsK K, u.oneCell' = true := by
  unfold cellsK
  intro u hu
  obtain ⟨p, -, hp⟩ := List.mem_flatMap.1 hu
  simp at hp
  rcases hp with rfl | rfl <;> simp [Value.oneCell']

set_option maxHeartbeats 4000000 in
set_option maxRecDepth 100000 in
theorem ref_bind_no {w : World} (v : Value) (s : ByteArray) (x : Int) (hs : s.size ≤ 1000000000) (hn : nameB s = false) :
    Calls Try.prog 8 #[v, .string s, .int .u64 x] w fun e w' => e = .returned (.tuple #[v, .int .i64 1]) ∧ w' = w := by
  go_enter Try.func8, Try.ntmps8
  go_wp2_with fail
  refine (ref_name s _ hs).mono ?_
  rintro e w2 ⟨rfl, rfl⟩
  rw [hn]
  go_wp2_with fail
  go_ret2
  exact ⟨rfl, rfl⟩

set_option maxHeartbeats 4000000 in
set_option maxRecDepth 100000 in
theorem ref_bind_yes {w : World} {v : Value} {o : Option Nat} {n : Nat} {K : List Wd} (hR : Row w 55 2 v o n (cellsK K)) (hK : K.length = n) (s : ByteArray) (x : Int) (hs : s.size ≤ 1000000000) (hn : nameB s = true) (hn2 : n ≤ 1000) :
    Calls Try.prog 8 #[v, .string s, .int .u64 x] w fun e w' => ∃ v' o', e = .returned (.tuple #[v', .int .i64 0]) ∧ Row w' 55 2 v' o' (n + 1) (cellsK (K ++ [(s, x)])) ∧ (∀ k, o' = some k → w.heap.size ≤ k) ∧ But (fun _ => False) w w' := by
  obtain ⟨i0, hi, hz0, hz1, hz2⟩ := info_parts infoRBound
  have HS := Lib.hid hs
  have HNB := Lib.hid hn
  have hcl := cellsK_len K
  rw [hK] at hcl
  have HCL := Lib.hid hcl
  clear hs hn hcl
  rcases hR.is with ⟨rfl, rfl, rfl⟩ | ⟨b, off, cap, cs, rfl, rfl, hh, h1, h2, h3, h4⟩
  · have hKn : K = [] := List.eq_nil_of_length_eq_zero hK
    subst hKn
    clear hR
    go_enter Try.func8, Try.ntmps8
    go_wp2_with fail
    refine (ref_name s _ HS.out).mono ?_
    rintro e w2 ⟨rfl, rfl⟩
    rw [HNB.out]
    have HH0 := Lib.hid (Row.new w2 55 2 0 [] rfl (Nat.zero_le _))
    go_wp2_with (first
      | (at_builtin; refine wpList_append_none _ rfl _ _ _ rfl 55 i0 Try.underlying32 hi (some ⟨w2.heap.size, 0, none⟩) 0 0 rfl (Nat.le_refl _) rfl ?_; have tok := True.intro)
      | (at_builtin; have HH := HH0.out.alloc (.cells #[.string s, .int .u64 x] 55); refine wpList_append_row _ rfl _ _ _ rfl 55 i0 (.agg #[.string ⟨#[]⟩, .int .u64 0]) 2 24 Try.underlying32 hi hz0 hz1 hz2 rfl (by decide) _ (some w2.heap.size) 0 [] HH (by rfl) ⟨w2.heap.size + 1, 0, none⟩ 1 1 [.string s, .int .u64 x] (by rfl) (by rfl) (new_src' _ [.string s, .int .u64 x] _ (by simp)) (by simp [Value.oneCell']) (by unfold maxLen; omega) (by omega) ?_; intro v4 w4 o4 hR4 hB4 hN4))
    go_ret2
    refine ⟨v4, o4, rfl, by simpa [cellsK] using hR4, fun k hk => ?_, (((But.refl (fun _ => False) w2).alloc _).alloc _).trans' hB4 (fun k hk => .inr (by simp at hk; omega))⟩
    rcases hN4 k hk with q | q
    · simp at q; omega
    · simp at q; omega
  · have HR := Lib.hid hR
    clear hR hh h3 h4
    go_enter Try.func8, Try.ntmps8
    go_wp2_with fail
    refine (ref_name s _ HS.out).mono ?_
    rintro e w2 ⟨rfl, rfl⟩
    rw [HNB.out]
    have HH0 := Row.new w2 55 2 0 [] rfl (Nat.zero_le _)
    have HSRC := Lib.hid (row_src (HR.out.alloc (.cells (([] : List Value).toArray) 55)))
    go_wp2_with (first
      | (at_builtin; refine wpList_append_row _ rfl _ _ _ rfl 55 i0 (.agg #[.string ⟨#[]⟩, .int .u64 0]) 2 24 Try.underlying32 hi hz0 hz1 hz2 rfl (by decide) _ (some w2.heap.size) 0 [] HH0 (by rfl) ⟨b, off, none⟩ n cap (cellsK K) (by rfl) HCL.out HSRC.out (cellsK_one K) (by unfold maxLen; omega) (by omega) ?_; intro v3 w3 o3 hR3 hB3 hN3; rw [Nat.zero_add, List.nil_append] at hR3; obtain ⟨a3, cap3, rfl, -, -⟩ := hR3.val)
      | (at_builtin; have HH := hR3.alloc (.cells #[.string s, .int .u64 x] 55); refine wpList_append_row _ rfl _ _ _ rfl 55 i0 (.agg #[.string ⟨#[]⟩, .int .u64 0]) 2 24 Try.underlying32 hi hz0 hz1 hz2 rfl (by decide) _ o3 n (cellsK K) HH (by rfl) ⟨w3.heap.size, 0, none⟩ 1 1 [.string s, .int .u64 x] (by rfl) (by rfl) (new_src w3 [.string s, .int .u64 x] _) (by simp [Value.oneCell']) (by unfold maxLen; omega) (by omega) ?_; intro v4 w4 o4 hR4 hB4 hN4))
    go_ret2
    have g3 : But (fun _ => False) w2 w3 := ((But.refl (fun _ => False) w2).alloc _).trans' hB3 (fun k hk => .inr (by simp at hk; omega))
    have z3 := g3.size
    have ho3 : ∀ k, o3 = some k → w2.heap.size ≤ k := fun k hk => by
      rcases hN3 k hk with q | q
      · simp at q; omega
      · simp at q; omega
    refine ⟨v4, o4, rfl, by rw [cellsK_push]; exact hR4, fun k hk => ?_, (g3.alloc _).trans' hB4 (fun k hk => .inr (ho3 k hk))⟩
    rcases hN4 k hk with q | q
    · exact ho3 k q
    · have q' : w3.heap.size + 1 ≤ k := by simpa using q
      omega

end Names
end Go.Proofs.Ytgbcbadccahfcaa
