/- A book (layer 23): how it lies in memory; New, Note, Log, Len. -/
import Derived.Test.YtldgjmgdbaeglaaDoorWatchNote
import Derived.Test.YtldgjmgdbaeglaaDoorWatchSame
import Derived.Test.YtldgjmgdbaeglaaDoorRangeMap
import Derived.LoopTactic
set_option linter.unusedVariables false
set_option linter.unusedSimpArgs false
namespace Go.Proofs.YtldgjmgdbaeglaaDoor
open Go.RowKit

namespace Watch

/-- Block b is a book of T tenants, and what was noted in it is H; it lies in S. -/
structure Bk (T : Int) (b : Nat) (H : List Nt) (w : World) (S : Nat → Prop) : Prop where
  ex : ∃ (mb : Nat) (L : List (Int × Value)) (o : Int → Option Nat), Blk w b #[.int .i64 T, .map (some mb)] 68 ∧ Mp w mb kI L ∧ (∀ t, RowA w ((look L t).getD (.slice none 0 0)) (o t) (logOf H t)) ∧ L.length ≤ H.length ∧ tot L = H.length ∧ b ≠ mb ∧
    (∀ t, o t ≠ some b) ∧ (∀ t, o t ≠ some mb) ∧ (∀ t s c, o t = some c → o s = some c → t = s) ∧ S b ∧ S mb ∧ ∀ t c, o t = some c → S c
  lt : ∀ c, S c → c < w.heap.size

theorem Bk.but {T : Int} {b : Nat} {H : List Nt} {w w' : World} {S U : Nat → Prop} (h : Bk T b H w S) (g : But U w w') (a : Apart U S) : Bk T b H w' S := by
  obtain ⟨mb, L, o, h1, h2, h3, h4, h5, h6, h7, h8, h9, h10, h11, h12⟩ := h.ex
  exact ⟨⟨mb, L, o, h1.but g (fun q => a b q h10), h2.but g (fun q => a mb q h11), fun t => (h3 t).but g (fun c hc q => a c q (h12 t c hc)), h4, h5, h6, h7, h8, h9, h10, h11, h12⟩,
    fun c hc => Nat.lt_of_lt_of_le (h.lt c hc) g.size⟩
theorem Bk.keep {T : Int} {b : Nat} {H : List Nt} {w w' : World} {S : Nat → Prop} (h : Bk T b H w S) (g : But (fun _ => False) w w') : Bk T b H w' S := h.but g (fun _ q _ => q)

theorem lenV_row {w : World} {v : Value} {o : Option Nat} {l : List Ans} (h : RowA w v o l) : lenV v = l.length := by
  obtain ⟨a, cap, rfl, _, _⟩ := h.val
  rfl

set_option maxHeartbeats 4000000 in
set_option maxRecDepth 100000 in
theorem note_any (T : Int) (b : Nat) (H : List Nt) (t e k n : Int) (w : World) (S : Nat → Prop) (h : Bk T b H w S) (hH : H.length ≤ 200) (hn : 0 ≤ n ∧ n ≤ 18446744073709551615) :
    Calls Tryd.prog 18 #[.pointer (some ⟨b, 0, none⟩), .int .i64 t, .agg #[.int .i64 e, .int .i64 k, .int .u64 n]] w fun r w' => r = .returned (.int .i64 (noteE T ⟨t, ⟨e, k, n⟩⟩)) ∧ Moves (Bk T b (note T H ⟨t, ⟨e, k, n⟩⟩)) S w w' := by
  obtain ⟨mb, L, o, h1, h2, h3, h4, h5, h6, h7, h8, h9, h10, h11, h12⟩ := h.ex
  cases hm : may T ⟨t, ⟨e, k, n⟩⟩ with
  | false =>
    refine (note_not b mb T t e k n w h1 hn hm).mono ?_
    rintro r w' ⟨rfl, g⟩
    refine ⟨by unfold noteE; rw [hm]; rfl, S, ?_, g.mono (fun c q => q.elim), fun c hc => .inl hc⟩
    have : note T H ⟨t, ⟨e, k, n⟩⟩ = H := by unfold note; rw [hm]; rfl
    rw [this]
    exact h.keep g
  | true =>
    have hm2 : 1 ≤ t ∧ t ≤ T ∧ Answer.right e k n = true := of_decide_eq_true hm
    refine (note_walk b mb T t e k n L _ (o t) (logOf H t) w h1 h2 rfl (h3 t) (Nat.le_trans (logOf_le H t) hH) (by omega) h6 (h7 t) (h8 t) hn hm2.1 hm2.2.1 hm2.2.2).mono ?_
    rintro r w' ⟨rfl, v', o', hR', hM', hB', hO'⟩
    have hN : note T H ⟨t, ⟨e, k, n⟩⟩ = H ++ [⟨t, ⟨e, k, n⟩⟩] := by unfold note; rw [hm]; rfl
    have hb := h1.lt
    have hmb := h2.lt
    refine ⟨by unfold noteE; rw [hm]; rfl, fun c => S c ∨ o' = some c, ⟨⟨mb, put L t v', fun s => if s = t then o' else o s, ?_, hM', ?_, ?_, ?_, h6, ?_, ?_, ?_, .inl h10, .inl h11, ?_⟩, ?_⟩, ?_, ?_⟩
    · exact h1.but hB' (fun q => by rcases q with q | q; exact h7 t q; exact h6 q)
    · intro s
      dsimp only
      rw [hN, look_put]
      by_cases hs : s = t
      · subst hs
        simp only [if_true, Option.getD_some]
        have := logOf_own H ⟨s, ⟨e, k, n⟩⟩
        simp only [] at this
        rw [this]
        exact hR'
      · rw [if_neg (fun q => hs q.symm), if_neg hs, logOf_other H _ (fun q => hs q.symm)]
        exact (h3 s).but hB' (fun c hc q => by
          rcases q with q | q
          · exact hs (h9 s t c hc q)
          · subst q; exact h8 s hc)
    · rw [hN, List.length_append]
      have := put_length (L := L) (a := t) (v := v')
      simp only [List.length_cons, List.length_nil]
      omega
    · rw [hN, List.length_append]
      have q := tot_put h2.nodup t v' (.slice none 0 0) rfl
      rw [lenV_row (h3 t), lenV_row hR', List.length_append] at q
      simp only [List.length_cons, List.length_nil] at q ⊢
      omega
    · intro s
      dsimp only
      split
      · intro q
        rcases hO' b q with r | r
        · exact h7 t r
        · omega
      · exact h7 s
    · intro s
      dsimp only
      split
      · intro q
        rcases hO' mb q with r | r
        · exact h8 t r
        · omega
      · exact h8 s
    · intro s u c hs hu
      dsimp only at hs hu
      split at hs <;> split at hu
      · omega
      · rename_i e1 e2
        exfalso
        rcases hO' c hs with r | r
        · exact e2 (h9 u t c hu r)
        · have := h.lt c (h12 u c hu); omega
      · rename_i e1 e2
        exfalso
        rcases hO' c hu with r | r
        · exact e1 (h9 s t c hs r)
        · have := h.lt c (h12 s c hs); omega
      · exact h9 s u c hs hu
    · intro s c hc
      dsimp only at hc
      split at hc
      · exact .inr hc
      · exact .inl (h12 s c hc)
    · intro c hc
      rcases hc with hc | hc
      · exact Nat.lt_of_lt_of_le (h.lt c hc) hB'.size
      · exact hR'.lt hc
    · exact hB'.mono (fun c hc => by
        rcases hc with q | q
        · exact .inl (h12 t c q)
        · subst q; exact .inl h11)
    · intro c hc
      rcases hc with hc | hc
      · exact .inl hc
      · rcases hO' c hc with r | r
        · exact .inl (h12 t c r)
        · exact .inr r

set_option maxHeartbeats 4000000 in
set_option maxRecDepth 100000 in
theorem new_not (T : Int) (w : World) (h : T < 1 ∨ 16 < T) : Calls Tryd.prog 17 #[.int .i64 T] w fun r w' => r = .returned (.tuple #[.pointer none, .int .i64 1]) ∧ But (fun _ => False) w w' := by
  by_cases h1 : T < 1
  · go_enter Tryd.func17, Tryd.ntmps17
    go_wp2_with fail
    go_ret2
    exact ⟨rfl, But.refl _ w⟩
  · have h2 : 16 < T := by omega
    clear h
    go_enter Tryd.func17, Tryd.ntmps17
    go_wp2_with fail
    go_ret2
    exact ⟨rfl, But.refl _ w⟩

set_option maxHeartbeats 4000000 in
set_option maxRecDepth 100000 in
theorem new_any (T : Int) (w : World) (h1 : 1 ≤ T) (h2 : T ≤ 16) : Calls Tryd.prog 17 #[.int .i64 T] w fun r w' => ∃ b S, r = .returned (.tuple #[.pointer (some ⟨b, 0, none⟩), .int .i64 0]) ∧ Bk T b [] w' S ∧ (∀ c, S c → w.heap.size ≤ c) ∧ But (fun _ => False) w w' := by
  have M0 := (Mp.new w kI).alloc (.cells #[.int .i64 T, .map (some w.heap.size)] 68)
  have B0 := Blk.new (w.alloc (.map #[] 0)) #[.int .i64 T, .map (some w.heap.size)] 68
  have hs : (w.alloc (.map #[] 0)).heap.size = w.heap.size + 1 := by simp
  rw [hs] at B0
  have HM := Lib.hid M0
  have HB := Lib.hid B0
  clear M0 B0 hs
  have hmm := @run_makeMap Tryd.prog
  go_enter Tryd.func17, Tryd.ntmps17
  go_wp2_with fail
  go_ret2
  refine ⟨w.heap.size + 1, fun c => c = w.heap.size ∨ c = w.heap.size + 1, rfl, ⟨⟨w.heap.size, [], fun _ => none, HB.out, HM.out, fun t => Row.nil _ _ _, Nat.le_refl _, rfl, by omega, (fun t q => by cases q), (fun t q => by cases q), (fun t s c q => by cases q), .inr rfl, .inl rfl, (fun t c q => by cases q)⟩, ?_⟩, ?_, ?_⟩
  · intro c hc
    have := HB.out.lt
    omega
  · intro c hc
    omega
  · exact ((But.refl _ w).alloc _).alloc _

set_option maxHeartbeats 4000000 in
set_option maxRecDepth 100000 in
theorem log_nil (t : Int) (w : World) : Calls Tryd.prog 22 #[.pointer none, .int .i64 t] w fun r w' => r = .returned (.slice none 0 0) ∧ But (fun _ => False) w w' := by
  go_enter Tryd.func22, Tryd.ntmps22
  go_wp2_with fail
  go_ret
  exact ⟨rfl, But.refl _ w⟩

set_option maxHeartbeats 4000000 in
set_option maxRecDepth 100000 in
theorem log_any (T : Int) (b : Nat) (H : List Nt) (t : Int) (w : World) (S : Nat → Prop) (h : Bk T b H w S) (hH : H.length ≤ 200) :
    Calls Tryd.prog 22 #[.pointer (some ⟨b, 0, none⟩), .int .i64 t] w fun r w' => ∃ v o, r = .returned v ∧ RowA w' v o (logOf H t) ∧ (∀ c, o = some c → w.heap.size ≤ c) ∧ But (fun _ => False) w w' := by
  obtain ⟨mb, L, o, h1, h2, h3, -⟩ := h.ex
  have y0 := h1.cell 0
  have y1 := h1.cell 1
  have HR := Lib.hid (h3 t)
  have HM := Lib.hid h2
  obtain ⟨a, cap, hv, hcap, hcap2⟩ := (h3 t).val
  have HV := Lib.hid hv
  rw [hv] at HR
  have hlen := Nat.le_trans (logOf_le H t) hH
  clear h h1 h2 h3 hv
  go_enter Tryd.func22, Tryd.ntmps22
  go_wp2_with (at_lookup; refine wpList_look1 HM.out rfl _ _ _ rfl keyI Tryd.underlying66 (.slice none 0 0) (zeroS _) rfl t rfl (.slice a (logOf H t).length cap) HV.out ?_)
  refine (clone_any _ (o t) (logOf H t) w HR.out (by omega)).mono ?_
  rintro r w2 ⟨v2, o2, rfl, hR2, hO2, g2⟩
  obtain ⟨a2, cap2, hv2, hc1, hc2⟩ := hR2.val
  subst hv2
  have HR2 := Lib.hid hR2
  clear hR2
  go_wp2_with fail
  go_ret
  exact ⟨_, o2, rfl, HR2.out, hO2, g2⟩

set_option maxHeartbeats 4000000 in
set_option maxRecDepth 100000 in
theorem len_nil (w : World) : Calls Tryd.prog 24 #[.pointer none] w fun r w' => r = .returned (.int .i64 0) ∧ But (fun _ => False) w w' := by
  go_enter Tryd.func24, Tryd.ntmps24
  go_wp2_with fail
  go_ret
  exact ⟨rfl, But.refl _ w⟩

end Watch
end Go.Proofs.YtldgjmgdbaeglaaDoor
