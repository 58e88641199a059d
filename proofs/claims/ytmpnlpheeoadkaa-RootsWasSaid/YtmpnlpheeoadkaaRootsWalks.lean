/- The functions of package roots, walked: what each call does to the set's blocks. -/
import Derived.Test.YtmpnlpheeoadkaaRootsPlain
import Derived.IntWalk
set_option linter.unusedVariables false
set_option linter.unusedSimpArgs false
namespace Go.Proofs.Ytmpnlpheeoadkaa
open Go.RowKit

namespace Roots

/-- The set at block b, in the blocks S: its cells, as the map keeps them. -/
def Set_ (b : Nat) (ks : List Int) (w : World) (S : Nat → Prop) : Prop := ∃ mb, Blk w b #[.map (some mb)] 141 ∧ Mp w mb kI (pairs ks) ∧ b ≠ mb ∧ S = fun k => k = b ∨ k = mb

theorem Set_.but {b : Nat} {ks : List Int} {w w' : World} {S U : Nat → Prop} (h : Set_ b ks w S) (g : But U w w') (a : Apart U S) : Set_ b ks w' S := by
  obtain ⟨mb, h1, h2, h3, rfl⟩ := h
  exact ⟨mb, h1.but g (fun q => a _ q (.inl rfl)), h2.but g (fun q => a _ q (.inr rfl)), h3, rfl⟩
theorem Set_.keep {b : Nat} {ks : List Int} {w w' : World} {S : Nat → Prop} (h : Set_ b ks w S) (g : But (fun _ => False) w w') : Set_ b ks w' S := h.but g (fun _ q _ => q)
theorem Set_.lt {b : Nat} {ks : List Int} {w : World} {S : Nat → Prop} (h : Set_ b ks w S) : ∀ k, S k → k < w.heap.size := by
  obtain ⟨mb, h1, h2, h3, rfl⟩ := h
  intro k hk
  rcases hk with rfl | rfl
  · exact h1.lt
  · exact h2.lt
theorem Set_.nodup {b : Nat} {ks : List Int} {w : World} {S : Nat → Prop} (h : Set_ b ks w S) : ks.Nodup := by
  obtain ⟨mb, h1, h2, h3, rfl⟩ := h
  have := h2.nodup
  rwa [pairs_keys] at this

set_option maxHeartbeats 400000 in
set_option maxRecDepth 100000 in
theorem new_any (w : World) : Calls Try.prog 36 #[] w fun e w' => ∃ b S, e = .returned (.pointer (some ⟨b, 0, none⟩)) ∧ Set_ b [] w' S ∧ (∀ k, S k → w.heap.size ≤ k) ∧ But (fun _ => False) w w' := by
  have hmm := @run_makeMap Try.prog
  go_enter Try.func36, Try.ntmps36
  go_wp2
  go_ret
  refine ⟨w.heap.size + 1, fun k => k = w.heap.size + 1 ∨ k = w.heap.size, by simp, ⟨w.heap.size, ?_, (Mp.new _ _).alloc _, by omega, rfl⟩, fun k hk => by omega, ((But.refl _ _).alloc _).alloc _⟩
  have := Blk.new (w.alloc (.map #[] 0)) #[.map (some w.heap.size)] 141
  simpa using this

set_option maxHeartbeats 1000000 in
theorem right_any (c : Int) (w : World) : Calls Try.prog 93 #[.int .i64 c] w fun e w' => e = .returned (.bool (okc c)) ∧ w = w' := by
  cases h : okc c with
  | true =>
    rw [okc_iff] at h
    have hd : decide (c < 192) = true := by simp; omega
    go_enter Try.func93, Try.ntmps93
    go_wp2_with fail
    go_ret
    exact ⟨rfl, rfl⟩
  | false =>
    rw [okc_not] at h
    by_cases h0 : c < 0
    · clear h
      go_enter Try.func93, Try.ntmps93
      go_wp2_with fail
      go_ret
      exact ⟨rfl, rfl⟩
    · replace h : 192 ≤ c := by omega
      have hd : decide (c < 192) = false := by simp; omega
      go_enter Try.func93, Try.ntmps93
      go_wp2_with fail
      go_ret
      exact ⟨rfl, rfl⟩

theorem has_nil (c : Int) (w : World) : Calls Try.prog 43 #[.pointer none, .int .i64 c] w fun e w' => e = .returned (.bool false) ∧ w = w' := by
  go_enter Try.func43, Try.ntmps43
  go_wp2
  go_ret
  exact ⟨rfl, rfl⟩

set_option maxHeartbeats 1000000 in
set_option maxRecDepth 100000 in
theorem has_any (b : Nat) (ks : List Int) (c : Int) (w : World) (S : Nat → Prop) (h : Set_ b ks w S) : Calls Try.prog 43 #[.pointer (some ⟨b, 0, none⟩), .int .i64 c] w fun e w' => e = .returned (.bool (has ks c)) ∧ w = w' := by
  obtain ⟨mb, hB, hL, hne, rfl⟩ := h
  have c0 : w.cell? ⟨b, 0, none⟩ = some (.map (some mb)) := hB.cell 0
  have hlk := look_pairs ks c
  by_cases hc : c ∈ ks
  · rw [if_pos hc] at hlk
    have LK := Lib.hid (show (look (pairs ks) c).getD (.int .i64 0) = .int .i64 c by rw [hlk]; rfl)
    have LS := Lib.hid (show (look (pairs ks) c).isSome = true by rw [hlk]; rfl)
    clear hlk
    have e : has ks c = true := (has_iff ks c).2 hc
    rw [e]
    clear hc e
    go_enter Try.func43, Try.ntmps43
    go_wp2_with (first
      | (at_lookup; refine wpList_look2 hL rfl _ _ _ rfl keyI Try.underlying139 (.int .i64 0) (zeroInt _) rfl c rfl _ LK.out true LS.out ?_))
    go_ret
    exact ⟨rfl, rfl⟩
  · rw [if_neg hc] at hlk
    have LK := Lib.hid (show (look (pairs ks) c).getD (.int .i64 0) = .int .i64 0 by rw [hlk]; rfl)
    have LS := Lib.hid (show (look (pairs ks) c).isSome = false by rw [hlk]; rfl)
    clear hlk
    have e : has ks c = false := (has_not ks c).2 hc
    rw [e]
    clear hc e
    go_enter Try.func43, Try.ntmps43
    go_wp2_with (first
      | (at_lookup; refine wpList_look2 hL rfl _ _ _ rfl keyI Try.underlying139 (.int .i64 0) (zeroInt _) rfl c rfl _ LK.out false LS.out ?_))
    go_ret
    exact ⟨rfl, rfl⟩

theorem add_nil (c : Int) (w : World) : Calls Try.prog 39 #[.pointer none, .int .i64 c] w fun e w' => e = .returned (.tuple #[.bool false, .int .i64 1]) ∧ w = w' := by
  go_enter Try.func39, Try.ntmps39
  go_wp2
  go_ret2
  exact ⟨rfl, rfl⟩

/-- What Add tells. -/
def addT (ks : List Int) (c : Int) : Bool × Int := if okc c = true then (!has ks c, 0) else (false, 1)
def addTo (ks : List Int) (c : Int) : List Int := if okc c = true then addK ks c else ks
/-- What Drop tells. -/
def dropT (ks : List Int) (c : Int) : Int := if okc c = true then (if has ks c = true then 0 else 9) else 1
def dropTo (ks : List Int) (c : Int) : List Int := if okc c = true then (if has ks c = true then dropK ks c else ks) else ks

set_option maxHeartbeats 1000000 in
set_option maxRecDepth 100000 in
theorem add_any (b : Nat) (ks : List Int) (c : Int) (w : World) (S : Nat → Prop) (h : Set_ b ks w S) (hk : ks.length ≤ 1000000) : Calls Try.prog 39 #[.pointer (some ⟨b, 0, none⟩), .int .i64 c] w fun e w' =>
    e = .returned (.tuple #[.bool (addT ks c).1, .int .i64 (addT ks c).2]) ∧ Set_ b (addTo ks c) w' S ∧ But S w w' := by
  unfold addT addTo
  cases ho : okc c with
  | false =>
    rw [if_neg (by simp), if_neg (by simp)]
    go_enter Try.func39, Try.ntmps39
    go_wp2_with fail
    refine (right_any c _).mono ?_
    rintro e w2 ⟨rfl, rfl⟩
    rw [ho]
    go_wp2_with fail
    go_ret2
    exact ⟨rfl, h, But.refl _ _⟩
  | true =>
    rw [if_pos rfl, if_pos rfl]
    have HH := Lib.hid h
    obtain ⟨mb, hB, hL, hne, rfl⟩ := h
    have c0 : w.cell? ⟨b, 0, none⟩ = some (.map (some mb)) := hB.cell 0
    have hm : (pairs ks).length < maxLen := by rw [pairs_len]; unfold maxLen; omega
    have hfin : ∀ w', Mp w' mb kI (put (pairs ks) c (.int .i64 c)) → But (fun k => k = mb) w w' → Set_ b (addK ks c) w' (fun k => k = b ∨ k = mb) ∧ But (fun k => k = b ∨ k = mb) w w' := fun w' a g => by
      rw [put_pairs] at a
      exact ⟨⟨mb, hB.but g hne, a, hne, rfl⟩, g.mono (fun k hk => .inl (.inr hk))⟩
    have HF := Lib.hid hfin
    clear hfin
    go_enter Try.func39, Try.ntmps39
    go_wp2_with fail
    refine (right_any c _).mono ?_
    rintro e w2 ⟨rfl, rfl⟩
    rw [ho]
    go_wp2_with fail
    refine (has_any b ks c _ _ HH.out).mono ?_
    rintro e w2 ⟨rfl, rfl⟩
    go_wp2_with (first
      | (at_mapUpdate; refine wpList_update hL rfl _ _ _ _ rfl keyI Try.underlying139 rfl c rfl hm ?_; intro w2 hL2 hB2))
    go_ret2
    exact ⟨rfl, HF.out _ hL2 hB2⟩

theorem drop_nil (c : Int) (w : World) : Calls Try.prog 37 #[.pointer none, .int .i64 c] w fun e w' => e = .returned (.int .i64 1) ∧ w = w' := by
  go_enter Try.func37, Try.ntmps37
  go_wp2
  go_ret
  exact ⟨rfl, rfl⟩

set_option maxHeartbeats 1000000 in
set_option maxRecDepth 100000 in
theorem drop_any (b : Nat) (ks : List Int) (c : Int) (w : World) (S : Nat → Prop) (h : Set_ b ks w S) : Calls Try.prog 37 #[.pointer (some ⟨b, 0, none⟩), .int .i64 c] w fun e w' =>
    e = .returned (.int .i64 (dropT ks c)) ∧ Set_ b (dropTo ks c) w' S ∧ But S w w' := by
  unfold dropT dropTo
  cases ho : okc c with
  | false =>
    rw [if_neg (by simp), if_neg (by simp)]
    go_enter Try.func37, Try.ntmps37
    go_wp2_with fail
    refine (right_any c _).mono ?_
    rintro e w2 ⟨rfl, rfl⟩
    rw [ho]
    go_wp2_with fail
    go_ret
    exact ⟨rfl, h, But.refl _ _⟩
  | true =>
    rw [if_pos rfl, if_pos rfl]
    have HH := Lib.hid h
    cases hh : has ks c with
    | false =>
      rw [if_neg (by simp), if_neg (by simp)]
      go_enter Try.func37, Try.ntmps37
      go_wp2_with fail
      refine (right_any c _).mono ?_
      rintro e w2 ⟨rfl, rfl⟩
      rw [ho]
      go_wp2_with fail
      refine (has_any b ks c _ _ HH.out).mono ?_
      rintro e w2 ⟨rfl, rfl⟩
      rw [hh]
      go_wp2_with fail
      go_ret
      exact ⟨rfl, HH.out, But.refl _ _⟩
    | true =>
      rw [if_pos rfl, if_pos rfl]
      obtain ⟨mb, hB, hL, hne, rfl⟩ := h
      have c0 : w.cell? ⟨b, 0, none⟩ = some (.map (some mb)) := hB.cell 0
      have hfin : ∀ w', Mp w' mb kI (del (pairs ks) c) → But (fun k => k = mb) w w' → Set_ b (dropK ks c) w' (fun k => k = b ∨ k = mb) ∧ But (fun k => k = b ∨ k = mb) w w' := fun w' a g => by
        rw [del_pairs] at a
        exact ⟨⟨mb, hB.but g hne, a, hne, rfl⟩, g.mono (fun k hk => .inl (.inr hk))⟩
      have HF := Lib.hid hfin
      clear hfin
      go_enter Try.func37, Try.ntmps37
      go_wp2_with fail
      refine (right_any c _).mono ?_
      rintro e w2 ⟨rfl, rfl⟩
      rw [ho]
      go_wp2_with fail
      refine (has_any b ks c _ _ HH.out).mono ?_
      rintro e w2 ⟨rfl, rfl⟩
      rw [hh]
      go_wp2_with (first
        | (at_delete; refine wpList_del hL rfl _ _ _ rfl keyI Try.underlying139 rfl c rfl ?_; intro w3 hL3 hB3))
      go_ret
      exact ⟨rfl, HF.out _ hL3 hB3⟩

theorem len_nil (w : World) : Calls Try.prog 42 #[.pointer none] w fun e w' => e = .returned (.int .i64 0) ∧ w = w' := by
  go_enter Try.func42, Try.ntmps42
  go_wp2
  go_ret
  exact ⟨rfl, rfl⟩

set_option maxHeartbeats 1000000 in
set_option maxRecDepth 100000 in
theorem len_any (b : Nat) (ks : List Int) (w : World) (S : Nat → Prop) (h : Set_ b ks w S) : Calls Try.prog 42 #[.pointer (some ⟨b, 0, none⟩)] w fun e w' => e = .returned (.int .i64 ks.length) ∧ w = w' := by
  obtain ⟨mb, hB, hL, hne, rfl⟩ := h
  have c0 : w.cell? ⟨b, 0, none⟩ = some (.map (some mb)) := hB.cell 0
  rw [← pairs_len ks]
  have hln := fun ty => hL.run_len (P := Try.prog) Try.underlying139 ty
  go_enter Try.func42, Try.ntmps42
  go_wp2_with fail
  go_ret
  exact ⟨rfl, rfl⟩

theorem all_nil (w : World) : Calls Try.prog 41 #[.pointer none] w fun e w' => e = .returned (.slice none 0 0) ∧ w = w' := by
  go_enter Try.func41, Try.ntmps41
  go_wp2
  go_ret
  exact ⟨rfl, rfl⟩

end Roots
end Go.Proofs.Ytmpnlpheeoadkaa
