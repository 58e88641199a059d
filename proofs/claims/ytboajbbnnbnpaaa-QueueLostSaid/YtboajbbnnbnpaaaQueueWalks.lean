/- The functions of package queue, walked: what each call does to the queue's blocks. -/
import Derived.Test.YtboajbbnnbnpaaaRows
import Derived.Test.YtboajbbnnbnpaaaRow
import Derived.Test.YtboajbbnnbnpaaaMaps
import Derived.IntWalk
set_option linter.unusedVariables false
set_option linter.unusedSimpArgs false
namespace Go.Proofs.Ytboajbbnnbnpaaa
open Go.RowKit

theorem zeroInt (w : World) : (zeroValue 3).run Try.prog w = .ok (.int .i64 0) w := by kernel_rfl
theorem infoInt : (Try.prog.info? 3).map (fun i => (i.zero, i.size, i.bytes)) = some (some (.int .i64 0), 1, 8) := by kernel_rfl
theorem keyI : KeyOK Try.prog 3 (fun n : Int => Value.int .i64 n) := keyInt Try.underlying3

/-- A list of numbers as cells. -/
def ints (l : List Int) : List Value := l.map (Value.int .i64)
theorem ints_length (l : List Int) : (ints l).length = l.length * 1 := by simp [ints]

namespace Queue

/-- The queue at block b, in the blocks S: its cells as they came, and how often each is pending. -/
structure Que (w : World) (b : Nat) (S : Nat → Prop) (order : List Int) (cnt : Int → Int) (M : Nat) : Prop where
  out : ∃ a cap ob mb L, Blk w b #[.slice a order.length cap, .map (some mb)] 120 ∧ Row w 3 1 (.slice a order.length cap) ob order.length (ints order) ∧
    Mp w mb (fun n : Int => Value.int .i64 n) L ∧ (∀ c, (look L c).getD (.int .i64 0) = .int .i64 (cnt c)) ∧ L.length ≤ M ∧
    S b ∧ S mb ∧ (∀ k, ob = some k → S k ∧ k ≠ b ∧ k ≠ mb) ∧ b ≠ mb
  small : ∀ k, S k → k < w.heap.size
  mem : ∀ c, c ∈ order ↔ 0 < cnt c
  nodup : order.Nodup
  cells : ∀ c ∈ order, 0 ≤ c ∧ c ≤ 191
  pos : ∀ c, 0 ≤ cnt c ∧ cnt c ≤ M
  most : M ≤ 1000000000000

def pushed (order : List Int) (cnt : Int → Int) (c : Int) : List Int := if cnt c = 0 then order ++ [c] else order
def more (cnt : Int → Int) (c : Int) : Int → Int := fun d => if d = c then cnt c + 1 else cnt d
def gone (cnt : Int → Int) (c : Int) : Int → Int := fun d => if d = c then 0 else cnt d

set_option maxHeartbeats 400000 in
theorem push_no (v : Option Addr) (c : Int) (w : World) (h : v = none ∨ c < 0 ∨ 191 < c) :
    Calls Try.prog 34 #[.pointer v, .int .i64 c] w fun e w' => e = .returned (.int .i64 1) ∧ w = w' := by
  by_cases h1 : v = none
  · subst h1
    go_enter Try.func34, Try.ntmps34
    go_wp2
    go_ret
    exact ⟨rfl, rfl⟩
  · obtain ⟨a, rfl⟩ : ∃ a, v = some a := by cases v with | none => exact absurd rfl h1 | some a => exact ⟨a, rfl⟩
    by_cases h2 : c < 0
    · go_enter Try.func34, Try.ntmps34
      go_wp2
      go_ret
      exact ⟨rfl, rfl⟩
    · have h3 : 192 ≤ c := by rcases h with h | h | h <;> first | omega | exact absurd h h1
      clear h h1
      go_enter Try.func34, Try.ntmps34
      go_wp2
      go_ret
      exact ⟨rfl, rfl⟩

theorem more_mem {order : List Int} {cnt : Int → Int} {c : Int} (hm : ∀ d, d ∈ order ↔ 0 < cnt d) (hp : ∀ d, 0 ≤ cnt d) : ∀ d, d ∈ pushed order cnt c ↔ 0 < more cnt c d := by
  intro d
  unfold pushed more
  have h1 := hm d
  have h2 := hp c
  have h3 := hp d
  by_cases e : d = c
  · subst e; rw [if_pos rfl]; split
    · simp; omega
    · rw [h1]; omega
  · rw [if_neg e]; split
    · simp [h1, e]
    · exact h1

theorem look_more {L : List (Int × Value)} {cnt : Int → Int} (hlk : ∀ c, (look L c).getD (.int .i64 0) = .int .i64 (cnt c)) (c : Int) :
    ∀ d, (look (put L c (.int .i64 (cnt c + 1))) d).getD (.int .i64 0) = .int .i64 (more cnt c d) := by
  intro d
  rw [look_put]
  unfold more
  by_cases e : c = d
  · subst e; simp
  · rw [if_neg e, if_neg (fun h => e h.symm)]; exact hlk d
theorem look_gone {L : List (Int × Value)} {cnt : Int → Int} (hlk : ∀ c, (look L c).getD (.int .i64 0) = .int .i64 (cnt c)) (c : Int) :
    ∀ d, (look (del L c) d).getD (.int .i64 0) = .int .i64 (gone cnt c d) := by
  intro d
  rw [look_del]
  unfold gone
  by_cases e : c = d
  · subst e; simp
  · rw [if_neg e, if_neg (fun h => e h.symm)]; exact hlk d

theorem pushed_nodup {order : List Int} {cnt : Int → Int} {c : Int} (hm : ∀ d, d ∈ order ↔ 0 < cnt d) (hn : order.Nodup) : (pushed order cnt c).Nodup := by
  unfold pushed
  split
  · rename_i h
    rw [List.nodup_append]
    refine ⟨hn, by simp, fun x hx y hy => ?_⟩
    simp at hy; subst hy
    intro e; subst e
    have := (hm x).1 hx; omega
  · exact hn
theorem pushed_cells {order : List Int} {cnt : Int → Int} {c : Int} (h : ∀ d ∈ order, 0 ≤ d ∧ d ≤ 191) (hc : 0 ≤ c) (hc' : c ≤ 191) : ∀ d ∈ pushed order cnt c, 0 ≤ d ∧ d ≤ 191 := by
  unfold pushed
  split
  · intro d hd; simp at hd; rcases hd with hd | rfl
    · exact h d hd
    · exact ⟨hc, hc'⟩
  · exact h
theorem more_pos {cnt : Int → Int} {c : Int} {M : Nat} (h : ∀ d, 0 ≤ cnt d ∧ cnt d ≤ M) : ∀ d, 0 ≤ more cnt c d ∧ more cnt c d ≤ (M + 1 : Nat) := by
  intro d
  unfold more
  have h1 := h c
  have h2 := h d
  split <;> omega

theorem nodup_length_le {α : Type} [DecidableEq α] : ∀ {l m : List α}, l.Nodup → l.Subset m → l.length ≤ m.length
  | [], _, _, _ => by simp
  | a :: l, m, hn, hs => by
    simp only [List.nodup_cons] at hn
    have ha : a ∈ m := hs (by simp)
    have := nodup_length_le (m := m.erase a) hn.2 (fun x hx => by
      have hne : x ≠ a := fun e => hn.1 (e ▸ hx)
      exact (List.mem_erase_of_ne hne).2 (hs (by simp [hx])))
    have h1 := List.length_erase_of_mem ha
    have h2 := List.length_pos_of_mem ha
    simp only [List.length_cons]; omega

theorem length_le {order : List Int} (hn : order.Nodup) (h : ∀ d ∈ order, 0 ≤ d ∧ d ≤ 191) : order.length ≤ 192 := by
  have h1 : (order.map Int.toNat).Nodup := by
    rw [List.nodup_iff_pairwise_ne, List.pairwise_map]
    rw [List.nodup_iff_pairwise_ne] at hn
    refine hn.imp_of_mem ?_
    intro a b ha hb hab
    have := h a ha; have := h b hb; omega
  have h2 : (order.map Int.toNat).Subset (List.range 192) := by
    intro x hx
    obtain ⟨y, hy, rfl⟩ := List.mem_map.1 hx
    have := h y hy
    simp; omega
  have := nodup_length_le h1 h2
  simpa using this

set_option maxHeartbeats 1000000 in
set_option maxRecDepth 100000 in
theorem push_old (b : Nat) (S : Nat → Prop) (order : List Int) (cnt : Int → Int) (M : Nat) (c : Int) (w : World) (q : Que w b S order cnt M) (hc : 0 ≤ c) (hc' : c ≤ 191) (hn : cnt c ≠ 0) (hM : M < 1000000000000) :
    Calls Try.prog 34 #[.pointer (some ⟨b, 0, none⟩), .int .i64 c] w fun e w' => e = .returned (.int .i64 0) ∧ Moves (fun w' S' => Que w' b S' (pushed order cnt c) (more cnt c) (M + 1)) S w w' := by
  obtain ⟨a, cap, ob, mb, L, hB, hR, hL, hlk, hlen, s1, s2, s3, hne⟩ := q.out
  have c0 : w.cell? ⟨b, 0, none⟩ = some (.slice a order.length cap) := hB.cell 0
  have c1 : w.cell? ⟨b, 1, none⟩ = some (.map (some mb)) := hB.cell 1
  have hp := q.pos c
  have hfin : ∀ w', Mp w' mb (fun n : Int => Value.int .i64 n) (put L c (.int .i64 (cnt c + 1))) → But (fun k => k = mb) w w' → Moves (fun w' S' => Que w' b S' (pushed order cnt c) (more cnt c) (M + 1)) S w w' := by
    intro w' hL' hB'
    have e : pushed order cnt c = order := by unfold pushed; rw [if_neg hn]
    refine ⟨S, ⟨⟨a, cap, ob, mb, _, ?_, ?_, hL', look_more hlk c, ?_, s1, s2, s3, hne⟩, fun k hk => Nat.lt_of_lt_of_le (q.small k hk) hB'.size, more_mem q.mem (fun d => (q.pos d).1), pushed_nodup q.mem q.nodup, pushed_cells q.cells hc hc', more_pos q.pos, by omega⟩,
      hB'.mono (fun k hk => .inl (by subst hk; exact s2)), fun k hk => .inl hk⟩
    · rw [e]; exact hB.but hB' hne
    · rw [e]; exact hR.but hB' (fun k hk h => (s3 k hk).2.2 h)
    · have := put_length (L := L) (a := c) (v := .int .i64 (cnt c + 1)); omega
  have HF := Lib.hid hfin
  have HC := Lib.hid (hlk c)
  have t1 : (cnt c == 0) = false := by simpa using hn
  have hm : L.length < maxLen := by unfold maxLen; have := q.most; omega
  clear hlk hn hfin
  generalize cnt c = n at *
  go_enter Try.func34, Try.ntmps34
  go_wp2_with (first
    | (at_lookup; refine wpList_look1 hL rfl _ _ _ rfl keyI Try.underlying118 _ (zeroInt _) rfl c rfl _ HC.out ?_)
    | (at_mapUpdate; refine wpList_update hL rfl _ _ _ _ rfl keyI Try.underlying118 rfl c rfl hm ?_; intro w2 hL2 hB2))
  go_ret
  exact ⟨rfl, HF.out _ hL2 hB2⟩

set_option maxHeartbeats 1000000 in
set_option maxRecDepth 100000 in
theorem push_new (b : Nat) (S : Nat → Prop) (order : List Int) (cnt : Int → Int) (M : Nat) (c : Int) (w : World) (q : Que w b S order cnt M) (hc : 0 ≤ c) (hc' : c ≤ 191) (hn : cnt c = 0) (hM : M < 1000000000000) :
    Calls Try.prog 34 #[.pointer (some ⟨b, 0, none⟩), .int .i64 c] w fun e w' => e = .returned (.int .i64 0) ∧ Moves (fun w' S' => Que w' b S' (pushed order cnt c) (more cnt c) (M + 1)) S w w' := by
  obtain ⟨a, cap, ob, mb, L, hB, hR, hL, hlk, hlen, s1, s2, s3, hne⟩ := q.out
  have hll := length_le q.nodup q.cells
  have c0 : w.cell? ⟨b, 0, none⟩ = some (.slice a order.length cap) := hB.cell 0
  have c1 : w.cell? ⟨b, 1, none⟩ = some (.map (some mb)) := hB.cell 1
  have hfin : ∀ w2 w3 a' cap' ob', Row w2 3 1 (.slice a' (order.length + 1) cap') ob' (order.length + 1) (ints order ++ [.int .i64 c]) → But (fun k => ob = some k) (w.alloc (.cells #[.int .i64 c] 3)) w2 → (∀ k, ob' = some k → ob = some k ∨ w.heap.size + 1 ≤ k) →
      Mp w3 mb (fun n : Int => Value.int .i64 n) (put L c (.int .i64 1)) → But (fun k => k = mb) (w2.setCell ⟨b, 0, none⟩ (.slice a' (order.length + 1) cap')) w3 → Moves (fun w' S' => Que w' b S' (pushed order cnt c) (more cnt c) (M + 1)) S w w3 := by
    intro w2 w3 a' cap' ob' hR2 hB2 hob hL3 hB3
    have e : pushed order cnt c = order ++ [c] := by unfold pushed; rw [if_pos hn]
    have b1 : b < w.heap.size := q.small b s1
    have b2 : mb < w.heap.size := q.small mb s2
    have hob1 : ob' ≠ some b := fun h => by
      rcases hob b h with h | h
      · exact (s3 b h).2.1 rfl
      · omega
    have hob2 : ob' ≠ some mb := fun h => by
      rcases hob mb h with h | h
      · exact (s3 mb h).2.2 rfl
      · omega
    have hsz := hB2.size
    have hsz3 := hB3.size
    simp [World.setCell] at hsz hsz3
    have K3 : Blk (w2.setCell ⟨b, 0, none⟩ (.slice a' (order.length + 1) cap')) b #[.slice a' (order.length + 1) cap', .map (some mb)] 120 :=
      ((hB.alloc _).but hB2 (fun h => (s3 b h).2.1 rfl)).put 0 _ rfl
    refine ⟨fun k => S k ∨ ob' = some k, ⟨⟨a', cap', ob', mb, _, ?_, ?_, hL3, ?_, ?_, .inl s1, .inl s2, fun k hk => ⟨.inr hk, fun h => hob1 (h ▸ hk), fun h => hob2 (h ▸ hk)⟩, hne⟩, ?_, more_mem q.mem (fun d => (q.pos d).1), pushed_nodup q.mem q.nodup, pushed_cells q.cells hc hc', more_pos q.pos, by omega⟩, ?_, ?_⟩
    · rw [e]; simpa using K3.but hB3 hne
    · rw [e]; simpa [ints] using (hR2.far (p := ⟨b, 0, none⟩) hob1 _).but hB3 (fun k hk h => hob2 (h ▸ hk))
    · have := look_more hlk c; rw [hn] at this; exact this
    · have := put_length (L := L) (a := c) (v := .int .i64 1); omega
    · intro k hk
      rcases hk with hk | hk
      · have := q.small k hk; omega
      · have := hR2.lt hk; omega
    · have g1 : But S w w2 := ((But.refl S w).alloc (.cells #[.int .i64 c] 3)).trans' hB2 (fun k hk => .inl (s3 k hk).1)
      exact (g1.setCell (p := ⟨b, 0, none⟩) (.inl s1) _).trans' hB3 (fun k hk => .inl (by subst hk; exact s2))
    · intro k hk
      rcases hk with hk | hk
      · exact .inl hk
      · rcases hob k hk with h | h
        · exact .inl (s3 k h).1
        · exact .inr (by omega)
  have HF := Lib.hid hfin
  have HC := Lib.hid (show (look L c).getD (.int .i64 0) = .int .i64 0 by rw [hlk c, hn])
  have hm : L.length < maxLen := by unfold maxLen; have := q.most; omega
  have hlen2 : order.length + 1 ≤ maxLen := by unfold maxLen; omega
  have hlen3 : (order.length + 1) * 8 ≤ 140737488355328 := by omega
  obtain ⟨i0, hi, hz0, hz1, hz2⟩ := info_parts infoInt
  have HA := Lib.hid (show ∀ k, ob = some k → k ≠ b ∧ k ≠ mb from fun k hk => (s3 k hk).2)
  have hfar : mb ≠ b := fun h => hne h.symm
  clear hlk hn hfin s3 hll hlen
  generalize hN : order.length = N at *
  clear hN
  go_enter Try.func34, Try.ntmps34
  go_wp2_with (first
    | (at_lookup; refine wpList_look1 (((hL.alloc (.cells #[.int .i64 c] 3)).but hB2 (fun h => (HA.out mb h).2 rfl)).far (p := ⟨b, 0, none⟩) hfar _) rfl _ _ _ rfl keyI Try.underlying118 _ (zeroInt _) rfl c rfl _ HC.out ?_)
    | (at_lookup; refine wpList_look1 hL rfl _ _ _ rfl keyI Try.underlying118 _ (zeroInt _) rfl c rfl _ HC.out ?_)
    | (at_builtin; refine wpList_append_row _ rfl _ _ _ rfl 3 i0 (.int .i64 0) 1 8 Try.underlying49 hi hz0 hz1 hz2 rfl (by decide) _ ob N (ints order) (hR.alloc _) rfl ⟨w.heap.size, 0, none⟩ 1 1 [.int .i64 c] rfl rfl (cell_one_new _ _ _) (by simp [Value.oneCell']) hlen2 hlen3 ?_; intro v2 w2 ob2 hR2 hB2 hN2; obtain ⟨a2, cap2, rfl, hcap2, hcap3⟩ := hR2.val; have d0 := ((hB.alloc (.cells #[.int .i64 c] 3)).but hB2 (fun h => (HA.out b h).1 rfl)).cell 0; have f0 := ((hB.alloc (.cells #[.int .i64 c] 3)).but hB2 (fun h => (HA.out b h).1 rfl)).frozen 0; have d1 := ((hB.alloc (.cells #[.int .i64 c] 3)).but hB2 (fun h => (HA.out b h).1 rfl)).cell 1)
    | (at_mapUpdate; refine wpList_update (((hL.alloc (.cells #[.int .i64 c] 3)).but hB2 (fun h => (HA.out mb h).2 rfl)).far (p := ⟨b, 0, none⟩) hfar _) rfl _ _ _ _ rfl keyI Try.underlying118 rfl c rfl hm ?_; intro w3 hL3 hB3))
  go_ret
  exact ⟨rfl, HF.out _ _ _ _ _ hR2 hB2 (fun k hk => by have := hN2 k hk; simpa using this) hL3 hB3⟩

theorem push_any (b : Nat) (S : Nat → Prop) (order : List Int) (cnt : Int → Int) (M : Nat) (c : Int) (w : World) (q : Que w b S order cnt M) (hc : 0 ≤ c) (hc' : c ≤ 191) (hM : M < 1000000000000) :
    Calls Try.prog 34 #[.pointer (some ⟨b, 0, none⟩), .int .i64 c] w fun e w' => e = .returned (.int .i64 0) ∧ Moves (fun w' S' => Que w' b S' (pushed order cnt c) (more cnt c) (M + 1)) S w w' := by
  by_cases hn : cnt c = 0
  · exact push_new b S order cnt M c w q hc hc' hn hM
  · exact push_old b S order cnt M c w q hc hc' hn hM

set_option maxHeartbeats 1000000 in
set_option maxRecDepth 100000 in
theorem pending_any (b : Nat) (S : Nat → Prop) (order : List Int) (cnt : Int → Int) (M : Nat) (c : Int) (w : World) (q : Que w b S order cnt M) :
    Calls Try.prog 39 #[.pointer (some ⟨b, 0, none⟩), .int .i64 c] w fun e w' => e = .returned (.int .i64 (cnt c)) ∧ w = w' := by
  obtain ⟨a, cap, ob, mb, L, hB, hR, hL, hlk, hlen, s1, s2, s3, hne⟩ := q.out
  have c1 : w.cell? ⟨b, 1, none⟩ = some (.map (some mb)) := hB.cell 1
  have HC := Lib.hid (hlk c)
  clear hlk
  go_enter Try.func39, Try.ntmps39
  go_wp2_with (at_lookup; refine wpList_look1 hL rfl _ _ _ rfl keyI Try.underlying118 _ (zeroInt _) rfl c rfl _ HC.out ?_)
  go_ret
  exact ⟨rfl, rfl⟩

set_option maxHeartbeats 400000 in
theorem pending_nil (c : Int) (w : World) :
    Calls Try.prog 39 #[.pointer none, .int .i64 c] w fun e w' => e = .returned (.int .i64 0) ∧ w = w' := by
  go_enter Try.func39, Try.ntmps39
  go_wp2
  go_ret
  exact ⟨rfl, rfl⟩

set_option maxHeartbeats 400000 in
theorem pop_nil (w : World) :
    Calls Try.prog 32 #[.pointer none] w fun e w' => e = .returned (.tuple #[.int .i64 0, .int .i64 0, .bool false]) ∧ w = w' := by
  go_enter Try.func32, Try.ntmps32
  go_wp2
  go_ret3
  exact ⟨rfl, rfl⟩

set_option maxHeartbeats 400000 in
theorem pop_none (b : Nat) (S : Nat → Prop) (cnt : Int → Int) (M : Nat) (w : World) (q : Que w b S [] cnt M) :
    Calls Try.prog 32 #[.pointer (some ⟨b, 0, none⟩)] w fun e w' => e = .returned (.tuple #[.int .i64 0, .int .i64 0, .bool false]) ∧ w = w' := by
  obtain ⟨a, cap, ob, mb, L, hB, hR, hL, hlk, hlen, s1, s2, s3, hne⟩ := q.out
  have c0 : w.cell? ⟨b, 0, none⟩ = some (.slice a 0 cap) := hB.cell 0
  clear hlk
  go_enter Try.func32, Try.ntmps32
  go_wp2
  go_ret3
  exact ⟨rfl, rfl⟩

set_option maxHeartbeats 1000000 in
set_option maxRecDepth 100000 in
theorem pop_some (b : Nat) (S : Nat → Prop) (x : Int) (order : List Int) (cnt : Int → Int) (M : Nat) (w : World) (q : Que w b S (x :: order) cnt M) :
    Calls Try.prog 32 #[.pointer (some ⟨b, 0, none⟩)] w fun e w' => e = .returned (.tuple #[.int .i64 x, .int .i64 (cnt x), .bool true]) ∧ Moves (fun w' S' => Que w' b S' order (gone cnt x) M) S w w' := by
  obtain ⟨a, cap, ob, mb, L, hB, hR, hL, hlk, hlen, s1, s2, s3, hne⟩ := q.out
  have hll := length_le q.nodup q.cells
  obtain ⟨bo, off, cap', hv, rfl, hbo, hcap, hcs, hfz⟩ := hR.cells (by simp)
  obtain ⟨rfl, -, rfl⟩ := Value.slice.inj hv
  have hnd := q.nodup
  have hfin : ∀ w2 w3 off' cap', Row w 3 1 (.slice (some ⟨bo, off', none⟩) order.length cap') (some bo) order.length (ints order) → w2 = w.setCell ⟨b, 0, none⟩ (.slice (some ⟨bo, off', none⟩) order.length cap') →
      Mp w3 mb (fun n : Int => Value.int .i64 n) (del L x) → But (fun k => k = mb) w2 w3 → Moves (fun w' S' => Que w' b S' order (gone cnt x) M) S w w3 := by
    intro w2 w3 off' cap' hR2 hw2 hL3 hB3
    subst hw2
    have b1 : b < w.heap.size := q.small b s1
    have hs3 := s3 bo rfl
    have hsz3 := hB3.size
    simp [World.setCell] at hsz3
    have K3 : Blk (w.setCell ⟨b, 0, none⟩ (.slice (some ⟨bo, off', none⟩) order.length cap')) b #[.slice (some ⟨bo, off', none⟩) order.length cap', .map (some mb)] 120 := hB.put 0 _ rfl
    have hx : ∀ c, c ∈ order → c ≠ x := fun c hc e => by subst e; simp at hnd; exact hnd.1 hc
    refine ⟨S, ⟨⟨some ⟨bo, off', none⟩, cap', some bo, mb, _, K3.but hB3 hne, (hR2.far (p := ⟨b, 0, none⟩) (fun h => hs3.2.1 (by simpa using h)) _).but hB3 (fun k hk h => hs3.2.2 (by cases hk; exact h)), hL3, look_gone hlk x, ?_, s1, s2, s3, hne⟩, ?_, ?_, ?_, ?_, ?_, q.most⟩, ?_, fun k hk => .inl hk⟩
    · have := del_length (L := L) (a := x); omega
    · intro k hk; have := q.small k hk; omega
    · intro c
      have h1 := q.mem c
      unfold gone
      by_cases e : c = x
      · subst e; rw [if_pos rfl]
        constructor
        · intro h; exact absurd rfl (hx c h)
        · intro h; omega
      · rw [if_neg e, ← h1]; simp [e]
    · simp at hnd; exact hnd.2
    · intro c hc; exact q.cells c (by simp [hc])
    · intro c
      have := q.pos c
      unfold gone; split <;> omega
    · exact ((But.refl S w).setCell (p := ⟨b, 0, none⟩) (.inl s1) _).trans' hB3 (fun k hk => .inl (by subst hk; exact s2))
  have HF := Lib.hid hfin
  have HC := Lib.hid (hlk x)
  have c0 : w.cell? ⟨b, 0, none⟩ = some (.slice (some ⟨bo, off, none⟩) (order.length + 1) cap) := hB.cell 0
  have c1 : w.cell? ⟨b, 1, none⟩ = some (.map (some mb)) := hB.cell 1
  have f0 := hB.frozen 0
  have cx : w.cell? ⟨bo, off, none⟩ = some (.int .i64 x) := hcs 0 (by simp)
  have hfar : mb ≠ b := fun h => hne h.symm
  have hcap0 : order.length + 1 ≤ cap := by simpa using hcap
  have hlen0 : order.length ≤ 191 := by simp at hll; omega
  have HR := Lib.hid hR
  have hcm : cap ≤ maxLen := by
    rcases hR.is with ⟨e, _⟩ | ⟨_, _, _, _, e, _, _, _, h, _⟩
    · cases e
    · cases e; exact h
  unfold maxLen at hcm
  clear hlk hfin s3 hll hlen hcs hfz hR hnd hcap hv
  by_cases hc1 : cap = 1
  · subst hc1
    obtain rfl : order = [] := by cases order with | nil => rfl | cons y l => simp at hcap0
    go_enter Try.func32, Try.ntmps32
    go_wp2_with (first
      | (at_lookup; refine wpList_look1 hL rfl _ _ _ rfl keyI Try.underlying118 _ (zeroInt _) rfl x rfl _ HC.out ?_)
      | (at_delete; refine wpList_del (hL.far (p := ⟨b, 0, none⟩) hfar _) rfl _ _ _ rfl keyI Try.underlying118 rfl x rfl ?_; intro w3 hL3 hB3))
    go_ret3
    exact ⟨rfl, HF.out _ _ _ _ (Row.rest_full HR.out) rfl hL3 hB3⟩
  · have hc2 : 1 < cap := by omega
    go_enter Try.func32, Try.ntmps32
    go_wp2_with (first
      | (at_lookup; refine wpList_look1 hL rfl _ _ _ rfl keyI Try.underlying118 _ (zeroInt _) rfl x rfl _ HC.out ?_)
      | (at_delete; refine wpList_del (hL.far (p := ⟨b, 0, none⟩) hfar _) rfl _ _ _ rfl keyI Try.underlying118 rfl x rfl ?_; intro w3 hL3 hB3))
    go_ret3
    have := (HR.out).rest (k := 1) (by simp)
    exact ⟨rfl, HF.out _ _ _ _ (by simpa [ints] using this) rfl hL3 hB3⟩

/-- A copy of a list of numbers, in new memory. -/
def Copied (xs : List Value) (n : Nat) (w : World) (e : Ending) (w' : World) : Prop := ∃ v o, e = .returned v ∧ Row w' 3 1 v o n xs ∧ (∀ k, o = some k → w.heap.size ≤ k) ∧ But (fun _ => False) w w'

set_option maxHeartbeats 1000000 in
set_option maxRecDepth 100000 in
theorem clone_any (v : Value) (o : Option Nat) (n : Nat) (xs : List Int) (w : World) (hR : Row w 3 1 v o n (ints xs)) (hn : n ≤ 1000000000000) :
    Calls Try.prog 82 #[v] w (Copied (ints xs) n w) := by
  rcases hR.is with ⟨rfl, ho, rfl⟩ | ⟨b, off, cap, cs, rfl, ho, hh, h1, h2, h3, h4⟩
  · have he := fun w => Lib.run_eql_slice_nil (P := Try.prog) w 49 3 none 0 0 0 0 Try.underlying49
    go_enter Try.func82, Try.ntmps82
    go_wp2
    go_ret
    exact ⟨_, none, rfl, ⟨hR.len, .inl ⟨rfl, rfl, rfl⟩⟩, (fun k hk => by cases hk), But.refl _ _⟩
  · have he := fun w => Lib.run_eql_slice_nil (P := Try.prog) w 49 3 (some ⟨b, off, none⟩) n cap 0 0 Try.underlying49
    obtain ⟨i0, hi, hz0, hz1, hz2⟩ := info_parts infoInt
    have hl2 : 0 + n ≤ maxLen := by unfold maxLen; omega
    have hl3 : (0 + n) * 8 ≤ 140737488355328 := by omega
    have hc : ∀ j u, (ints xs)[j]? = some u → (w.alloc (.cells #[] 3)).cell? ((⟨b, off, none⟩ : Addr).add j) = some u := fun j u hj => by
      have hj' : j < n * 1 := by have := (List.getElem?_eq_some_iff.1 hj).1; rw [hR.len] at this; exact this
      rw [Addr.add_lit, World.cell?_alloc_past _ _ _ (Array.getElem?_eq_some_iff.1 hh).1, ← hj, ← h4, List.getElem?_take, if_pos hj', List.getElem?_drop]
      simp [World.cell?, hh]
    have h1c : ∀ u ∈ ints xs, u.oneCell' = true := fun u hu => by simp [ints] at hu; obtain ⟨y, _, rfl⟩ := hu; rfl
    have hlen := hR.len
    have HH := Lib.hid hh
    have HR := Lib.hid hR
    have HC := Lib.hid hc
    have HL := Lib.hid hlen
    clear hh h4 h3 hR hc hlen
    go_enter Try.func82, Try.ntmps82
    go_wp2_with (at_builtin; refine wpList_append_row _ rfl _ _ _ rfl 3 i0 (.int .i64 0) 1 8 Try.underlying49 hi hz0 hz1 hz2 rfl (by decide) _ (some w.heap.size) 0 [] (Row.new w 3 1 0 [] rfl (Nat.zero_le _)) rfl ⟨b, off, none⟩ n cap (ints xs) rfl HL.out HC.out h1c hl2 hl3 ?_; intro v2 w2 ob2 hR2 hB2 hN2; obtain ⟨a2, cap2, rfl, hcap2, hcap3⟩ := hR2.val)
    go_ret
    refine ⟨_, ob2, rfl, ?_, ?_, ?_⟩
    · simpa using hR2
    · intro k hk
      rcases hN2 k hk with h | h
      · cases h; exact Nat.le_refl _
      · simp at h; omega
    · exact ((But.refl _ _).alloc _).trans' hB2 (fun k hk => .inr (by cases hk; exact Nat.le_refl _))

set_option maxHeartbeats 1000000 in
set_option maxRecDepth 100000 in
theorem all_any (b : Nat) (S : Nat → Prop) (order : List Int) (cnt : Int → Int) (M : Nat) (w : World) (q : Que w b S order cnt M) :
    Calls Try.prog 37 #[.pointer (some ⟨b, 0, none⟩)] w (Copied (ints order) order.length w) := by
  obtain ⟨a, cap, ob, mb, L, hB, hR, hL, hlk, hlen, s1, s2, s3, hne⟩ := q.out
  have hll := length_le q.nodup q.cells
  have c0 : w.cell? ⟨b, 0, none⟩ = some (.slice a order.length cap) := hB.cell 0
  clear hlk
  go_enter Try.func37, Try.ntmps37
  go_wp2_with fail
  refine (clone_any _ ob order.length order _ hR (by omega)).mono ?_
  rintro e w2 ⟨v2, o2, rfl, hR2, hN2, hB2⟩
  obtain ⟨a2, cap2, rfl, hcap2, hcap3⟩ := hR2.val
  go_wp2_with fail
  go_ret
  exact ⟨_, o2, rfl, hR2, hN2, hB2⟩

set_option maxHeartbeats 400000 in
theorem all_nil (w : World) :
    Calls Try.prog 37 #[.pointer none] w fun e w' => e = .returned (.slice none 0 0) ∧ w = w' := by
  go_enter Try.func37, Try.ntmps37
  go_wp2
  go_ret
  exact ⟨rfl, rfl⟩

def Made (w : World) (e : Ending) (w' : World) : Prop := ∃ b S, e = .returned (.pointer (some ⟨b, 0, none⟩)) ∧ Que w' b S [] (fun _ => 0) 0 ∧ (∀ k, S k → w.heap.size ≤ k) ∧ But (fun _ => False) w w'

set_option maxHeartbeats 400000 in
set_option maxRecDepth 100000 in
theorem new_any (w : World) : Calls Try.prog 31 #[] w (Made w) := by
  have hmm := @run_makeMap Try.prog
  go_enter Try.func31, Try.ntmps31
  go_wp2
  go_ret
  refine ⟨w.heap.size + 1, fun k => k = w.heap.size ∨ k = w.heap.size + 1, by simp, ⟨⟨none, 0, none, w.heap.size, [], ?_, Row.nil _ _ _, (Mp.new _ _).alloc _, fun c => by simp [look], by simp, .inr rfl, .inl rfl, (fun k hk => by cases hk), by omega⟩, ?_, by simp, by simp, by simp, by simp, by omega⟩, ?_, ((But.refl _ _).alloc _).alloc _⟩
  · have := Blk.new (w.alloc (.map #[] 0)) #[.slice none 0 0, .map (some w.heap.size)] 120
    simpa using this
  · intro k hk; simp; omega
  · intro k hk; omega

end Queue
end Go.Proofs.Ytboajbbnnbnpaaa
