/- Package names (layer 22), walked: New, Bind, Word, Names. -/
import Derived.Test.YtgbcbadccahfcaaLexName
import Derived.Test.YtgbcbadccahfcaaMaps
import Derived.Test.YtgbcbadccahfcaaRow
import Derived.Test.YtgbcbadccahfcaaLists
import Derived.Test.YtgbcbadccahfcaaShelfKeysS
import Derived.Maps.OwnSet
import Derived.StringKeys
set_option linter.unusedVariables false
set_option linter.unusedSimpArgs false
namespace Go.Proofs.Ytgbcbadccahfcaa
open Go.RowKit Go.WideElems

theorem ba_beq (a b : ByteArray) : (a == b) = decide (a = b) := by
  rcases a with ⟨x⟩
  rcases b with ⟨y⟩
  show (x == y) = _
  rw [Bool.eq_iff_iff, beq_iff_eq, decide_eq_true_iff]
  constructor
  · rintro rfl; rfl
  · intro h; exact congrArg ByteArray.data h
/-- Keys that are texts. -/
theorem keyStr {P : Program} {kt : TypeId} (hk : P.underlying kt = some .string) : KeyOK P kt (fun s : ByteArray => Value.string s) where
  inj := fun a b h => by simpa using h
  check := fun w em a => by unfold Instr.checkKey; simp [run_underlying hk]
  find := fun w a es hes => by
    have key : ∀ (es : List MapEntry) (i : Nat), (∀ e ∈ es, ∃ c, e.key = Value.string c) →
        (Instr.findNow .string (.string a) es i = some none ∧ ∀ e ∈ es, e.key ≠ Value.string a) ∨ ∃ j e, Instr.findNow .string (.string a) es i = some (some (i + j, e.val)) ∧ es[j]? = some e ∧ e.key = Value.string a := by
      intro es
      induction es with
      | nil => intro i _; exact .inl ⟨rfl, fun e he => by cases he⟩
      | cons e es ih =>
        intro i h
        obtain ⟨c, hc⟩ := h e (by simp)
        by_cases hac : a = c
        · refine .inr ⟨0, e, ?_, rfl, by rw [hc, hac]⟩
          unfold Instr.findNow
          rw [hc]; simp [Instr.sameNow, hac, ba_beq]
        · have hs : Instr.sameNow .string (.string a) e.key = some false := by rw [hc]; simp [Instr.sameNow, hac, ba_beq]
          rcases ih (i + 1) (fun x hx => h x (by simp [hx])) with ⟨h1, h2⟩ | ⟨j, e0, h1, h2, h3⟩
          · refine .inl ⟨?_, ?_⟩
            · unfold Instr.findNow; rw [hs]; exact h1
            · intro x hx
              rcases List.mem_cons.1 hx with rfl | hx
              · rw [hc]; simpa using fun h => hac h.symm
              · exact h2 x hx
          · refine .inr ⟨j + 1, e0, ?_, by simpa using h2, h3⟩
            unfold Instr.findNow; rw [hs]; rw [show i + (j + 1) = i + 1 + j by omega]; exact h1
    rcases key es 0 hes with ⟨h1, h2⟩ | ⟨j, e, h1, h2, h3⟩
    · exact .inl ⟨by simp [Instr.findKey, run_underlying hk, h1], h2⟩
    · exact .inr ⟨j, e, by simp only [Nat.zero_add] at h1; simp [Instr.findKey, run_underlying hk, h1], h2, h3⟩
  stays := fun w a => by simp [Instr.keyThatStays, Instr.sameBits, ba_beq]

namespace Names
open Lex

abbrev kS : ByteArray → Value := fun s => .string s
theorem keyS : KeyOK Try.prog 9 kS := keyStr Try.underlying9
theorem zeroU (w : World) : (zeroValue 24).run Try.prog w = .ok (.int .u64 0) w := by kernel_rfl
abbrev Wd := ByteArray × Int
def pairs (L : List Wd) : List (ByteArray × Value) := L.map (fun p => (p.1, .int .u64 p.2))
def lk (L : List Wd) (s : ByteArray) : Option Int := (L.find? (fun p => decide (p.1 = s))).map (·.2)
def pt (L : List Wd) (s : ByteArray) (n : Int) : List Wd := if (lk L s).isSome then L.map (fun p => if p.1 = s then (s, n) else p) else L ++ [(s, n)]
theorem look_pairs (L : List Wd) (s : ByteArray) : look (pairs L) s = (lk L s).map (fun n => Value.int .u64 n) := by
  unfold look lk pairs
  induction L with
  | nil => rfl
  | cons p L ih =>
    rw [List.map_cons, List.find?_cons, List.find?_cons]
    by_cases h : p.1 = s
    · simp [h]
    · simp only [h, decide_false]
      exact ih
theorem put_pairs (L : List Wd) (s : ByteArray) (n : Int) : put (pairs L) s (.int .u64 n) = pairs (pt L s n) := by
  unfold put pt
  rw [look_pairs]
  cases h : lk L s with
  | none => simp [pairs]
  | some v =>
    simp only [Option.map_some, Option.isSome_some, if_true]
    unfold pairs
    rw [List.map_map, List.map_map]
    refine List.map_congr_left fun p hp => ?_
    simp only [Function.comp_def]
    split <;> rfl
theorem lk_pt (L : List Wd) (s t : ByteArray) (n : Int) : lk (pt L s n) t = if s = t then some n else lk L t := by
  have h := look_put (L := pairs L) (a := s) (c := t) (v := Value.int .u64 n)
  rw [put_pairs, look_pairs] at h
  by_cases e : s = t
  · rw [if_pos e] at h ⊢
    cases q : lk (pt L s n) t with
    | none => rw [q] at h; cases h
    | some v => rw [q] at h; simp at h; rw [h]
  · rw [if_neg e] at h ⊢
    rw [look_pairs] at h
    cases q : lk (pt L s n) t with
    | none => rw [q] at h; cases q2 : lk L t with
      | none => rfl
      | some v => rw [q2] at h; cases h
    | some v => rw [q] at h; cases q2 : lk L t with
      | none => rw [q2] at h; cases h
      | some v2 => rw [q2] at h; simp at h; rw [h]
def keys (L : List Wd) : List ByteArray := L.map (·.1)
theorem pairs_keys (L : List Wd) : (pairs L).map (·.1) = keys L := by unfold pairs keys; rw [List.map_map]; rfl
theorem pt_nodup {L : List Wd} (h : (keys L).Nodup) (s : ByteArray) (n : Int) : (keys (pt L s n)).Nodup := by
  rw [← pairs_keys] at h ⊢
  rw [← put_pairs]
  exact put_nodup h s _
theorem pt_len (L : List Wd) (s : ByteArray) (n : Int) : (pt L s n).length ≤ L.length + 1 := by unfold pt; split <;> simp
theorem lk_mem {L : List Wd} {s : ByteArray} : (lk L s).isSome = true ↔ s ∈ keys L := by
  unfold lk keys
  rw [Option.isSome_map, List.find?_isSome, List.mem_map]
  constructor
  · rintro ⟨p, hp, e⟩
    exact ⟨p, hp, by simpa using e⟩
  · rintro ⟨p, hp, rfl⟩
    exact ⟨p, hp, by simp⟩

/-- A book in memory: what each name stands for. -/
structure Bk (b mb : Nat) (L : List Wd) (w : World) : Prop where
  blk : Blk w b #[.map (some mb)] 53
  mp : Mp w mb kS (pairs L)
  ne : b ≠ mb
  nd : (keys L).Nodup
  sz : ∀ s ∈ keys L, s.size ≤ 1000000000
theorem Bk.but {b mb : Nat} {L : List Wd} {w w' : World} {U : Nat → Prop} (h : Bk b mb L w) (g : But U w w') (h1 : ¬ U b) (h2 : ¬ U mb) : Bk b mb L w' := ⟨h.blk.but g h1, h.mp.but g h2, h.ne, h.nd, h.sz⟩
theorem Bk.keep {b mb : Nat} {L : List Wd} {w w' : World} (h : Bk b mb L w) (g : But (fun _ => False) w w') : Bk b mb L w' := h.but g (fun q => q) (fun q => q)

set_option maxHeartbeats 4000000 in
set_option maxRecDepth 100000 in
theorem new_any (w : World) : Calls Try.prog 6 #[] w fun e w' => ∃ b mb, e = .returned (.pointer (some ⟨b, 0, none⟩)) ∧ Bk b mb [] w' ∧ w.heap.size ≤ b ∧ w.heap.size ≤ mb ∧ But (fun _ => False) w w' := by
  have hmm := @run_makeMap Try.prog
  go_enter Try.func6, Try.ntmps6
  go_wp2
  go_ret
  refine ⟨w.heap.size + 1, w.heap.size, by simp, ⟨?_, (Mp.new _ _).alloc _, by omega, List.nodup_nil, fun s hs => by cases hs⟩, by omega, by omega, ((But.refl _ _).alloc _).alloc _⟩
  have := Blk.new (w.alloc (.map #[] 0)) #[.map (some w.heap.size)] 53
  simpa using this

set_option maxHeartbeats 4000000 in
set_option maxRecDepth 100000 in
theorem bind_any {b mb : Nat} {L : List Wd} {w : World} (h : Bk b mb L w) (s : ByteArray) (n : Int) (hs : s.size ≤ 1000000000) (hL : L.length ≤ 1000000) :
    Calls Try.prog 7 #[.pointer (some ⟨b, 0, none⟩), .string s, .int .u64 n] w fun e w' => e = .returned (.int .i64 (if nameB s = true then 0 else 1)) ∧ Bk b mb (if nameB s = true then pt L s n else L) w' ∧ But (fun k => k = mb) w w' := by
  cases hn : nameB s with
  | false =>
    have HN := Lib.hid hn
    have H := Lib.hid h
    clear hn h
    go_enter Try.func7, Try.ntmps7
    go_wp2_with fail
    refine (name_any s _ hs).mono ?_
    rintro e w2 ⟨rfl, g2⟩
    rw [HN.out]
    go_wp2_with fail
    go_ret
    exact ⟨rfl, H.out.keep g2, g2.mono (fun k q => q.elim)⟩
  | true =>
    have HN := Lib.hid hn
    have H := Lib.hid h
    clear hn h
    go_enter Try.func7, Try.ntmps7
    go_wp2_with fail
    refine (name_any s _ hs).mono ?_
    rintro e w2 ⟨rfl, g2⟩
    rw [HN.out]
    have H2 := Lib.hid (H.out.keep g2)
    have hL2 := H2.out.mp
    have c0 : w2.cell? ⟨b, 0, none⟩ = some (.map (some mb)) := H2.out.blk.cell 0
    have hm : (pairs L).length < maxLen := by unfold pairs maxLen; rw [List.length_map]; omega
    go_wp2_with (first
      | (at_mapUpdate; refine wpList_update hL2 rfl _ _ _ _ rfl keyS Try.underlying51 rfl s rfl hm ?_; intro w3 hL3 hB3))
    go_ret
    refine ⟨rfl, ⟨H2.out.blk.but hB3 H2.out.ne, ?_, H2.out.ne, pt_nodup H2.out.nd s n, fun t ht => ?_⟩, (g2.mono (fun k q => q.elim)).trans hB3⟩
    · have : Mp w3 mb kS (put (pairs L) s (.int .u64 n)) := hL3
      rw [put_pairs] at this
      exact this
    · rw [← lk_mem, lk_pt] at ht
      by_cases e : s = t
      · rw [← e]; exact hs
      · rw [if_neg e, lk_mem] at ht
        exact H2.out.sz t ht

/-- What a name stands for, and the error. -/
def wordR (L : List Wd) (s : ByteArray) : Int × Int := match lk L s with | some n => (n, 0) | none => (0, 9)
set_option maxHeartbeats 4000000 in
set_option maxRecDepth 100000 in
theorem word_any {b mb : Nat} {L : List Wd} {w : World} (h : Bk b mb L w) (s : ByteArray) :
    Calls Try.prog 9 #[.pointer (some ⟨b, 0, none⟩), .string s] w fun e w' => e = .returned (.tuple #[.int .u64 (wordR L s).1, .int .i64 (wordR L s).2]) ∧ w = w' := by
  have c0 : w.cell? ⟨b, 0, none⟩ = some (.map (some mb)) := h.blk.cell 0
  have hL := h.mp
  have hp := look_pairs L s
  unfold wordR
  cases hk : lk L s with
  | none =>
    rw [hk] at hp
    have LK := Lib.hid (show (look (pairs L) s).getD (.int .u64 0) = .int .u64 0 by rw [hp]; rfl)
    have LS := Lib.hid (show (look (pairs L) s).isSome = false by rw [hp]; rfl)
    clear hk hp h
    go_enter Try.func9, Try.ntmps9
    go_wp2_with (first
      | (at_lookup; refine wpList_look2 hL rfl _ _ _ rfl keyS Try.underlying51 (.int .u64 0) (zeroU _) rfl s rfl _ LK.out false LS.out ?_))
    go_ret2
    exact ⟨rfl, rfl⟩
  | some n =>
    rw [hk] at hp
    have LK := Lib.hid (show (look (pairs L) s).getD (.int .u64 0) = .int .u64 n by rw [hp]; rfl)
    have LS := Lib.hid (show (look (pairs L) s).isSome = true by rw [hp]; rfl)
    clear hk hp h
    go_enter Try.func9, Try.ntmps9
    go_wp2_with (first
      | (at_lookup; refine wpList_look2 hL rfl _ _ _ rfl keyS Try.underlying51 (.int .u64 0) (zeroU _) rfl s rfl _ LK.out true LS.out ?_))
    go_ret2
    exact ⟨rfl, rfl⟩

end Names
end Go.Proofs.Ytgbcbadccahfcaa
