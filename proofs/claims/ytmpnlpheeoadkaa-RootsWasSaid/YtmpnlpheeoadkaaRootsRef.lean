/- The document's answer for layer 8 (roots), walked: a list that rises. -/
import Derived.Test.YtmpnlpheeoadkaaRootsPlain
import Derived.Test.YtmpnlpheeoadkaaIntsEq
import Derived.Test.YtmpnlpheeoadkaaAppend
import Derived.IntWalk
set_option linter.unusedVariables false
set_option linter.unusedSimpArgs false
namespace Go.Proofs.Ytmpnlpheeoadkaa
open Go.RowKit

namespace Roots

set_option maxHeartbeats 1000000 in
set_option maxRecDepth 100000 in
theorem ref_has (v : Value) (o : Option Nat) (n : Nat) (xs : List Int) (c : Int) (w : World) (hR : Row w 3 1 v o n (ints xs)) (hn : n ≤ 1000000000) :
    Calls Try.prog 44 #[v, .int .i64 c] w fun e w' => e = .returned (.bool (has xs c)) ∧ w = w' := by
  obtain ⟨a, cap, rfl, hcap, hcap2⟩ := hR.val
  have hl := hR.ints_len
  have HR := Lib.hid hR
  have HL := Lib.hid hl
  clear hR hl
  go_enter Try.func44, Try.ntmps44
  go_wp2_with fail
  go_loopg [5] n (fun k i wr => ∃ j : Nat, j + k = n ∧ i = .int .i64 j ∧ c ∉ xs.take j ∧ w = wr)
  case atStart => exact ⟨0, by omega, rfl, by simp, rfl⟩
  case round =>
    obtain ⟨j, hj, rfl, hno, rfl⟩ := hrel
    by_cases hlt : j < n
    · obtain ⟨b, off, rfl, ho, hc⟩ := HR.out.ints_at j hlt
      have hs := take_succ_getD (xs := xs) (j := j) (by rw [HL.out]; exact hlt)
      have hin : xs.getD j 0 ∈ xs := by rw [List.getD_eq_getElem?_getD, List.getElem?_eq_getElem (by rw [HL.out]; exact hlt)]; exact List.getElem_mem _
      have HS := Lib.hid hs
      have HI := Lib.hid hin
      have HN := Lib.hid hno
      clear hs ho hin hno
      generalize xs.getD j 0 = y at *
      by_cases hy : y = c
      · have t1 : (y == c) = true := by simp [hy]
        have HY := Lib.hid (show has xs c = true from (has_iff _ _).2 (by rw [← hy]; exact HI.out))
        clear hy
        go_wp2_with fail
        go_ret
        exact ⟨by rw [HY.out]; rfl, rfl⟩
      · have t1 : (y == c) = false := by simp [hy]
        have HY := Lib.hid (show c ∉ xs.take (j + 1) by rw [HS.out]; simp; exact ⟨HN.out, fun q => hy q.symm⟩)
        clear hy
        go_wp2_with fail
        go_roundg (n - (j + 1))
        case measure => omega
        case rel => exact ⟨j + 1, by omega, by go_num, HY.out, rfl⟩
    · have HY := Lib.hid (show has xs c = false from (has_not _ _).2 (by have := hno; rwa [List.take_of_length_le (by rw [HL.out]; omega)] at this))
      clear hno
      go_wp2_with fail
      go_ret
      exact ⟨by rw [HY.out]; rfl, rfl⟩

/-- What Add, and Drop, tell of a list; and the list behind it. -/
def raddT (m : List Int) (c : Int) : Bool × Int := if okc c = true then (!has m c, 0) else (false, 1)
def raddTo (m : List Int) (c : Int) : List Int := if okc c = true then addM m c else m
def rdropT (m : List Int) (c : Int) : Int := if okc c = true then (if has m c = true then 0 else 9) else 1
def rdropTo (m : List Int) (c : Int) : List Int := if okc c = true then (if has m c = true then dropM m c else m) else m

/-- A list of numbers, told with others; it is new, or lies where that one lay. -/
def Again (o : Option Nat) (xs : List Int) (rest : List Value) (w : World) (e : Ending) (w' : World) : Prop :=
  ∃ v o', e = .returned (.tuple (v :: rest).toArray) ∧ Row w' 3 1 v o' xs.length (ints xs) ∧ (∀ k, o' = some k → o = some k ∨ w.heap.size ≤ k) ∧ But (fun _ => False) w w'

set_option maxHeartbeats 2000000 in
set_option maxRecDepth 100000 in
theorem ref_add (v : Value) (o : Option Nat) (xs : List Int) (c : Int) (w : World) (hR : Row w 3 1 v o xs.length (ints xs)) (hn : xs.length ≤ 1000000000) :
    Calls Try.prog 40 #[v, .int .i64 c] w (Again o (raddTo xs c) [.bool (raddT xs c).1, .int .i64 (raddT xs c).2] w) := by
  unfold raddT raddTo
  obtain ⟨i0, hi, hz0, hz1, hz2⟩ := info_parts infoInt
  obtain ⟨a, cap, rfl, hcap, hcap2⟩ := hR.val
  have HR := Lib.hid hR
  have hself : Again o xs [.bool false, .int .i64 1] w (.returned (.tuple #[.slice a xs.length cap, .bool false, .int .i64 1])) w := ⟨_, o, rfl, hR, fun k hk => .inl hk, But.refl _ _⟩
  have hself0 : Again o xs [.bool false, .int .i64 0] w (.returned (.tuple #[.slice a xs.length cap, .bool false, .int .i64 0])) w := ⟨_, o, rfl, hR, fun k hk => .inl hk, But.refl _ _⟩
  have HS1 := Lib.hid hself
  have HS0 := Lib.hid hself0
  clear hR hself hself0
  by_cases h1 : c < 0
  · rw [show okc c = false from (okc_not c).2 (.inl h1), if_neg (by simp), if_neg (by simp)]
    go_enter Try.func40, Try.ntmps40
    go_wp2_with fail
    go_ret3
    exact HS1.out
  by_cases h2 : 191 < c
  · rw [show okc c = false from (okc_not c).2 (.inr h2), if_neg (by simp), if_neg (by simp)]
    go_enter Try.func40, Try.ntmps40
    go_wp2_with fail
    go_ret3
    exact HS1.out
  rw [show okc c = true from (okc_iff c).2 (by omega), if_pos rfl, if_pos rfl]
  unfold addM
  by_cases hm : c ∈ xs
  · have e : has xs c = true := (has_iff _ _).2 hm
    rw [if_pos hm, e]
    clear hm
    go_enter Try.func40, Try.ntmps40
    go_wp2_with fail
    refine (ref_has _ o _ xs c _ HR.out hn).mono ?_
    rintro r w2 ⟨rfl, rfl⟩
    rw [e]
    go_wp2_with fail
    go_ret3
    exact HS0.out
  · have e : has xs c = false := (has_not _ _).2 hm
    rw [if_neg hm, e]
    clear hm HS1 HS0
    obtain ⟨n, hnn⟩ : ∃ n, n = xs.length := ⟨_, rfl⟩
    have HL := Lib.hid hnn.symm
    rw [← hnn] at hn hcap ⊢ HR
    clear hnn
    have hfin : ∀ (w' : World) a1 m cap1 o1, Row w' 3 1 (.slice a1 m cap1) o1 m (ints (ins xs c)) → (∀ k, o1 = some k → w.heap.size ≤ k) → But (fun _ => False) w w' →
        Again o (ins xs c) [.bool true, .int .i64 0] w (.returned (.tuple #[.slice a1 m cap1, .bool true, .int .i64 0])) w' := fun w' a1 m cap1 o1 hR1 hN1 hB1 => by
      have hm := hR1.ints_len
      exact ⟨_, o1, rfl, by rw [hm]; exact hR1, fun k hk => .inr (hN1 k hk), hB1⟩
    have HF := Lib.hid hfin
    clear hfin
    go_enter Try.func40, Try.ntmps40
    go_wp2_with fail
    refine (ref_has _ o _ xs c _ HR.out hn).mono ?_
    rintro r w2 ⟨rfl, rfl⟩
    rw [e]
    go_wp2_with fail
    go_loopg [8, 9, 10] n (fun k u d i wr => ∃ j m : Nat, ∃ a1 cap1 o1, j + k = n ∧ i = .int .i64 j ∧ d = .bool (insF (xs.take j) c).2 ∧ m ≤ j + 1 ∧ u = .slice a1 m cap1 ∧ Row wr 3 1 (.slice a1 m cap1) o1 m (ints (insF (xs.take j) c).1) ∧ (∀ k, o1 = some k → w.heap.size ≤ k) ∧ But (fun _ => False) w wr)
    case atStart => exact ⟨0, 0, none, 0, none, by omega, rfl, rfl, by omega, rfl, by simpa [insF, ints] using Row.nil _ _ _, (fun k hk => by cases hk), But.refl _ _⟩
    case round =>
      obtain ⟨j, m, a1, cap1, o1, hj, rfl, rfl, hmj, rfl, hR1, hN1, hB1⟩ := hrel
      have hlm := hR1.ints_len
      have hll := insF_len (xs.take j) c
      by_cases hlt : j < n
      · obtain ⟨b, off, rfl, ho, hc⟩ := (HR.out.but hB1 (fun _ _ q => q)).ints_at j hlt
        have hbs := HR.out.lt ho
        have hts := take_succ_getD (xs := xs) (j := j) (by rw [HL.out]; exact hlt)
        have hno1 : ∀ k, o1 = some k → k ≠ b := fun k hk q => by have := hN1 k hk; omega
        have HC := Lib.hid (show ∀ w', But (fun k => o1 = some k) wr w' → w'.cell? ⟨b, off + j, none⟩ = some (.int .i64 (xs.getD j 0)) from fun w' g => by
          rw [World.cell?_of_block (w := wr) (g.block b (Nat.lt_of_lt_of_le hbs hB1.size) (fun q => hno1 b q rfl))]; exact hc)
        have hmlen : m ≤ j + 1 := hmj
        have hjt : (xs.take j).length = j := by rw [List.length_take, HL.out]; omega
        have HT := Lib.hid hts
        have HLM := Lib.hid hlm
        have HLL := Lib.hid hll
        have HJT := Lib.hid hjt
        clear ho hts hlm hll hjt
        obtain ⟨out, hout⟩ : ∃ out, (insF (xs.take j) c).1 = out := ⟨_, rfl⟩
        have hstep : insF (xs.take (j + 1)) c = insS c (insF (xs.take j) c) (xs.getD j 0) := by rw [HT.out, insF_snoc]
        have HST := Lib.hid hstep
        clear hstep
        generalize xs.getD j 0 = y at *
        rw [hout] at hR1
        cases hd : (insF (xs.take j) c).2 with
        | true =>
          have HS := Lib.hid (show insF (xs.take (j + 1)) c = (out ++ [y], true) by rw [HST.out]; unfold insS; rw [if_neg (fun q => by rw [hd] at q; exact absurd q.1 (by decide)), hout, hd])
          have hl4 : m + 1 ≤ maxLen := by unfold maxLen; omega
          have hl5 : (m + 1) * 8 ≤ 140737488355328 := by omega
          clear hout hd
          go_wp2_with (first
            | (at_builtin; refine wpList_append_row _ rfl _ _ _ rfl 3 i0 (.int .i64 0) 1 8 Try.underlying51 hi hz0 hz1 hz2 rfl (by decide) _ o1 m (ints out) (hR1.alloc _) rfl ⟨wr.heap.size, 0, none⟩ 1 1 [.int .i64 y] rfl rfl (cell_one_new _ _ _) (by simp [Value.oneCell']) hl4 hl5 ?_; intro v2 w2 o2 hR2 hB2 hN2; obtain ⟨a2, cap2, rfl, hcap2, hcap3⟩ := hR2.val))
          go_roundg (n - (j + 1))
          case measure => omega
          case rel =>
            have hsz := hB1.size
            refine ⟨j + 1, m + 1, a2, cap2, o2, by omega, by go_num, by rw [HS.out], by omega, rfl, by rw [HS.out]; simpa [ints] using hR2, fun k hk => ?_, ?_⟩
            · rcases hN2 k hk with h | h
              · exact hN1 k h
              · have h' : wr.heap.size + 1 ≤ k := by simpa using h
                omega
            · exact (hB1.alloc _).trans' hB2 (fun k hk => .inr (hN1 k hk))
        | false =>
          have hmj2 : m = j := by have := HLL.out.2 hd; have := HLM.out; have := HJT.out; omega
          subst hmj2
          by_cases hcy : c < y
          · have HS := Lib.hid (show insF (xs.take (m + 1)) c = (out ++ [c] ++ [y], true) by rw [HST.out]; unfold insS; rw [if_pos ⟨hd, hcy⟩, hout])
            have hl4 : m + 1 ≤ maxLen := by unfold maxLen; omega
            have hl5 : (m + 1) * 8 ≤ 140737488355328 := by omega
            have hl6 : m + 1 + 1 ≤ maxLen := by unfold maxLen; omega
            have hl7 : (m + 1 + 1) * 8 ≤ 140737488355328 := by omega
            have t1 : decide (c < y) = true := decide_eq_true hcy
            clear hout hd
            go_wp2_with (first
              | (at_builtin; refine wpList_append_row _ rfl _ _ _ rfl 3 i0 (.int .i64 0) 1 8 Try.underlying51 hi hz0 hz1 hz2 rfl (by decide) _ o2 (m + 1) (ints out ++ [.int .i64 c]) (hR2.alloc _) rfl ⟨w2.heap.size, 0, none⟩ 1 1 [.int .i64 y] rfl rfl (cell_one_new _ _ _) (by simp [Value.oneCell']) hl6 hl7 ?_; intro v3 w3 o3 hR3 hB3 hN3; obtain ⟨a3, cap3, rfl, hcap4, hcap5⟩ := hR3.val)
              | (at_builtin; refine wpList_append_row _ rfl _ _ _ rfl 3 i0 (.int .i64 0) 1 8 Try.underlying51 hi hz0 hz1 hz2 rfl (by decide) _ o1 m (ints out) (hR1.alloc _) rfl ⟨wr.heap.size, 0, none⟩ 1 1 [.int .i64 c] rfl rfl (cell_one_new _ _ _) (by simp [Value.oneCell']) hl4 hl5 ?_; intro v2 w2 o2 hR2 hB2 hN2; obtain ⟨a2, cap2, rfl, hcap2, hcap3⟩ := hR2.val; have hc2 := HC.out w2 (((But.refl _ wr).alloc _).trans hB2)))
            go_roundg (n - (m + 1))
            case measure => omega
            case rel =>
              have hsz := hB1.size
              have hN2' : ∀ k, o2 = some k → w.heap.size ≤ k := fun k hk => by
                rcases hN2 k hk with h | h
                · exact hN1 k h
                · have h' : wr.heap.size + 1 ≤ k := by simpa using h
                  omega
              have hB2' := (hB1.alloc (.cells #[.int .i64 c] 3)).trans' hB2 (fun k hk => .inr (hN1 k hk))
              have hsz2 := hB2'.size
              refine ⟨m + 1, m + 1 + 1, a3, cap3, o3, by omega, by go_num, by rw [HS.out], by omega, rfl, by rw [HS.out]; simpa [ints] using hR3, fun k hk => ?_, ?_⟩
              · rcases hN3 k hk with h | h
                · exact hN2' k h
                · have h' : w2.heap.size + 1 ≤ k := by simpa using h
                  omega
              · exact (hB2'.alloc _).trans' hB3 (fun k hk => .inr (hN2' k hk))
          · have HS := Lib.hid (show insF (xs.take (m + 1)) c = (out ++ [y], false) by rw [HST.out]; unfold insS; rw [if_neg (fun q => hcy q.2), hout, hd])
            have hl4 : m + 1 ≤ maxLen := by unfold maxLen; omega
            have hl5 : (m + 1) * 8 ≤ 140737488355328 := by omega
            have t1 : decide (c < y) = false := decide_eq_false hcy
            clear hout hd
            go_wp2_with (first
              | (at_builtin; refine wpList_append_row _ rfl _ _ _ rfl 3 i0 (.int .i64 0) 1 8 Try.underlying51 hi hz0 hz1 hz2 rfl (by decide) _ o1 m (ints out) (hR1.alloc _) rfl ⟨wr.heap.size, 0, none⟩ 1 1 [.int .i64 y] rfl rfl (cell_one_new _ _ _) (by simp [Value.oneCell']) hl4 hl5 ?_; intro v2 w2 o2 hR2 hB2 hN2; obtain ⟨a2, cap2, rfl, hcap2, hcap3⟩ := hR2.val))
            go_roundg (n - (m + 1))
            case measure => omega
            case rel =>
              have hsz := hB1.size
              refine ⟨m + 1, m + 1, a2, cap2, o2, by omega, by go_num, by rw [HS.out], by omega, rfl, by rw [HS.out]; simpa [ints] using hR2, fun k hk => ?_, ?_⟩
              · rcases hN2 k hk with h | h
                · exact hN1 k h
                · have h' : wr.heap.size + 1 ≤ k := by simpa using h
                  omega
              · exact (hB1.alloc _).trans' hB2 (fun k hk => .inr (hN1 k hk))
      · have hjn : xs.take j = xs := List.take_of_length_le (by rw [HL.out]; omega)
        rw [hjn] at hR1 hll
        clear hlm
        cases hd : (insF (xs.take j) c).2 with
        | true =>
          rw [hjn] at hd
          clear hjn
          have HI := Lib.hid (show ins xs c = (insF xs c).1 by unfold ins; rw [if_pos hd])
          rw [← HI.out] at hR1
          clear hd hll
          go_wp2_with fail
          go_ret3
          exact HF.out _ _ _ _ _ hR1 hN1 hB1
        | false =>
          rw [hjn] at hd
          clear hjn
          have HI := Lib.hid (show ins xs c = (insF xs c).1 ++ [c] by unfold ins; rw [if_neg (by rw [hd]; decide)])
          have hl4 : m + 1 ≤ maxLen := by unfold maxLen; omega
          have hl5 : (m + 1) * 8 ≤ 140737488355328 := by omega
          clear hd hll
          go_wp2_with (first
            | (at_builtin; refine wpList_append_row _ rfl _ _ _ rfl 3 i0 (.int .i64 0) 1 8 Try.underlying51 hi hz0 hz1 hz2 rfl (by decide) _ o1 m (ints (insF xs c).1) (hR1.alloc _) rfl ⟨wr.heap.size, 0, none⟩ 1 1 [.int .i64 c] rfl rfl (cell_one_new _ _ _) (by simp [Value.oneCell']) hl4 hl5 ?_; intro v2 w2 o2 hR2 hB2 hN2; obtain ⟨a2, cap2, rfl, hcap2, hcap3⟩ := hR2.val))
          go_ret3
          have hsz := hB1.size
          refine HF.out _ _ _ _ o2 (by rw [HI.out]; simpa [ints] using hR2) (fun k hk => ?_) ((hB1.alloc _).trans' hB2 (fun k hk => .inr (hN1 k hk)))
          rcases hN2 k hk with h | h
          · exact hN1 k h
          · have h' : wr.heap.size + 1 ≤ k := by simpa using h
            omega

set_option maxHeartbeats 2000000 in
set_option maxRecDepth 100000 in
theorem ref_drop (v : Value) (o : Option Nat) (xs : List Int) (c : Int) (w : World) (hR : Row w 3 1 v o xs.length (ints xs)) (hn : xs.length ≤ 1000000000) :
    Calls Try.prog 38 #[v, .int .i64 c] w (Again o (rdropTo xs c) [.int .i64 (rdropT xs c)] w) := by
  unfold rdropT rdropTo
  obtain ⟨i0, hi, hz0, hz1, hz2⟩ := info_parts infoInt
  obtain ⟨a, cap, rfl, hcap, hcap2⟩ := hR.val
  have HR := Lib.hid hR
  have HS1 := Lib.hid (show ∀ r : Int, Again o xs [.int .i64 r] w (.returned (.tuple #[.slice a xs.length cap, .int .i64 r])) w from fun r => ⟨_, o, rfl, hR, fun k hk => .inl hk, But.refl _ _⟩)
  clear hR
  by_cases h1 : c < 0
  · rw [show okc c = false from (okc_not c).2 (.inl h1), if_neg (by simp), if_neg (by simp)]
    go_enter Try.func38, Try.ntmps38
    go_wp2_with fail
    go_ret2
    exact HS1.out 1
  by_cases h2 : 191 < c
  · rw [show okc c = false from (okc_not c).2 (.inr h2), if_neg (by simp), if_neg (by simp)]
    go_enter Try.func38, Try.ntmps38
    go_wp2_with fail
    go_ret2
    exact HS1.out 1
  rw [show okc c = true from (okc_iff c).2 (by omega), if_pos rfl, if_pos rfl]
  cases e : has xs c with
  | false =>
    rw [if_neg (by simp), if_neg (by simp)]
    go_enter Try.func38, Try.ntmps38
    go_wp2_with fail
    refine (ref_has _ o _ xs c _ HR.out hn).mono ?_
    rintro r w2 ⟨rfl, rfl⟩
    rw [e]
    go_wp2_with fail
    go_ret2
    exact HS1.out 9
  | true =>
    rw [if_pos rfl, if_pos rfl]
    clear HS1
    obtain ⟨n, hnn⟩ : ∃ n, n = xs.length := ⟨_, rfl⟩
    have HL := Lib.hid hnn.symm
    rw [← hnn] at hn hcap ⊢ HR
    clear hnn
    have hfin : ∀ (w' : World) a1 m cap1 o1, Row w' 3 1 (.slice a1 m cap1) o1 m (ints (dropM xs c)) → (∀ k, o1 = some k → w.heap.size ≤ k) → But (fun _ => False) w w' →
        Again o (dropM xs c) [.int .i64 0] w (.returned (.tuple #[.slice a1 m cap1, .int .i64 0])) w' := fun w' a1 m cap1 o1 hR1 hN1 hB1 => by
      have hm := hR1.ints_len
      exact ⟨_, o1, rfl, by rw [hm]; exact hR1, fun k hk => .inr (hN1 k hk), hB1⟩
    have HF := Lib.hid hfin
    clear hfin
    go_enter Try.func38, Try.ntmps38
    go_wp2_with fail
    refine (ref_has _ o _ xs c _ HR.out hn).mono ?_
    rintro r w2 ⟨rfl, rfl⟩
    rw [e]
    clear e
    go_wp2_with fail
    go_loopg [7, 8] n (fun k u i wr => ∃ j m : Nat, ∃ a1 cap1 o1, j + k = n ∧ i = .int .i64 j ∧ m ≤ j ∧ u = .slice a1 m cap1 ∧ Row wr 3 1 (.slice a1 m cap1) o1 m (ints (dropM (xs.take j) c)) ∧ (∀ k, o1 = some k → w.heap.size ≤ k) ∧ But (fun _ => False) w wr)
    case atStart => exact ⟨0, 0, none, 0, none, by omega, rfl, by omega, rfl, by simpa [dropM, ints] using Row.nil _ _ _, (fun k hk => by cases hk), But.refl _ _⟩
    case round =>
      obtain ⟨j, m, a1, cap1, o1, hj, rfl, hmj, rfl, hR1, hN1, hB1⟩ := hrel
      by_cases hlt : j < n
      · obtain ⟨b, off, rfl, ho, hc⟩ := (HR.out.but hB1 (fun _ _ q => q)).ints_at j hlt
        have hts := take_succ_getD (xs := xs) (j := j) (by rw [HL.out]; exact hlt)
        have HT := Lib.hid hts
        clear ho hts
        obtain ⟨out, hout⟩ : ∃ out, dropM (xs.take j) c = out := ⟨_, rfl⟩
        have HST := Lib.hid (show dropM (xs.take (j + 1)) c = if xs.getD j 0 = c then out else out ++ [xs.getD j 0] by rw [HT.out, dropM_snoc, hout])
        rw [hout] at hR1
        clear hout
        generalize xs.getD j 0 = y at *
        by_cases hy : y = c
        · have t1 : (y != c) = false := by simp [hy]
          have HS := Lib.hid (show dropM (xs.take (j + 1)) c = out by rw [HST.out, if_pos hy])
          clear hy
          go_wp2_with fail
          go_roundg (n - (j + 1))
          case measure => omega
          case rel => exact ⟨j + 1, m, a1, cap1, o1, by omega, by go_num, by omega, rfl, by rw [HS.out]; exact hR1, hN1, hB1⟩
        · have t1 : (y != c) = true := by simp [hy]
          have HS := Lib.hid (show dropM (xs.take (j + 1)) c = out ++ [y] by rw [HST.out, if_neg hy])
          have hl4 : m + 1 ≤ maxLen := by unfold maxLen; omega
          have hl5 : (m + 1) * 8 ≤ 140737488355328 := by omega
          clear hy
          go_wp2_with (first
            | (at_builtin; refine wpList_append_row _ rfl _ _ _ rfl 3 i0 (.int .i64 0) 1 8 Try.underlying51 hi hz0 hz1 hz2 rfl (by decide) _ o1 m (ints out) (hR1.alloc _) rfl ⟨wr.heap.size, 0, none⟩ 1 1 [.int .i64 y] rfl rfl (cell_one_new _ _ _) (by simp [Value.oneCell']) hl4 hl5 ?_; intro v2 w2 o2 hR2 hB2 hN2; obtain ⟨a2, cap2, rfl, hcap2, hcap3⟩ := hR2.val))
          go_roundg (n - (j + 1))
          case measure => omega
          case rel =>
            have hsz := hB1.size
            refine ⟨j + 1, m + 1, a2, cap2, o2, by omega, by go_num, by omega, rfl, by rw [HS.out]; simpa [ints] using hR2, fun k hk => ?_, ?_⟩
            · rcases hN2 k hk with h | h
              · exact hN1 k h
              · have h' : wr.heap.size + 1 ≤ k := by simpa using h
                omega
            · exact (hB1.alloc _).trans' hB2 (fun k hk => .inr (hN1 k hk))
      · have hjn : xs.take j = xs := List.take_of_length_le (by rw [HL.out]; omega)
        rw [hjn] at hR1
        clear hjn
        go_wp2_with fail
        go_ret2
        exact HF.out _ _ _ _ _ hR1 hN1 hB1

end Roots
end Go.Proofs.Ytmpnlpheeoadkaa
