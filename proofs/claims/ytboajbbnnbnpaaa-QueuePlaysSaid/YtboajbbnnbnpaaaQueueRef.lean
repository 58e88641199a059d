/- The document's answer for layer 9 (queue), and Ints of layer 7's, walked: lists of numbers. -/
import Derived.Test.YtboajbbnnbnpaaaQueueWalks
set_option linter.unusedVariables false
set_option linter.unusedSimpArgs false
namespace Go.Proofs.Ytboajbbnnbnpaaa
open Go.RowKit

theorem ints_get (l : List Int) (j : Nat) : (ints l)[j]? = (l[j]?).map (Value.int .i64) := by simp [ints]
theorem Row.ints_at {w : World} {a : Option Addr} {n cap : Nat} {o : Option Nat} {xs : List Int} (h : Row w 3 1 (.slice a n cap) o n (ints xs)) (j : Nat) (hj : j < n) :
    ∃ b off, a = some ⟨b, off, none⟩ ∧ o = some b ∧ w.cell? ⟨b, off + j, none⟩ = some (.int .i64 (xs.getD j 0)) := by
  obtain ⟨b, off, cap', hv, ho, _, _, hc, _⟩ := h.cells (by omega)
  obtain ⟨rfl, -, rfl⟩ := Value.slice.inj hv
  refine ⟨b, off, rfl, ho, ?_⟩
  have hl := h.len
  rw [ints_length] at hl
  rw [hc j (by omega), ints_get, List.getElem?_eq_getElem (by omega)]
  simp [List.getD, List.getElem?_eq_getElem (show j < xs.length by omega)]
theorem Row.ints_len {w : World} {v : Value} {n : Nat} {o : Option Nat} {xs : List Int} (h : Row w 3 1 v o n (ints xs)) : xs.length = n := by
  have hl := h.len; rw [ints_length] at hl; omega
theorem take_succ_getD {xs : List Int} {j : Nat} (h : j < xs.length) : xs.take (j + 1) = xs.take j ++ [xs.getD j 0] := by
  rw [List.take_succ_eq_append_getElem h]; simp [List.getD, List.getElem?_eq_getElem h]

namespace Queue

def cnt (l : List Int) (c : Int) : Int := (l.filter (fun x => decide (x = c))).length
theorem cnt_nil (c : Int) : cnt [] c = 0 := rfl
theorem cnt_snoc (l : List Int) (x c : Int) : cnt (l ++ [x]) c = cnt l c + if x = c then 1 else 0 := by
  unfold cnt; rw [List.filter_append]; by_cases h : x = c <;> simp [h]
theorem cnt_bd (l : List Int) (c : Int) : 0 ≤ cnt l c ∧ cnt l c ≤ l.length := by
  unfold cnt; exact ⟨by omega, by have := List.length_filter_le (fun x => decide (x = c)) l; omega⟩

/-- Each number once, as it came first. -/
def firsts (l : List Int) : List Int := l.foldl (fun out x => if x ∈ out then out else out ++ [x]) []
theorem firsts_snoc (l : List Int) (x : Int) : firsts (l ++ [x]) = if x ∈ firsts l then firsts l else firsts l ++ [x] := by
  unfold firsts; rw [List.foldl_append]; rfl
theorem firsts_mem (l : List Int) (c : Int) : c ∈ firsts l ↔ c ∈ l := by
  suffices h : ∀ n (l : List Int), l.length = n → (c ∈ firsts l ↔ c ∈ l) from h _ l rfl
  intro n
  induction n with
  | zero => intro l hl; obtain rfl := List.eq_nil_of_length_eq_zero hl; rfl
  | succ n ih =>
    intro l hl
    obtain ⟨m, x, rfl⟩ : ∃ m x, l = m ++ [x] := by
      rcases List.eq_nil_or_concat l with rfl | ⟨m, x, rfl⟩
      · simp at hl
      · exact ⟨m, x, by simp⟩
    have := ih m (by simp at hl; omega)
    rw [firsts_snoc]
    by_cases h : x ∈ firsts m
    · rw [if_pos h, this]
      constructor
      · intro h; simp [h]
      · intro h'; simp at h'; rcases h' with h' | rfl
        · exact h'
        · exact this.1 h
    · rw [if_neg h]; simp [this]
theorem cnt_pos (l : List Int) (c : Int) : 0 < cnt l c ↔ c ∈ l := by
  unfold cnt
  rw [← firsts_mem]
  constructor
  · intro h
    have : 0 < (l.filter (fun x => decide (x = c))).length := by omega
    obtain ⟨y, hy⟩ := List.exists_mem_of_length_pos this
    simp at hy
    rw [firsts_mem]; exact hy.2 ▸ hy.1
  · intro h
    rw [firsts_mem] at h
    have : c ∈ l.filter (fun x => decide (x = c)) := by simp [h]
    have := List.length_pos_of_mem this; omega
theorem firsts_length (l : List Int) : (firsts l).length ≤ l.length := by
  suffices h : ∀ n (l : List Int), l.length = n → (firsts l).length ≤ l.length from h _ l rfl
  intro n
  induction n with
  | zero => intro l hl; obtain rfl := List.eq_nil_of_length_eq_zero hl; simp [firsts]
  | succ n ih =>
    intro l hl
    obtain ⟨m, x, rfl⟩ : ∃ m x, l = m ++ [x] := by
      rcases List.eq_nil_or_concat l with rfl | ⟨m, x, rfl⟩
      · simp at hl
      · exact ⟨m, x, by simp⟩
    have := ih m (by simp at hl; omega)
    rw [firsts_snoc]; split <;> simp <;> omega

set_option maxHeartbeats 1000000 in
set_option maxRecDepth 100000 in
theorem ref_pending (v : Value) (o : Option Nat) (n : Nat) (xs : List Int) (c : Int) (w : World) (hR : Row w 3 1 v o n (ints xs)) (hn : n ≤ 1000000000) :
    Calls Try.prog 40 #[v, .int .i64 c] w fun e w' => e = .returned (.int .i64 (cnt xs c)) ∧ w = w' := by
  obtain ⟨a, cap, rfl, hcap, hcap2⟩ := hR.val
  have hl := hR.ints_len
  have HR := Lib.hid hR
  have HL := Lib.hid hl
  clear hR hl
  go_enter Try.func40, Try.ntmps40
  go_wp2_with fail
  go_loopg [5, 6] n (fun k u i wr => ∃ j : Nat, j + k = n ∧ u = .int .i64 (cnt (xs.take j) c) ∧ i = .int .i64 j ∧ w = wr)
  case atStart => exact ⟨0, by omega, rfl, rfl, rfl⟩
  case round =>
    obtain ⟨j, hj, rfl, rfl, rfl⟩ := hrel
    by_cases hlt : j < n
    · obtain ⟨b, off, rfl, ho, hc⟩ := HR.out.ints_at j hlt
      have hs := cnt_snoc (xs.take j) (xs.getD j 0) c
      rw [← take_succ_getD (by rw [HL.out]; exact hlt)] at hs
      have hb := cnt_bd (xs.take j) c
      have hb2 : (xs.take j).length ≤ j := List.length_take_le _ _
      have HS := Lib.hid hs
      clear hs ho
      generalize xs.getD j 0 = y at *
      by_cases hy : y = c
      · have t1 : (y == c) = true := by simp [hy]
        have HY := Lib.hid hy
        clear hy
        go_wp2_with fail
        go_roundg (n - (j + 1))
        case measure => omega
        case rel => exact ⟨j + 1, by omega, by rw [HS.out, if_pos HY.out], by go_num, rfl⟩
      · have t1 : (y == c) = false := by simp [hy]
        have HY := Lib.hid hy
        clear hy
        go_wp2_with fail
        go_roundg (n - (j + 1))
        case measure => omega
        case rel => exact ⟨j + 1, by omega, by rw [HS.out, if_neg HY.out]; simp, by go_num, rfl⟩
    · go_wp2_with fail
      go_ret
      refine ⟨ret_eq ?_, rfl⟩
      show Value.int .i64 (cnt (xs.take j) c) = _
      rw [List.take_of_length_le (by rw [HL.out]; omega)]

set_option maxHeartbeats 1000000 in
set_option maxRecDepth 100000 in
theorem ints_any (v v' : Value) (o o' : Option Nat) (n n' : Nat) (xs ys : List Int) (w : World) (hR : Row w 3 1 v o n (ints xs)) (hR' : Row w 3 1 v' o' n' (ints ys)) (hn : n ≤ 1000000000) (hn' : n' ≤ 1000000000) :
    Calls Try.prog 36 #[v, v'] w fun e w' => e = .returned (.bool (decide (xs = ys))) ∧ ∃ m, w' = w.drewN m := by
  obtain ⟨a, cap, rfl, hcap, hcap2⟩ := hR.val
  obtain ⟨a', cap', rfl, hcap', hcap2'⟩ := hR'.val
  have hl := hR.ints_len
  have hl' := hR'.ints_len
  by_cases hne : n = n'
  · subst hne
    have HR := Lib.hid hR
    have HL := Lib.hid hl
    have HR' := Lib.hid hR'
    have HL' := Lib.hid hl'
    clear hR hl hR' hl'
    go_enter Try.func36, Try.ntmps36
    go_wp2_with fail
    go_loopg [5] n (fun k i wr => ∃ j m : Nat, j + k = n ∧ i = .int .i64 j ∧ xs.take j = ys.take j ∧ wr = w.drewN m)
    case atStart => exact ⟨0, 0, by omega, rfl, by simp, rfl⟩
    case round =>
      obtain ⟨j, m, hj, rfl, he, rfl⟩ := hrel
      have HE := Lib.hid he
      clear he
      by_cases hlt : j < n
      · obtain ⟨b, off, rfl, ho, hc⟩ := HR.out.ints_at j hlt
        obtain ⟨b', off', rfl, ho', hc'⟩ := HR'.out.ints_at j hlt
        have h1 := take_succ_getD (xs := xs) (j := j) (by rw [HL.out]; exact hlt)
        have h2 := take_succ_getD (xs := ys) (j := j) (by rw [HL'.out]; exact hlt)
        have hxy : (xs.getD j 0 = ys.getD j 0) ∨ xs ≠ ys := by
          by_cases h : xs = ys
          · left; rw [h]
          · right; exact h
        have H1 := Lib.hid h1
        have H2 := Lib.hid h2
        have HXY := Lib.hid hxy
        clear h1 h2 ho ho' hxy
        generalize xs.getD j 0 = y at *
        generalize ys.getD j 0 = z at *
        by_cases hy : y = z
        · have t1 : (y != z) = false := by simp [hy]
          have HY := Lib.hid hy
          clear hy
          go_wp2_with fail
          go_quiet ((fail))
          go_wp2_with fail
          go_roundg (n - (j + 1))
          case measure => omega
          case rel => exact ⟨j + 1, _, by omega, by go_num, by rw [H1.out, H2.out, HE.out, HY.out], rfl⟩
        · have t1 : (y != z) = true := by simp [hy]
          have HN := Lib.hid (show xs ≠ ys from HXY.out.resolve_left hy)
          clear hy
          go_wp2_with fail
          go_quiet ((fail))
          go_wp2_with fail
          go_ret
          exact ⟨by rw [decide_eq_false HN.out]; rfl, _, World.drewN_drewN ..⟩
      · go_wp2_with fail
        go_ret
        refine ⟨ret_eq ?_, m, rfl⟩
        have := HE.out
        rw [List.take_of_length_le (by rw [HL.out]; omega), List.take_of_length_le (by rw [HL'.out]; omega)] at this
        rw [decide_eq_true this]; rfl
  · have hx : xs ≠ ys := fun e => hne (by rw [← hl, ← hl', e])
    have HX := Lib.hid hx
    have t1 : (((n : Nat) : Int) != (n' : Int)) = true := by simp; omega
    clear hR hR' hl hl' hx hne
    go_enter Try.func36, Try.ntmps36
    go_wp2_with fail
    go_ret
    exact ⟨by rw [decide_eq_false HX.out]; rfl, 0, rfl⟩

theorem oneCell_ints {xs : List Int} : ∀ u ∈ ints xs, u.oneCell' = true := fun u hu => by simp [ints] at hu; obtain ⟨y, _, rfl⟩ := hu; rfl
theorem Row.src {w : World} {b off n cap : Nat} {o : Option Nat} {xs : List Value} (h : Row w 3 1 (.slice (some ⟨b, off, none⟩) n cap) o n xs) : ∀ j u, xs[j]? = some u → w.cell? ((⟨b, off, none⟩ : Addr).add j) = some u := fun j u hj => by
  have hj' : j < n * 1 := by have := (List.getElem?_eq_some_iff.1 hj).1; rw [h.len] at this; exact this
  obtain ⟨b', off', cap', hv, ho, _, _, hc, _⟩ := h.cells (by omega)
  obtain ⟨e, -, -⟩ := Value.slice.inj hv
  obtain ⟨rfl, rfl⟩ : b = b' ∧ off = off' := by simpa using e
  rw [Addr.add_lit, hc j hj', hj]

set_option maxHeartbeats 1000000 in
theorem ref_push_no (v : Value) (a : Option Addr) (n cap : Nat) (hv : v = .slice a n cap) (c : Int) (w : World) (h : c < 0 ∨ 191 < c) :
    Calls Try.prog 35 #[v, .int .i64 c] w fun e w' => e = .returned (.tuple #[v, .int .i64 1]) ∧ w = w' := by
  subst hv
  by_cases h1 : c < 0
  · go_enter Try.func35, Try.ntmps35
    go_wp2
    go_ret2
    exact ⟨rfl, rfl⟩
  · have h2 : 191 < c := by omega
    clear h
    go_enter Try.func35, Try.ntmps35
    go_wp2
    go_ret2
    exact ⟨rfl, rfl⟩

/-- A new list of numbers is the first of some results. -/
def Told (xs : List Value) (n : Nat) (rest : List Value) (w : World) (e : Ending) (w' : World) : Prop :=
  ∃ v o, e = .returned (.tuple (v :: rest).toArray) ∧ Row w' 3 1 v o n xs ∧ (∀ k, o = some k → w.heap.size ≤ k) ∧ But (fun _ => False) w w'

set_option maxHeartbeats 1000000 in
set_option maxRecDepth 100000 in
theorem ref_push (v : Value) (o : Option Nat) (n : Nat) (xs : List Int) (c : Int) (w : World) (hR : Row w 3 1 v o n (ints xs)) (hn : n ≤ 1000000000) (h0 : 0 ≤ c) (h1 : c ≤ 191) :
    Calls Try.prog 35 #[v, .int .i64 c] w (Told (ints (xs ++ [c])) (n + 1) [.int .i64 0] w) := by
  obtain ⟨i0, hi, hz0, hz1, hz2⟩ := info_parts infoInt
  have hl2 : 0 + n ≤ maxLen := by unfold maxLen; omega
  have hl3 : (0 + n) * 8 ≤ 140737488355328 := by omega
  have hl4 : n + 1 ≤ maxLen := by unfold maxLen; omega
  have hl5 : (n + 1) * 8 ≤ 140737488355328 := by omega
  have hfin : ∀ w1 w2 v1 v2 o1 o2, Row w1 3 1 v1 o1 n (ints xs) → But (fun k => some w.heap.size = some k) (w.alloc (.cells #[] 3)) w1 → (∀ k, o1 = some k → some w.heap.size = some k ∨ w.heap.size + 1 ≤ k) →
      Row w2 3 1 v2 o2 (n + 1) (ints xs ++ [.int .i64 c]) → But (fun k => o1 = some k) (w1.alloc (.cells #[.int .i64 c] 3)) w2 → (∀ k, o2 = some k → o1 = some k ∨ w1.heap.size + 1 ≤ k) →
      Told (ints (xs ++ [c])) (n + 1) [.int .i64 0] w (.returned (.tuple #[v2, .int .i64 0])) w2 := by
    intro w1 w2 v1 v2 o1 o2 hR1 hB1 hN1 hR2 hB2 hN2
    have s1 := hB1.size
    simp at s1
    have g1 : But (fun _ => False) w w1 := ((But.refl _ _).alloc _).trans' hB1 (fun k hk => .inr (by cases hk; exact Nat.le_refl _))
    have n1 : ∀ k, o1 = some k → w.heap.size ≤ k := fun k hk => by rcases hN1 k hk with h | h; (cases h; exact Nat.le_refl _); omega
    exact ⟨v2, o2, rfl, by simpa [ints] using hR2, fun k hk => by rcases hN2 k hk with h | h; exact n1 k h; omega, (g1.alloc _).trans' hB2 (fun k hk => .inr (n1 k hk))⟩
  have HF := Lib.hid hfin
  clear hfin
  rcases hR.is with ⟨rfl, ho, rfl⟩ | ⟨b, off, cap, cs, rfl, ho, hh, g1, g2, g3, g4⟩
  · have hx : xs = [] := List.eq_nil_of_length_eq_zero hR.ints_len
    subst hx
    clear hR hl2 hl3
    go_enter Try.func35, Try.ntmps35
    go_wp2_with (first
      | (at_builtin; refine wpList_append_none _ rfl _ _ _ rfl 3 i0 Try.underlying49 hi (some ⟨w.heap.size, 0, none⟩) 0 0 rfl (Nat.le_refl _) rfl ?_; have tok := True.intro)
      | (at_builtin; refine wpList_append_row _ rfl _ _ _ rfl 3 i0 (.int .i64 0) 1 8 Try.underlying49 hi hz0 hz1 hz2 rfl (by decide) _ (some w.heap.size) 0 [] ((Row.new w 3 1 0 [] rfl (Nat.zero_le _)).alloc _) rfl ⟨w.heap.size + 1, 0, none⟩ 1 1 [.int .i64 c] rfl rfl (by intro j u hj; simpa using cell_one_new (w.alloc (.cells #[] 3)) _ _ j u hj) (by simp [Value.oneCell']) hl4 hl5 ?_; intro v2 w2 o2 hR2 hB2 hN2; obtain ⟨a2, cap2, rfl, hcap2, hcap3⟩ := hR2.val))
    go_ret2
    exact HF.out (w.alloc (.cells #[] 3)) w2 (.slice (some ⟨w.heap.size, 0, none⟩) 0 0) _ (some w.heap.size) o2 (Row.new w 3 1 0 [] rfl (Nat.zero_le _)) (But.refl _ _) (fun k hk => .inl hk) hR2 (by simpa using hB2) (fun k hk => by have := hN2 k hk; simpa using this)
  · have hbs : b < w.heap.size := (Array.getElem?_eq_some_iff.1 hh).1
    have HL := Lib.hid hR.len
    have HC := Lib.hid (Row.src (hR.alloc (.cells #[] 3)))
    clear hh g3 g4 hR
    go_enter Try.func35, Try.ntmps35
    go_wp2_with (first
      | (at_builtin; refine wpList_append_row _ rfl _ _ _ rfl 3 i0 (.int .i64 0) 1 8 Try.underlying49 hi hz0 hz1 hz2 rfl (by decide) _ o1 n (ints xs) (hR1.alloc _) rfl ⟨w1.heap.size, 0, none⟩ 1 1 [.int .i64 c] rfl rfl (cell_one_new _ _ _) (by simp [Value.oneCell']) hl4 hl5 ?_; intro v2 w2 o2 hR2 hB2 hN2; obtain ⟨a2, cap2, rfl, hcap2, hcap3⟩ := hR2.val)
      | (at_builtin; refine wpList_append_row _ rfl _ _ _ rfl 3 i0 (.int .i64 0) 1 8 Try.underlying49 hi hz0 hz1 hz2 rfl (by decide) _ (some w.heap.size) 0 [] (Row.new w 3 1 0 [] rfl (Nat.zero_le _)) rfl ⟨b, off, none⟩ n cap (ints xs) rfl HL.out HC.out oneCell_ints hl2 hl3 ?_; intro v1 w1 o1 hR1 hB1 hN1; rw [Nat.zero_add, List.nil_append] at hR1; obtain ⟨a1, cap1, rfl, hcap0, hcap1⟩ := hR1.val))
    go_ret2
    exact HF.out _ _ _ _ _ _ hR1 hB1 (fun k hk => by have := hN1 k hk; simpa using this) hR2 hB2 (fun k hk => by have := hN2 k hk; simpa using this)

/-- The numbers that are another one than x. -/
def but (x : Int) (l : List Int) : List Int := l.filter (fun y => decide (y ≠ x))
theorem but_snoc (x : Int) (l : List Int) (y : Int) : but x (l ++ [y]) = if y = x then but x l else but x l ++ [y] := by
  unfold but; rw [List.filter_append]; by_cases h : y = x <;> simp [h]
theorem but_len (x : Int) (l : List Int) : ((but x l).length : Int) = l.length - cnt l x := by
  unfold but cnt
  induction l with
  | nil => rfl
  | cons y l ih => by_cases h : y = x <;> simp [h] at ih ⊢ <;> omega
theorem but_le (x : Int) (l : List Int) : (but x l).length ≤ l.length := List.length_filter_le _ _

theorem ref_pop_none (v : Value) (a : Option Addr) (cap : Nat) (hv : v = .slice a 0 cap) (w : World) :
    Calls Try.prog 33 #[v] w fun e w' => e = .returned (.tuple #[v, .int .i64 0, .int .i64 0, .bool false]) ∧ w = w' := by
  subst hv
  go_enter Try.func33, Try.ntmps33
  go_wp2
  exact bodyPost_ret (v := .tuple #[.slice a 0 cap, .int .i64 0, .int .i64 0, .bool false]) (by simp [results, Try.results33, go_sem]) rfl ⟨rfl, rfl⟩

set_option maxHeartbeats 1000000 in
set_option maxRecDepth 100000 in
theorem ref_pop (v : Value) (o : Option Nat) (n : Nat) (x : Int) (l : List Int) (w : World) (hR : Row w 3 1 v o n (ints (x :: l))) (hn : n ≤ 1000000000) :
    Calls Try.prog 33 #[v] w (Told (ints (but x (x :: l))) (but x (x :: l)).length [.int .i64 x, .int .i64 (cnt (x :: l) x), .bool true] w) := by
  obtain ⟨i0, hi, hz0, hz1, hz2⟩ := info_parts infoInt
  have hl := hR.ints_len
  have h0 : 0 < n := by rw [← hl]; simp
  obtain ⟨a, cap, rfl, hcap, hcap2⟩ := hR.val
  obtain ⟨b, off, rfl, ho, hc0⟩ := hR.ints_at 0 h0
  have hbs := hR.lt ho
  have hc0' : w.cell? ⟨b, off, none⟩ = some (.int .i64 x) := by simpa using hc0
  have HR := Lib.hid hR
  have HL := Lib.hid hl
  obtain ⟨xs, hxs⟩ : ∃ xs, xs = x :: l := ⟨_, rfl⟩
  rw [← hxs] at HR HL ⊢
  have hcn := but_len x xs
  rw [HL.out] at hcn
  have HCN := Lib.hid hcn
  have t0 : ((n : Int) == 0) = false := by simp; omega
  clear hR hl ho hc0 hcn hxs
  go_enter Try.func33, Try.ntmps33
  go_wp2_with fail
  go_loopg [6, 7] n (fun k u i wr => ∃ j m : Nat, ∃ a1 cap1 o1, j + k = n ∧ i = .int .i64 j ∧ m ≤ j ∧ u = .slice a1 m cap1 ∧ Row wr 3 1 (.slice a1 m cap1) o1 m (ints (but x (xs.take j))) ∧ (∀ k, o1 = some k → w.heap.size ≤ k) ∧ But (fun _ => False) w wr)
  case atStart => exact ⟨0, 0, none, 0, none, by omega, rfl, by omega, rfl, by simpa [but, ints] using Row.nil _ _ _, (fun k hk => by cases hk), But.refl _ _⟩
  case round =>
    obtain ⟨j, m, a1, cap1, o1, hj, rfl, hmj, rfl, hR1, hN1, hB1⟩ := hrel
    have hlm := hR1.ints_len
    have c0 : wr.cell? ⟨b, off, none⟩ = some (.int .i64 x) := by rw [← hc0']; exact World.cell?_of_block (w := w) (hB1.block b hbs (fun q => q))
    by_cases hlt : j < n
    · obtain ⟨b', off', e', ho', hc⟩ := (HR.out.but hB1 (fun _ _ q => q)).ints_at j hlt
      obtain ⟨rfl, rfl⟩ : b = b' ∧ off = off' := by simpa using e'
      have hts := take_succ_getD (xs := xs) (j := j) (by rw [HL.out]; exact hlt)
      have HT := Lib.hid hts
      have HM := Lib.hid hlm
      clear e' ho' hts hlm
      generalize xs.getD j 0 = y at *
      by_cases hy : y = x
      · have t1 : (y != x) = false := by simp [hy]
        have HS := Lib.hid (show but x (xs.take (j + 1)) = but x (xs.take j) by rw [HT.out, but_snoc, if_pos hy])
        clear hy
        go_wp2_with fail
        go_quiet ((fail))
        go_wp2_with fail
        go_roundg (n - (j + 1))
        case measure => omega
        case rel => exact ⟨j + 1, m, a1, cap1, o1, by omega, by go_num, by omega, rfl, by rw [HS.out]; exact hR1.drewN _, hN1, hB1.drewN _⟩
      · have t1 : (y != x) = true := by simp [hy]
        have HS := Lib.hid (show but x (xs.take (j + 1)) = but x (xs.take j) ++ [y] by rw [HT.out, but_snoc, if_neg hy])
        have hl4 : m + 1 ≤ maxLen := by unfold maxLen; omega
        have hl5 : (m + 1) * 8 ≤ 140737488355328 := by omega
        clear hy
        go_wp2_with fail
        go_quiet ((fail))
        go_wp2_with (first
          | (at_builtin; refine wpList_append_row _ rfl _ _ _ rfl 3 i0 (.int .i64 0) 1 8 Try.underlying49 hi hz0 hz1 hz2 rfl (by decide) _ o1 m (ints (but x (xs.take j))) ((hR1.alloc _).drewN _) rfl ⟨wr.heap.size, 0, none⟩ 1 1 [.int .i64 y] rfl rfl (fun j u hj => cell_one_new wr _ _ j u hj) (by simp [Value.oneCell']) hl4 hl5 ?_; intro v2 w2 o2 hR2 hB2 hN2; obtain ⟨a2, cap2, rfl, hcap2, hcap3⟩ := hR2.val))
        go_roundg (n - (j + 1))
        case measure => omega
        case rel =>
          have hsz := hB1.size
          refine ⟨j + 1, m + 1, a2, cap2, o2, by omega, by go_num, by omega, rfl, by rw [HS.out]; simpa [ints] using hR2, fun k hk => ?_, ?_⟩
          · rcases hN2 k hk with h | h
            · exact hN1 k h
            · have h' : wr.heap.size + 1 ≤ k := by simpa using h
              omega
          · exact ((hB1.alloc _).drewN _).trans' hB2 (fun k hk => .inr (hN1 k hk))
    · go_wp2_with fail
      go_quiet ((fail))
      go_wp2_with fail
      have hm : but x (xs.take j) = but x xs := by rw [List.take_of_length_le (by rw [HL.out]; omega)]
      have hmm := hlm
      rw [hm] at hmm
      have e1 : (n : Int) - (m : Int) = cnt xs x := by have := HCN.out; omega
      refine bodyPost_ret (v := .tuple #[.slice a1 m cap1, .int .i64 x, .int .i64 ((n : Int) - (m : Int)), .bool true]) (by simp [results, Try.results33, go_sem]) rfl ⟨.slice a1 m cap1, o1, by rw [e1], ?_, hN1, hB1.drewN _⟩
      rw [hm] at hR1
      rw [hmm]; exact hR1.drewN _

set_option maxHeartbeats 1000000 in
set_option maxRecDepth 100000 in
theorem ref_all (v : Value) (o : Option Nat) (n : Nat) (xs : List Int) (w : World) (hR : Row w 3 1 v o n (ints xs)) (hn : n ≤ 1000000000) :
    Calls Try.prog 38 #[v] w (Copied (ints (firsts xs)) (firsts xs).length w) := by
  obtain ⟨i0, hi, hz0, hz1, hz2⟩ := info_parts infoInt
  have hl := hR.ints_len
  obtain ⟨a, cap, rfl, hcap, hcap2⟩ := hR.val
  have HR := Lib.hid hR
  have HL := Lib.hid hl
  clear hR hl
  go_enter Try.func38, Try.ntmps38
  go_wp2_with fail
  go_loopg [3, 4] n (fun k u i wr => ∃ j m : Nat, ∃ a1 cap1 o1, j + k = n ∧ i = .int .i64 j ∧ m ≤ j ∧ u = .slice a1 m cap1 ∧ Row wr 3 1 (.slice a1 m cap1) o1 m (ints (firsts (xs.take j))) ∧ (∀ k, o1 = some k → w.heap.size ≤ k) ∧ But (fun _ => False) w wr)
  case atStart => exact ⟨0, 0, none, 0, none, by omega, rfl, by omega, rfl, by simpa [firsts, ints] using Row.nil _ _ _, (fun k hk => by cases hk), But.refl _ _⟩
  case round =>
    obtain ⟨j, m, a1, cap1, o1, hj, rfl, hmj, rfl, hR1, hN1, hB1⟩ := hrel
    have hlm := hR1.ints_len
    by_cases hlt : j < n
    · have hRw := HR.out.but hB1 (fun _ _ q => q)
      obtain ⟨b, off, rfl, ho, hc⟩ := hRw.ints_at j hlt
      have hts := take_succ_getD (xs := xs) (j := j) (by rw [HL.out]; exact hlt)
      have HT := Lib.hid hts
      have HM := Lib.hid hlm
      clear ho hts hlm hRw
      generalize xs.getD j 0 = y at *
      go_wp2_with fail
      refine (ref_pending _ o1 m (firsts (xs.take j)) y _ hR1 (by omega)).mono ?_
      rintro e w2 ⟨rfl, rfl⟩
      by_cases hy : y ∈ firsts (xs.take j)
      · have t1 : (cnt (firsts (xs.take j)) y == 0) = false := by have := (cnt_pos (firsts (xs.take j)) y).2 hy; simp; omega
        have HS := Lib.hid (show firsts (xs.take (j + 1)) = firsts (xs.take j) by rw [HT.out, firsts_snoc, if_pos hy])
        clear hy
        go_wp2_with fail
        go_roundg (n - (j + 1))
        case measure => omega
        case rel => exact ⟨j + 1, m, a1, cap1, o1, by omega, by go_num, by omega, rfl, by rw [HS.out]; exact hR1, hN1, hB1⟩
      · have t1 : (cnt (firsts (xs.take j)) y == 0) = true := by have := (cnt_pos (firsts (xs.take j)) y).1; have := cnt_bd (firsts (xs.take j)) y; simp; by_cases h : 0 < cnt (firsts (xs.take j)) y; exact absurd (‹0 < cnt (firsts (xs.take j)) y → _› h) hy; omega
        have HS := Lib.hid (show firsts (xs.take (j + 1)) = firsts (xs.take j) ++ [y] by rw [HT.out, firsts_snoc, if_neg hy])
        have hl4 : m + 1 ≤ maxLen := by unfold maxLen; omega
        have hl5 : (m + 1) * 8 ≤ 140737488355328 := by omega
        clear hy
        go_wp2_with (first
          | (at_builtin; refine wpList_append_row _ rfl _ _ _ rfl 3 i0 (.int .i64 0) 1 8 Try.underlying49 hi hz0 hz1 hz2 rfl (by decide) _ o1 m (ints (firsts (xs.take j))) (hR1.alloc _) rfl ⟨wr.heap.size, 0, none⟩ 1 1 [.int .i64 y] rfl rfl (cell_one_new _ _ _) (by simp [Value.oneCell']) hl4 hl5 ?_; intro v2 w2 o2 hR2 hB2 hN2; obtain ⟨a2, cap2, rfl, hcap2, hcap3⟩ := hR2.val))
        go_roundg (n - (j + 1))
        case measure => omega
        case rel =>
          have hsz := hB1.size
          refine ⟨j + 1, m + 1, a2, cap2, o2, by omega, by go_num, by omega, rfl, by rw [HS.out]; simpa [ints] using hR2, fun k hk => ?_, ?_⟩
          · rcases hN2 k hk with h | h
            · exact hN1 k h
            · have h' : wr.heap.size + 1 ≤ k := by simpa using h
              omega
          · exact (hB1.alloc _).trans' hB2 (fun k hk => .inr (hN1 k hk))
    · go_wp2_with fail
      go_ret
      have hm : firsts (xs.take j) = firsts xs := by rw [List.take_of_length_le (by rw [HL.out]; omega)]
      rw [hm] at hR1 hlm
      exact ⟨.slice a1 m cap1, o1, rfl, by rw [hlm]; exact hR1, hN1, hB1⟩

end Queue
end Go.Proofs.Ytboajbbnnbnpaaa
