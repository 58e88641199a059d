/- The functions of package arena, and of its ref, walked: what each call does to the arena's two blocks. -/
import Derived.Test.YtngbhhcicakolaaRows
import Derived.Test.YtngbhhcicakolaaWords
import Derived.Test.YtngbhhcicakolaaRow
import Derived.IntWalk
import Derived.BigFrame
import Derived.Lib.SliceRun
set_option linter.unusedVariables false
set_option linter.unusedSimpArgs false
namespace Go.Proofs.Ytngbhhcicakolaa
open Go.RowKit

namespace Arena

def u64s (l : List Int) : Array Value := (l.map (Value.int .u64)).toArray

/-- An arena of type T: its header at block b, its words at block c. -/
structure Ar (T : TypeId) (w : World) (b c : Nat) (l : List Int) (t : Int) : Prop where
  blk : Blk w b #[.slice (some ⟨c, 0, none⟩) l.length l.length, .int .i64 t] T
  row : Blk w c (u64s l) 41
  ne : b ≠ c
  len : l.length ≤ 65536
  t0 : 0 ≤ t

theorem Ar.but {T : TypeId} {w w' : World} {b c : Nat} {l : List Int} {t : Int} (h : Ar T w b c l t) {S : Nat → Prop} (hb : But S w w') (hs : ¬ S b) (hs2 : ¬ S c) : Ar T w' b c l t :=
  ⟨h.blk.but hb hs, h.row.but hb hs2, h.ne, h.len, h.t0⟩

/-- What is all there. -/
def there (l : List Int) (at_ n : Int) : Bool := decide (0 ≤ at_) && decide (0 ≤ n) && decide (at_ ≤ l.length) && decide (n ≤ l.length - at_)
theorem there_iff (l : List Int) (at_ n : Int) : there l at_ n = true ↔ 0 ≤ at_ ∧ 0 ≤ n ∧ at_ ≤ l.length ∧ n ≤ l.length - at_ := by unfold there; simp [and_assoc]
theorem there_not (l : List Int) (at_ n : Int) : there l at_ n = false ↔ at_ < 0 ∨ n < 0 ∨ (l.length : Int) < at_ ∨ (l.length : Int) - at_ < n := by
  rw [← Bool.not_eq_true, there_iff]; omega

set_option maxHeartbeats 1000000 in
set_option maxRecDepth 100000 in
theorem span_nil (i n : Int) (w : World) : Calls Try.prog 68 #[.pointer none, .int .i64 i, .int .i64 n] w fun e w' => e = .returned (.tuple #[.slice none 0 0, .bool false]) ∧ w = w' := by
  go_enter Try.func68, Try.ntmps68
  go_wp2_with fail
  go_ret2
  exact ⟨rfl, rfl⟩

set_option maxHeartbeats 2000000 in
set_option maxRecDepth 100000 in
theorem span_no (b c : Nat) (l : List Int) (t i n : Int) (w : World) (h : Ar 77 w b c l t) (hn : there l i n = false) : Calls Try.prog 68 #[.pointer (some ⟨b, 0, none⟩), .int .i64 i, .int .i64 n] w fun e w' => e = .returned (.tuple #[.slice none 0 0, .bool false]) ∧ w = w' := by
  have c0 : w.cell? ⟨b, 0, none⟩ = some (.slice (some ⟨c, 0, none⟩) l.length l.length) := h.blk.cell 0
  have hl := h.len
  rw [there_not] at hn
  by_cases h1 : i < 0
  · go_enter Try.func68, Try.ntmps68
    go_wp2_with fail
    go_ret2
    exact ⟨rfl, rfl⟩
  by_cases h2 : n < 0
  · go_enter Try.func68, Try.ntmps68
    go_wp2_with fail
    go_ret2
    exact ⟨rfl, rfl⟩
  by_cases h3 : (l.length : Int) < i
  · go_enter Try.func68, Try.ntmps68
    go_wp2_with fail
    go_ret2
    exact ⟨rfl, rfl⟩
  have h4 : (l.length : Int) - i < n := by omega
  clear hn
  go_enter Try.func68, Try.ntmps68
  go_wp2_with fail
  go_ret2
  exact ⟨rfl, rfl⟩

set_option maxHeartbeats 2000000 in
set_option maxRecDepth 100000 in
theorem span_zero (b c : Nat) (l : List Int) (t : Int) (i : Nat) (w : World) (h : Ar 77 w b c l t) (hn : i ≤ l.length) (ht : t ≤ 1000000000000) :
    Calls Try.prog 68 #[.pointer (some ⟨b, 0, none⟩), .int .i64 i, .int .i64 0] w fun e w' =>
      e = .returned (.tuple #[.slice (some ⟨c, 0, none⟩) 0 0, .bool true]) ∧ Ar 77 w' b c l t ∧ But (fun k => k = b) w w' := by
  have c0 : w.cell? ⟨b, 0, none⟩ = some (.slice (some ⟨c, 0, none⟩) l.length l.length) := h.blk.cell 0
  have c1 : w.cell? ⟨b, 1, none⟩ = some (.int .i64 t) := h.blk.cell 1
  have f1 := h.blk.frozen 1
  have hl := h.len
  have h0 := h.t0
  have H := Lib.hid h
  clear h
  go_enter Try.func68, Try.ntmps68
  go_wp2_with fail
  go_ret2
  exact ⟨rfl, ⟨H.out.blk.put 1 _ rfl, H.out.row.far (fun e => H.out.ne e.symm) _, H.out.ne, H.out.len, H.out.t0⟩, But.one _ _ _⟩

set_option maxHeartbeats 2000000 in
set_option maxRecDepth 100000 in
theorem span_yes (b c : Nat) (l : List Int) (t : Int) (i n : Nat) (w : World) (h : Ar 77 w b c l t) (hn : i + n ≤ l.length) (hp : 0 < n) (ht : t ≤ 1000000000000) :
    Calls Try.prog 68 #[.pointer (some ⟨b, 0, none⟩), .int .i64 i, .int .i64 n] w fun e w' =>
      e = .returned (.tuple #[.slice (some ⟨c, i, none⟩) n n, .bool true]) ∧ Ar 77 w' b c l (t + n) ∧ But (fun k => k = b) w w' := by
  have c0 : w.cell? ⟨b, 0, none⟩ = some (.slice (some ⟨c, 0, none⟩) l.length l.length) := h.blk.cell 0
  have c1 : w.cell? ⟨b, 1, none⟩ = some (.int .i64 t) := h.blk.cell 1
  have f1 := h.blk.frozen 1
  have hl := h.len
  have h0 := h.t0
  have H := Lib.hid h
  clear h
  go_enter Try.func68, Try.ntmps68
  go_wp2_with fail
  go_ret2
  exact ⟨by rw [show Value.slice (some ⟨c, i, none⟩) n n = Value.slice (some ⟨c, i, none⟩) (i + n - i) (i + n - i) by rw [Nat.add_sub_cancel_left]]; rfl, ⟨H.out.blk.put 1 _ rfl, H.out.row.far (fun e => H.out.ne e.symm) _, H.out.ne, H.out.len, by omega⟩, But.one _ _ _⟩

def nth (l : List Int) (i : Nat) : Int := l.getD i 0
theorem u64s_cell {T : TypeId} {w : World} {c : Nat} {l : List Int} (h : Blk w c (u64s l) T) {i : Nat} (hi : i < l.length) : w.cell? ⟨c, i, none⟩ = some (.int .u64 (nth l i)) := by
  rw [h.cell]; unfold u64s nth; simp [hi]
theorem u64s_set {T : TypeId} {w : World} {c : Nat} {l : List Int} (h : Blk w c (u64s l) T) (i : Nat) (x : Int) : Blk (w.setCell ⟨c, i, none⟩ (.int .u64 x)) c (u64s (l.set i x)) T := by
  refine h.put i _ ?_
  unfold u64s
  simp

/-- A read: the word, the error. -/
def rd (l : List Int) (i : Int) : Int × Int := if there l i 1 = true then (nth l i.toNat, 0) else (0, 1)
/-- A write: the error, the words behind it. -/
def wri (l : List Int) (i x : Int) : Int × List Int := if there l i 1 = true then (0, l.set i.toNat x) else (1, l)
def zeroed (l : List Int) (i n : Nat) : List Int := l.take i ++ (List.replicate n 0 ++ l.drop (i + n))
/-- Zero: the error, the words behind it. -/
def zr (l : List Int) (i n : Int) : Int × List Int := if there l i n = true then (0, zeroed l i.toNat n.toNat) else (1, l)
def by1 (l : List Int) (i : Int) (t : Int) : Int := if there l i 1 = true then t + 1 else t
def byn (l : List Int) (i n : Int) (t : Int) : Int := if there l i n = true then t + n else t

theorem zeroed_length {l : List Int} {i n : Nat} (h : i + n ≤ l.length) : (zeroed l i n).length = l.length := by unfold zeroed; simp; omega
theorem zeroed_zero (l : List Int) (i : Nat) : zeroed l i 0 = l := by unfold zeroed; simp
theorem zeroed_succ {l : List Int} {i n : Nat} (h : i + n + 1 ≤ l.length) : (zeroed l i n).set (i + n) 0 = zeroed l i (n + 1) := by
  unfold zeroed
  apply List.ext_getElem?
  intro k
  rw [List.getElem?_set]
  simp only [List.getElem?_append, List.getElem?_replicate, List.getElem?_take, List.getElem?_drop, List.length_append, List.length_replicate, List.length_drop, List.length_take]
  repeat' split
  all_goals first | rfl | (exfalso; omega) | (congr 1; omega)

set_option maxHeartbeats 2000000 in
set_option maxRecDepth 100000 in
theorem read_any (b c : Nat) (l : List Int) (t i : Int) (w : World) (h : Ar 77 w b c l t) (ht : t ≤ 1000000000000) :
    Calls Try.prog 30 #[.pointer (some ⟨b, 0, none⟩), .int .i64 i] w fun e w' =>
      e = .returned (.tuple #[.int .u64 (rd l i).1, .int .i64 (rd l i).2]) ∧ Ar 77 w' b c l (by1 l i t) ∧ But (fun k => k = b) w w' := by
  cases hr : there l i 1 with
  | false =>
    have E := Lib.hid (show rd l i = (0, 1) by unfold rd; rw [hr]; rfl)
    have E2 := Lib.hid (show by1 l i t = t by unfold by1; rw [hr]; rfl)
    have H := Lib.hid h
    have R := Lib.hid hr
    clear hr h
    go_enter Try.func30, Try.ntmps30
    go_wp2_with fail
    refine (span_no b c l t i 1 _ H.out R.out).mono ?_
    rintro e w1 ⟨rfl, rfl⟩
    go_wp2_with fail
    go_ret2
    exact ⟨by rw [E.out]; rfl, by rw [E2.out]; exact H.out, But.refl _ _⟩
  | true =>
    have E := Lib.hid (show rd l i = (nth l i.toNat, 0) by unfold rd; rw [hr]; rfl)
    have E2 := Lib.hid (show by1 l i t = t + 1 by unfold by1; rw [hr]; rfl)
    rw [there_iff] at hr
    obtain ⟨i, rfl⟩ : ∃ k : Nat, i = k := ⟨i.toNat, by omega⟩
    have hi : i < l.length := by omega
    have H := Lib.hid h
    clear hr h
    go_enter Try.func30, Try.ntmps30
    go_wp2_with fail
    refine (span_yes b c l t i 1 _ H.out (by omega) (by omega) ht).mono ?_
    rintro e w1 ⟨rfl, h1, g1⟩
    have c0 := u64s_cell h1.row hi
    have H1 := Lib.hid h1
    clear h1
    go_wp2_with fail
    go_ret2
    exact ⟨by rw [E.out]; rfl, by rw [E2.out]; exact H1.out, g1⟩

set_option maxHeartbeats 2000000 in
set_option maxRecDepth 100000 in
theorem write_any (b c : Nat) (l : List Int) (t i x : Int) (w : World) (h : Ar 77 w b c l t) (ht : t ≤ 1000000000000) :
    Calls Try.prog 28 #[.pointer (some ⟨b, 0, none⟩), .int .i64 i, .int .u64 x] w fun e w' =>
      e = .returned (.int .i64 (wri l i x).1) ∧ Ar 77 w' b c (wri l i x).2 (by1 l i t) ∧ But (fun k => k = b ∨ k = c) w w' := by
  cases hr : there l i 1 with
  | false =>
    have E := Lib.hid (show wri l i x = (1, l) by unfold wri; rw [hr]; rfl)
    have E2 := Lib.hid (show by1 l i t = t by unfold by1; rw [hr]; rfl)
    have H := Lib.hid h
    have R := Lib.hid hr
    clear hr h
    go_enter Try.func28, Try.ntmps28
    go_wp2_with fail
    refine (span_no b c l t i 1 _ H.out R.out).mono ?_
    rintro e w1 ⟨rfl, rfl⟩
    go_wp2_with fail
    go_ret
    exact ⟨by rw [E.out]; rfl, by rw [E2.out, E.out]; exact H.out, But.refl _ _⟩
  | true =>
    have E := Lib.hid (show wri l i x = (0, l.set i.toNat x) by unfold wri; rw [hr]; rfl)
    have E2 := Lib.hid (show by1 l i t = t + 1 by unfold by1; rw [hr]; rfl)
    rw [there_iff] at hr
    obtain ⟨i, rfl⟩ : ∃ k : Nat, i = k := ⟨i.toNat, by omega⟩
    have hi : i < l.length := by omega
    have H := Lib.hid h
    clear hr h
    go_enter Try.func28, Try.ntmps28
    go_wp2_with fail
    refine (span_yes b c l t i 1 _ H.out (by omega) (by omega) ht).mono ?_
    rintro e w1 ⟨rfl, h1, g1⟩
    have c0 := u64s_cell h1.row hi
    have f0 := h1.row.frozen i
    have H1 := Lib.hid h1
    clear h1
    go_wp2_with fail
    go_ret
    refine ⟨by rw [E.out]; rfl, ?_, (g1.mono (fun k hk => .inl (.inl hk))).setCell (.inl (.inr rfl)) _⟩
    rw [E2.out, E.out]
    exact ⟨by simpa using H1.out.blk.far H1.out.ne _, u64s_set H1.out.row i x, H1.out.ne, by simpa using H1.out.len, H1.out.t0⟩

theorem zero_u64 (w : World) : (zeroValue 41).run Try.prog w = .ok (.int .u64 0) w := by kernel_rfl

set_option maxHeartbeats 2000000 in
set_option maxRecDepth 100000 in
theorem zero_any (b c : Nat) (l : List Int) (t i n : Int) (w : World) (h : Ar 77 w b c l t) (ht : t ≤ 1000000000000) :
    Calls Try.prog 72 #[.pointer (some ⟨b, 0, none⟩), .int .i64 i, .int .i64 n] w fun e w' =>
      e = .returned (.int .i64 (zr l i n).1) ∧ Ar 77 w' b c (zr l i n).2 (byn l i n t) ∧ But (fun k => k = b ∨ k = c) w w' := by
  cases hr : there l i n with
  | false =>
    have E := Lib.hid (show zr l i n = (1, l) by unfold zr; rw [hr]; rfl)
    have E2 := Lib.hid (show byn l i n t = t by unfold byn; rw [hr]; rfl)
    have H := Lib.hid h
    have R := Lib.hid hr
    clear hr h
    go_enter Try.func72, Try.ntmps72
    go_wp2_with fail
    refine (span_no b c l t i n _ H.out R.out).mono ?_
    rintro e w1 ⟨rfl, rfl⟩
    go_wp2_with fail
    go_ret
    exact ⟨by rw [E.out]; rfl, by rw [E2.out, E.out]; exact H.out, But.refl _ _⟩
  | true =>
    have E := Lib.hid (show zr l i n = (0, zeroed l i.toNat n.toNat) by unfold zr; rw [hr]; rfl)
    have E2 := Lib.hid (show byn l i n t = t + n by unfold byn; rw [hr]; rfl)
    rw [there_iff] at hr
    obtain ⟨i, rfl⟩ : ∃ k : Nat, i = k := ⟨i.toNat, by omega⟩
    obtain ⟨n, rfl⟩ : ∃ k : Nat, n = k := ⟨n.toNat, by omega⟩
    have hi : i + n ≤ l.length := by omega
    have H := Lib.hid h
    clear hr h
    by_cases hn : n = 0
    · subst hn
      have hcl : ∀ (w : World) ty, (Builtin.clear_ #[75] ty #[.slice (some ⟨c, 0, none⟩) 0 0]).run Try.prog w = .ok (.tuple #[]) w := fun w ty => by
        simp [Builtin.clear_, run_underlying Try.underlying75]
      go_enter Try.func72, Try.ntmps72
      go_wp2_with fail
      refine (span_zero b c l t i _ H.out (by omega) ht).mono ?_
      rintro e w1 ⟨rfl, h1, g1⟩
      have H1 := Lib.hid h1
      clear h1
      go_wp2_with (simp only [hcl])
      go_ret
      refine ⟨by rw [E.out]; rfl, ?_, g1.mono (fun k hk => .inl (.inl hk))⟩
      rw [E2.out, E.out]
      simpa [zeroed_zero] using H1.out
    · have hz := zeroed_length hi
      go_enter Try.func72, Try.ntmps72
      go_wp2_with fail
      refine (span_yes b c l t i n _ H.out hi (by omega) ht).mono ?_
      rintro e w1 ⟨rfl, h1, g1⟩
      have hcl : ∀ ty, (Builtin.clear_ #[75] ty #[.slice (some ⟨c, i, none⟩) n n]).run Try.prog w1 = .ok (.tuple #[]) (w1.setCells c i (List.replicate n (.int .u64 0))) :=
        fun ty => Lib.run_clear_slice w1 75 41 ty (.int .u64 0) Try.underlying75 zero_u64 rfl rfl c i n n (by omega) (fun j hj => by rw [u64s_cell h1.row (by omega)]; rfl) (fun j hj => h1.row.frozen _)
      have H1 := Lib.hid h1
      clear h1
      go_wp2_with (simp only [hcl])
      go_ret
      refine ⟨by rw [E.out]; rfl, ?_, (g1.mono (fun k hk => .inl (.inl hk))).setCells (.inl (.inr rfl)) _ _⟩
      rw [E2.out, E.out]
      obtain ⟨cs', hh, he⟩ := heap_setCells_same c 41 (List.replicate n (.int .u64 0)) i w1 (u64s l) H1.out.row.out (by simp [u64s]; omega)
      have e3 : cs' = u64s (zeroed l i n) := by
        apply Array.ext'
        rw [he]
        unfold putAt u64s zeroed
        simp
      refine ⟨⟨?_⟩, ⟨?_⟩, H1.out.ne, by simpa [hz] using H1.out.len, by have := H1.out.t0; omega⟩
      · rw [heap_setCells_other c _ _ _ _ H1.out.ne]
        simpa [hz] using H1.out.blk.out
      · rw [hh, e3]
        rfl

set_option maxHeartbeats 2000000 in
set_option maxRecDepth 100000 in
theorem read_nil (i n : Int) (w : World) : Calls Try.prog 30 #[.pointer none, .int .i64 i] w fun e w' => e = .returned (.tuple #[.int .u64 0, .int .i64 1]) ∧ w = w' := by
  go_enter Try.func30, Try.ntmps30
  go_wp2_with fail
  refine (span_nil i 1 _).mono ?_
  rintro e w1 ⟨rfl, rfl⟩
  go_wp2_with fail
  go_ret2
  exact ⟨rfl, rfl⟩

set_option maxHeartbeats 2000000 in
set_option maxRecDepth 100000 in
theorem write_nil (i n : Int) (w : World) : Calls Try.prog 28 #[.pointer none, .int .i64 i, .int .u64 n] w fun e w' => e = .returned (.int .i64 1) ∧ w = w' := by
  go_enter Try.func28, Try.ntmps28
  go_wp2_with fail
  refine (span_nil i 1 _).mono ?_
  rintro e w1 ⟨rfl, rfl⟩
  go_wp2_with fail
  go_ret
  exact ⟨rfl, rfl⟩

set_option maxHeartbeats 2000000 in
set_option maxRecDepth 100000 in
theorem zero_nil (i n : Int) (w : World) : Calls Try.prog 72 #[.pointer none, .int .i64 i, .int .i64 n] w fun e w' => e = .returned (.int .i64 1) ∧ w = w' := by
  go_enter Try.func72, Try.ntmps72
  go_wp2_with fail
  refine (span_nil i n _).mono ?_
  rintro e w1 ⟨rfl, rfl⟩
  go_wp2_with fail
  go_ret
  exact ⟨rfl, rfl⟩

set_option maxHeartbeats 2000000 in
set_option maxRecDepth 100000 in
theorem len_nil (w : World) : Calls Try.prog 32 #[.pointer none] w fun e w' => e = .returned (.int .i64 0) ∧ w = w' := by
  go_enter Try.func32, Try.ntmps32
  go_wp2_with fail
  go_ret
  exact ⟨rfl, rfl⟩

set_option maxHeartbeats 2000000 in
set_option maxRecDepth 100000 in
theorem len_any (b c : Nat) (l : List Int) (t : Int) (w : World) (h : Ar 77 w b c l t) : Calls Try.prog 32 #[.pointer (some ⟨b, 0, none⟩)] w fun e w' => e = .returned (.int .i64 l.length) ∧ w = w' := by
  have c0 : w.cell? ⟨b, 0, none⟩ = some (.slice (some ⟨c, 0, none⟩) l.length l.length) := h.blk.cell 0
  have c1 : w.cell? ⟨b, 1, none⟩ = some (.int .i64 t) := h.blk.cell 1
  have hl := h.len
  go_enter Try.func32, Try.ntmps32
  go_wp2_with fail
  go_ret
  exact ⟨rfl, rfl⟩

end Arena
end Go.Proofs.Ytngbhhcicakolaa
