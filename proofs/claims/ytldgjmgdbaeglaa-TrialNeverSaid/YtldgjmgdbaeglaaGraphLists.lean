/- What layers 8 and 10 do with lists of numbers, walked. -/
import Derived.Test.YtldgjmgdbaeglaaGraphOpen
set_option linter.unusedVariables false
set_option linter.unusedSimpArgs false
namespace Go.Proofs.Ytldgjmgdbaeglaa
open Go.RowKit

theorem nthI_mem {l : List Int} {j : Nat} (h : j < l.length) : nthI l j ∈ l := by
  unfold nthI; rw [List.getD_eq_getElem?_getD, List.getElem?_eq_getElem h]; exact List.getElem_mem h
theorem mem_nthI {l : List Int} {x : Int} (h : x ∈ l) : ∃ j, j < l.length ∧ nthI l j = x := by
  obtain ⟨j, hj, rfl⟩ := List.getElem_of_mem h
  exact ⟨j, hj, by unfold nthI; rw [List.getD_eq_getElem?_getD, List.getElem?_eq_getElem hj]; rfl⟩

set_option maxHeartbeats 2000000 in
set_option maxRecDepth 100000 in
theorem has_any (a : Option Addr) (n cap : Nat) (l : List Int) (x : Int) (w : World) (h : Nums w a n l) (hn : n ≤ 9223372036854775807) :
    Calls Try.prog 39 #[.slice a n cap, .int .i64 x] w fun e w' => e = .returned (.bool (decide (x ∈ l))) ∧ w = w' := by
  have H := Lib.hid h
  clear h
  go_enter Try.func39, Try.ntmps39
  go_wp2_with fail
  go_loopg [5] n (fun k iv wr => ∃ j : Nat, j + k = n ∧ iv = .int .i64 j ∧ (∀ t, t < j → nthI l t ≠ x) ∧ wr = w)
  case atStart => exact ⟨0, by omega, rfl, fun t ht => absurd ht (Nat.not_lt_zero t), rfl⟩
  case round =>
    obtain ⟨j, hj, rfl, hno, rfl⟩ := hrel
    have HN := Lib.hid hno
    clear hno
    by_cases hlt : j < n
    · obtain ⟨b, off, rfl, hb, hc⟩ := H.out.at_ j hlt
      obtain ⟨y, hy⟩ : ∃ y, nthI l j = y := ⟨_, rfl⟩
      rw [hy] at hc
      have HY := Lib.hid hy
      clear hy
      by_cases hx : y = x
      · have E := Lib.hid (show decide (x ∈ l) = true from decide_eq_true (by rw [← hx, ← HY.out]; exact nthI_mem (by rw [H.out.len]; exact hlt)))
        subst hx
        go_wp2_with fail
        go_ret
        exact ⟨by rw [E.out]; rfl, rfl⟩
      · have bx : (y == x) = false := by simpa using hx
        go_wp2_with fail
        go_roundg (n - (j + 1))
        case measure => omega
        case rel => exact ⟨j + 1, by omega, by go_num, fun t ht => by
          by_cases e : t = j
          · subst e; rw [HY.out]; exact hx
          · exact HN.out t (by omega), rfl⟩
    · have E := Lib.hid (show decide (x ∈ l) = false from decide_eq_false (fun q => by
        obtain ⟨t, ht, e⟩ := mem_nthI q
        exact HN.out t (by have := H.out.len; omega) e))
      go_wp2_with fail
      go_ret
      exact ⟨by rw [E.out]; rfl, rfl⟩

/-- Are all of l in k? -/
def withinB (l k : List Int) : Bool := l.all (fun x => decide (x ∈ k))
theorem withinB_iff (l k : List Int) : withinB l k = true ↔ ∀ j, j < l.length → nthI l j ∈ k := by
  unfold withinB
  simp only [List.all_eq_true, decide_eq_true_eq]
  constructor
  · intro h j hj; exact h _ (nthI_mem hj)
  · intro h x hx
    obtain ⟨j, hj, rfl⟩ := mem_nthI hx
    exact h j hj
set_option maxHeartbeats 2000000 in
set_option maxRecDepth 100000 in
theorem within_any (a : Option Addr) (n cap : Nat) (l : List Int) (a2 : Option Addr) (n2 cap2 : Nat) (l2 : List Int) (w : World) (h : Nums w a n l) (hn : n ≤ 9223372036854775807) (h2 : Nums w a2 n2 l2) (hn2 : n2 ≤ 9223372036854775807) :
    Calls Try.prog 74 #[.slice a n cap, .slice a2 n2 cap2] w fun e w' => e = .returned (.bool (withinB l l2)) ∧ w = w' := by
  have H := Lib.hid h
  have H2 := Lib.hid h2
  clear h h2
  go_enter Try.func74, Try.ntmps74
  go_wp2_with fail
  go_loopg [5] n (fun k iv wr => ∃ j : Nat, j + k = n ∧ iv = .int .i64 j ∧ (∀ t, t < j → nthI l t ∈ l2) ∧ wr = w)
  case atStart => exact ⟨0, by omega, rfl, fun t ht => absurd ht (Nat.not_lt_zero t), rfl⟩
  case round =>
    obtain ⟨j, hj, rfl, hno, rfl⟩ := hrel
    have HN := Lib.hid hno
    clear hno
    by_cases hlt : j < n
    · obtain ⟨b, off, rfl, hb, hc⟩ := H.out.at_ j hlt
      obtain ⟨y, hy⟩ : ∃ y, nthI l j = y := ⟨_, rfl⟩
      rw [hy] at hc
      have HY := Lib.hid hy
      clear hy
      go_wp2_with fail
      refine (has_any a2 n2 cap2 l2 y _ H2.out hn2).mono ?_
      rintro e wa ⟨rfl, rfl⟩
      by_cases hx : y ∈ l2
      · rw [decide_eq_true hx]
        go_wp2_with fail
        go_roundg (n - (j + 1))
        case measure => omega
        case rel => exact ⟨j + 1, by omega, by go_num, fun t ht => by
          by_cases e : t = j
          · subst e; rw [HY.out]; exact hx
          · exact HN.out t (by omega), rfl⟩
      · rw [decide_eq_false hx]
        have E := Lib.hid (show withinB l l2 = false by
          rw [← Bool.not_eq_true, withinB_iff]
          intro q
          exact hx (by rw [← HY.out]; exact q j (by rw [H.out.len]; exact hlt)))
        go_wp2_with fail
        go_ret
        exact ⟨by rw [E.out]; rfl, rfl⟩
    · have E := Lib.hid (show withinB l l2 = true from (withinB_iff _ _).2 (fun t ht => HN.out t (by have := H.out.len; omega)))
      go_wp2_with fail
      go_ret
      exact ⟨by rw [E.out]; rfl, rfl⟩

/-- Do numbers, 0 or more, rise? -/
def riseAt (l : List Int) (i : Nat) : Prop := 0 ≤ nthI l i ∧ (0 < i → nthI l (i - 1) < nthI l i)
instance (l : List Int) (i : Nat) : Decidable (riseAt l i) := by unfold riseAt; infer_instance
def riseB (l : List Int) : Bool := (List.range l.length).all (fun i => decide (riseAt l i))
theorem riseB_iff (l : List Int) : riseB l = true ↔ ∀ i, i < l.length → riseAt l i := by unfold riseB; simp

set_option maxHeartbeats 2000000 in
set_option maxRecDepth 100000 in
theorem ref_rise (a : Option Addr) (n cap : Nat) (l : List Int) (w : World) (h : Nums w a n l) (hn : n ≤ 9223372036854775807) :
    Calls Try.prog 75 #[.slice a n cap] w fun e w' => e = .returned (.bool (riseB l)) ∧ But (fun _ => False) w w' := by
  have H := Lib.hid h
  clear h
  go_enter Try.func75, Try.ntmps75
  go_wp2_with fail
  go_loopg [3] n (fun k iv wr => ∃ j : Nat, j + k = n ∧ iv = .int .i64 j ∧ (∀ t, t < j → riseAt l t) ∧ But (fun _ => False) w wr)
  case atStart => exact ⟨0, by omega, rfl, fun t ht => absurd ht (Nat.not_lt_zero t), But.refl _ _⟩
  case round =>
    obtain ⟨j, hj, rfl, hno, hw⟩ := hrel
    have HN := Lib.hid hno
    have HW := Lib.hid hw
    have H9 := Lib.hid (H.out.keep hw)
    clear hno hw
    by_cases hlt : j < n
    · obtain ⟨b, off, rfl, hb, hc⟩ := H9.out.at_ j hlt
      obtain ⟨y, hy⟩ : ∃ y, nthI l j = y := ⟨_, rfl⟩
      rw [hy] at hc
      have HY := Lib.hid hy
      clear hy
      have NXT := Lib.hid (show riseAt l j → ∀ t, t < j + 1 → riseAt l t from fun q t ht => by
        by_cases e : t = j
        · subst e; exact q
        · exact HN.out t (by omega))
      have BAD := Lib.hid (show ¬ riseAt l j → riseB l = false from fun q => by
        rw [← Bool.not_eq_true, riseB_iff]
        intro z; exact q (z j (by rw [H.out.len]; exact hlt)))
      by_cases hy0 : y < 0
      · have E := Lib.hid (BAD.out (fun q => by have := q.1; rw [HY.out] at this; omega))
        have by0 : decide (y < 0) = true := decide_eq_true hy0
        go_wp2_with fail
        go_quiet (fail)
        go_wp2_with fail
        go_ret
        exact ⟨by rw [E.out]; rfl, HW.out.drewN _⟩
      · have by0 : decide (y < 0) = false := decide_eq_false hy0
        by_cases hj0 : j = 0
        · have hj1 : decide ((0 : Int) < (j : Int)) = false := decide_eq_false (by omega)
          have hj2 : ¬ (0 : Int) < (j : Int) := by omega
          have hj3 : decide (0 < j) = false := decide_eq_false (by omega)
          have HJ := Lib.hid hj0
          clear hj0
          go_wp2_with fail
          go_quiet (fail)
          go_wp2_with fail
          go_roundg (n - (j + 1))
          case measure => omega
          case rel => exact ⟨j + 1, by omega, by go_num, NXT.out ⟨by rw [HY.out]; omega, fun q => by have := HJ.out; omega⟩, HW.out.drewN _⟩
        · obtain ⟨i, rfl⟩ : ∃ i, j = i + 1 := ⟨j - 1, by omega⟩
          obtain ⟨b2, off2, e2, hb2, hc2⟩ := H9.out.at_ i (by omega)
          simp at e2
          obtain ⟨rfl, rfl⟩ := e2
          obtain ⟨x, hx⟩ : ∃ x, nthI l i = x := ⟨_, rfl⟩
          rw [hx] at hc2
          have HX := Lib.hid hx
          clear hx
          have hi1 : IntKind.i64.wrap (((i + 1 : Nat) : Int) - 1) = (i : Int) := by rw [IntWalk.i64_in _ (by omega)]; omega
          have hi2 : ((i : Int) + 1 - 1) = (i : Int) := by omega
          have hi3 : IntKind.i64.wrap ((i : Int) + 1 - 1) = (i : Int) := by rw [IntWalk.i64_in _ (by omega)]; omega
          by_cases hxy : y ≤ x
          · have E := Lib.hid (BAD.out (fun q => by have := q.2 (by omega); rw [HY.out, show i + 1 - 1 = i from rfl, HX.out] at this; omega))
            go_wp2_with fail
            go_quiet (fail)
            go_wp2_with fail
            go_ret
            exact ⟨by rw [E.out]; rfl, HW.out.drewN _⟩
          · have hxy2 : x < y := by omega
            go_wp2_with fail
            go_quiet (fail)
            go_wp2_with fail
            go_roundg (n - (i + 1 + 1))
            case measure => omega
            case rel => exact ⟨i + 1 + 1, by omega, by go_num, NXT.out ⟨by rw [HY.out]; omega, fun _ => by rw [HY.out, show i + 1 - 1 = i from rfl, HX.out]; exact hxy2⟩, HW.out.drewN _⟩
    · have E := Lib.hid (show riseB l = true from (riseB_iff _).2 (fun t ht => HN.out t (by have := H.out.len; omega)))
      go_wp2_with fail
      go_ret
      exact ⟨by rw [E.out]; rfl, HW.out⟩

set_option maxHeartbeats 2000000 in
set_option maxRecDepth 100000 in
theorem rise_any (a : Option Addr) (n cap : Nat) (l : List Int) (w : World) (h : Nums w a n l) (hn : n ≤ 9223372036854775807) :
    Calls Try.prog 72 #[.slice a n cap] w fun e w' => e = .returned (.bool (riseB l)) ∧ But (fun _ => False) w w' := by
  have H := Lib.hid h
  clear h
  go_enter Try.func72, Try.ntmps72
  go_wp2_with fail
  go_loopg [7] n (fun k iv wr => ∃ j : Nat, j + k = n ∧ iv = .int .i64 j ∧ (∀ t, t < j → riseAt l t) ∧ But (fun _ => False) w wr)
  case atStart => exact ⟨0, by omega, rfl, fun t ht => absurd ht (Nat.not_lt_zero t), But.refl _ _⟩
  case round =>
    obtain ⟨j, hj, rfl, hno, hw⟩ := hrel
    have HN := Lib.hid hno
    have HW := Lib.hid hw
    have H9 := Lib.hid (H.out.keep hw)
    clear hno hw
    by_cases hlt : j < n
    · obtain ⟨b, off, rfl, hb, hc⟩ := H9.out.at_ j hlt
      obtain ⟨y, hy⟩ : ∃ y, nthI l j = y := ⟨_, rfl⟩
      rw [hy] at hc
      have HY := Lib.hid hy
      clear hy
      have NXT := Lib.hid (show riseAt l j → ∀ t, t < j + 1 → riseAt l t from fun q t ht => by
        by_cases e : t = j
        · subst e; exact q
        · exact HN.out t (by omega))
      have BAD := Lib.hid (show ¬ riseAt l j → riseB l = false from fun q => by
        rw [← Bool.not_eq_true, riseB_iff]
        intro z; exact q (z j (by rw [H.out.len]; exact hlt)))
      by_cases hy0 : y < 0
      · have E := Lib.hid (BAD.out (fun q => by have := q.1; rw [HY.out] at this; omega))
        have by0 : decide (y < 0) = true := decide_eq_true hy0
        go_wp2_with fail
        skip
        go_wp2_with fail
        go_ret
        exact ⟨by rw [E.out]; rfl, HW.out⟩
      · have by0 : decide (y < 0) = false := decide_eq_false hy0
        by_cases hj0 : j = 0
        · have hj1 : decide ((0 : Int) < (j : Int)) = false := decide_eq_false (by omega)
          have hj2 : ¬ (0 : Int) < (j : Int) := by omega
          have hj3 : decide (0 < j) = false := decide_eq_false (by omega)
          have HJ := Lib.hid hj0
          clear hj0
          go_wp2_with fail
          skip
          go_wp2_with fail
          go_roundg (n - (j + 1))
          case measure => omega
          case rel => exact ⟨j + 1, by omega, by go_num, NXT.out ⟨by rw [HY.out]; omega, fun q => by have := HJ.out; omega⟩, HW.out⟩
        · obtain ⟨i, rfl⟩ : ∃ i, j = i + 1 := ⟨j - 1, by omega⟩
          obtain ⟨b2, off2, e2, hb2, hc2⟩ := H9.out.at_ i (by omega)
          simp at e2
          obtain ⟨rfl, rfl⟩ := e2
          obtain ⟨x, hx⟩ : ∃ x, nthI l i = x := ⟨_, rfl⟩
          rw [hx] at hc2
          have HX := Lib.hid hx
          clear hx
          have hi1 : IntKind.i64.wrap (((i + 1 : Nat) : Int) - 1) = (i : Int) := by rw [IntWalk.i64_in _ (by omega)]; omega
          have hi2 : ((i : Int) + 1 - 1) = (i : Int) := by omega
          have hi3 : IntKind.i64.wrap ((i : Int) + 1 - 1) = (i : Int) := by rw [IntWalk.i64_in _ (by omega)]; omega
          by_cases hxy : y ≤ x
          · have E := Lib.hid (BAD.out (fun q => by have := q.2 (by omega); rw [HY.out, show i + 1 - 1 = i from rfl, HX.out] at this; omega))
            go_wp2_with fail
            skip
            go_wp2_with fail
            go_ret
            exact ⟨by rw [E.out]; rfl, HW.out⟩
          · have hxy2 : x < y := by omega
            go_wp2_with fail
            skip
            go_wp2_with fail
            go_roundg (n - (i + 1 + 1))
            case measure => omega
            case rel => exact ⟨i + 1 + 1, by omega, by go_num, NXT.out ⟨by rw [HY.out]; omega, fun _ => by rw [HY.out, show i + 1 - 1 = i from rfl, HX.out]; exact hxy2⟩, HW.out⟩
    · have E := Lib.hid (show riseB l = true from (riseB_iff _).2 (fun t ht => HN.out t (by have := H.out.len; omega)))
      go_wp2_with fail
      go_ret
      exact ⟨by rw [E.out]; rfl, HW.out⟩

end Go.Proofs.Ytldgjmgdbaeglaa
