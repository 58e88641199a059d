/- The document's answer for layer 10, walked: how often a number is one of some, all counts; and what the law lets in. -/
import Derived.Test.YtldgjmgdbaeglaaGraphRef
import Derived.BigQuiet
set_option linter.unusedVariables false
set_option linter.unusedSimpArgs false
namespace Go.Proofs.Ytldgjmgdbaeglaa
open Go.RowKit

namespace Graph

def times (l : List Int) (x : Int) : Nat := (l.filter (fun y => decide (y = x))).length
theorem times_take {l : List Int} {j : Nat} {x : Int} (h : j < l.length) : times (l.take (j + 1)) x = times (l.take j) x + if nthI l j = x then 1 else 0 := by
  unfold times
  rw [take_succ_getD h, List.filter_append, List.length_append]
  congr 1
  show _ = if l.getD j 0 = x then 1 else 0
  by_cases e : l.getD j 0 = x <;> simp [List.getD_eq_getElem?_getD] at e ⊢ <;> simp [e]
theorem times_le (l : List Int) (x : Int) : times l x ≤ l.length := List.length_filter_le _ _

set_option maxHeartbeats 2000000 in
set_option maxRecDepth 100000 in
theorem ref_times (a : Option Addr) (n cap : Nat) (l : List Int) (x : Int) (w : World) (h : Nums w a n l) (hn : n ≤ 1000000000) :
    Calls Try.prog 69 #[.slice a n cap, .int .i64 x] w fun e w' => e = .returned (.int .i64 (times l x)) ∧ w = w' := by
  have H := Lib.hid h
  clear h
  go_enter Try.func69, Try.ntmps69
  go_wp2_with fail
  go_loopg [5, 6] n (fun k cv iv wr => ∃ j c : Nat, j + k = n ∧ iv = .int .i64 j ∧ cv = .int .i64 c ∧ c ≤ j ∧ times (l.take j) x = c ∧ wr = w)
  case atStart => exact ⟨0, 0, by omega, rfl, rfl, Nat.le_refl _, rfl, rfl⟩
  case round =>
    obtain ⟨j, c, hj, rfl, rfl, hcj, hno, rfl⟩ := hrel
    have HN := Lib.hid hno
    clear hno
    by_cases hlt : j < n
    · obtain ⟨b, off, rfl, hb, hc⟩ := H.out.at_ j hlt
      have TT := Lib.hid (times_take (l := l) (j := j) (x := x) (by rw [H.out.len]; exact hlt))
      obtain ⟨y, hy⟩ : ∃ y, nthI l j = y := ⟨_, rfl⟩
      rw [hy] at hc TT
      clear hy
      by_cases hx : y = x
      · have E := Lib.hid (show times (l.take (j + 1)) x = c + 1 by rw [TT.out, if_pos hx, HN.out])
        subst hx
        clear TT
        go_wp2_with fail
        go_roundg (n - (j + 1))
        case measure => omega
        case rel => exact ⟨j + 1, c + 1, by omega, by go_num, by go_num, by omega, E.out, rfl⟩
      · have bx : (y == x) = false := by simpa using hx
        have E := Lib.hid (show times (l.take (j + 1)) x = c by rw [TT.out, if_neg hx, HN.out]; rfl)
        clear TT
        go_wp2_with fail
        go_roundg (n - (j + 1))
        case measure => omega
        case rel => exact ⟨j + 1, c, by omega, by go_num, rfl, by omega, E.out, rfl⟩
    · have E := Lib.hid (show times l x = c by
        have := HN.out
        rw [List.take_of_length_le (by rw [H.out.len]; omega)] at this
        exact this)
      go_wp2_with fail
      go_ret
      exact ⟨by rw [E.out]; rfl, rfl⟩

/-- How often nodes' pointers, of the first j nodes, are x. -/
def sumTo (l : List Nd) (x : Int) : Nat → Nat
  | 0 => 0
  | j + 1 => sumTo l x j + times (nd l j).out x
theorem sumTo_le {l : List Nd} {x : Int} (ho : ∀ i, i < l.length → (nd l i).out.length ≤ 1000000) : ∀ {j}, j ≤ l.length → sumTo l x j ≤ j * 1000000
  | 0, _ => Nat.zero_le _
  | j + 1, h => by
    have h1 := sumTo_le ho (x := x) (j := j) (by omega)
    have h2 := times_le (nd l j).out x
    have h3 := ho j (by omega)
    show sumTo l x j + times (nd l j).out x ≤ _
    omega
def countOf (l : List Nd) (R : List Int) (k : Nat) : Int := times R (nd l k).id + sumTo l (nd l k).id l.length
def countsOf (l : List Nd) (R : List Int) : List Int := (List.range l.length).map (countOf l R)
theorem countsOf_take {l : List Nd} {R : List Int} {j : Nat} (h : j < l.length) : (countsOf l R).take (j + 1) = (countsOf l R).take j ++ [countOf l R j] := by
  unfold countsOf
  rw [take_succ_getD (by simpa using h), List.getD_eq_getElem?_getD, List.getElem?_map, List.getElem?_range h]; rfl
theorem countsOf_length (l : List Nd) (R : List Int) : (countsOf l R).length = l.length := by unfold countsOf; simp

/-- What the law lets in. -/
def fitsB (l : List Nd) (R : List Int) : Bool := decide (l.length ≤ 30) && decide (R.length ≤ 30) && l.all (fun n => decide (n.out.length ≤ 30))
theorem fits_iff (l : List Nd) (R : List Int) : fitsB l R = true ↔ l.length ≤ 30 ∧ R.length ≤ 30 ∧ ∀ i, i < l.length → (nd l i).out.length ≤ 30 := by
  unfold fitsB
  rw [Bool.and_eq_true, Bool.and_eq_true, all_nd]
  simp [and_assoc]

set_option maxHeartbeats 4000000 in
set_option maxRecDepth 100000 in
theorem fits_any (a : Option Addr) (n cap : Nat) (l : List Nd) (ra : Option Addr) (rn rc : Nat) (R : List Int) (w : World) (h : Nodes w a n l) (hr : Nums w ra rn R) (hn : n ≤ 9223372036854775807) (hrn : rn ≤ 9223372036854775807) :
    Calls Try.prog 28 #[.agg #[.slice a n cap, .slice ra rn rc]] w fun e w' => e = .returned (.bool (fitsB l R)) ∧ But (fun _ => False) w w' := by
  have H := Lib.hid h
  have HL := Lib.hid h.len
  have HRL := Lib.hid hr.len
  clear h hr
  have B0 := Blk.new w #[.slice a n cap, .slice ra rn rc] 47
  have G0 := Lib.hid ((But.refl (fun _ => False) w).alloc (.cells #[.slice a n cap, .slice ra rn rc] 47))
  obtain ⟨w1, hw1⟩ : ∃ w1, w1 = w.alloc (.cells #[.slice a n cap, .slice ra rn rc] 47) := ⟨_, rfl⟩
  have k0 : (w.alloc (.cells #[.slice a n cap, .slice ra rn rc] 47)).cell? ⟨w.heap.size, 0, none⟩ = some (.slice a n cap) := B0.cell 0
  have k1 : (w.alloc (.cells #[.slice a n cap, .slice ra rn rc] 47)).cell? ⟨w.heap.size, 1, none⟩ = some (.slice ra rn rc) := B0.cell 1
  have HW1 := Lib.hid hw1
  clear hw1 B0
  have NO := Lib.hid (show ¬ (l.length ≤ 30 ∧ R.length ≤ 30) → fitsB l R = false from fun q => by rw [← Bool.not_eq_true, fits_iff]; exact fun z => q ⟨z.1, z.2.1⟩)
  by_cases hn30 : 30 < n
  · have E := Lib.hid (NO.out (fun q => by have := HL.out; omega))
    go_enter Try.func28, Try.ntmps28
    go_wp2_with fail
    go_ret
    exact ⟨by rw [E.out]; rfl, G0.out⟩
  · by_cases hr30 : 30 < rn
    · have E := Lib.hid (NO.out (fun q => by have := HRL.out; omega))
      go_enter Try.func28, Try.ntmps28
      go_wp2_with fail
      go_ret
      exact ⟨by rw [E.out]; rfl, G0.out⟩
    · go_enter Try.func28, Try.ntmps28
      go_wp2_with fail
      have H1 := Lib.hid (H.out.keep G0.out)
      rw [← HW1.out] at k0 k1 H1 ⊢
      go_loopg [3] n (fun k iv wr => ∃ j : Nat, j + k = n ∧ iv = .int .i64 j ∧ (∀ t, t < j → (nd l t).out.length ≤ 30) ∧ wr = w1)
      case atStart => exact ⟨0, by omega, rfl, fun t ht => absurd ht (Nat.not_lt_zero t), rfl⟩
      case round =>
        obtain ⟨j, hj, rfl, hno, rfl⟩ := hrel
        have HN := Lib.hid hno
        clear hno
        by_cases hlt : j < n
        · obtain ⟨nb, off, oa, on, oc, rfl, hnb, -, c1, h3, h4, hout⟩ := H1.out.at_ j hlt
          have HO := Lib.hid hout.len
          clear hout
          by_cases ho : 30 < on
          · have E := Lib.hid (show fitsB l R = false by
              rw [← Bool.not_eq_true, fits_iff]
              intro z
              have := z.2.2 j (by rw [HL.out]; exact hlt)
              have := HO.out; omega)
            go_wp2_with fail
            go_ret
            exact ⟨by rw [E.out]; rfl, by rw [HW1.out]; exact G0.out⟩
          · go_wp2_with fail
            go_roundg (n - (j + 1))
            case measure => omega
            case rel => exact ⟨j + 1, by omega, by go_num, fun t ht => by
              by_cases e : t = j
              · subst e; rw [HO.out]; omega
              · exact HN.out t (by omega), rfl⟩
        · have E := Lib.hid (show fitsB l R = true from (fits_iff _ _).2 ⟨by rw [HL.out]; omega, by rw [HRL.out]; omega, fun t ht => HN.out t (by rw [HL.out] at ht; omega)⟩)
          go_wp2_with fail
          go_ret
          exact ⟨by rw [E.out]; rfl, by rw [HW1.out]; exact G0.out⟩

end Graph
end Go.Proofs.Ytldgjmgdbaeglaa
