/- The document's Counts of layer 10, walked. -/
import Derived.Test.YtldgjmgdbaeglaaGraphRef2
set_option linter.unusedVariables false
set_option linter.unusedSimpArgs false
namespace Go.Proofs.Ytldgjmgdbaeglaa
open Go.RowKit

namespace Graph

/-- What Counts tells. -/
def countsR (l : List Nd) (R : List Int) : List Int := if rightB l R = true then countsOf l R else []
theorem countsR_yes {l : List Nd} {R : List Int} (h : rightB l R = true) : countsR l R = countsOf l R := by unfold countsR; rw [if_pos h]
theorem countsR_no {l : List Nd} {R : List Int} (h : rightB l R = false) : countsR l R = [] := by unfold countsR; rw [h]; rfl

/-- The box of a graph, and a row of numbers. -/
def boxed (b : Nat) (a : Option Addr) (n cap : Nat) (ra : Option Addr) (rn rc : Nat) (v : Value) (o : Option Nat) (j : Nat) (xs : List Int) : List Pc :=
  [Pc.row 3 1 v o j (ints xs), Pc.blk b #[.slice a n cap, .slice ra rn rc] 47]
theorem boxed.start {w w2 : World} {a : Option Addr} {n cap : Nat} {ra : Option Addr} {rn rc : Nat} (g : But (fun _ => False) (w.alloc (.cells #[.slice a n cap, .slice ra rn rc] 47)) w2) : Own w w2 (boxed w.heap.size a n cap ra rn rc (.slice none 0 0) none 0 []) := by
  have e0 : Own w w [] := Own.nil (But.refl _ _)
  have e1 := e0.add (q := Pc.blk w.heap.size #[.slice a n cap, .slice ra rn rc] 47) (Blk.new w _ _) ((But.refl _ w).alloc _) (fun k q => by have : k = w.heap.size := q; omega)
  exact (e1.add (q := Pc.row 3 1 (.slice none 0 0) none 0 (ints [])) (Row.nil _ _ _) (But.refl _ _) (fun k q => by cases q)).same g
theorem boxed.cells {w w2 : World} {b : Nat} {a : Option Addr} {n cap : Nat} {ra : Option Addr} {rn rc : Nat} {v : Value} {o : Option Nat} {j : Nat} {xs : List Int} (h : Own w w2 (boxed b a n cap ra rn rc v o j xs)) :
    w2.cell? ⟨b, 0, none⟩ = some (.slice a n cap) ∧ w2.cell? ⟨b, 1, none⟩ = some (.slice ra rn rc) ∧ b < w2.heap.size := by
  have h1 : Blk w2 b #[.slice a n cap, .slice ra rn rc] 47 := h.get 1 rfl
  exact ⟨h1.cell 0, h1.cell 1, h1.lt⟩
theorem boxed.push {w w2 w3 : World} {b : Nat} {a : Option Addr} {n cap : Nat} {ra : Option Addr} {rn rc : Nat} {v v' : Value} {o o' : Option Nat} {j : Nat} {xs : List Int} {y : Int} (h : Own w w2 (boxed b a n cap ra rn rc v o j xs)) {ob : Obj}
    (hR : Row w3 3 1 v' o' (j + 1) (ints xs ++ [.int .i64 y])) (hB : But (fun k => o = some k) (w2.alloc ob) w3) (hN : ∀ k, o' = some k → o = some k ∨ (w2.alloc ob).heap.size ≤ k) : Own w w3 (boxed b a n cap ra rn rc v' o' (j + 1) (xs ++ [y])) :=
  h.put 0 (q := Pc.row 3 1 v' o' (j + 1) (ints (xs ++ [y]))) rfl (by show Row _ _ _ _ _ _ _; rw [ints_push]; exact hR) (((But.refl _ w2).alloc _).trans hB) (fun k hk => by
    rcases hN k hk with q | q
    · exact .inl q
    · simp at q; exact .inr (by omega))
theorem boxed.copied {w w2 : World} {b : Nat} {a : Option Addr} {n cap : Nat} {ra : Option Addr} {rn rc : Nat} {v : Value} {o : Option Nat} {j : Nat} {xs : List Int} (h : Own w w2 (boxed b a n cap ra rn rc v o j xs)) : Copied (ints xs) j w (.returned v) w2 :=
  ⟨v, o, rfl, h.get 0 rfl, fun k hk => h.new 0 (by simp [boxed]) k hk, h.but⟩

set_option maxHeartbeats 4000000 in
set_option maxRecDepth 100000 in
theorem ref_counts (a : Option Addr) (n cap : Nat) (l : List Nd) (ra : Option Addr) (rn rc : Nat) (R : List Int) (w : World) (h : Nodes w a n l) (hr : Nums w ra rn R) (hn : n ≤ 1000000) (hrn : rn ≤ 1000000) (ho : ∀ i, i < n → (nd l i).out.length ≤ 1000000) :
    Calls Try.prog 36 #[.agg #[.slice a n cap, .slice ra rn rc]] w fun e w' => ∃ m, Copied (ints (countsR l R)) m w e w' := by
  obtain ⟨i0, hi, hz0, hz1, hz2⟩ := info_parts infoInt
  have H := Lib.hid h
  have HR := Lib.hid hr
  have HL := Lib.hid h.len
  have HRL := Lib.hid hr.len
  have OUT := Lib.hid ho
  clear h hr ho
  have G0 := (But.refl (fun _ => False) w).alloc (.cells #[.slice a n cap, .slice ra rn rc] 47)
  have O0 := boxed.start (w := w) (a := a) (n := n) (cap := cap) (ra := ra) (rn := rn) (rc := rc) (But.refl _ _)
  obtain ⟨k0, k1, -⟩ := boxed.cells O0
  go_enter Try.func36, Try.ntmps36
  go_wp2_with fail
  refine (ref_right a n cap l ra rn rc R _ (H.out.keep G0) (HR.out.keep G0) (by omega) (by omega)).mono ?_
  rintro e w2 ⟨rfl, g2⟩
  have O2 := Lib.hid (O0.same g2)
  obtain ⟨b, hb⟩ : ∃ b, b = w.heap.size := ⟨_, rfl⟩
  rw [← hb] at O2 ⊢
  clear k0 k1 O0 G0 g2 hb
  cases hrt : rightB l R with
  | false =>
    have HRT := Lib.hid hrt
    clear hrt
    go_wp2_with fail
    go_ret
    refine ⟨0, ?_⟩
    rw [countsR_no HRT.out]
    exact boxed.copied O2.out
  | true =>
    have HRT := Lib.hid hrt
    clear hrt
    go_wp2_with fail
    go_loopg [4, 5] n (fun k v iv wr => ∃ (j : Nat) (o : Option Nat), j + k = n ∧ iv = .int .i64 j ∧ Own w wr (boxed b a n cap ra rn rc v o j ((countsOf l R).take j)))
    case atStart => exact ⟨0, none, by omega, rfl, O2.out⟩
    case round =>
      clear O2
      obtain ⟨j, o, hj, rfl, hO⟩ := hrel
      have hRw : Row wr 3 1 _ o j (ints ((countsOf l R).take j)) := hO.get 0 rfl
      obtain ⟨av, acap, rfl, -, -⟩ := hRw.val
      clear hRw
      obtain ⟨k0, k1, hbl⟩ := boxed.cells hO
      have HO := Lib.hid hO
      clear hO
      have H1 := Lib.hid (H.out.keep HO.out.but)
      have R1 := Lib.hid (HR.out.keep HO.out.but)
      by_cases hlt : j < n
      · obtain ⟨nb, off, oa, on, oc, rfl, hnb, c0, -, -, -, -⟩ := H1.out.at_ j hlt
        obtain ⟨x, hx⟩ : ∃ x, (nd l j).id = x := ⟨_, rfl⟩
        rw [hx] at c0
        have HX := Lib.hid hx
        clear hx
        go_wp2_with fail
        go_quiet ((go_at_call 69; exact quiet_same (ref_times ra rn rc R x _ (R1.out.keep ((But.refl _ _).drewN _)) (by omega))))
        obtain ⟨w3, hw3⟩ : ∃ w3, w3 = wr.drewN nq := ⟨_, rfl⟩
        have O3 := Lib.hid (show Own w w3 _ by rw [hw3]; exact HO.out.drewN nq)
        rw [← hw3]
        clear hw3 k0 k1 hbl c0 H1 R1 HO
        have htr := times_le R x
        rw [HRL.out] at htr
        go_wp2_with fail
        go_loopg [6, 7] n (fun k nv mv wr => ∃ m : Nat, m + k = n ∧ nv = .int .i64 ((times R x + sumTo l x m : Nat) : Int) ∧ mv = .int .i64 m ∧ Own w wr (boxed b (some ⟨nb, off, none⟩) n cap ra rn rc (.slice av j acap) o j ((countsOf l R).take j)))
        case atStart => exact ⟨0, by omega, rfl, rfl, O3.out⟩
        case round =>
          clear O3
          obtain ⟨m, hm, rfl, rfl, hO4⟩ := hrel
          have O4 := Lib.hid hO4
          obtain ⟨k0, k1, hbl⟩ := boxed.cells hO4
          clear hO4
          have H4 := Lib.hid (H.out.keep O4.out.but)
          by_cases hmn : m < n
          · obtain ⟨nb2, off2, oa2, on2, oc2, e2, hnb2, -, c1, -, -, hout⟩ := H4.out.at_ m hmn
            obtain ⟨nb3, off3, oa3, on3, oc3, e3, hnb3, c0, -, -, -, -⟩ := H4.out.at_ j hlt
            simp at e2 e3
            obtain ⟨rfl, rfl⟩ := e2
            obtain ⟨rfl, rfl⟩ := e3
            rw [HX.out] at c0
            have HOUT := Lib.hid hout
            have hol := OUT.out m hmn
            rw [hout.len] at hol
            have ht1 := times_le (nd l m).out x
            rw [hout.len] at ht1
            have hsm := sumTo_le (l := l) (x := x) (fun i hi => OUT.out i (by rw [HL.out] at hi; exact hi)) (j := m) (by rw [HL.out]; omega)
            have NX := Lib.hid (show times R x + sumTo l x (m + 1) = (times R x + sumTo l x m) + times (nd l m).out x from by show _ + (sumTo l x m + _) = _; omega)
            obtain ⟨c, hc⟩ : ∃ c, times R x + sumTo l x m = c := ⟨_, rfl⟩
            obtain ⟨t, ht⟩ : ∃ t, times (nd l m).out x = t := ⟨_, rfl⟩
            have hcb : c ≤ 1000001000000 := by omega
            rw [hc] at NX ⊢
            have TT := Lib.hid (fun w h => ref_times oa2 on2 oc2 (nd l m).out x w h (by omega))
            rw [ht] at NX TT ht1
            clear hc ht hout
            have hw1 : IntKind.i64.wrap ((c : Int) + (t : Int)) = (c : Int) + (t : Int) := IntWalk.i64_in _ (by omega)
            go_wp2_with fail
            go_quiet ((go_at_call 69; exact quiet_same (TT.out _ (HOUT.out.keep ((But.refl _ _).drewN _)))))
            go_wp2_with fail
            go_roundg (n - (m + 1))
            case measure => omega
            case rel => exact ⟨m + 1, by omega, by rw [NX.out]; congr 1, by go_num, O4.out.drewN _⟩
          · obtain rfl : m = n := by omega
            have HCO := Lib.hid (show (countsOf l R).take (j + 1) = (countsOf l R).take j ++ [((times R x + sumTo l x m : Nat) : Int)] by
              rw [countsOf_take (by rw [HL.out]; exact hlt)]
              unfold countOf
              rw [HX.out, HL.out]; congr 1)
            obtain ⟨c, hc⟩ : ∃ c, times R x + sumTo l x m = c := ⟨_, rfl⟩
            rw [hc] at HCO ⊢
            clear hc
            have HR4 := Lib.hid (show Row wr 3 1 (.slice av j acap) o j (ints ((countsOf l R).take j)) from O4.out.get 0 rfl)
            go_wp2_with ((at_builtin; refine wpList_append_row _ rfl _ _ _ rfl 3 i0 (.int .i64 0) 1 8 Try.underlying43 hi hz0 hz1 hz2 rfl (by decide) (.slice av j acap) o j (ints ((countsOf l R).take j)) (HR4.out.alloc _) rfl ⟨wr.heap.size, 0, none⟩ 1 1 [.int .i64 (c : Int)] rfl rfl (new_src _ _ _) (by simp [Value.oneCell']) (by unfold maxLen; omega) (by omega) ?_; intro v4 w4 o4 hR4 hB4 hN4; obtain ⟨a4, cap4, rfl, -, -⟩ := hR4.val; have O5 := Lib.hid (boxed.push O4.out hR4 hB4 hN4); clear hR4 hB4 hN4))
            go_roundg (m - (j + 1))
            case measure => omega
            case rel => exact ⟨j + 1, o4, by omega, by go_num, by rw [HCO.out]; exact O5.out⟩
      · obtain rfl : j = n := by omega
        go_wp2_with fail
        go_ret
        have := boxed.copied HO.out
        rw [List.take_of_length_le (by rw [countsOf_length, HL.out]; exact Nat.le_refl _)] at this
        rw [countsR_yes HRT.out]
        exact ⟨_, this⟩

end Graph
end Go.Proofs.Ytldgjmgdbaeglaa
