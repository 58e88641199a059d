/- Layer 11's small ones, walked: places, known, right, Gray. -/
import Derived.Test.YtldgjmgdbaeglaaTrialPlain
import Derived.Test.YtldgjmgdbaeglaaNumsFunc
set_option linter.unusedVariables false
set_option linter.unusedSimpArgs false
namespace Go.Proofs.Ytldgjmgdbaeglaa
open Go.RowKit

namespace Graph

set_option maxHeartbeats 4000000 in
set_option maxRecDepth 100000 in
theorem trial_places (a : Option Addr) (n cap : Nat) (l : List Nd) (ra : Option Addr) (rn rc : Nat) (w : World) (h : Nodes w a n l) (hn : n ≤ 1000000) :
    Calls Try.prog 83 #[.agg #[.slice a n cap, .slice ra rn rc]] w fun e w' => ∃ mb, e = .returned (.map (some mb)) ∧ Mp w' mb (fun n : Int => Value.int .i64 n) (placesTo l n) ∧ w.heap.size ≤ mb ∧ But (fun _ => False) w w' := by
  have hmm := @run_makeMap Try.prog
  have H := Lib.hid h
  have HL := Lib.hid h.len
  clear h
  go_enter Try.func83, Try.ntmps83
  go_wp2_with fail
  have hO : Own w ((w.alloc (.cells #[.slice a n cap, .slice ra rn rc] 47)).alloc (.map #[] 0)) [Pc.mp (w.heap.size + 1) (placesTo l 0), Pc.blk w.heap.size #[.slice a n cap, .slice ra rn rc] 47] := by
    have e0 : Own w w [] := Own.nil (But.refl _ _)
    have e1 := e0.add (q := Pc.blk w.heap.size #[.slice a n cap, .slice ra rn rc] 47) (Blk.new w _ _) ((But.refl _ w).alloc _) (fun k q => by have : k = w.heap.size := q; omega)
    exact e1.add (q := Pc.mp (w.heap.size + 1) (placesTo l 0)) (by have := Mp.new (w.alloc (.cells #[.slice a n cap, .slice ra rn rc] 47)) (fun n : Int => Value.int .i64 n); rw [show (w.alloc (.cells #[.slice a n cap, .slice ra rn rc] 47)).heap.size = w.heap.size + 1 by simp] at this; exact this) ((But.refl _ _).alloc _) (fun k q => by have : k = w.heap.size + 1 := q; simp; omega)
  have HO := Lib.hid hO
  obtain ⟨mb, hmb⟩ : ∃ mb, mb = w.heap.size + 1 := ⟨_, rfl⟩
  rw [← hmb] at HO ⊢
  have HMB := Lib.hid (show w.heap.size ≤ mb by omega)
  clear hO hmm hmb
  go_loopg [10] n (fun k iv wr => ∃ j : Nat, j + k = n ∧ iv = .int .i64 j ∧ Own w wr [Pc.mp mb (placesTo l j), Pc.blk w.heap.size #[.slice a n cap, .slice ra rn rc] 47])
  case atStart => exact ⟨0, by omega, rfl, HO.out⟩
  case round =>
    clear HO
    obtain ⟨j, hj, rfl, hO⟩ := hrel
    have HO := Lib.hid hO
    clear hO
    by_cases hlt : j < n
    · obtain ⟨b, off, oa, on, oc, rfl, hb, c0, c1, -, -, -⟩ := (H.out.keep HO.out.but).at_ j hlt
      obtain ⟨y, hy⟩ : ∃ y, (nd l j).id = y := ⟨_, rfl⟩
      rw [hy] at c0
      have HY := Lib.hid hy
      clear hy
      have HMP := Lib.hid (show Mp wr mb (fun n : Int => Value.int .i64 n) (placesTo l j) from HO.out.get 0 rfl)
      have hpl := placesTo_len l j
      go_wp2_with (at_mapUpdate; refine wpList_update (HMP.out.alloc _) rfl _ _ _ _ rfl keyI Try.underlying85 rfl y rfl (by unfold maxLen; omega) ?_; intro w3 hL3 hB3; have O3 := Lib.hid (HO.out.put 0 (q := Pc.mp mb (placesTo l (j + 1))) rfl (by show Mp _ _ _ _; show Mp w3 mb _ (put (placesTo l j) (nd l j).id (.int .i64 j)); rw [HY.out]; exact hL3) (((But.refl _ wr).alloc _).trans hB3) (fun k hk => .inl hk)); clear hL3 hB3)
      go_roundg (n - (j + 1))
      case measure => omega
      case rel => exact ⟨j + 1, by omega, by go_num, O3.out⟩
    · obtain rfl : j = n := by omega
      go_wp2_with fail
      go_ret
      exact ⟨mb, rfl, HO.out.get 0 rfl, HMB.out, HO.out.but⟩

set_option maxHeartbeats 2000000 in
set_option maxRecDepth 100000 in
theorem trial_unknown (cb mb : Nat) (L : List (Int × Value)) (x : Int) (w : World) (hc : w.cell? ⟨cb, 0, none⟩ = some (.map (some mb))) (hM : Mp w mb (fun n : Int => Value.int .i64 n) L) :
    Calls Try.prog 95 #[.int .i64 x, .pointer (some ⟨cb, 0, none⟩)] w fun e w' => e = .returned (.bool (unknownB L x)) ∧ w = w' := by
  have H := Lib.hid hM
  clear hM
  cases hl : (look L x).isSome with
  | true =>
    have HL := Lib.hid hl
    have E := Lib.hid (show unknownB L x = false by unfold unknownB; rw [hl]; rfl)
    clear hl
    go_enter Try.func95, Try.ntmps95
    go_wp2_with (at_lookup; refine wpList_look2 H.out rfl _ _ _ rfl keyI Try.underlying85 (.int .i64 0) (zeroInt _) rfl x rfl _ rfl true HL.out ?_)
    go_ret
    exact ⟨by rw [E.out]; rfl, rfl⟩
  | false =>
    have HL := Lib.hid hl
    have E := Lib.hid (show unknownB L x = true by unfold unknownB; rw [hl]; rfl)
    clear hl
    go_enter Try.func95, Try.ntmps95
    go_wp2_with (at_lookup; refine wpList_look2 H.out rfl _ _ _ rfl keyI Try.underlying85 (.int .i64 0) (zeroInt _) rfl x rfl _ rfl false HL.out ?_)
    go_ret
    exact ⟨by rw [E.out]; rfl, rfl⟩


theorem negCall (args : Array Value) (w : World) : (callFunc 96 args).run Try.prog w = .ok (.enter 96 args) w := by kernel_rfl
theorem unkCall (args : Array Value) (w : World) : (callFunc 95 args).run Try.prog w = .ok (.enter 95 args) w := by kernel_rfl
theorem trial_below (x : Int) (w : World) : Calls Try.prog 96 #[.int .i64 x] w fun e w' => e = .returned (.bool (decide (x < 0))) ∧ w = w' := by
  go_enter Try.func96, Try.ntmps96
  go_wp2_with fail
  go_ret
  exact ⟨rfl, rfl⟩
theorem any_below (cnt : List Int) : cnt.any (fun x => decide (x < 0)) = !notNeg cnt := by
  unfold notNeg
  rw [List.all_eq_not_any_not, Bool.not_not]
  congr 1
  funext x
  rw [Bool.eq_iff_iff]
  simp

set_option maxHeartbeats 4000000 in
set_option maxRecDepth 100000 in
theorem trial_known (a : Option Addr) (n cap : Nat) (l : List Nd) (ra : Option Addr) (rn rc : Nat) (ca : Option Addr) (cn cc : Nat) (C : List Int) (w : World) (h : Nodes w a n l) (hc : Nums w ca cn C) (hn : n ≤ 1000000) (hcn : cn ≤ 1000000) :
    Calls Try.prog 80 #[.agg #[.slice a n cap, .slice ra rn rc], .slice ca cn cc] w fun e w' => e = .returned (.bool (knownB l C)) ∧ But (fun _ => False) w w' := by
  have H := Lib.hid h
  have HC := Lib.hid hc
  have HL := Lib.hid h.len
  clear h hc
  have G0 := (But.refl (fun _ => False) w).alloc (.cells #[.slice a n cap, .slice ra rn rc] 47)
  go_enter Try.func80, Try.ntmps80
  go_wp2_with fail
  refine (trial_places a n cap l ra rn rc _ (H.out.keep G0) hn).mono ?_
  rintro e w2 ⟨mb, rfl, hM, hmb, g2⟩
  have G2 := Lib.hid ((G0.trans g2).alloc (.cells #[.map (some mb)] 85))
  have M2 := Lib.hid (hM.alloc (.cells #[.map (some mb)] 85))
  have hB := Blk.new w2 #[.map (some mb)] 85
  have c0 : (w2.alloc (.cells #[.map (some mb)] 85)).cell? ⟨w2.heap.size, 0, none⟩ = some (.map (some mb)) := hB.cell 0
  have C0 := Lib.hid c0
  clear G0 g2 hM hmb hB c0
  go_wp2_with fail
  refine (asks_any ca cn cc C 95 #[.pointer (some ⟨w2.heap.size, 0, none⟩)] (unknownB (placesTo l n)) _ (HC.out.keep G2.out) (by omega) unkCall (fun x => trial_unknown w2.heap.size mb (placesTo l n) x _ C0.out M2.out)).mono ?_
  rintro e wa ⟨rfl, rfl⟩
  rw [← HL.out, any_unknown]
  go_wp2_with fail
  go_ret
  exact ⟨by unfold knownB; simp, G2.out⟩

set_option maxHeartbeats 4000000 in
set_option maxRecDepth 100000 in
theorem trial_right (a : Option Addr) (n cap : Nat) (l : List Nd) (ra : Option Addr) (rn rc : Nat) (R : List Int) (ca : Option Addr) (cn cc : Nat) (cnt : List Int) (da : Option Addr) (dn dc : Nat) (C : List Int) (w : World)
    (h : Nodes w a n l) (hr : Nums w ra rn R) (hc : Nums w ca cn cnt) (hd : Nums w da dn C) (hn : n ≤ 1000000) (hrn : rn ≤ 1000000) (ho : ∀ i, i < n → (nd l i).out.length ≤ 1000000) (hcn : cn ≤ 1000000) (hdn : dn ≤ 1000000) :
    Calls Try.prog 82 #[.agg #[.slice a n cap, .slice ra rn rc], .slice ca cn cc, .slice da dn dc] w fun e w' => e = .returned (.bool (trialB l R cnt C)) ∧ But (fun _ => False) w w' := by
  have H := Lib.hid h
  have HR := Lib.hid hr
  have HC := Lib.hid hc
  have HD := Lib.hid hd
  have HL := Lib.hid h.len
  have HCL := Lib.hid hc.len
  have OUT := Lib.hid ho
  clear h hr hc hd ho
  have G0 := (But.refl (fun _ => False) w).alloc (.cells #[.slice a n cap, .slice ra rn rc] 47)
  have B0 := Blk.new w #[.slice a n cap, .slice ra rn rc] 47
  have k0 := B0.cell 0
  have k1 := B0.cell 1
  go_enter Try.func82, Try.ntmps82
  go_wp2_with fail
  refine (right_any a n cap l ra rn rc R _ (H.out.keep G0) (HR.out.keep G0) hn hrn OUT.out).mono ?_
  rintro e w2 ⟨rfl, g2⟩
  have B2 := B0.but g2 (fun q => q)
  have G2 := Lib.hid (G0.trans g2)
  obtain ⟨b, hb⟩ : ∃ b, b = w.heap.size := ⟨_, rfl⟩
  rw [← hb] at B2 ⊢
  clear hb B0 G0 g2 k0 k1
  have k0 : w2.cell? ⟨b, 0, none⟩ = some (.slice a n cap) := B2.cell 0
  have k1 : w2.cell? ⟨b, 1, none⟩ = some (.slice ra rn rc) := B2.cell 1
  have hbl := B2.lt
  clear B2
  cases hrt : rightB l R with
  | false =>
    have E := Lib.hid (show trialB l R cnt C = false by unfold trialB; rw [hrt]; rfl)
    clear hrt
    go_wp2_with fail
    go_ret
    exact ⟨by rw [E.out]; rfl, G2.out⟩
  | true =>
    have HRT := Lib.hid hrt
    clear hrt
    by_cases hcl : cn = n
    · have HCN := Lib.hid (show decide (cnt.length = l.length) = true from decide_eq_true (by rw [HCL.out, HL.out]; exact hcl))
      subst hcl
      go_wp2_with fail
      refine (asks_any ca cn cc cnt 96 #[] (fun x => decide (x < 0)) _ (HC.out.keep G2.out) (by omega) negCall (fun x => trial_below x _)).mono ?_
      rintro e wa ⟨rfl, rfl⟩
      rw [any_below]
      cases hng : notNeg cnt with
      | false =>
        have E := Lib.hid (show trialB l R cnt C = false by unfold trialB; rw [hng, Bool.and_false])
        clear hng
        go_wp2_with fail
        go_ret
        exact ⟨by rw [E.out]; rfl, G2.out⟩
      | true =>
        have E := Lib.hid (show trialB l R cnt C = knownB l C by unfold trialB; rw [hng, HRT.out, HCN.out]; simp)
        clear hng
        go_wp2_with fail
        refine (trial_known a cn cap l ra rn rc da dn dc C _ (H.out.keep G2.out) (HD.out.keep G2.out) hn hdn).mono ?_
        rintro e w3 ⟨rfl, g3⟩
        go_wp2_with fail
        go_ret
        exact ⟨by rw [E.out]; rfl, G2.out.trans g3⟩
    · have E := Lib.hid (show trialB l R cnt C = false by
        unfold trialB
        rw [show decide (cnt.length = l.length) = false from decide_eq_false (by rw [HCL.out, HL.out]; exact hcl)]; simp)
      have hd1 : ((cn : Int) == (n : Int)) = false := by rw [beq_eq_false_iff_ne]; omega
      have hd2 : decide ((cn : Int) = (n : Int)) = false := decide_eq_false (by omega)
      have hd3 : (cn == n) = false := by rw [beq_eq_false_iff_ne]; exact hcl
      clear hcl
      go_wp2_with fail
      go_ret
      exact ⟨by rw [E.out]; rfl, G2.out⟩

set_option maxHeartbeats 4000000 in
set_option maxRecDepth 100000 in
theorem gray_any (a : Option Addr) (n cap : Nat) (l : List Nd) (ra : Option Addr) (rn rc : Nat) (R : List Int) (da : Option Addr) (dn dc : Nat) (C : List Int) (w : World)
    (h : Nodes w a n l) (hr : Nums w ra rn R) (hd : Nums w da dn C) (hn : n ≤ 65536) (hrn : rn ≤ 1000000) (ho : ∀ i, i < n → (nd l i).out.length ≤ 1000000) (hdn : dn ≤ 1000000) :
    Calls Try.prog 52 #[.agg #[.slice a n cap, .slice ra rn rc], .slice da dn dc] w fun e w' => ∃ m, Copied (ints (grayR l R C)) m w e w' := by
  have H := Lib.hid h
  have HR := Lib.hid hr
  have HD := Lib.hid hd
  have OUT := Lib.hid ho
  clear h hr hd ho
  have G0 := (But.refl (fun _ => False) w).alloc (.cells #[.slice a n cap, .slice ra rn rc] 47)
  have B0 := Blk.new w #[.slice a n cap, .slice ra rn rc] 47
  have k0 := B0.cell 0
  have k1 := B0.cell 1
  go_enter Try.func52, Try.ntmps52
  go_wp2_with fail
  refine (right_any a n cap l ra rn rc R _ (H.out.keep G0) (HR.out.keep G0) (by omega) hrn OUT.out).mono ?_
  rintro e w2 ⟨rfl, g2⟩
  have B2 := B0.but g2 (fun q => q)
  have G2 := Lib.hid (G0.trans g2)
  obtain ⟨b, hb⟩ : ∃ b, b = w.heap.size := ⟨_, rfl⟩
  rw [← hb] at B2 ⊢
  clear hb B0 G0 g2 k0 k1
  have k0 : w2.cell? ⟨b, 0, none⟩ = some (.slice a n cap) := B2.cell 0
  have k1 : w2.cell? ⟨b, 1, none⟩ = some (.slice ra rn rc) := B2.cell 1
  have HB2 := Lib.hid B2
  clear B2
  have fin : ∀ wz, But (fun _ => False) w wz → grayR l R C = [] → ∃ m, Copied (ints (grayR l R C)) m w (.returned (.slice none 0 0)) wz := fun wz g e => ⟨0, _, none, rfl, by rw [e]; exact Row.nil _ _ _, fun k hk => (by cases hk), g⟩
  have FIN := Lib.hid fin
  clear fin
  cases hrt : rightB l R with
  | false =>
    have E := Lib.hid (gray_wrong (C := C) hrt)
    clear hrt
    go_wp2_with fail
    go_ret
    exact FIN.out _ G2.out E.out
  | true =>
    have HRT := Lib.hid hrt
    clear hrt
    go_wp2_with fail
    refine (trial_known a n cap l ra rn rc da dn dc C _ (H.out.keep G2.out) (HD.out.keep G2.out) (by omega) hdn).mono ?_
    rintro e w3 ⟨rfl, g3⟩
    have B3 := HB2.out.but g3 (fun q => q)
    have G3 := Lib.hid (G2.out.trans g3)
    clear HB2 G2 g3 k0 k1
    have k0 : w3.cell? ⟨b, 0, none⟩ = some (.slice a n cap) := B3.cell 0
    have k1 : w3.cell? ⟨b, 1, none⟩ = some (.slice ra rn rc) := B3.cell 1
    clear B3
    cases hk : knownB l C with
    | false =>
      have E := Lib.hid (gray_no (R := R) hk)
      clear hk
      go_wp2_with fail
      go_ret
      exact FIN.out _ G3.out E.out
    | true =>
      have E := Lib.hid (gray_reach (R := R) hk)
      clear hk
      go_wp2_with fail
      refine (reach_any a n cap l ra rn rc R da dn dc C _ (H.out.keep G3.out) (HR.out.keep G3.out) (HD.out.keep G3.out) hn hrn hdn OUT.out).mono ?_
      rintro e w4 ⟨m, v, o, rfl, hR, hN, g4⟩
      go_wp2_with fail
      go_ret
      have hz := G3.out.size
      exact ⟨m, v, o, rfl, by rw [E.out]; exact hR, fun k hk => by have := hN k hk; omega, G3.out.trans g4⟩

end Graph
end Go.Proofs.Ytldgjmgdbaeglaa
