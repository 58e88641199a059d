/- The program's Right of layer 10, walked. -/
import Derived.Test.YtldgjmgdbaeglaaGraphFunc
set_option linter.unusedVariables false
set_option linter.unusedSimpArgs false
namespace Go.Proofs.Ytldgjmgdbaeglaa
open Go.RowKit

namespace Graph

set_option maxHeartbeats 2000000 in
set_option maxRecDepth 100000 in
theorem contains_func (a : Option Addr) (n cap : Nat) (l : List Int) (cb : Nat) (p : Int → Bool) (w : World) (h : Nums w a n l) (hn : n ≤ 1000000000)
    (hp : ∀ x, Calls Try.prog 70 #[.int .i64 x, .pointer (some ⟨cb, 0, none⟩)] w fun e w' => e = .returned (.bool (p x)) ∧ w = w') :
    Calls Try.prog 71 #[.slice a n cap, .func (.func 70) #[] #[.pointer (some ⟨cb, 0, none⟩)]] w fun e w' => e = .returned (.bool (l.any p)) ∧ w = w' := by
  have H := Lib.hid h
  have HP := Lib.hid hp
  clear h hp
  go_enter Try.func71, Try.ntmps71
  go_wp2_with fail
  refine (index_func a n cap l cb p _ H.out hn HP.out).mono ?_
  rintro e wa ⟨i, rfl, hi, rfl⟩
  have HI := Lib.hid hi
  clear hi
  go_wp2_with fail
  go_ret
  exact ⟨by rw [← HI.out]; rfl, rfl⟩

theorem known_places (l : List Nd) (x : Int) : unknownB (placesTo l l.length) x = !decide (x ∈ idsOf l) := by
  unfold unknownB
  rcases places_look (l := l) (x := x) l.length with ⟨h1, h2⟩ | ⟨i, h1, h2, h3⟩
  · rw [h1, decide_eq_false (fun q => by
      obtain ⟨i, hi, e⟩ := mem_nthI q
      rw [idsOf_length] at hi
      rw [idsOf_nth hi] at e
      exact h2 i hi e)]
    rfl
  · rw [h3, decide_eq_true (by rw [← h2, ← idsOf_nth h1]; exact nthI_mem (by rw [idsOf_length]; exact h1))]
    rfl
theorem any_unknown (l : List Nd) (k : List Int) : k.any (unknownB (placesTo l l.length)) = !withinB k (idsOf l) := by
  unfold withinB
  rw [show unknownB (placesTo l l.length) = fun x => !decide (x ∈ idsOf l) from funext (known_places l)]
  induction k with
  | nil => rfl
  | cons x k ih => simp only [List.any_cons, List.all_cons, ih, Bool.not_and]

/-- What Right has: numbers, its box of the map, the map, the box of the graph. -/
def rights (v : Value) (o : Option Nat) (j : Nat) (xs : List Int) (cb mb : Nat) (L : List (Int × Value)) (b : Nat) (a : Option Addr) (n cap : Nat) (ra : Option Addr) (rn rc : Nat) : List Pc :=
  [Pc.row 3 1 v o j (ints xs), Pc.blk cb #[.map (some mb)] 85, Pc.mp mb L, Pc.blk b #[.slice a n cap, .slice ra rn rc] 47]

set_option maxHeartbeats 4000000 in
set_option maxRecDepth 100000 in
theorem right_any (a : Option Addr) (n cap : Nat) (l : List Nd) (ra : Option Addr) (rn rc : Nat) (R : List Int) (w : World) (h : Nodes w a n l) (hr : Nums w ra rn R) (hn : n ≤ 1000000) (hrn : rn ≤ 1000000) (ho : ∀ i, i < n → (nd l i).out.length ≤ 1000000) :
    Calls Try.prog 37 #[.agg #[.slice a n cap, .slice ra rn rc]] w fun e w' => e = .returned (.bool (rightB l R)) ∧ But (fun _ => False) w w' := by
  obtain ⟨i0, hi, hz0, hz1, hz2⟩ := info_parts infoInt
  have H := Lib.hid h
  have HR := Lib.hid hr
  have HL := Lib.hid h.len
  have OUT := Lib.hid ho
  clear h hr ho
  have G0 := (But.refl (fun _ => False) w).alloc (.cells #[.slice a n cap, .slice ra rn rc] 47)
  have B0 := Blk.new w #[.slice a n cap, .slice ra rn rc] 47
  have k0 : (w.alloc (.cells #[.slice a n cap, .slice ra rn rc] 47)).cell? ⟨w.heap.size, 0, none⟩ = some (.slice a n cap) := B0.cell 0
  have k1 : (w.alloc (.cells #[.slice a n cap, .slice ra rn rc] 47)).cell? ⟨w.heap.size, 1, none⟩ = some (.slice ra rn rc) := B0.cell 1
  go_enter Try.func37, Try.ntmps37
  go_wp2_with fail
  refine (places_any a n cap l ra rn rc _ (H.out.keep G0) hn).mono ?_
  rintro e w2 ⟨mb, rfl, hM, hmb, g2⟩
  have e0 : Own w w [] := Own.nil (But.refl _ _)
  have e1 := e0.add (q := Pc.blk w.heap.size #[.slice a n cap, .slice ra rn rc] 47) B0 ((But.refl _ w).alloc _) (fun k q => by have : k = w.heap.size := q; omega)
  have e2 := e1.add (q := Pc.mp mb (placesTo l n)) hM g2 (fun k q => by have : k = mb := q; omega)
  have e3 := e2.add (q := Pc.blk w2.heap.size #[.map (some mb)] 85) (Blk.new w2 _ _) ((But.refl _ w2).alloc _) (fun k q => by have : k = w2.heap.size := q; omega)
  have O3 : Own w (w2.alloc (.cells #[.map (some mb)] 85)) (rights (.slice none 0 0) none 0 ((idsOf l).take 0) w2.heap.size mb (placesTo l n) w.heap.size a n cap ra rn rc) := e3.add (q := Pc.row 3 1 (.slice none 0 0) none 0 (ints [])) (Row.nil _ _ _) (But.refl _ _) (fun k q => by cases q)
  have k0 : w2.cell? ⟨w.heap.size, 0, none⟩ = some (.slice a n cap) := (B0.but g2 (fun q => q)).cell 0
  have hsz : w.heap.size < w2.heap.size := (B0.but g2 (fun q => q)).lt
  have O3 := Lib.hid O3
  clear e0 e1 e2 e3 hM hmb g2 G0 B0 k1
  go_wp2_with fail
  obtain ⟨b, hb⟩ : ∃ b, b = w.heap.size := ⟨_, rfl⟩
  obtain ⟨cb, hcb⟩ : ∃ cb, cb = w2.heap.size := ⟨_, rfl⟩
  rw [← hb, ← hcb] at O3 ⊢
  clear hb hcb k0 hsz
  have ASK := Lib.hid (show ∀ (wz : World) v o j xs aa, Own w wz (rights v o j xs cb mb (placesTo l n) b aa n cap ra rn rc) → ∀ x, Calls Try.prog 70 #[.int .i64 x, .pointer (some ⟨cb, 0, none⟩)] wz fun e w' => e = .returned (.bool (unknownB (placesTo l n) x)) ∧ wz = w' from fun wz v o j xs aa h x =>
    unknown_any cb mb (placesTo l n) x wz (Blk.cell (h.get 1 rfl) 0) (h.get 2 rfl))
  go_loopg [5, 14] n (fun k v iv wr => ∃ (j : Nat) (o : Option Nat), j + k = n ∧ iv = .int .i64 j ∧ (∀ t, t < j → withinB (nd l t).out (idsOf l) = true) ∧ Own w wr (rights v o j ((idsOf l).take j) cb mb (placesTo l n) b a n cap ra rn rc))
  case atStart => exact ⟨0, none, by omega, rfl, fun t ht => absurd ht (Nat.not_lt_zero t), O3.out⟩
  case round =>
    clear O3
    obtain ⟨j, o, hj, rfl, hno, hO⟩ := hrel
    have HN := Lib.hid hno
    have hRw : Row wr 3 1 _ o j (ints ((idsOf l).take j)) := hO.get 0 rfl
    obtain ⟨av, acap, rfl, -, -⟩ := hRw.val
    have HRW := Lib.hid hRw
    have HO := Lib.hid hO
    clear hRw hO hno
    by_cases hlt : j < n
    · obtain ⟨nb, off, oa, on, oc, rfl, hnb, c0, c1, -, -, hout⟩ := (H.out.keep HO.out.but).at_ j hlt
      have HOUT := Lib.hid hout
      have hol := OUT.out j hlt
      rw [hout.len] at hol
      obtain ⟨y, hy⟩ : ∃ y, (nd l j).id = y := ⟨_, rfl⟩
      rw [hy] at c0
      have HY := Lib.hid (show (idsOf l).take (j + 1) = (idsOf l).take j ++ [y] by rw [← hy]; exact idsOf_take (by rw [HL.out]; exact hlt))
      clear hy hout
      go_wp2_with ((at_builtin; refine wpList_append_row _ rfl _ _ _ rfl 3 i0 (.int .i64 0) 1 8 Try.underlying43 hi hz0 hz1 hz2 rfl (by decide) (.slice av j acap) o j (ints ((idsOf l).take j)) ((HRW.out.alloc _).alloc _) rfl ⟨wr.heap.size + 1, 0, none⟩ 1 1 [.int .i64 y] rfl rfl (new_src' _ _ _ (by simp)) (by simp [Value.oneCell']) (by unfold maxLen; omega) (by omega) ?_; intro v4 w4 o4 hR4 hB4 hN4; obtain ⟨a4, cap4, rfl, -, -⟩ := hR4.val; have g4 := (((But.refl (fun k => o = some k) wr).alloc (.cells #[.int .i64 y, .slice oa on oc] 54)).alloc (.cells #[.int .i64 y] 3)).trans hB4; have O4 := Lib.hid (show Own w w4 (rights (.slice a4 (j + 1) cap4) o4 (j + 1) ((idsOf l).take (j + 1)) cb mb (placesTo l n) b (some ⟨nb, off, none⟩) n cap ra rn rc) from HO.out.put 0 (q := Pc.row 3 1 (.slice a4 (j + 1) cap4) o4 (j + 1) (ints ((idsOf l).take (j + 1)))) rfl (by show Row _ _ _ _ _ _ _; rw [HY.out, ints_push]; exact hR4) g4 (fun k hk => by rcases hN4 k hk with z | z; exact .inl z; (try simp at z); exact .inr (by omega))); have d1 : w4.cell? ⟨wr.heap.size, 1, none⟩ = some (.slice oa on oc) := (Blk.but ((Blk.new wr #[.int .i64 y, .slice oa on oc] 54).alloc (.cells #[.int .i64 y] 3)) hB4 (fun e => by have := HRW.out.lt e; omega)).cell 1; clear hR4 hB4 hN4 g4))
      have N4 := Lib.hid ((H.out.keep O4.out.but).at_ j hlt)
      have NO4 := Lib.hid (show Nums w4 oa on (nd l j).out from by
        have hbu := O4.out.but
        obtain ⟨nb2, off2, oa2, on2, oc2, e2, hnb2, -, c12, -, -, hout2⟩ := H.out.at_ j hlt
        simp at e2; obtain ⟨rfl, rfl⟩ := e2
        have e3 : wr.cell? ⟨nb, off + j * 2 + 1, none⟩ = some (.slice oa2 on2 oc2) := by
          rw [← c12]; exact World.cell?_of_block (w := w) (HO.out.but.block nb hnb2 (fun q => q))
        rw [c1] at e3
        simp at e3
        obtain ⟨rfl, rfl, -⟩ := e3
        exact hout2.keep hbu)
      refine (contains_func oa on oc (nd l j).out cb _ _ NO4.out (by omega) (ASK.out _ _ _ _ _ _ O4.out)).mono ?_
      rintro e wa ⟨rfl, rfl⟩
      rw [← HL.out, any_unknown, HL.out]
      cases hw : withinB (nd l j).out (idsOf l) with
      | true =>
        have HW := Lib.hid hw
        clear hw
        go_wp2_with fail
        go_roundg (n - (j + 1))
        case measure => omega
        case rel => exact ⟨j + 1, o4, by omega, by go_num, fun t ht => by
          by_cases e : t = j
          · subst e; exact HW.out
          · exact HN.out t (by omega), O4.out⟩
      | false =>
        have E := Lib.hid (show rightB l R = false by
          unfold rightB
          have : l.all (fun n => withinB n.out (idsOf l)) = false := by
            rw [← Bool.not_eq_true, all_nd]
            intro q
            have := q j (by rw [HL.out]; exact hlt)
            rw [hw] at this; cases this
          rw [this]; rfl)
        clear hw
        go_wp2_with fail
        go_ret
        exact ⟨by rw [E.out]; rfl, O4.out.but⟩
    · obtain rfl : j = n := by omega
      have ALL := Lib.hid (show l.all (fun n => withinB n.out (idsOf l)) = true from (all_nd _ _).2 (fun t ht => HN.out t (by rw [HL.out] at ht; omega)))
      have HI := Lib.hid (show Nums wr av j (idsOf l) from by
        have := HRW.out.nums
        rw [List.take_of_length_le (by rw [idsOf_length, HL.out]; exact Nat.le_refl _)] at this
        exact this)
      have HRR := Lib.hid (HR.out.keep HO.out.but)
      go_wp2_with fail
      refine (rise_any av j acap (idsOf l) _ HI.out (by omega)).mono ?_
      rintro e w3 ⟨rfl, g3⟩
      have O5 := Lib.hid (HO.out.same g3)
      have hB5 : Blk w3 b #[.slice a j cap, .slice ra rn rc] 47 := O5.out.get 3 rfl
      have j1 : w3.cell? ⟨b, 1, none⟩ = some (.slice ra rn rc) := hB5.cell 1
      have E := Lib.hid (show rightB l R = (riseB (idsOf l) && riseB R && withinB R (idsOf l)) by unfold rightB; rw [ALL.out, Bool.true_and])
      have HR5 := Lib.hid (HRR.out.keep g3)
      clear g3 hB5
      cases h1 : riseB (idsOf l) with
      | false =>
        rw [h1] at E
        go_wp2_with fail
        go_ret
        exact ⟨by rw [E.out]; rfl, O5.out.but⟩
      | true =>
        rw [h1] at E
        go_wp2_with fail
        refine (rise_any ra rn rc R _ HR5.out (by omega)).mono ?_
        rintro e w4 ⟨rfl, g4⟩
        have O6 := Lib.hid (O5.out.same g4)
        have hB6 : Blk w4 b #[.slice a j cap, .slice ra rn rc] 47 := O6.out.get 3 rfl
        have i1 : w4.cell? ⟨b, 1, none⟩ = some (.slice ra rn rc) := hB6.cell 1
        have HR6 := Lib.hid (HR5.out.keep g4)
        clear g4 hB6 j1
        cases h2 : riseB R with
        | false =>
          rw [h2] at E
          go_wp2_with fail
          go_ret
          exact ⟨by rw [E.out]; rfl, O6.out.but⟩
        | true =>
          rw [h2] at E
          go_wp2_with fail
          refine (contains_func ra rn rc R cb _ _ HR6.out (by omega) (ASK.out _ _ _ _ _ _ O6.out)).mono ?_
          rintro e wa ⟨rfl, rfl⟩
          have AU := Lib.hid (any_unknown l R)
          rw [HL.out] at AU
          rw [AU.out]
          cases h3 : withinB R (idsOf l) <;> (
            rw [h3] at E
            go_wp2_with fail
            go_ret
            exact ⟨by rw [E.out]; rfl, O6.out.but⟩)

end Graph
end Go.Proofs.Ytldgjmgdbaeglaa
