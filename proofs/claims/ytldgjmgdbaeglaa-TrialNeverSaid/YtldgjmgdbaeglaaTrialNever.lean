/- The law TrialNever of layer 11, walked: it answers true. -/
import Derived.Test.YtldgjmgdbaeglaaTrialLaws
import Derived.StillTailTactics
set_option linter.unusedVariables false
set_option linter.unusedSimpArgs false
namespace Go.Proofs.Ytldgjmgdbaeglaa
open Go.RowKit Go.ChangeShapes Go.WideShapes Go.Deep

/-- A row of numbers, as a piece. -/
def rI (v : Value) (o : Option Nat) (n : Nat) (xs : List Int) : Pc := Pc.row 3 1 v o n (ints xs)
theorem Own.rI_new {w0 w : World} {L : List Pc} {xs : List Int} {n : Nat} (h : Own w0 w L) {v : Value} {o : Option Nat} {w' : World} (hR : Row w' 3 1 v o n (ints xs)) (hN : ∀ k, o = some k → w.heap.size ≤ k) (g : But (fun _ => False) w w') : Own w0 w' (rI v o n xs :: L) :=
  h.add (q := rI v o n xs) hR g (fun k hk => hN k hk)
theorem Own.rI_nil {w0 w : World} {L : List Pc} (h : Own w0 w L) : Own w0 w (rI (.slice none 0 0) none 0 [] :: L) :=
  h.add (q := rI (.slice none 0 0) none 0 []) (Row.nil _ _ _) (But.refl _ _) (fun k q => by cases q)

namespace Graph

/-- The candidates that are nodes. -/
def someTo (l : List Nd) (C : List Int) (j : Nat) : List Int := (C.take j).filter (fun x => decide (x ∈ idsOf l))
theorem someTo_succ {l : List Nd} {C : List Int} {j : Nat} (hj : j < C.length) : someTo l C (j + 1) = if nthI C j ∈ idsOf l then someTo l C j ++ [nthI C j] else someTo l C j := by
  unfold someTo
  rw [take_succ_getD hj, List.filter_append]
  show _ ++ List.filter _ [nthI C j] = _
  by_cases h : nthI C j ∈ idsOf l
  · rw [if_pos h]; simp [h]
  · rw [if_neg h]; simp [h]
theorem someTo_len (l : List Nd) (C : List Int) (j : Nat) : (someTo l C j).length ≤ C.length := by
  unfold someTo
  exact Nat.le_trans (List.length_filter_le _ _) (by rw [List.length_take]; omega)
theorem some_known (l : List Nd) (C : List Int) (j : Nat) : knownB l (someTo l C j) = true := by
  unfold knownB withinB
  rw [List.all_eq_true]
  intro x hx
  unfold someTo at hx
  rw [List.mem_filter] at hx
  exact hx.2
theorem all_known (l : List Nd) : knownB l (idsOf l) = true := by
  unfold knownB withinB
  rw [List.all_eq_true]
  intro x hx
  exact decide_eq_true hx
theorem own_trial {l : List Nd} {R C cnt : List Int} (hr : rightB l R = true) (hk : knownB l C = true) (hl : cnt.length = l.length) (hc : ∀ k, k < l.length → countOf l R k ≤ nthI cnt k) : trialB l R cnt C = true := by
  unfold trialB
  rw [hr, hk, decide_eq_true hl]
  show notNeg cnt = true
  unfold notNeg
  rw [List.all_eq_true]
  intro y hy
  obtain ⟨k, hkl, rfl⟩ := mem_nthI hy
  have := hc k (by rw [← hl]; exact hkl)
  have h0 : 0 ≤ countOf l R k := by unfold countOf; omega
  exact decide_eq_true (Int.le_trans h0 this)
theorem covered_all (l : List Nd) {k : Nat} (hk : k < l.length) : k ∈ ksOf l (idsOf l) := ksOf_mem.2 ⟨hk, .base k hk (by rw [← idsOf_nth hk]; exact nthI_mem (by rw [idsOf_length]; exact hk))⟩
theorem covered_some {l : List Nd} {R C : List Int} (hr : rightB l R = true) (h : ∀ x, x ∈ deadR l R → x ∈ reachR l R C) {k : Nat} (hk : k < l.length) (hp : ¬ Path l R k) : k ∈ ksOf l C :=
  ksOf_mem.2 ⟨hk, (reach_mem hr hk).1 (h _ ((dead_mem hr hk).2 hp))⟩
def covTo (d r : List Int) (j : Nat) : Bool := (d.take j).all (fun x => decide (x ∈ r))
theorem covTo_succ {d r : List Int} {j : Nat} (hj : j < d.length) : covTo d r (j + 1) = (covTo d r j && decide (nthI d j ∈ r)) := by
  unfold covTo
  rw [take_succ_getD hj, List.all_append]
  show _ = _
  simp [nthI]
theorem covTo_all {d r : List Int} (h : covTo d r d.length = true) : ∀ x, x ∈ d → x ∈ r := by
  unfold covTo at h
  rw [List.take_length, List.all_eq_true] at h
  intro x hx
  exact of_decide_eq_true (h x hx)

theorem bytes_of_els {w : World} {a : Option Addr} {n : Nat} {V : Nat → Nat → Value} (h : Els w a n 1 V) (f : ∀ i, i < n → All2 [.i .u8] ((List.range 1).map (V i))) : ∃ M : Nat → Int, ∀ i, i < n → 0 ≤ M i ∧ M i ≤ 255 ∧ V i 0 = .int .u8 (M i) := by
  have each : ∀ j, j < n → ∃ y : Int, 0 ≤ y ∧ y ≤ 255 ∧ V j 0 = .int .u8 y := by
    intro j hj
    obtain ⟨v, vs, e, ⟨y, hy, hb⟩, -⟩ := all2_cons (f j hj)
    simp at e
    have hb2 := bounds_u8 hb
    exact ⟨y, hb2.1, hb2.2, by rw [e.1, hy]⟩
  exact choose_lt each

/-- The counts, the first i of them raised. -/
def Grow (l : List Nd) (R s : List Int) (i : Nat) : Prop := s.length = l.length ∧ (∀ k, k < l.length → countOf l R k ≤ nthI s k ∧ nthI s k ≤ 31000255) ∧ ∀ k, i ≤ k → k < l.length → nthI s k = countOf l R k
theorem Grow.next {l : List Nd} {R s : List Int} {i : Nat} {v : Int} (h : Grow l R s i) (hi : i < l.length) (hv : countOf l R i ≤ v) (hb : v ≤ 31000255) : Grow l R (s.set i v) (i + 1) := by
  refine ⟨by rw [List.length_set]; exact h.1, fun k hk => ?_, fun k hik hk => ?_⟩
  · rw [nthI_set (by rw [h.1]; exact hi)]
    by_cases e : i = k
    · subst e; rw [if_pos rfl]; exact ⟨hv, hb⟩
    · rw [if_neg e]; exact h.2.1 k hk
  · rw [nthI_set (by rw [h.1]; exact hi), if_neg (by omega)]
    exact h.2.2 k (by omega) hk

abbrev boxP (b : Nat) (a : Option Addr) (n cap : Nat) (ra : Option Addr) (rn rc : Nat) : Pc := Pc.blk b #[.slice a n cap, .slice ra rn rc] 47
theorem box_at {w : World} {b : Nat} {a : Option Addr} {n cap : Nat} {ra : Option Addr} {rn rc : Nat} (h : (boxP b a n cap ra rn rc).is w) : w.cell? ⟨b, 0, none⟩ = some (.slice a n cap) ∧ w.cell? ⟨b, 1, none⟩ = some (.slice ra rn rc) ∧ b < w.heap.size := by
  have h1 : Blk w b #[.slice a n cap, .slice ra rn rc] 47 := h
  exact ⟨h1.cell 0, h1.cell 1, h1.lt⟩

set_option maxHeartbeats 32000000 in
set_option maxRecDepth 100000 in
theorem trial_never (w : World) (a : Option Addr) (n cap : Nat) (l : List Nd) (hN : n ≤ cap ∧ cap ≤ maxLen ∧ Nodes w a n l) (ra : Option Addr) (rn rc : Nat) (R : List Int) (hR : rn ≤ rc ∧ rc ≤ maxLen ∧ Nums w ra rn R) (hz : n * 32 ≤ 140737488351232)
    (ma : Option Addr) (mn mc : Nat) (V1 : Nat → Nat → Value) (e1 : Els w ma mn 1 V1) (f1 : ∀ i, i < mn → All2 [.i .u8] ((List.range 1).map (V1 i))) (z1 : mn * 1 ≤ 140737488351232) (m1 : mn ≤ mc ∧ mc ≤ maxLen)
    (da : Option Addr) (dn dc : Nat) (V2 : Nat → Nat → Value) (e2 : Els w da dn 1 V2) (f2 : ∀ i, i < dn → All2 [.i .i64] ((List.range 1).map (V2 i))) (z2 : dn * 8 ≤ 140737488351232) (m2 : dn ≤ dc ∧ dc ≤ maxLen) :
    Calls Try.prog 10 #[.agg #[.slice a n cap, .slice ra rn rc], .slice ma mn mc, .slice da dn dc] w fun e w' => e = .returned (.bool true) ∧ But (fun _ => False) w w' := by
  obtain ⟨i0, hi, hz0, hz1, hz2⟩ := info_parts infoInt
  obtain ⟨hn1, hn2, h⟩ := hN
  obtain ⟨hr1, hr2, hr⟩ := hR
  obtain ⟨M, hM⟩ := bytes_of_els e1 f1
  obtain ⟨C, hd⟩ := nums_of_els e2 f2
  have H := Lib.hid h
  have HR := Lib.hid hr
  have HME := Lib.hid e1
  have HM := Lib.hid hM
  have HD := Lib.hid hd
  unfold maxLen at hn2 hr2 m1 m2
  clear h hr hd e1 f1 e2 f2 hM
  have O0 := boxed.start (w := w) (a := a) (n := n) (cap := cap) (ra := ra) (rn := rn) (rc := rc) (But.refl _ _)
  obtain ⟨k0, k1, -⟩ := boxed.cells O0
  go_enter Try.func10, Try.ntmps10
  go_wp2_with fail
  refine (fits_any a n cap l ra rn rc R _ (H.out.keep O0.but) (HR.out.keep O0.but) (by omega) (by omega)).mono ?_
  rintro e w2 ⟨rfl, g2⟩
  have O2 := Lib.hid (show Own w w2 [boxP _ a n cap ra rn rc] from (O0.same g2).drop)
  obtain ⟨b, hb⟩ : ∃ b, b = w.heap.size := ⟨_, rfl⟩
  rw [← hb] at O2 ⊢
  clear k0 k1 O0 g2 hb
  obtain ⟨k0, k1, hbl⟩ := box_at (O2.out.get 0 rfl)
  go_wp2_with fail
  refine (ref_right a n cap l ra rn rc R _ (H.out.keep O2.out.but) (HR.out.keep O2.out.but) (by omega) (by omega)).mono ?_
  rintro e w3 ⟨rfl, g3⟩
  have O3 := Lib.hid (O2.out.same g3)
  clear k0 k1 hbl g3 O2
  obtain ⟨k0, k1, hbl⟩ := box_at (O3.out.get 0 rfl)
  by_cases hq : fitsB l R = true ∧ rightB l R = true ∧ dn ≤ 60
  case neg =>
    have G3 := Lib.hid O3.out.but
    cases h1 : fitsB l R with
    | false =>
      clear hq h1
      go_wp2_with fail
      refine (trial_alive _).mono ?_
      rintro e w4 ⟨rfl, g4⟩
      go_wp2_with fail
      go_ret
      exact ⟨rfl, G3.out.trans g4⟩
    | true =>
      cases h2 : rightB l R with
      | false =>
        clear hq h1 h2
        go_wp2_with fail
        refine (trial_alive _).mono ?_
        rintro e w4 ⟨rfl, g4⟩
        go_wp2_with fail
        go_ret
        exact ⟨rfl, G3.out.trans g4⟩
      | true =>
        have hbig : 60 < dn := by
          by_cases c : dn ≤ 60
          · exact absurd ⟨h1, h2, c⟩ hq
          · omega
        clear hq h1 h2
        go_wp2_with fail
        refine (trial_alive _).mono ?_
        rintro e w4 ⟨rfl, g4⟩
        go_wp2_with fail
        go_ret
        exact ⟨rfl, G3.out.trans g4⟩
  obtain ⟨hfit, hrt, hdn⟩ := hq
  rw [hfit, hrt]
  have RT := Lib.hid hrt
  have FIT := Lib.hid ((fits_iff l R).1 hfit)
  have hn : n ≤ 30 := by have := FIT.out.1; rw [H.out.len] at this; exact this
  have hrn : rn ≤ 30 := by have := FIT.out.2.1; rw [HR.out.len] at this; exact this
  have OUT := Lib.hid (show ∀ i, i < n → (nd l i).out.length ≤ 1000000 from fun i hi => by have := FIT.out.2.2 i (by rw [H.out.len]; exact hi); omega)
  have HL := Lib.hid H.out.len
  have HDL := Lib.hid HD.out.len
  have CB := Lib.hid (show ∀ j, 0 ≤ countOf l R j ∧ countOf l R j ≤ 31000000 from fun j => count_bd FIT.out.1 FIT.out.2.1 (fun i hi => OUT.out i (by rw [← HL.out]; exact hi)) j)
  clear hfit hrt hn1 hn2 hr1 hr2 m2 hz z2
  go_wp2_with fail
  refine (ref_counts a n cap l ra rn rc R _ (H.out.keep O3.out.but) (HR.out.keep O3.out.but) (by omega) (by omega) OUT.out).mono ?_
  rintro e w4 ⟨cn, cv, co, rfl, hRc, hNc, g4⟩
  obtain ⟨ca, cc, rfl, -, -⟩ := hRc.val
  rw [countsR_yes RT.out] at hRc
  obtain rfl : cn = n := by rw [← hRc.ints_len, countsOf_length, HL.out]
  have O4 := Lib.hid (O3.out.rI_new hRc hNc g4)
  clear k0 k1 hbl g4 O3 hRc hNc
  obtain ⟨k0, k1, hbl⟩ := box_at (O4.out.get 1 rfl)
  go_wp2_with fail
  refine (ref_dead a cn cap l ra rn rc R _ (H.out.keep O4.out.but) (HR.out.keep O4.out.but) (by omega) (by omega) OUT.out (by have := reachR_len l R R; rw [HL.out] at this; omega)).mono ?_
  rintro e w5 ⟨en, ev, eo, rfl, hRd, hNd, g5⟩
  obtain ⟨ea, ec, rfl, -, -⟩ := hRd.val
  obtain ⟨d, hdd⟩ : ∃ d, deadR l R = d := ⟨_, rfl⟩
  have hen : en ≤ 30 := by have := deadR_len l R; rw [hRd.ints_len, HL.out] at this; omega
  rw [hdd] at hRd
  have HEN := Lib.hid hRd.ints_len
  have HDD := Lib.hid hdd
  have O5 := Lib.hid ((O4.out.rI_new hRd hNd g5).rI_nil)
  clear k0 k1 hbl g5 O4 hRd hNd hdd
  obtain ⟨k0, k1, hbl⟩ := box_at (O5.out.get 3 rfl)
  go_wp2_with fail
  go_loopg [11, 13] cn (fun k v iv wz => ∃ (j : Nat) (oz : Option Nat), j + k = cn ∧ iv = .int .i64 j ∧ Own w wz [rI v oz j ((idsOf l).take j), rI (.slice ea en ec) eo en d, rI (.slice ca cn cc) co cn (countsOf l R), boxP b a cn cap ra rn rc])
  case atStart => exact ⟨0, none, by omega, rfl, O5.out⟩
  case round =>
    clear O5 k0 k1 hbl
    obtain ⟨j, oz, hj, rfl, hO⟩ := hrel
    have hRw : Row wr 3 1 _ oz j (ints ((idsOf l).take j)) := hO.get 0 rfl
    obtain ⟨av, acap, rfl, -, -⟩ := hRw.val
    obtain ⟨k0, k1, hbl⟩ := box_at (hO.get 3 rfl)
    have HRW := Lib.hid hRw
    have HO := Lib.hid hO
    clear hRw hO
    by_cases hlt : j < cn
    · obtain ⟨nb, off, oa, on, oc, rfl, hnb, c0, -, -, -, -⟩ := (H.out.keep HO.out.but).at_ j hlt
      have TK := Lib.hid (idsOf_take (l := l) (j := j) (by rw [HL.out]; exact hlt))
      obtain ⟨x, hx⟩ : ∃ x, (nd l j).id = x := ⟨_, rfl⟩
      rw [hx] at c0 TK
      clear hx
      go_wp2_with ((at_builtin; refine wpList_append_row _ rfl _ _ _ rfl 3 i0 (.int .i64 0) 1 8 Try.underlying43 hi hz0 hz1 hz2 rfl (by decide) (.slice av j acap) oz j (ints ((idsOf l).take j)) (HRW.out.alloc _) rfl ⟨wr.heap.size, 0, none⟩ 1 1 [.int .i64 x] rfl rfl (new_src _ _ _) (by simp [Value.oneCell']) (by unfold maxLen; omega) (by omega) ?_; intro v4 w4 o4 hR4 hB4 hN4; obtain ⟨a4, cap4, rfl, -, -⟩ := hR4.val; have O5 := Lib.hid (HO.out.put 0 (q := rI (.slice a4 (j + 1) cap4) o4 (j + 1) ((idsOf l).take (j + 1))) rfl (by show Row _ _ _ _ _ _ _; rw [TK.out, ints_push]; exact hR4) (((But.refl _ wr).alloc _).trans hB4) (fun k hk => by rcases hN4 k hk with z | z; exact .inl z; (try simp at z); exact .inr (by omega))); clear hR4 hB4 hN4))
      go_roundg (cn - (j + 1))
      case measure => omega
      case rel => exact ⟨j + 1, o4, by omega, by go_num, O5.out⟩
    · obtain rfl : j = cn := by omega
      have TALL := Lib.hid (show (idsOf l).take j = idsOf l from List.take_of_length_le (by rw [idsOf_length, HL.out]; exact Nat.le_refl _))
      rw [TALL.out] at HO
      have O6 := Lib.hid HO.out.rI_nil
      clear HRW HO TALL hlt hj
      go_wp2_with fail
      go_loopg [12, 14] dn (fun k v iv wz => ∃ (q m : Nat) (oy : Option Nat), q + k = dn ∧ iv = .int .i64 q ∧ m ≤ q ∧ Own w wz [rI v oy m (someTo l C q), rI (.slice av j acap) oz j (idsOf l), rI (.slice ea en ec) eo en d, rI (.slice ca j cc) co j (countsOf l R), boxP b a j cap ra rn rc])
      case atStart => exact ⟨0, 0, none, by omega, rfl, Nat.le_refl _, O6.out⟩
      case round =>
        clear O6 k0 k1 hbl
        obtain ⟨q, m, oy, hq, rfl, hmq, hO⟩ := hrel
        have hRw : Row wr 3 1 _ oy m (ints (someTo l C q)) := hO.get 0 rfl
        obtain ⟨sv, scap, rfl, -, -⟩ := hRw.val
        obtain ⟨k0, k1, hbl⟩ := box_at (hO.get 4 rfl)
        have HRW := Lib.hid hRw
        have HO := Lib.hid hO
        clear hRw hO
        by_cases hlt : q < dn
        · obtain ⟨db, doff, rfl, hdb, dc0⟩ := (HD.out.keep HO.out.but).at_ q hlt
          have TK := Lib.hid (someTo_succ (l := l) (C := C) (j := q) (by rw [HDL.out]; exact hlt))
          obtain ⟨x, hx⟩ : ∃ x, nthI C q = x := ⟨_, rfl⟩
          rw [hx] at dc0 TK
          clear hx
          have AN := Lib.hid (show Row wr 3 1 (.slice av j acap) oz j (ints (idsOf l)) from HO.out.get 1 rfl).nums
          go_wp2_with fail
          refine (has_any av j acap (idsOf l) x _ AN.out (by omega)).mono ?_
          rintro e wa ⟨rfl, rfl⟩
          by_cases hin : x ∈ idsOf l
          · have TK2 := Lib.hid (show someTo l C (q + 1) = someTo l C q ++ [x] by rw [TK.out, if_pos hin])
            rw [decide_eq_true hin]
            clear hin TK
            go_wp2_with ((at_builtin; refine wpList_append_row _ rfl _ _ _ rfl 3 i0 (.int .i64 0) 1 8 Try.underlying43 hi hz0 hz1 hz2 rfl (by decide) (.slice sv m scap) oy m (ints (someTo l C q)) (HRW.out.alloc _) rfl ⟨wr.heap.size, 0, none⟩ 1 1 [.int .i64 x] rfl rfl (new_src _ _ _) (by simp [Value.oneCell']) (by unfold maxLen; omega) (by omega) ?_; intro v4 w4 o4 hR4 hB4 hN4; obtain ⟨a4, cap4, rfl, -, -⟩ := hR4.val; have O5 := Lib.hid (HO.out.put 0 (q := rI (.slice a4 (m + 1) cap4) o4 (m + 1) (someTo l C (q + 1))) rfl (by show Row _ _ _ _ _ _ _; rw [TK2.out, ints_push]; exact hR4) (((But.refl _ wr).alloc _).trans hB4) (fun k hk => by rcases hN4 k hk with z | z; exact .inl z; (try simp at z); exact .inr (by omega))); clear hR4 hB4 hN4))
            go_roundg (dn - (q + 1))
            case measure => omega
            case rel => exact ⟨q + 1, m + 1, o4, by omega, by go_num, by omega, O5.out⟩
          · have TK2 := Lib.hid (show someTo l C (q + 1) = someTo l C q by rw [TK.out, if_neg hin])
            rw [decide_eq_false hin]
            clear hin TK
            go_wp2_with fail
            go_roundg (dn - (q + 1))
            case measure => omega
            case rel => exact ⟨q + 1, m, oy, by omega, by go_num, by omega, by rw [TK2.out]; exact HO.out⟩
        · obtain rfl : q = dn := by omega
          clear HRW hlt hq
          obtain ⟨S, hS⟩ : ∃ S, someTo l C q = S := ⟨_, rfl⟩
          have KS := Lib.hid (show knownB l S = true by rw [← hS]; exact some_known l C q)
          rw [hS] at HO
          have hm60 : m ≤ 60 := by omega
          clear hS hmq
          have CG := Lib.hid (show ∀ k, nthI (countsOf l R) k ≤ 9223372036854775807 from fun k => by
            by_cases hk : k < l.length
            · rw [countsOf_nth hk]; have := CB.out k; omega
            · unfold nthI; rw [List.getD_eq_getElem?_getD, List.getElem?_eq_none (by rw [countsOf_length]; omega)]; show (0 : Int) ≤ _; decide)
          have T1 := Lib.hid (own_trial (C := S) (cnt := countsOf l R) RT.out KS.out (countsOf_length l R) (fun k hk => by rw [countsOf_nth hk]; exact Int.le_refl _))
          have T2 := Lib.hid (own_trial (C := idsOf l) (cnt := countsOf l R) RT.out (all_known l) (countsOf_length l R) (fun k hk => by rw [countsOf_nth hk]; exact Int.le_refl _))
          have CN := Lib.hid (show Row wr 3 1 (.slice ca j cc) co j (ints (countsOf l R)) from HO.out.get 3 rfl).nums
          have SN := Lib.hid (show Row wr 3 1 (.slice sv m scap) oy m (ints S) from HO.out.get 0 rfl).nums
          go_wp2_with fail
          refine (white_any a j cap l ra rn rc R ca j cc (countsOf l R) sv m scap S _ (H.out.keep HO.out.but) (HR.out.keep HO.out.but) CN.out SN.out (by omega) (by omega) OUT.out (by omega) (by omega) CG.out).mono ?_
          rintro e w6 ⟨wn, wv, wo, rfl, hRw, hNw, g6⟩
          rw [show whiteE l R (countsOf l R) S = 0 by unfold whiteE; rw [if_pos T1.out]]
          obtain ⟨wva, wcap, rfl, -, -⟩ := hRw.val
          obtain ⟨W, hW⟩ : ∃ W, whiteR l R (countsOf l R) S = W := ⟨_, rfl⟩
          have hwn : wn ≤ 30 := by have := whiteR_len l R (countsOf l R) S; rw [hRw.ints_len, HL.out] at this; omega
          rw [hW] at hRw
          have HWN := Lib.hid hRw.ints_len
          have HW := Lib.hid hW
          have O7 := Lib.hid (HO.out.rI_new hRw hNw g6)
          clear k0 k1 hbl hRw hNw g6 hW HO CN SN
          obtain ⟨k0, k1, hbl⟩ := box_at (O7.out.get 5 rfl)
          have CN := Lib.hid (show Row w6 3 1 (.slice ca j cc) co j (ints (countsOf l R)) from O7.out.get 4 rfl).nums
          have AN := Lib.hid (show Row w6 3 1 (.slice av j acap) oz j (ints (idsOf l)) from O7.out.get 2 rfl).nums
          go_wp2_with fail
          refine (white_any a j cap l ra rn rc R ca j cc (countsOf l R) av j acap (idsOf l) _ (H.out.keep O7.out.but) (HR.out.keep O7.out.but) CN.out AN.out (by omega) (by omega) OUT.out (by omega) (by omega) CG.out).mono ?_
          rintro e w7 ⟨un, uv, uo, rfl, hRw, hNw, g7⟩
          rw [show whiteE l R (countsOf l R) (idsOf l) = 0 by unfold whiteE; rw [if_pos T2.out]]
          obtain ⟨uva, ucap, rfl, -, -⟩ := hRw.val
          have hU : whiteR l R (countsOf l R) (idsOf l) = d := by rw [← HDD.out]; exact white_just T2.out (fun k hk _ => covered_all l hk)
          rw [hU] at hRw
          have hun : un ≤ 30 := by have := HEN.out; rw [hRw.ints_len] at this; omega
          have O8 := Lib.hid (O7.out.rI_new hRw hNw g7)
          clear k0 k1 hbl hRw hNw g7 hU O7 CN AN
          obtain ⟨k0, k1, hbl⟩ := box_at (O8.out.get 6 rfl)
          have SN := Lib.hid (show Row w7 3 1 (.slice sv m scap) oy m (ints S) from O8.out.get 2 rfl).nums
          go_wp2_with fail
          refine (ref_reach a j cap l ra rn rc R sv m scap S _ (H.out.keep O8.out.but) (HR.out.keep O8.out.but) SN.out (by omega) (by omega) (by omega) OUT.out).mono ?_
          rintro e w8 ⟨tn, tv, to_, rfl, hRw, hNw, g8⟩
          obtain ⟨tva, tcap, rfl, -, -⟩ := hRw.val
          have htn : tn ≤ 30 := by have := reachR_len l R S; rw [hRw.ints_len, HL.out] at this; omega
          obtain ⟨T, hT⟩ : ∃ T, reachR l R S = T := ⟨_, rfl⟩
          rw [hT] at hRw
          have HT := Lib.hid hT
          have O9 := Lib.hid (O8.out.rI_new hRw hNw g8)
          clear k0 k1 hbl hRw hNw g8 hT O8 SN
          have DN := Lib.hid (show Row w8 3 1 (.slice ea en ec) eo en (ints d) from O9.out.get 5 rfl).nums
          have TN := Lib.hid (show Row w8 3 1 (.slice tva tn tcap) to_ tn (ints T) from O9.out.get 0 rfl).nums
          go_wp2_with fail
          go_loopg [21, 22] en (fun k v iv wz => ∃ i : Nat, i + k = en ∧ iv = .int .i64 i ∧ v = .bool (covTo d T i) ∧ wz = w8)
          case atStart => exact ⟨0, by omega, rfl, rfl, rfl⟩
          case round =>
            obtain ⟨i, hi2, rfl, rfl, rfl⟩ := hrel
            obtain ⟨t, ht⟩ : ∃ t, covTo d T i = t := ⟨_, rfl⟩
            rw [ht]
            have HTT := Lib.hid ht
            clear ht
            by_cases hlt : i < en
            · obtain ⟨xb, xoff, rfl, hxb, cx⟩ := DN.out.at_ i hlt
              have TK := Lib.hid (covTo_succ (d := d) (r := T) (j := i) (by rw [HEN.out]; exact hlt))
              obtain ⟨x, hx⟩ : ∃ x, nthI d i = x := ⟨_, rfl⟩
              rw [hx, HTT.out] at TK
              rw [hx] at cx
              clear hx
              go_wp2_with fail
              refine (has_any tva tn tcap T x _ TN.out (by omega)).mono ?_
              rintro e wa ⟨rfl, rfl⟩
              obtain ⟨p, hp⟩ : ∃ p, decide (x ∈ T) = p := ⟨_, rfl⟩
              rw [hp] at TK ⊢
              clear hp
              cases t with
              | true =>
                go_wp2_with fail
                go_roundg (en - (i + 1))
                case measure => omega
                case rel => exact ⟨i + 1, by omega, by go_num, by rw [TK.out]; rfl, rfl⟩
              | false =>
                go_wp2_with fail
                go_roundg (en - (i + 1))
                case measure => omega
                case rel => exact ⟨i + 1, by omega, by go_num, by rw [TK.out]; rfl, rfl⟩
            · obtain rfl : i = en := by omega
              clear hlt hi2
              have O9R := Lib.hid (show Row wr 3 1 (.slice wva wn wcap) wo wn (ints W) from O9.out.get 2 rfl)
              have DR := Lib.hid (show Row wr 3 1 (.slice ea i ec) eo i (ints d) from O9.out.get 5 rfl)
              have UR := Lib.hid (show Row wr 3 1 (.slice uva un ucap) uo un (ints d) from O9.out.get 1 rfl)
              go_wp2_with fail
              refine (ints_any _ _ _ _ _ _ W d _ O9R.out DR.out (by omega) (by omega)).mono ?_
              rintro e w9 ⟨rfl, q9, hq9⟩
              have G9 := Lib.hid (show But (fun _ => False) wr w9 from by rw [hq9]; exact (But.refl _ _).drewN _)
              have UR9 := Lib.hid (UR.out.keep G9.out)
              have DR9 := Lib.hid (DR.out.keep G9.out)
              clear hq9
              obtain ⟨jj, hjj⟩ : ∃ jj, decide (W = d) = jj := ⟨_, rfl⟩
              rw [hjj]
              have HJ := Lib.hid hjj
              clear hjj
              go_wp2_with fail
              refine (ints_same _ _ _ _ _ _ d _ UR9.out DR9.out (by have := HEN.out; omega)).mono ?_
              rintro e w10 ⟨rfl, g10⟩
              have O10 := Lib.hid (O9.out.same (G9.out.trans g10))
              clear g10 UR9 DR9 UR DR O9R G9 DN TN O9
              have JT := Lib.hid (show t = true → jj = true from fun h => by
                rw [← HJ.out]
                refine decide_eq_true ?_
                rw [← HW.out, ← HDD.out]
                refine white_just T1.out (fun k hk hp => covered_some RT.out (fun x hx => ?_) hk hp)
                rw [HDD.out] at hx
                rw [HT.out]
                exact covTo_all (by rw [HEN.out, HTT.out]; exact h) x hx)
              clear HTT HJ HT
              have WD := Lib.hid (show ∀ x, x ∈ W → x ∈ d from fun x hx => by
                rw [← HDD.out]
                rw [← HW.out] at hx
                exact white_dead T1.out (fun k hk => by rw [countsOf_nth hk]; exact Int.le_refl _) x hx)
              rcases (show (t = true ∧ jj = true) ∨ t = false by
                cases t
                · exact .inr rfl
                · exact .inl ⟨rfl, JT.out rfl⟩) with ⟨rfl, rfl⟩ | rfl
              all_goals
                clear JT
                have DN := Lib.hid (show Row w10 3 1 (.slice ea i ec) eo i (ints d) from O10.out.get 5 rfl).nums
                have WN := Lib.hid (show Row w10 3 1 (.slice wva wn wcap) wo wn (ints W) from O10.out.get 2 rfl).nums
                go_wp2_with fail
                go_loopg [26] wn (fun k iv wz => ∃ p : Nat, p + k = wn ∧ iv = .int .i64 p ∧ wz = w10)
                case atStart => exact ⟨0, by omega, rfl, rfl⟩
                case round =>
                  obtain ⟨p, hp, rfl, rfl⟩ := hrel
                  by_cases hlt : p < wn
                  · obtain ⟨xb, xoff, rfl, hxb, cx⟩ := WN.out.at_ p hlt
                    have XD := Lib.hid (show nthI W p ∈ d from WD.out _ (nthI_mem (by rw [HWN.out]; exact hlt)))
                    obtain ⟨x, hx⟩ : ∃ x, nthI W p = x := ⟨_, rfl⟩
                    rw [hx] at cx XD
                    clear hx
                    go_wp2_with fail
                    refine (has_any ea i ec d x _ DN.out (by omega)).mono ?_
                    rintro e wa ⟨rfl, rfl⟩
                    rw [decide_eq_true XD.out]
                    go_wp2_with fail
                    go_roundg (wn - (p + 1))
                    case measure => omega
                    case rel => exact ⟨p + 1, by omega, by go_num, rfl⟩
                  · obtain rfl : p = wn := by omega
                    clear hlt hp DN WN
                    have CNT0 := Lib.hid (show Grow l R (countsOf l R) 0 from ⟨countsOf_length l R, fun k hk => by rw [countsOf_nth hk]; have := CB.out k; omega, fun k _ hk => countsOf_nth hk⟩)
                    go_wp2_with fail
                    go_loopg [28] j (fun k iv wz => ∃ (g : Nat) (s : List Int), g + k = j ∧ iv = .int .i64 g ∧ Grow l R s g ∧ Own w wz [rI (.slice tva tn tcap) to_ tn T, rI (.slice uva un ucap) uo un d, rI (.slice wva p wcap) wo p W, rI (.slice sv m scap) oy m S, rI (.slice av j acap) oz j (idsOf l), rI (.slice ea i ec) eo i d, rI (.slice ca j cc) co j s, boxP b a j cap ra rn rc])
                    case atStart => exact ⟨0, _, by omega, rfl, CNT0.out, O10.out⟩
                    case round =>
                      clear CNT0 O10
                      obtain ⟨g, s, hg, rfl, hgr, hO⟩ := hrel
                      have HO := Lib.hid hO
                      have GR := Lib.hid hgr
                      clear hO hgr
                      by_cases hgo : g < j ∧ g < mn
                      · obtain ⟨hg1, hg2⟩ := hgo
                        have hgl : g < l.length := by rw [HL.out]; exact hg1
                        obtain ⟨cb, coff, rfl, hco, hcl, cc0, cf0, -⟩ := row_nth (show Row wr 3 1 (.slice ca j cc) co j (ints s) from HO.out.get 6 rfl) hg1
                        obtain ⟨mb, moff, rfl, hmb, hmc⟩ := (HME.out.but HO.out.but (fun _ _ q => q)).at_ g hg2
                        obtain ⟨hM0, hM1, hMV⟩ := HM.out g hg2
                        have mc0 := hmc 0 (by decide)
                        rw [hMV, show moff + (g * 1 + 0) = moff + g by omega] at mc0
                        obtain ⟨y, hy⟩ : ∃ y, M g = y := ⟨_, rfl⟩
                        rw [hy] at hM0 hM1 mc0
                        have hvg := GR.out.2.2 g (Nat.le_refl _) hgl
                        have hcb2 := CB.out g
                        rw [hvg] at cc0
                        obtain ⟨v, hv⟩ : ∃ v, countOf l R g = v := ⟨_, rfl⟩
                        rw [hv] at cc0 hcb2
                        have hv1 := hcb2.1
                        have hv2 := hcb2.2
                        have NXT := Lib.hid (show Grow l R (s.set g (v + y)) (g + 1) from GR.out.next hgl (by omega) (by omega))
                        have O11 := Lib.hid (show ∀ wd, But (fun _ => False) wr wd → Own w (wd.setCell ⟨cb, coff + g, none⟩ (.int .i64 (v + y))) [rI (.slice tva tn tcap) to_ tn T, rI (.slice uva un ucap) uo un d, rI (.slice wva p wcap) wo p W, rI (.slice sv m scap) oy m S, rI (.slice av j acap) oz j (idsOf l), rI (.slice ea i ec) eo i d, rI (.slice (some ⟨cb, coff, none⟩) j cc) co j (s.set g (v + y)), boxP b a j cap ra rn rc] from fun wd gd => by
                          have h1 : Row wd 3 1 (.slice (some ⟨cb, coff, none⟩) j cc) co j (ints s) := (HO.out.same gd).get 6 rfl
                          have h2 := h1.set (j := g) (by omega) (.int .i64 (v + y))
                          rw [ints_set] at h2
                          exact (HO.out.same gd).put 6 (q := rI (.slice (some ⟨cb, coff, none⟩) j cc) co j (s.set g (v + y))) rfl h2 ((But.one cb (coff + g) (.int .i64 (v + y))).mono (fun k hk => .inl (by subst hk; exact hco))) (fun k q => .inl q))
                        clear hvg hcb2 hv hy hmc hMV hgl
                        go_wp2_with fail
                        go_still_tail 13, (by kernel_rfl)
                        change wpList _ _ _ _ _ wr.drew
                        obtain ⟨wd, hwd⟩ : ∃ wd, wd = wr.drew := ⟨_, rfl⟩
                        have GD := Lib.hid (show But (fun _ => False) wr wd by rw [hwd]; exact (But.refl _ _).drew)
                        have cc1 : wd.cell? ⟨cb, coff + g, none⟩ = some (.int .i64 v) := by rw [hwd]; exact cc0
                        have cf1 : wd.frozen? ⟨cb, coff + g, none⟩ = false := by rw [hwd]; exact cf0
                        have mc1 : wd.cell? ⟨mb, moff + g, none⟩ = some (.int .u8 y) := by rw [hwd]; exact mc0
                        rw [← hwd]
                        clear hwd cc0 cf0 mc0
                        go_wp2_with fail
                        go_roundg (j - (g + 1))
                        case measure => omega
                        case rel => exact ⟨g + 1, _, by omega, by go_num, NXT.out, O11.out wd GD.out⟩
                      · have SG := Lib.hid (show ∀ k, nthI s k ≤ 9223372036854775807 from fun k => by
                          by_cases hk : k < l.length
                          · have := (GR.out.2.1 k hk).2; omega
                          · unfold nthI; rw [List.getD_eq_getElem?_getD, List.getElem?_eq_none (by rw [GR.out.1]; omega)]; show (0 : Int) ≤ _; decide)
                        have T3 := Lib.hid (own_trial (C := idsOf l) (cnt := s) RT.out (all_known l) GR.out.1 (fun k hk => (GR.out.2.1 k hk).1))
                        have CN := Lib.hid (show Row wr 3 1 (.slice ca j cc) co j (ints s) from HO.out.get 6 rfl).nums
                        have AN := Lib.hid (show Row wr 3 1 (.slice av j acap) oz j (ints (idsOf l)) from HO.out.get 4 rfl).nums
                        obtain ⟨k0, k1, hbl⟩ := box_at (HO.out.get 7 rfl)
                        have HB := Lib.hid (show Blk wr b #[.slice a j cap, .slice ra rn rc] 47 from HO.out.get 7 rfl)
                        rcases (show (g < j ∧ mn ≤ g) ∨ j ≤ g by omega) with ⟨hg1, hg2⟩ | hg1
                        all_goals
                          go_wp2_with fail
                          refine (white_any a j cap l ra rn rc R ca j cc s av j acap (idsOf l) _ (H.out.keep HO.out.but) (HR.out.keep HO.out.but) CN.out AN.out (by omega) (by omega) OUT.out (by omega) (by omega) SG.out).mono ?_
                          rintro e w11 ⟨fn, fv, fo, rfl, hRf, hNf, g11⟩
                          rw [show whiteE l R s (idsOf l) = 0 by unfold whiteE; rw [if_pos T3.out]]
                          obtain ⟨fva, fcap, rfl, -, -⟩ := hRf.val
                          obtain ⟨FW, hFW⟩ : ∃ FW, whiteR l R s (idsOf l) = FW := ⟨_, rfl⟩
                          have hfn : fn ≤ 30 := by have := whiteR_len l R s (idsOf l); rw [hRf.ints_len, HL.out] at this; omega
                          rw [hFW] at hRf
                          have FD := Lib.hid (show ∀ x, x ∈ FW → x ∈ d from fun x hx => by
                            rw [← HDD.out]
                            rw [← hFW] at hx
                            exact white_dead T3.out (fun k hk => (GR.out.2.1 k hk).1) x hx)
                          have FN := Lib.hid hRf.nums
                          have FL := Lib.hid hRf.ints_len
                          have DN := Lib.hid (show Row w11 3 1 (.slice ea i ec) eo i (ints d) from (HO.out.same g11).get 5 rfl).nums
                          have G11 := Lib.hid (HO.out.but.trans g11)
                          clear hRf hNf g11 hFW k0 k1 hbl
                          go_wp2_with fail
                          go_loopg [31] fn (fun k iv wz => ∃ p : Nat, p + k = fn ∧ iv = .int .i64 p ∧ wz = w11)
                          case atStart => exact ⟨0, by omega, rfl, rfl⟩
                          case round =>
                            obtain ⟨p2, hp2, rfl, rfl⟩ := hrel
                            by_cases hlt : p2 < fn
                            · obtain ⟨xb, xoff, rfl, hxb, cx⟩ := FN.out.at_ p2 hlt
                              have XD := Lib.hid (show nthI FW p2 ∈ d from FD.out _ (nthI_mem (by rw [FL.out]; exact hlt)))
                              obtain ⟨x, hx⟩ : ∃ x, nthI FW p2 = x := ⟨_, rfl⟩
                              rw [hx] at cx XD
                              clear hx
                              go_wp2_with fail
                              refine (has_any ea i ec d x _ DN.out (by omega)).mono ?_
                              rintro e wa ⟨rfl, rfl⟩
                              rw [decide_eq_true XD.out]
                              go_wp2_with fail
                              go_roundg (fn - (p2 + 1))
                              case measure => omega
                              case rel => exact ⟨p2 + 1, by omega, by go_num, rfl⟩
                            · obtain rfl : p2 = fn := by omega
                              go_wp2_with fail
                              refine (trial_alive _).mono ?_
                              rintro e w12 ⟨rfl, g12⟩
                              go_wp2_with fail
                              go_ret
                              exact ⟨rfl, G11.out.trans g12⟩

end Graph
end Go.Proofs.Ytldgjmgdbaeglaa
