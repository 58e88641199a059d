/- The program's Reach of layer 10, walked (DRAFT). -/
import Derived.Test.YtldgjmgdbaeglaaGraphDfs
import Derived.Test.YtldgjmgdbaeglaaSliceCalls
import Derived.Test.YtldgjmgdbaeglaaGraphRef5
import Derived.Test.YtldgjmgdbaeglaaNumsApp
set_option linter.unusedVariables false
set_option linter.unusedSimpArgs false
namespace Go.Proofs.Ytldgjmgdbaeglaa
open Go.RowKit

namespace Graph

/-- What Reach has: the list to do, the marks, the map, the box. -/
def reaching (v : Value) (o : Option Nat) (q : Nat) (todo : List Int) (ib : Nat) (s : List Bool) (mb : Nat) (L : List (Int × Value)) (b : Nat) (a : Option Addr) (n cap : Nat) (ra : Option Addr) (rn rc : Nat) : List Pc :=
  [Pc.row 3 1 v o q (ints todo), Pc.row 4 1 (.slice (some ⟨ib, 0, none⟩) n n) (some ib) n (boolsV s), Pc.mp mb L, Pc.blk b #[.slice a n cap, .slice ra rn rc] 47]

theorem weight_le {l : List Nd} {s : List Bool} : ∀ j, (∀ i, i < j → (nd l i).out.length ≤ 1000000) → weight l s j ≤ j * 1000001
  | 0, _ => by simp [weight]
  | j + 1, h => by
    have h1 := weight_le (l := l) (s := s) j (fun i hi => h i (by omega))
    have h2 := h j (by omega)
    have h3 : (if nthB s j = true then 0 else (nd l j).out.length + 1) ≤ 1000001 := by
      by_cases c : nthB s j = true
      · rw [if_pos c]; exact Nat.zero_le _
      · rw [if_neg c]; exact Nat.succ_le_succ h2
    rw [Nat.add_mul, Nat.one_mul]
    exact Nat.add_le_add h1 h3
/-- Marks that are the same tell the same. -/
theorem tell_same {l : List Nd} {s t : List Bool} (j : Nat) (h : ∀ i, i < j → nthB s i = nthB t i) : tellTo l s j = tellTo l t j := by
  unfold tellTo
  congr 1
  refine List.filter_congr (fun i hi => h i (by simpa using hi))
theorem reach_dfs {l : List Nd} {R f : List Int} {s : List Bool} (hr : rightB l R = true) (h : Dfs l f s []) : reachR l R f = tellTo l s l.length := by
  rw [reachR_yes hr]
  refine tell_same _ (fun i hi => ?_)
  rw [Bool.eq_iff_iff, reach_iff l f hi, h.done hi]
theorem reaching.cells {w w2 : World} {v : Value} {o : Option Nat} {q : Nat} {todo : List Int} {ib : Nat} {s : List Bool} {mb : Nat} {L : List (Int × Value)} {b : Nat} {a : Option Addr} {n cap : Nat} {ra : Option Addr} {rn rc : Nat} (h : Own w w2 (reaching v o q todo ib s mb L b a n cap ra rn rc)) :
    w2.cell? ⟨b, 0, none⟩ = some (.slice a n cap) ∧ w2.cell? ⟨b, 1, none⟩ = some (.slice ra rn rc) ∧ b < w2.heap.size := by
  have h1 : Blk w2 b #[.slice a n cap, .slice ra rn rc] 47 := h.get 3 rfl
  exact ⟨h1.cell 0, h1.cell 1, h1.lt⟩

set_option maxHeartbeats 8000000 in
set_option maxRecDepth 100000 in
theorem reach_any (a : Option Addr) (n cap : Nat) (l : List Nd) (ra : Option Addr) (rn rc : Nat) (R : List Int) (fa : Option Addr) (fn fc : Nat) (F : List Int) (w : World) (h : Nodes w a n l) (hr : Nums w ra rn R) (hf : Nums w fa fn F)
    (hn : n ≤ 65536) (hrn : rn ≤ 1000000) (hfn : fn ≤ 1000000) (ho : ∀ i, i < n → (nd l i).out.length ≤ 1000000) :
    Calls Try.prog 31 #[.agg #[.slice a n cap, .slice ra rn rc], .slice fa fn fc] w fun e w' => ∃ m, Copied (ints (reachR l R F)) m w e w' := by
  obtain ⟨i0, hi, hz0, hz1, hz2⟩ := info_parts infoInt
  have H := Lib.hid h
  have HR := Lib.hid hr
  have HF := Lib.hid hf
  have HL := Lib.hid h.len
  have OUT := Lib.hid ho
  clear h hr hf ho
  have G0 := (But.refl (fun _ => False) w).alloc (.cells #[.slice a n cap, .slice ra rn rc] 47)
  have O0 := boxed.start (w := w) (a := a) (n := n) (cap := cap) (ra := ra) (rn := rn) (rc := rc) (But.refl _ _)
  obtain ⟨k0, k1, -⟩ := boxed.cells O0
  go_enter Try.func31, Try.ntmps31
  go_wp2_with fail
  go_step3
  go_wp2_with fail
  refine (right_any a n cap l ra rn rc R _ (H.out.keep G0) (HR.out.keep G0) (by omega) hrn OUT.out).mono ?_
  rintro e w2 ⟨rfl, g2⟩
  have O2 := Lib.hid (O0.same g2)
  obtain ⟨b, hb⟩ : ∃ b, b = w.heap.size := ⟨_, rfl⟩
  rw [← hb] at O2 ⊢
  clear k0 k1 O0 G0 g2 hb
  cases hrt : rightB l R with
  | false =>
    have HRT := Lib.hid hrt
    clear hrt
    go_wp2_with fail
    rw [Exit.noGoto_ret]
    go_ret
    refine ⟨0, ?_⟩
    rw [reachR_no HRT.out]
    exact boxed.copied O2.out
  | true =>
    have HRT := Lib.hid hrt
    have RP := Lib.hid (right_parts hrt)
    obtain ⟨k0, k1, hbl⟩ := boxed.cells O2.out
    clear hrt
    go_wp2_with fail
    refine (places_any a n cap l ra rn rc _ (H.out.keep O2.out.but) (by omega)).mono ?_
    rintro e w3 ⟨mb, rfl, hM, hmb, g3⟩
    have O3 := Lib.hid (O2.out.drop.add (q := Pc.mp mb (placesTo l n)) hM g3 (fun k q => by have : k = mb := q; omega))
    clear k0 k1 hbl hM hmb g3
    have hB3 : Blk w3 b #[.slice a n cap, .slice ra rn rc] 47 := O3.out.get 1 rfl
    have k0 : w3.cell? ⟨b, 0, none⟩ = some (.slice a n cap) := hB3.cell 0
    have k1 : w3.cell? ⟨b, 1, none⟩ = some (.slice ra rn rc) := hB3.cell 1
    have hbl := hB3.lt
    have hmk := mk_boolsV n hn w3
    clear hB3
    go_wp2_with fail
    obtain ⟨ib, hib⟩ : ∃ ib, ib = w3.heap.size := ⟨_, rfl⟩
    have O4 := Lib.hid (O3.out.add (q := Pc.row 4 1 (.slice (some ⟨ib, 0, none⟩) n n) (some ib) n (boolsV (List.replicate n false))) (by rw [hib]; exact Row.new w3 _ 1 n _ (by rw [boolsV_length, List.length_replicate]) (by unfold maxLen; omega)) ((But.refl _ _).alloc _) (fun k hk => by have : some ib = some k := hk; injection this; omega))
    rw [← hib]
    clear hmk k0 k1 hbl hib O3 O2
    refine (clone_any fa fn fc F _ (HF.out.keep O4.out.but) (by omega)).mono ?_
    rintro e w5 ⟨v5, o5, rfl, hR5, hN5, hB5⟩
    have O5 : Own w w5 (reaching v5 o5 fn F ib (List.replicate n false) mb (placesTo l n) b a n cap ra rn rc) := O4.out.add (q := Pc.row 3 1 v5 o5 fn (ints F)) hR5 hB5 (fun k hk => hN5 k hk)
    have O5 := Lib.hid O5
    have D5 := Lib.hid (show Dfs l F (List.replicate n false) F by have := dfs_start l F; rw [HL.out] at this; exact this)
    obtain ⟨av5, acap5, rfl, -, -⟩ := hR5.val
    clear hR5 hN5 hB5 O4
    go_wp2_with fail
    go_step3
    go_wp2_with fail
    go_loopg [7] (fn + weight l (List.replicate n false) n) (fun k v wr => ∃ (q : Nat) (todo : List Int) (o : Option Nat) (s : List Bool), q + weight l s n ≤ k ∧ q + weight l s n ≤ 1000000000000 ∧ todo.length = q ∧ Own w wr (reaching v o q todo ib s mb (placesTo l n) b a n cap ra rn rc) ∧ Dfs l F s todo)
    case atStart => exact ⟨fn, F, _, _, Nat.le_refl _, by have := weight_le (l := l) (s := List.replicate n false) n OUT.out; omega, HF.out.len, O5.out, D5.out⟩
    case round =>
      clear O5 D5
      obtain ⟨q, todo, o, s, hk, hkb, hql, hO, hD⟩ := hrel
      have hRw : Row wr 3 1 _ o q (ints todo) := hO.get 0 rfl
      obtain ⟨av, acap, rfl, hac, hac2⟩ := hRw.val
      have HRW := Lib.hid hRw
      have HO := Lib.hid hO
      have HD := Lib.hid hD
      have HQL := Lib.hid hql
      have HMP := Lib.hid (show Mp wr mb (fun n : Int => Value.int .i64 n) (placesTo l n) from hO.get 2 rfl)
      have hB : Blk wr b #[.slice a n cap, .slice ra rn rc] 47 := hO.get 3 rfl
      have k0 : wr.cell? ⟨b, 0, none⟩ = some (.slice a n cap) := hB.cell 0
      have hbl := hB.lt
      clear hRw hO hD hql hB
      by_cases hq : 0 < q
      · obtain ⟨j, rfl⟩ : ∃ j, q = j + 1 := ⟨q - 1, by omega⟩
        obtain ⟨tb, toff, rfl, hto, htb, ct, -, -⟩ := row_nth HRW.out (show j < j + 1 by omega)
        obtain ⟨x, hx⟩ : ∃ x, nthI todo j = x := ⟨_, rfl⟩
        rw [hx] at ct
        have HTX := Lib.hid (show todo = todo.take j ++ [x] by
          have h1 : todo.take (j + 1) = todo := List.take_of_length_le (by rw [HQL.out]; exact Nat.le_refl _)
          have h2 := take_succ_getD (xs := todo) (j := j) (by rw [HQL.out]; omega)
          rw [h1] at h2
          rw [← hx]; exact h2)
        clear hx
        have hjb : (j : Int) ≤ 9223372036854775806 := by unfold maxLen at hac2; omega
        have hja : j ≤ acap := by omega
        have hja0 : 0 < acap := by omega
        clear hac hac2
        have HFI := Lib.hid (show Row wr 3 1 (.slice (some ⟨tb, toff, none⟩) j acap) o j (ints (todo.take j)) from by
          have := HRW.out.firsts (k := j) (by omega)
          rw [Nat.mul_one] at this
          unfold ints at this ⊢
          rw [List.map_take]; exact this)
        have OJ := Lib.hid (show Own w wr (reaching (.slice (some ⟨tb, toff, none⟩) j acap) o j (todo.take j) ib s mb (placesTo l n) b a n cap ra rn rc) from HO.out.put 0 (q := Pc.row 3 1 (.slice (some ⟨tb, toff, none⟩) j acap) o j (ints (todo.take j))) rfl HFI.out (But.refl _ _) (fun k q => .inl q))
        have HLJ := Lib.hid (show (todo.take j).length = j by rw [List.length_take, HQL.out]; omega)
        rcases places_look (l := l) (x := x) n with ⟨hl, hno⟩ | ⟨i, hin, hie, hl⟩
        · have LK := Lib.hid (show (look (placesTo l n) x).getD (.int .i64 0) = .int .i64 0 by rw [hl]; rfl)
          have LS := Lib.hid (show (look (placesTo l n) x).isSome = false by rw [hl]; rfl)
          have DJ := Lib.hid (show Dfs l F s (todo.take j) from by
            have := HD.out
            rw [HTX.out] at this
            exact this.skip (fun i hi e => absurd e (hno i (by rw [← HL.out]; exact hi))))
          clear hl hno
          go_wp2_with (at_lookup; refine wpList_look2 HMP.out rfl _ _ _ rfl keyI Try.underlying85 (.int .i64 0) (zeroInt _) rfl x rfl _ LK.out false LS.out ?_)
          go_roundg (j + weight l s n)
          case measure => omega
          case rel => exact ⟨j, todo.take j, o, s, Nat.le_refl _, by omega, HLJ.out, OJ.out, DJ.out⟩
        · have LK := Lib.hid (show (look (placesTo l n) x).getD (.int .i64 0) = .int .i64 (i : Int) by rw [hl]; rfl)
          have LS := Lib.hid (show (look (placesTo l n) x).isSome = true by rw [hl]; rfl)
          have hRb : Row wr 4 1 (.slice (some ⟨ib, 0, none⟩) n n) (some ib) n (boolsV s) := HO.out.get 1 rfl
          obtain ⟨-, mi, fi⟩ := row_nthB hRb hin
          rw [Nat.zero_add] at mi fi
          clear hRb hl
          cases hbi : nthB s i with
          | true =>
            rw [hbi] at mi
            have DJ := Lib.hid (show Dfs l F s (todo.take j) from by
              have := HD.out
              rw [HTX.out] at this
              exact this.skip (fun i2 hi2 e => by
                have : i2 = i := rise_inj RP.out.2.1 hi2 (by rw [HL.out]; exact hin) (e.trans hie.symm)
                rw [this]; exact hbi))
            clear hbi hie
            go_wp2_with (at_lookup; refine wpList_look2 HMP.out rfl _ _ _ rfl keyI Try.underlying85 (.int .i64 0) (zeroInt _) rfl x rfl _ LK.out true LS.out ?_)
            go_roundg (j + weight l s n)
            case measure => omega
            case rel => exact ⟨j, todo.take j, o, s, Nat.le_refl _, by omega, HLJ.out, OJ.out, DJ.out⟩
          | false =>
            rw [hbi] at mi
            have hil : i < l.length := by rw [HL.out]; exact hin
            have DJ := Lib.hid (show Dfs l F (s.set i true) (todo.take j ++ (nd l i).out) from by
              have := HD.out
              rw [HTX.out] at this
              exact this.take RP.out.2.1 hil hie)
            have WT := Lib.hid (show weight l (s.set i true) n + ((nd l i).out.length + 1) = weight l s n from by
              have := weight_set (l := l) (s := s) (i := i) (by rw [HD.out.len]; exact hil) hbi n
              rw [if_pos hin] at this; exact this)
            clear hbi hie
            have hnew : w.heap.size ≤ ib := HO.out.new 1 (by simp [reaching]) ib rfl
            obtain ⟨nb, off, oa, on, oc, hea, hnb, -, -, -, -, -⟩ := H.out.at_ i hin
            have hne : nb ≠ ib := by omega
            have hne2 : b ≠ ib := by
              intro e
              exact HO.out.apart 1 3 (by simp [reaching]) (by simp [reaching]) (by decide) ib rfl e.symm
            have OS := Lib.hid (show Own w (wr.setCell ⟨ib, i, none⟩ (.bool true)) (reaching (.slice (some ⟨tb, toff, none⟩) j acap) o j (todo.take j) ib (s.set i true) mb (placesTo l n) b a n cap ra rn rc) from by
              have h2 := (show Row wr 4 1 (.slice (some ⟨ib, 0, none⟩) n n) (some ib) n (boolsV s) from OJ.out.get 1 rfl).set (j := i) (by omega) (.bool true)
              rw [Nat.zero_add, boolsV_set] at h2
              exact OJ.out.put 1 (q := Pc.row 4 1 (.slice (some ⟨ib, 0, none⟩) n n) (some ib) n (boolsV (s.set i true))) rfl h2 ((But.one ib i (.bool true)).mono (fun k hk => .inl (by subst hk; rfl))) (fun k q => .inl q))
            clear hea hnb
            obtain ⟨nb', off', oa, on, oc, rfl, hnb, -, c1, -, -, hout⟩ := (H.out.keep OS.out.but).at_ i hin
            have OO := Lib.hid hout
            have hon : on ≤ 1000000 := by have := OUT.out i hin; rw [hout.len] at this; exact this
            clear hout
            have hjn : j + on ≤ 1000000000000 := by have := WT.out; rw [OO.out.len] at this; omega
            have RS : Row (wr.setCell ⟨ib, i, none⟩ (.bool true)) 3 1 (.slice (some ⟨tb, toff, none⟩) j acap) o j (ints (todo.take j)) := OS.out.get 0 rfl
            have HRS := Lib.hid RS
            clear RS
            go_wp2_with (first | (at_lookup; refine wpList_look2 HMP.out rfl _ _ _ rfl keyI Try.underlying85 (.int .i64 0) (zeroInt _) rfl x rfl _ LK.out true LS.out ?_) | (at_builtin; refine wpList_append_nums _ rfl _ _ rfl (.slice (some ⟨tb, toff, none⟩) j acap) o j (ints (todo.take j)) HRS.out rfl oa on oc (nd l i).out rfl OO.out hjn ?_; intro v4 w4 o4 hR4 hB4 hN4; have O4 := Lib.hid (OS.out.put 0 (q := Pc.row 3 1 v4 o4 (j + on) (ints (todo.take j ++ (nd l i).out))) rfl (by show Row _ _ _ _ _ _ _; rw [show ints (todo.take j ++ (nd l i).out) = ints (todo.take j) ++ ints (nd l i).out by simp [ints]]; exact hR4) hB4 hN4); obtain ⟨a4, cap4, rfl, -, -⟩ := hR4.val; clear hR4 hB4 hN4))
            go_roundg (j + on + weight l (s.set i true) n)
            case measure => have := WT.out; have := OO.out.len; omega
            case rel => exact ⟨j + on, _, o4, _, Nat.le_refl _, by have := WT.out; rw [OO.out.len] at this; omega, by rw [List.length_append, HLJ.out, OO.out.len], O4.out, DJ.out⟩
      · obtain rfl : q = 0 := by omega
        have HT0 := Lib.hid (show Dfs l F s [] from by have := HD.out; rw [List.eq_nil_of_length_eq_zero HQL.out] at this; exact this)
        have HEND := Lib.hid (show reachR l R F = tellTo l s n by rw [reach_dfs HRT.out HT0.out, HL.out])
        have OA := Lib.hid (HO.out.add (q := Pc.row 3 1 (.slice none 0 0) none 0 (ints (tellTo l s 0))) (Row.nil _ _ _) (But.refl _ _) (fun k q => by cases q))
        clear hk hkb
        go_wp2_with fail
        go_loopg [11, 67] n (fun k v iv wz => ∃ (m q : Nat) (oz : Option Nat), m + k = n ∧ iv = .int .i64 m ∧ q ≤ m ∧ Own w wz (Pc.row 3 1 v oz q (ints (tellTo l s m)) :: reaching (.slice av 0 acap) o 0 todo ib s mb (placesTo l n) b a n cap ra rn rc))
        case atStart => exact ⟨0, 0, none, by omega, rfl, Nat.le_refl _, OA.out⟩
        case round =>
          clear OA HO HRW HMP HD k0 hbl
          obtain ⟨m, q, oz, hm, rfl, hqm, hO⟩ := hrel
          obtain ⟨k0, k1, hbl⟩ := reaching.cells hO.drop
          have hRw : Row wr 3 1 _ oz q (ints (tellTo l s m)) := hO.get 0 rfl
          obtain ⟨av, acap, rfl, -, -⟩ := hRw.val
          have HRW := Lib.hid hRw
          have HO := Lib.hid hO
          clear hRw hO
          by_cases hmn : m < n
          · obtain ⟨-, mi, fi⟩ := row_nthB (show Row wr 4 1 (.slice (some ⟨ib, 0, none⟩) n n) (some ib) n (boolsV s) from HO.out.get 2 rfl) hmn
            rw [Nat.zero_add] at mi fi
            have hib : ib < wr.heap.size := (show Row wr 4 1 (.slice (some ⟨ib, 0, none⟩) n n) (some ib) n (boolsV s) from HO.out.get 2 rfl).lt rfl
            obtain ⟨nb, off, oa, on, oc, rfl, hnb, c0, c1, -, -, -⟩ := (H.out.keep HO.out.but).at_ m hmn
            obtain ⟨x, hx⟩ : ∃ x, (nd l m).id = x := ⟨_, rfl⟩
            rw [hx] at c0
            have HT := Lib.hid (tellTo_succ l s m)
            rw [hx] at HT
            clear hx
            cases hbi : nthB s m with
            | true =>
              rw [hbi] at mi HT
              have HT2 := Lib.hid (show tellTo l s (m + 1) = tellTo l s m ++ [x] by rw [HT.out, if_pos rfl])
              clear hbi HT
              go_wp2_with ((at_builtin; refine wpList_append_row _ rfl _ _ _ rfl 3 i0 (.int .i64 0) 1 8 Try.underlying43 hi hz0 hz1 hz2 rfl (by decide) (.slice av q acap) oz q (ints (tellTo l s m)) ((HRW.out.alloc _).alloc _) rfl ⟨wr.heap.size + 1, 0, none⟩ 1 1 [.int .i64 x] rfl rfl (new_src' _ _ _ (by simp)) (by simp [Value.oneCell']) (by unfold maxLen; omega) (by omega) ?_; intro v4 w4 o4 hR4 hB4 hN4; obtain ⟨a4, cap4, rfl, -, -⟩ := hR4.val; have O5 := Lib.hid (HO.out.put 0 (q := Pc.row 3 1 (.slice a4 (q + 1) cap4) o4 (q + 1) (ints (tellTo l s (m + 1)))) rfl (by show Row _ _ _ _ _ _ _; rw [HT2.out, ints_push]; exact hR4) ((((But.refl _ wr).alloc _).alloc _).trans hB4) (fun k hk => by rcases hN4 k hk with z | z; exact .inl z; (try simp at z); exact .inr (by omega))); clear hR4 hB4 hN4))
              go_roundg (n - (m + 1))
              case measure => omega
              case rel => exact ⟨m + 1, q + 1, o4, by omega, by go_num, by omega, O5.out⟩
            | false =>
              rw [hbi] at mi HT
              have HT2 := Lib.hid (show tellTo l s (m + 1) = tellTo l s m by rw [HT.out]; rfl)
              have O5 := Lib.hid (HO.out.same ((But.refl (fun _ => False) wr).alloc (.cells #[.int .i64 x, .slice oa on oc] 54)))
              clear hbi HT
              go_wp2_with fail
              go_roundg (n - (m + 1))
              case measure => omega
              case rel => exact ⟨m + 1, q, oz, by omega, by go_num, by omega, by rw [HT2.out]; exact O5.out⟩
          · obtain rfl : m = n := by omega
            go_wp2_with fail
            rw [Exit.noGoto_ret]
            go_ret
            refine ⟨q, ?_⟩
            rw [HEND.out]
            exact ⟨_, oz, rfl, HRW.out, fun k hk => HO.out.new 0 (by simp) k hk, HO.out.but⟩

end Graph
end Go.Proofs.Ytldgjmgdbaeglaa
