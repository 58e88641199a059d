/- The laws of layer 9 (queue), walked: they answer true. -/
import Derived.Test.YtboajbbnnbnpaaaQueueRef
import Derived.Test.YtboajbbnnbnpaaaReads
set_option linter.unusedVariables false
set_option linter.unusedSimpArgs false
namespace Go.Proofs.Ytboajbbnnbnpaaa
open Go.RowKit

namespace Queue

theorem Que.but {w w' : World} {b : Nat} {S : Nat → Prop} {order : List Int} {c : Int → Int} {M : Nat} (q : Que w b S order c M) {T : Nat → Prop} (hb : But T w w') (hd : ∀ k, S k → ¬ T k) : Que w' b S order c M := by
  obtain ⟨a, cap, ob, mb, L, hB, hR, hL, hlk, hlen, s1, s2, s3, hne⟩ := q.out
  exact ⟨⟨a, cap, ob, mb, L, hB.but hb (hd _ s1), hR.but hb (fun k hk => hd k (s3 k hk).1), hL.but hb (hd _ s2), hlk, hlen, s1, s2, s3, hne⟩, fun k hk => Nat.lt_of_lt_of_le (q.small k hk) hb.size, q.mem, q.nodup, q.cells, q.pos, q.most⟩
theorem Que.drewN {w : World} {b : Nat} {S : Nat → Prop} {order : List Int} {c : Int → Int} {M : Nat} (q : Que w b S order c M) (n : Nat) : Que (w.drewN n) b S order c M :=
  q.but (T := fun _ => False) ((But.refl _ _).drewN n) (fun _ _ h => h)

theorem pushed_firsts (L : List Int) (c : Int) : pushed (firsts L) (cnt L) c = firsts (L ++ [c]) := by
  unfold pushed
  rw [firsts_snoc]
  have h1 := cnt_pos L c
  have h2 := cnt_bd L c
  have h3 := firsts_mem L c
  by_cases h : c ∈ L
  · rw [if_neg (by have := h1.2 h; omega), if_pos (h3.2 h)]
  · rw [if_pos (by by_cases h' : 0 < cnt L c; exact absurd (h1.1 h') h; omega), if_neg (fun q => h (h3.1 q))]
theorem more_cnt (L : List Int) (c : Int) : more (cnt L) c = cnt (L ++ [c]) := by
  funext d
  unfold more
  rw [cnt_snoc]
  by_cases h : d = c
  · subst h; simp
  · rw [if_neg h, if_neg (fun e => h e.symm)]; simp
theorem but_head (x : Int) (l : List Int) : but x (x :: l) = but x l := by unfold but; simp
theorem but_notin (x : Int) (l : List Int) : x ∉ but x l := by unfold but; simp
theorem but_mem (x y : Int) (l : List Int) (h : y ≠ x) : y ∈ but x l ↔ y ∈ l := by unfold but; simp [h]
theorem firsts_head (x : Int) (l : List Int) : firsts (x :: l) = x :: firsts (but x l) := by
  suffices h : ∀ n (l : List Int), l.length = n → firsts (x :: l) = x :: firsts (but x l) from h _ l rfl
  intro n
  induction n with
  | zero => intro l hl; obtain rfl := List.eq_nil_of_length_eq_zero hl; rfl
  | succ n ih =>
    intro l hl
    obtain ⟨m, y, rfl⟩ : ∃ m y, l = m ++ [y] := by
      rcases List.eq_nil_or_concat l with rfl | ⟨m, y, rfl⟩
      · simp at hl
      · exact ⟨m, y, by simp⟩
    have := ih m (by simp at hl; omega)
    rw [show x :: (m ++ [y]) = (x :: m) ++ [y] from rfl, firsts_snoc, this, but_snoc]
    by_cases h : y = x
    · subst h; simp
    · rw [if_neg h, firsts_snoc]
      by_cases h2 : y ∈ firsts (but x m)
      · rw [if_pos h2, if_pos (by simp [h2])]
      · rw [if_neg h2, if_neg (by simp [h, h2])]; rfl
theorem gone_cnt (x : Int) (l : List Int) : gone (cnt (x :: l)) x = cnt (but x (x :: l)) := by
  funext d
  unfold gone
  by_cases h : d = x
  · subst h
    rw [if_pos rfl]
    have h1 := cnt_pos (but d (d :: l)) d
    have h2 := cnt_bd (but d (d :: l)) d
    by_cases h' : 0 < cnt (but d (d :: l)) d
    · exact absurd (h1.1 h') (but_notin d _)
    · omega
  · rw [if_neg h]
    unfold cnt but
    rw [List.filter_filter]
    congr 2
    apply List.filter_congr
    intro y _
    by_cases hy : y = d
    · simp [hy, h]
    · simp [hy]

set_option maxHeartbeats 2000000 in
set_option maxRecDepth 100000 in
theorem alive_any (w : World) :
    Calls Try.prog 30 #[] w fun e w' => e = .returned (.bool true) ∧ But (fun _ => False) w w' := by
  go_enter Try.func30, Try.ntmps30
  go_wp2_with fail
  refine (new_any _).mono ?_
  rintro e w1 ⟨b, S1, rfl, q1, n1, g1⟩
  go_wp2_with fail
  refine (push_any b S1 _ _ _ 5 _ q1 (by omega) (by omega) (by omega)).mono ?_
  rintro e w2 ⟨rfl, S2, q2, g2, n2⟩
  go_wp2_with fail
  refine (push_any b S2 _ _ _ 3 _ q2 (by omega) (by omega) (by omega)).mono ?_
  rintro e w3 ⟨rfl, S3, q3, g3, n3⟩
  go_wp2_with fail
  refine (push_any b S3 _ _ _ 5 _ q3 (by omega) (by omega) (by omega)).mono ?_
  rintro e w4 ⟨rfl, S4, q4, g4, n4⟩
  go_wp2_with fail
  refine (push_no _ 192 _ (by omega)).mono ?_
  rintro e w5 ⟨rfl, rfl⟩
  have e1 : pushed (pushed (pushed [] (fun _ => 0) 5) (more (fun _ => 0) 5) 3) (more (more (fun _ => 0) 5) 3) 5 = [5, 3] := by decide
  have e2 : more (more (more (fun _ => 0) 5) 3) 5 5 = 2 := by decide
  have e3 : gone (more (more (more (fun _ => 0) 5) 3) 5) 5 3 = 1 := by decide
  have e4 : gone (gone (more (more (more (fun _ => 0) 5) 3) 5) 5) 3 5 = 0 := by decide
  rw [e1] at q4
  generalize hf : more (more (more (fun _ => 0) 5) 3) 5 = f at q4 e2 e3 e4
  have p1 := fun w q => pending_any b S4 [5, 3] f (0 + 1 + 1 + 1) 5 w q
  rw [e2] at p1
  have P1 := Lib.hid p1
  clear p1 e1 hf
  go_wp2_with fail
  refine (P1.out _ q4).mono ?_
  rintro e w5 ⟨rfl, rfl⟩
  go_wp2_with fail
  refine (all_any b S4 _ _ _ _ q4).mono ?_
  rintro e w5 ⟨v5, o5, rfl, r5, n5, g5⟩
  obtain ⟨a5, cap5, rfl, _, _⟩ := r5.val
  have q5 := q4.but g5 (fun _ _ h => h)
  have p2 := pop_some b S4 5 [3] f _ _ q5
  rw [e2] at p2
  have P2 := Lib.hid p2
  clear p2
  go_wp2_with fail
  refine P2.out.mono ?_
  rintro e w6 ⟨rfl, S6, q6, g6, n6⟩
  have p3 := pop_some b S6 3 [] _ _ _ q6
  rw [e3] at p3
  have P3 := Lib.hid p3
  clear p3
  go_wp2_with fail
  refine P3.out.mono ?_
  rintro e w7 ⟨rfl, S7, q7, g7, n7⟩
  go_wp2_with fail
  refine (pop_none b S7 _ _ _ q7).mono ?_
  rintro e w8 ⟨rfl, rfl⟩
  have h4 : ∀ k, o5 = some k → ¬ S4 k := fun k hk h => by have := q4.small k h; have := n5 k hk; omega
  have h6 : ∀ k, o5 = some k → ¬ S6 k := fun k hk h => by
    rcases n6 k h with h | h
    · exact h4 k hk h
    · have := r5.lt hk; omega
  have r8 : Row w7 3 1 (.slice a5 2 cap5) o5 2 (ints [5, 3]) := (r5.but g6 h4).but g7 h6
  have R8 := Lib.hid r8
  go_wp2_with fail
  refine (ints_any (.slice a5 2 cap5) (.slice (some ⟨w7.heap.size, 0, none⟩) 2 2) o5 (some w7.heap.size) 2 2 [5, 3] [5, 3] _ (R8.out.alloc _) (Row.new w7 3 1 2 [.int .i64 5, .int .i64 3] rfl (by decide)) (by decide) (by decide)).mono ?_
  rintro e w9 ⟨rfl, m9, hw9⟩
  rw [decide_eq_true rfl]
  have p4 := pending_any b S7 [] (gone (gone f 5) 3) _ 5 w9 (by rw [hw9]; exact (q7.but (T := fun _ => False) ((But.refl _ _).alloc _) (fun _ _ h => h)).drewN _)
  rw [e4] at p4
  have P4 := Lib.hid p4
  have G9 : But (fun _ => False) w7 w9 := by rw [hw9]; exact ((But.refl _ _).alloc _).drewN _
  clear p4 hw9
  go_wp2_with fail
  refine P4.out.mono ?_
  rintro e w10 ⟨rfl, rfl⟩
  go_wp2_with fail
  go_ret
  have z1 := g1.size
  have z2 := g2.size
  have z3 := g3.size
  have z4 := g4.size
  have z5 := g5.size
  have m2 : ∀ k, S2 k → w.heap.size ≤ k := fun k hk => by rcases n2 k hk with h | h; exact n1 k h; omega
  have m3 : ∀ k, S3 k → w.heap.size ≤ k := fun k hk => by rcases n3 k hk with h | h; exact m2 k h; omega
  have m4 : ∀ k, S4 k → w.heap.size ≤ k := fun k hk => by rcases n4 k hk with h | h; exact m3 k h; omega
  have m6 : ∀ k, S6 k → w.heap.size ≤ k := fun k hk => by rcases n6 k hk with h | h; exact m4 k h; omega
  have G := (((((g1.trans' g2 (fun k hk => .inr (n1 k hk))).trans' g3 (fun k hk => .inr (m2 k hk))).trans' g4 (fun k hk => .inr (m3 k hk))).trans g5).trans' g6 (fun k hk => .inr (m4 k hk))).trans' g7 (fun k hk => .inr (m6 k hk))
  exact ⟨rfl, G.trans G9⟩

set_option maxHeartbeats 4000000 in
set_option maxRecDepth 100000 in
theorem plays_any (xa : Option Addr) (len cap : Nat) (V : Nat → Nat → Value) (K N : Nat → Int) (w : World)
    (hlen : len ≤ 9223372036854775807) (hE : Els w xa len 2 V)
    (h0 : ∀ i, i < len → V i 0 = .int .u8 (K i) ∧ 0 ≤ K i ∧ K i ≤ 255) (h1 : ∀ i, i < len → V i 1 = .int .i64 (N i) ∧ -9223372036854775808 ≤ N i ∧ N i ≤ 9223372036854775807) :
    Calls Try.prog 7 #[.slice xa len cap] w fun e w' => e = .returned (.bool true) ∧ But (fun _ => False) w w' := by
  by_cases hbig : 200 < len
  · go_enter Try.func7, Try.ntmps7
    go_wp2_with fail
    refine (alive_any _).mono ?_
    rintro e w1 ⟨rfl, g1⟩
    go_wp2_with fail
    go_ret
    exact ⟨rfl, g1⟩
  go_enter Try.func7, Try.ntmps7
  go_wp2_with fail
  refine (new_any _).mono ?_
  rintro e w1 ⟨b, S1, rfl, q1, n1, g1⟩
  go_wp2_with fail
  go_loopg [4, 5] len (fun k u i wr => ∃ (j nm M : Nat) (S : Nat → Prop) (L : List Int) (am : Option Addr) (capm : Nat) (om : Option Nat), j + k = len ∧ i = .int .i64 j ∧ u = .slice am nm capm ∧ Row wr 3 1 (.slice am nm capm) om nm (ints L) ∧ Que wr b S (firsts L) (cnt L) M ∧ M ≤ j ∧ nm ≤ j ∧ (∀ k, om = some k → w.heap.size ≤ k ∧ ¬ S k) ∧ (∀ k, S k → w.heap.size ≤ k) ∧ But (fun _ => False) w wr)
  case atStart =>
    have : cnt [] = fun _ => 0 := funext fun _ => rfl
    exact ⟨0, 0, 0, S1, [], none, 0, none, by omega, rfl, rfl, Row.nil _ _ _, by rw [this]; exact q1, by omega, by omega, (fun k hk => by cases hk), n1, g1⟩
  case round =>
    obtain ⟨j, nm, M, S, L, am, capm, om, hj, rfl, rfl, hRm, q, hM, hnm, hom, hS, hB⟩ := hrel
    have hLl := hRm.ints_len
    by_cases hlt : j < len
    · obtain ⟨xb, xoff, rfl, hab, hc⟩ := (hE.but hB (fun _ _ q => q)).at_ j hlt
      have hck : wr.cell? ⟨xb, xoff + (j * 2), none⟩ = some (.int .u8 (K j)) := by
        have := hc 0 (by omega)
        rw [(h0 j hlt).1] at this
        exact this
      have hcn : wr.cell? ⟨xb, xoff + (j * 2) + 1, none⟩ = some (.int .i64 (N j)) := by
        have := hc 1 (by omega)
        rw [(h1 j hlt).1] at this
        exact this
      have hK := (h0 j hlt).2
      have hN := (h1 j hlt).2
      clear hc
      by_cases h2 : K j % 3 = 2
      · have t2 : (K j % 3 == 2) = true := by simp [h2]
        clear h2
        cases L with
        | nil =>
          obtain rfl : nm = 0 := by simpa using hLl.symm
          go_wp2_with fail
          refine (pop_none b S _ M _ q).mono ?_
          rintro e w2 ⟨rfl, rfl⟩
          go_wp2_with fail
          refine (ref_pop_none _ am capm rfl _).mono ?_
          rintro e w2 ⟨rfl, rfl⟩
          go_wp2_with fail
          refine (all_any b S _ _ M _ q).mono ?_
          rintro e wa ⟨va, oa, rfl, hRa, hNa, hBa⟩
          obtain ⟨aa, capa, rfl, _, _⟩ := hRa.val
          have q3 := q.but hBa (fun _ _ q => q)
          have hRm3 := hRm.but hBa (fun _ _ q => q)
          go_wp2_with fail
          refine (ref_all _ om 0 ([] : List Int) _ hRm3 (by omega)).mono ?_
          rintro e wb ⟨vb, ob, rfl, hRb, hNb, hBb⟩
          obtain ⟨ab, capb, rfl, _, _⟩ := hRb.val
          have q4 := q3.but hBb (fun _ _ q => q)
          have hRm4 := hRm3.but hBb (fun _ _ q => q)
          have hfl := firsts_length ([] : List Int)
          have hnm := hRm4.ints_len
          have hRa4 := hRa.but hBb (fun _ _ q => q)
          have hBw := (hB.trans hBa).trans hBb
          have hEw := hE.but hBw (fun _ _ q => q)
          obtain ⟨ax, offx, ex, _, hcx⟩ := hEw.at_ j hlt
          obtain ⟨rfl, rfl⟩ : xb = ax ∧ xoff = offx := by simpa using ex
          have hcn4 : wb.cell? ⟨xb, xoff + (j * 2) + 1, none⟩ = some (.int .i64 (N j)) := by
            have := hcx 1 (by omega)
            rw [(h1 j hlt).1] at this
            exact this
          have HP := Lib.hid (And.intro q4 hRm4)
          have HNM := Lib.hid hnm
          clear hcx ex hEw hnm
          go_wp2_with fail
          refine (ints_any _ _ oa ob _ _ (firsts ([] : List Int)) (firsts ([] : List Int)) _ hRa4 hRb (by have := HNM.out; omega) (by have := HNM.out; omega)).mono ?_
          rintro e wc ⟨rfl, mc, hwc⟩
          rw [decide_eq_true rfl]
          have q5 : Que wc b S (firsts ([] : List Int)) (cnt ([] : List Int)) M := by rw [hwc]; exact HP.out.1.drewN _
          have hRm5 : Row wc 3 1 (.slice am 0 capm) om 0 (ints ([] : List Int)) := by rw [hwc]; exact HP.out.2.drewN _
          have hcn5 : wc.cell? ⟨xb, xoff + (j * 2) + 1, none⟩ = some (.int .i64 (N j)) := by rw [hwc]; exact hcn4
          have hBc : But (fun _ => False) w wc := by rw [hwc]; exact hBw.drewN _
          clear hfl hwc hcn4
          go_wp2_with fail
          go_quiet ((first | (go_at_call 39; exact quiet_same (pending_any b S _ _ M (N j) _ (q5.drewN _))) | (go_at_call 40; exact quiet_same (ref_pending _ om 0 ([] : List Int) (N j) _ (hRm5.drewN _) (by omega)))))
          go_wp2_with fail
          go_roundg (len - (j + 1))
          case measure => omega
          case rel => exact ⟨j + 1, 0, M, S, ([] : List Int), am, capm, om, by omega, by go_num, rfl, hRm5.drewN _, q5.drewN _, by omega, by omega, hom, hS, hBc.drewN _⟩
        | cons x l =>
          have hfh := firsts_head x l
          rw [hfh] at q
          go_wp2_with fail
          refine (pop_some b S x _ _ M _ q).mono ?_
          rintro e w2 ⟨rfl, S2, q2, g2, n2⟩
          have hRm2' := hRm.but g2 (fun k hk h => (hom k hk).2 h)
          go_wp2_with fail
          refine (ref_pop _ om nm x l _ hRm2' (by omega)).mono ?_
          rintro e w3 ⟨v3, om2, rfl, hRm2, n3, g3⟩
          obtain ⟨am2, capm2, rfl, _, _⟩ := hRm2.val
          have q3 : Que w3 b S2 (firsts (but x (x :: l))) (cnt (but x (x :: l))) M := by
            rw [← gone_cnt, but_head]; exact q2.but g3 (fun _ _ h => h)
          have hle := but_le x (x :: l)
          have hB2 := hB.trans' g2 (fun k hk => .inr (hS k hk))
          have hB3 := hB2.trans g3
          have hom2 : ∀ k, om2 = some k → w.heap.size ≤ k ∧ ¬ S2 k := fun k hk => ⟨Nat.le_trans hB2.size (n3 k hk), fun h => by have := q2.small k h; have := n3 k hk; omega⟩
          have hS2 : ∀ k, S2 k → w.heap.size ≤ k := fun k hk => by
            rcases n2 k hk with h | h
            · exact hS k h
            · have := hB.size; omega
          have t3 : (cnt (x :: l) x != cnt (x :: l) x) = false := by simp
          clear hB2
          go_wp2_with fail
          refine (all_any b S2 _ _ M _ q3).mono ?_
          rintro e wa ⟨va, oa, rfl, hRa, hNa, hBa⟩
          obtain ⟨aa, capa, rfl, _, _⟩ := hRa.val
          have q3 := q3.but hBa (fun _ _ q => q)
          have hRm3 := hRm2.but hBa (fun _ _ q => q)
          go_wp2_with fail
          refine (ref_all _ om2 (but x (x :: l)).length (but x (x :: l)) _ hRm3 (by omega)).mono ?_
          rintro e wb ⟨vb, ob, rfl, hRb, hNb, hBb⟩
          obtain ⟨ab, capb, rfl, _, _⟩ := hRb.val
          have q4 := q3.but hBb (fun _ _ q => q)
          have hRm4 := hRm3.but hBb (fun _ _ q => q)
          have hfl := firsts_length (but x (x :: l))
          have hnm := hRm4.ints_len
          have hRa4 := hRa.but hBb (fun _ _ q => q)
          have hBw := (hB3.trans hBa).trans hBb
          have hEw := hE.but hBw (fun _ _ q => q)
          obtain ⟨ax, offx, ex, _, hcx⟩ := hEw.at_ j hlt
          obtain ⟨rfl, rfl⟩ : xb = ax ∧ xoff = offx := by simpa using ex
          have hcn4 : wb.cell? ⟨xb, xoff + (j * 2) + 1, none⟩ = some (.int .i64 (N j)) := by
            have := hcx 1 (by omega)
            rw [(h1 j hlt).1] at this
            exact this
          have HP := Lib.hid (And.intro q4 hRm4)
          have HNM := Lib.hid hnm
          clear hcx ex hEw hnm
          go_wp2_with fail
          refine (ints_any _ _ oa ob _ _ (firsts (but x (x :: l))) (firsts (but x (x :: l))) _ hRa4 hRb (by have := HNM.out; omega) (by have := HNM.out; omega)).mono ?_
          rintro e wc ⟨rfl, mc, hwc⟩
          rw [decide_eq_true rfl]
          have q5 : Que wc b S2 (firsts (but x (x :: l))) (cnt (but x (x :: l))) M := by rw [hwc]; exact HP.out.1.drewN _
          have hRm5 : Row wc 3 1 (.slice am2 (but x (x :: l)).length capm2) om2 (but x (x :: l)).length (ints (but x (x :: l))) := by rw [hwc]; exact HP.out.2.drewN _
          have hcn5 : wc.cell? ⟨xb, xoff + (j * 2) + 1, none⟩ = some (.int .i64 (N j)) := by rw [hwc]; exact hcn4
          have hBc : But (fun _ => False) w wc := by rw [hwc]; exact hBw.drewN _
          clear hfl hwc hcn4
          go_wp2_with fail
          go_quiet ((first | (go_at_call 39; exact quiet_same (pending_any b S2 _ _ M (N j) _ (q5.drewN _))) | (go_at_call 40; exact quiet_same (ref_pending _ om2 (but x (x :: l)).length (but x (x :: l)) (N j) _ (hRm5.drewN _) (by omega)))))
          go_wp2_with fail
          go_roundg (len - (j + 1))
          case measure => omega
          case rel => exact ⟨j + 1, (but x (x :: l)).length, M, S2, (but x (x :: l)), am2, capm2, om2, by omega, by go_num, rfl, hRm5.drewN _, q5.drewN _, by omega, by omega, hom2, hS2, hBc.drewN _⟩
      · have t2 : (K j % 3 == 2) = false := by simp [h2]
        clear h2
        by_cases hbad : N j < 0 ∨ 191 < N j
        · go_wp2_with fail
          refine (push_no _ (N j) _ (.inr hbad)).mono ?_
          rintro e w2 ⟨rfl, rfl⟩
          go_wp2_with fail
          refine (ref_push_no _ am nm capm rfl (N j) _ hbad).mono ?_
          rintro e w2 ⟨rfl, rfl⟩
          clear hbad
          go_wp2_with fail
          refine (all_any b S _ _ M _ q).mono ?_
          rintro e wa ⟨va, oa, rfl, hRa, hNa, hBa⟩
          obtain ⟨aa, capa, rfl, _, _⟩ := hRa.val
          have q3 := q.but hBa (fun _ _ q => q)
          have hRm3 := hRm.but hBa (fun _ _ q => q)
          go_wp2_with fail
          refine (ref_all _ om nm L _ hRm3 (by omega)).mono ?_
          rintro e wb ⟨vb, ob, rfl, hRb, hNb, hBb⟩
          obtain ⟨ab, capb, rfl, _, _⟩ := hRb.val
          have q4 := q3.but hBb (fun _ _ q => q)
          have hRm4 := hRm3.but hBb (fun _ _ q => q)
          have hfl := firsts_length L
          have hnm := hRm4.ints_len
          have hRa4 := hRa.but hBb (fun _ _ q => q)
          have hBw := (hB.trans hBa).trans hBb
          have hEw := hE.but hBw (fun _ _ q => q)
          obtain ⟨ax, offx, ex, _, hcx⟩ := hEw.at_ j hlt
          obtain ⟨rfl, rfl⟩ : xb = ax ∧ xoff = offx := by simpa using ex
          have hcn4 : wb.cell? ⟨xb, xoff + (j * 2) + 1, none⟩ = some (.int .i64 (N j)) := by
            have := hcx 1 (by omega)
            rw [(h1 j hlt).1] at this
            exact this
          have HP := Lib.hid (And.intro q4 hRm4)
          have HNM := Lib.hid hnm
          clear hcx ex hEw hnm
          go_wp2_with fail
          refine (ints_any _ _ oa ob _ _ (firsts L) (firsts L) _ hRa4 hRb (by have := HNM.out; omega) (by have := HNM.out; omega)).mono ?_
          rintro e wc ⟨rfl, mc, hwc⟩
          rw [decide_eq_true rfl]
          have q5 : Que wc b S (firsts L) (cnt L) M := by rw [hwc]; exact HP.out.1.drewN _
          have hRm5 : Row wc 3 1 (.slice am nm capm) om nm (ints L) := by rw [hwc]; exact HP.out.2.drewN _
          have hcn5 : wc.cell? ⟨xb, xoff + (j * 2) + 1, none⟩ = some (.int .i64 (N j)) := by rw [hwc]; exact hcn4
          have hBc : But (fun _ => False) w wc := by rw [hwc]; exact hBw.drewN _
          clear hfl hwc hcn4
          go_wp2_with fail
          go_quiet ((first | (go_at_call 39; exact quiet_same (pending_any b S _ _ M (N j) _ (q5.drewN _))) | (go_at_call 40; exact quiet_same (ref_pending _ om nm L (N j) _ (hRm5.drewN _) (by omega)))))
          go_wp2_with fail
          go_roundg (len - (j + 1))
          case measure => omega
          case rel => exact ⟨j + 1, nm, M, S, L, am, capm, om, by omega, by go_num, rfl, hRm5.drewN _, q5.drewN _, by omega, by omega, hom, hS, hBc.drewN _⟩
        · have hg0 : 0 ≤ N j := by omega
          have hg1 : N j ≤ 191 := by omega
          clear hbad
          go_wp2_with fail
          refine (push_any b S _ _ M (N j) _ q hg0 hg1 (by omega)).mono ?_
          rintro e w2 ⟨rfl, S2, q2, g2, n2⟩
          have hB2 := hB.trans' g2 (fun k hk => .inr (hS k hk))
          obtain ⟨xb2, xoff2, e2, _, hc2⟩ := (hE.but hB2 (fun _ _ q => q)).at_ j hlt
          obtain ⟨rfl, rfl⟩ : xb = xb2 ∧ xoff = xoff2 := by simpa using e2
          have hcn2 : w2.cell? ⟨xb, xoff + (j * 2) + 1, none⟩ = some (.int .i64 (N j)) := by
            have := hc2 1 (by omega)
            rw [(h1 j hlt).1] at this
            exact this
          clear hc2 e2
          have hRm2' := hRm.but g2 (fun k hk h => (hom k hk).2 h)
          go_wp2_with fail
          refine (ref_push _ om nm L (N j) _ hRm2' (by omega) hg0 hg1).mono ?_
          rintro e w3 ⟨v3, om2, rfl, hRm2, n3, g3⟩
          obtain ⟨am2, capm2, rfl, _, _⟩ := hRm2.val
          have q3 : Que w3 b S2 (firsts (L ++ [N j])) (cnt (L ++ [N j])) (M + 1) := by
            rw [← more_cnt, ← pushed_firsts]; exact q2.but g3 (fun _ _ h => h)
          have hB3 := hB2.trans g3
          have hom2 : ∀ k, om2 = some k → w.heap.size ≤ k ∧ ¬ S2 k := fun k hk => ⟨Nat.le_trans hB2.size (n3 k hk), fun h => by have := q2.small k h; have := n3 k hk; omega⟩
          have hS2 : ∀ k, S2 k → w.heap.size ≤ k := fun k hk => by
            rcases n2 k hk with h | h
            · exact hS k h
            · have := hB.size; omega
          clear hB2 hcn2
          go_wp2_with fail
          refine (all_any b S2 _ _ (M+1) _ q3).mono ?_
          rintro e wa ⟨va, oa, rfl, hRa, hNa, hBa⟩
          obtain ⟨aa, capa, rfl, _, _⟩ := hRa.val
          have q3 := q3.but hBa (fun _ _ q => q)
          have hRm3 := hRm2.but hBa (fun _ _ q => q)
          go_wp2_with fail
          refine (ref_all _ om2 (nm+1) (L ++ [N j]) _ hRm3 (by omega)).mono ?_
          rintro e wb ⟨vb, ob, rfl, hRb, hNb, hBb⟩
          obtain ⟨ab, capb, rfl, _, _⟩ := hRb.val
          have q4 := q3.but hBb (fun _ _ q => q)
          have hRm4 := hRm3.but hBb (fun _ _ q => q)
          have hfl := firsts_length (L ++ [N j])
          have hnm := hRm4.ints_len
          have hRa4 := hRa.but hBb (fun _ _ q => q)
          have hBw := (hB3.trans hBa).trans hBb
          have hEw := hE.but hBw (fun _ _ q => q)
          obtain ⟨ax, offx, ex, _, hcx⟩ := hEw.at_ j hlt
          obtain ⟨rfl, rfl⟩ : xb = ax ∧ xoff = offx := by simpa using ex
          have hcn4 : wb.cell? ⟨xb, xoff + (j * 2) + 1, none⟩ = some (.int .i64 (N j)) := by
            have := hcx 1 (by omega)
            rw [(h1 j hlt).1] at this
            exact this
          have HP := Lib.hid (And.intro q4 hRm4)
          have HNM := Lib.hid hnm
          clear hcx ex hEw hnm
          go_wp2_with fail
          refine (ints_any _ _ oa ob _ _ (firsts (L ++ [N j])) (firsts (L ++ [N j])) _ hRa4 hRb (by have := HNM.out; omega) (by have := HNM.out; omega)).mono ?_
          rintro e wc ⟨rfl, mc, hwc⟩
          rw [decide_eq_true rfl]
          have q5 : Que wc b S2 (firsts (L ++ [N j])) (cnt (L ++ [N j])) (M+1) := by rw [hwc]; exact HP.out.1.drewN _
          have hRm5 : Row wc 3 1 (.slice am2 (nm+1) capm2) om2 (nm+1) (ints (L ++ [N j])) := by rw [hwc]; exact HP.out.2.drewN _
          have hcn5 : wc.cell? ⟨xb, xoff + (j * 2) + 1, none⟩ = some (.int .i64 (N j)) := by rw [hwc]; exact hcn4
          have hBc : But (fun _ => False) w wc := by rw [hwc]; exact hBw.drewN _
          clear hfl hwc hcn4
          go_wp2_with fail
          go_quiet ((first | (go_at_call 39; exact quiet_same (pending_any b S2 _ _ (M+1) (N j) _ (q5.drewN _))) | (go_at_call 40; exact quiet_same (ref_pending _ om2 (nm+1) (L ++ [N j]) (N j) _ (hRm5.drewN _) (by omega)))))
          go_wp2_with fail
          go_roundg (len - (j + 1))
          case measure => omega
          case rel => exact ⟨j + 1, (nm+1), (M+1), S2, (L ++ [N j]), am2, capm2, om2, by omega, by go_num, rfl, hRm5.drewN _, q5.drewN _, by omega, by omega, hom2, hS2, hBc.drewN _⟩
    · go_wp2_with fail
      refine (pop_nil _).mono ?_
      rintro e w2 ⟨rfl, rfl⟩
      go_wp2_with fail
      refine (alive_any _).mono ?_
      rintro e w2 ⟨rfl, g2⟩
      go_wp2_with fail
      refine (push_no _ 1 _ (.inl rfl)).mono ?_
      rintro e w3 ⟨rfl, rfl⟩
      go_wp2_with fail
      refine (pending_nil 1 _).mono ?_
      rintro e w3 ⟨rfl, rfl⟩
      go_wp2_with fail
      refine (all_nil _).mono ?_
      rintro e w3 ⟨rfl, rfl⟩
      go_wp2_with fail
      go_ret
      exact ⟨rfl, hB.trans g2⟩

theorem plays_law (w : World) (a : Option Addr) (len cap : Nat) (V : Nat → Nat → Value) (hE : Els w a len 2 V)
    (hf : ∀ i, i < len → All2 [.i .u8, .i .i64] ((List.range 2).map (V i))) (hz : len * 16 ≤ 140737488351232) :
    Calls Try.prog 7 #[.slice a len cap] w fun e w' => e = .returned (.bool true) ∧ But (fun _ => False) w w' := by
  refine plays_any a len cap V (fun i => intOf (V i 0)) (fun i => intOf (V i 1)) w (by omega) hE (fun i hi => ?_) (fun i hi => ?_)
  · obtain ⟨h0, _⟩ := hf i hi
    obtain ⟨e, wf⟩ := CK.fits_i h0
    exact ⟨e, bounds_u8 wf⟩
  · obtain ⟨_, h1, _⟩ := hf i hi
    obtain ⟨e, wf⟩ := CK.fits_i h1
    exact ⟨e, bounds_i64 wf⟩

theorem cnt_nodup {l : List Int} (h : l.Nodup) (c : Int) : cnt l c ≤ 1 := by
  unfold cnt
  induction l with
  | nil => simp
  | cons x l ih =>
    simp only [List.nodup_cons] at h
    by_cases e : x = c
    · subst e
      have : l.filter (fun y => decide (y = x)) = [] := by
        rw [List.filter_eq_nil_iff]; intro y hy; simp; intro e; subst e; exact h.1 hy
      simp [this]
    · simp [e]; exact ih h.2

set_option maxHeartbeats 4000000 in
set_option maxRecDepth 100000 in
theorem lost_any (xa : Option Addr) (len cap : Nat) (V : Nat → Nat → Value) (K N : Nat → Int) (cell : Int) (w : World) (hcell : 0 ≤ cell ∧ cell ≤ 255)
    (hlen : len ≤ 9223372036854775807) (hE : Els w xa len 2 V)
    (h0 : ∀ i, i < len → V i 0 = .int .u8 (K i) ∧ 0 ≤ K i ∧ K i ≤ 255) (h1 : ∀ i, i < len → V i 1 = .int .i64 (N i) ∧ -9223372036854775808 ≤ N i ∧ N i ≤ 9223372036854775807) :
    Calls Try.prog 8 #[.slice xa len cap, .int .u8 cell] w fun e w' => e = .returned (.bool true) ∧ But (fun _ => False) w w' := by
  by_cases hbig : 200 < len
  · go_enter Try.func8, Try.ntmps8
    go_wp2_with fail
    refine (alive_any _).mono ?_
    rintro e w1 ⟨rfl, g1⟩
    go_wp2_with fail
    go_ret
    exact ⟨rfl, g1⟩
  go_enter Try.func8, Try.ntmps8
  go_wp2_with fail
  refine (new_any _).mono ?_
  rintro e w1 ⟨b, S1, rfl, q1, n1, g1⟩
  go_wp2_with fail
  go_loopg [6, 7] len (fun k u i wr => ∃ (j M : Nat) (S : Nat → Prop) (order : List Int) (f : Int → Int), j + k = len ∧ i = .int .i64 j ∧ u = .int .i64 (f cell) ∧ Que wr b S order f M ∧ M ≤ j ∧ (∀ k, S k → w.heap.size ≤ k) ∧ But (fun _ => False) w wr)
  case atStart => exact ⟨0, 0, S1, [], fun _ => 0, by omega, rfl, rfl, q1, by omega, n1, g1⟩
  case round =>
    obtain ⟨j, M, S, order, f, hj, rfl, rfl, q, hM, hS, hB⟩ := hrel
    have hfc := q.pos cell
    by_cases hlt : j < len
    · obtain ⟨xb, xoff, rfl, hab, hc⟩ := (hE.but hB (fun _ _ q => q)).at_ j hlt
      have hck : wr.cell? ⟨xb, xoff + (j * 2), none⟩ = some (.int .u8 (K j)) := by
        have := hc 0 (by omega)
        rw [(h0 j hlt).1] at this
        exact this
      have hcn : wr.cell? ⟨xb, xoff + (j * 2) + 1, none⟩ = some (.int .i64 (N j)) := by
        have := hc 1 (by omega)
        rw [(h1 j hlt).1] at this
        exact this
      have hK := (h0 j hlt).2
      have hN := (h1 j hlt).2
      clear hc
      by_cases h2 : K j % 3 = 2
      · have t2 : (K j % 3 != 2) = false := by simp [h2]
        clear h2
        go_wp2_with fail
        refine (all_any b S _ _ M _ q).mono ?_
        rintro e wa ⟨va, oa, rfl, hRa, hNa, hBa⟩
        obtain ⟨aa, capa, rfl, _, _⟩ := hRa.val
        have q2 := q.but hBa (fun _ _ h => h)
        have hB2 := hB.trans hBa
        cases order with
        | nil =>
          go_wp2_with fail
          refine (pop_none b S _ M _ q2).mono ?_
          rintro e w2 ⟨rfl, rfl⟩
          have hS2 := hS
          have EE := Lib.hid (show f cell = f cell from rfl)
          go_wp2_with fail
          go_roundg (len - (j + 1))
          case measure => omega
          case rel => exact ⟨j + 1, M, S, [], f, by omega, by go_num, (by first | rfl | (rw [EE.out]; try go_num)), q2, by omega, hS2, hB2⟩
        | cons x order =>
          obtain ⟨ab, aoff, rfl, hoa, hca⟩ := hRa.ints_at 0 (by simp)
          go_wp2_with fail
          refine (pop_some b S x _ _ M _ q2).mono ?_
          rintro e w2 ⟨rfl, S2, q3, g3, n3⟩
          have hS2 : ∀ k, S2 k → w.heap.size ≤ k := fun k hk => by
            rcases n3 k hk with h | h
            · exact hS k h
            · have := hB2.size; omega
          have hB3 := hB2.trans' g3 (fun k hk => .inr (hS k hk))
          have ha3 : w2.cell? ⟨ab, aoff, none⟩ = some (.int .i64 x) := by
            have h1 := hRa.lt hoa
            have h2 : ¬ S ab := fun h => by have := q.small ab h; have := hNa ab hoa; omega
            have : w2.cell? ⟨ab, aoff, none⟩ = wa.cell? ⟨ab, aoff, none⟩ := World.cell?_of_block (w := wa) (g3.block ab h1 h2)
            rw [this]; simpa using hca
          have hxp : 0 < f x := (q.mem x).1 (by simp)
          have hxm := (q.pos x).2
          have t3 : (x != x) = false := by simp
          have hp := pending_any b S2 _ _ M x _ q3
          rw [show gone f x x = 0 by unfold gone; simp] at hp
          have HP := Lib.hid hp
          clear hp hca
          go_wp2_with fail
          refine HP.out.mono ?_
          rintro e w3 ⟨rfl, rfl⟩
          by_cases hxc : x = cell
          · have t4 : (x == cell) = true := by simp [hxc]
            have EE := Lib.hid (show gone f x cell = f cell - f x by unfold gone; rw [if_pos hxc.symm, hxc]; omega)
            clear hxc
            go_wp2_with fail
            go_roundg (len - (j + 1))
            case measure => omega
            case rel => exact ⟨j + 1, M, S2, order, gone f x, by omega, by go_num, (by first | rfl | (rw [EE.out]; try go_num)), q3, by omega, hS2, hB3⟩
          · have t4 : (x == cell) = false := by simp [hxc]
            have EE := Lib.hid (show gone f x cell = f cell by unfold gone; rw [if_neg (fun h => hxc h.symm)])
            clear hxc
            go_wp2_with fail
            go_roundg (len - (j + 1))
            case measure => omega
            case rel => exact ⟨j + 1, M, S2, order, gone f x, by omega, by go_num, (by first | rfl | (rw [EE.out]; try go_num)), q3, by omega, hS2, hB3⟩
      · have t2 : (K j % 3 != 2) = true := by simp [h2]
        clear h2
        by_cases hbad : N j < 0 ∨ 191 < N j
        · go_wp2_with fail
          refine (push_no _ (N j) _ (.inr hbad)).mono ?_
          rintro e w2 ⟨rfl, rfl⟩
          have hS2 := hS
          have EE := Lib.hid (show f cell = f cell from rfl)
          clear hbad
          go_wp2_with fail
          go_roundg (len - (j + 1))
          case measure => omega
          case rel => exact ⟨j + 1, M, S, order, f, by omega, by go_num, (by first | rfl | (rw [EE.out]; try go_num)), q, by omega, hS2, hB⟩
        · have hg0 : 0 ≤ N j := by omega
          have hg1 : N j ≤ 191 := by omega
          clear hbad
          go_wp2_with fail
          refine (push_any b S _ _ M (N j) _ q hg0 hg1 (by omega)).mono ?_
          rintro e w2 ⟨rfl, S2, q2, g2, n2⟩
          have hB2 := hB.trans' g2 (fun k hk => .inr (hS k hk))
          have hS2 : ∀ k, S2 k → w.heap.size ≤ k := fun k hk => by
            rcases n2 k hk with h | h
            · exact hS k h
            · have := hB.size; omega
          obtain ⟨xb2, xoff2, e2, _, hc2⟩ := (hE.but hB2 (fun _ _ q => q)).at_ j hlt
          obtain ⟨rfl, rfl⟩ : xb = xb2 ∧ xoff = xoff2 := by simpa using e2
          have hcn2 : w2.cell? ⟨xb, xoff + (j * 2) + 1, none⟩ = some (.int .i64 (N j)) := by
            have := hc2 1 (by omega)
            rw [(h1 j hlt).1] at this
            exact this
          clear hc2 e2
          by_cases hxc : N j = cell
          · have t4 : (N j == cell) = true := by simp [hxc]
            have EE := Lib.hid (show more f (N j) cell = f cell + 1 by unfold more; rw [if_pos hxc.symm, hxc])
            clear hxc
            go_wp2_with fail
            go_roundg (len - (j + 1))
            case measure => omega
            case rel => exact ⟨j + 1, (M+1), S2, pushed order f (N j), more f (N j), by omega, by go_num, (by first | rfl | (rw [EE.out]; try go_num)), q2, by omega, hS2, hB2⟩
          · have t4 : (N j == cell) = false := by simp [hxc]
            have EE := Lib.hid (show more f (N j) cell = f cell by unfold more; rw [if_neg (fun h => hxc h.symm)])
            clear hxc
            go_wp2_with fail
            go_roundg (len - (j + 1))
            case measure => omega
            case rel => exact ⟨j + 1, (M+1), S2, pushed order f (N j), more f (N j), by omega, by go_num, (by first | rfl | (rw [EE.out]; try go_num)), q2, by omega, hS2, hB2⟩
    · go_wp2_with fail
      refine (all_any b S _ _ M _ q).mono ?_
      rintro e wa ⟨va, oa, rfl, hRa, hNa, hBa⟩
      obtain ⟨aa, capa, rfl, hcap, hcap2⟩ := hRa.val
      have q2 := q.but hBa (fun _ _ h => h)
      have hB2 := hB.trans hBa
      have hll := length_le q.nodup q.cells
      have hmem := q.mem cell
      have hnd := cnt_nodup q.nodup cell
      have hcb := cnt_bd order cell
      have hcp := cnt_pos order cell
      generalize hn : order.length = n at *
      have HN := Lib.hid hn
      have HR := Lib.hid hRa
      have HM := Lib.hid (And.intro hmem (And.intro hnd (And.intro hcb hcp)))
      have HQ := Lib.hid q2
      clear hn hRa hmem hnd hcb hcp q q2 hE h0 h1
      go_wp2_with fail
      go_loopg [14, 15] n (fun k u i wr => ∃ j : Nat, j + k = n ∧ u = .int .i64 (cnt (order.take j) cell) ∧ i = .int .i64 j ∧ wr = wa)
      case atStart => exact ⟨0, by omega, rfl, rfl, rfl⟩
      case round =>
        obtain ⟨y, hy, rfl, rfl, rfl⟩ := hrel
        by_cases hly : y < n
        · obtain ⟨ab, aoff, rfl, hoa, hca⟩ := HR.out.ints_at y hly
          have hs := cnt_snoc (order.take y) (order.getD y 0) cell
          rw [← take_succ_getD (by rw [HN.out]; exact hly)] at hs
          have hb := cnt_bd (order.take y) cell
          have hb2 : (order.take y).length ≤ y := List.length_take_le _ _
          have HS := Lib.hid hs
          clear hs hoa
          generalize order.getD y 0 = z at *
          by_cases hz : z = cell
          · have t1 : (z == cell) = true := by simp [hz]
            have HY := Lib.hid hz
            clear hz
            go_wp2_with fail
            go_roundg (n - (y + 1))
            case measure => omega
            case rel => exact ⟨y + 1, by omega, by rw [HS.out, if_pos HY.out], by go_num, rfl⟩
          · have t1 : (z == cell) = false := by simp [hz]
            have HY := Lib.hid hz
            clear hz
            go_wp2_with fail
            go_roundg (n - (y + 1))
            case measure => omega
            case rel => exact ⟨y + 1, by omega, by rw [HS.out, if_neg HY.out]; simp, by go_num, rfl⟩
        · have hm : cnt (order.take y) cell = cnt order cell := by rw [List.take_of_length_le (by rw [HN.out]; omega)]
          rw [hm]
          have hm1 := HM.out
          clear hm
          generalize cnt order cell = z at *
          go_wp2_with fail
          refine (alive_any _).mono ?_
          rintro e w4 ⟨rfl, g4⟩
          go_wp2_with fail
          refine (pending_any b S _ f M cell _ (HQ.out.but g4 (fun _ _ h => h))).mono ?_
          rintro e w5 ⟨rfl, rfl⟩
          have t5 : (f cell == f cell) = true := by simp
          by_cases hz : 0 < f cell
          · obtain rfl : z = 1 := by have := hm1.2.2.2.2 (hm1.1.2 hz); omega
            clear hm1
            go_wp2_with fail
            go_ret
            exact ⟨rfl, hB2.trans g4⟩
          · obtain rfl : z = 0 := by
              by_cases h : 0 < z
              · exact absurd (hm1.1.1 (hm1.2.2.2.1 h)) hz
              · omega
            have t6 : decide (0 < f cell) = false := by simpa using hz
            clear hm1 hz
            go_wp2_with fail
            go_ret
            exact ⟨ret_eq (by simp [t6]), hB2.trans g4⟩

theorem lost_law (w : World) (a : Option Addr) (len cap : Nat) (V : Nat → Nat → Value) (hE : Els w a len 2 V)
    (hf : ∀ i, i < len → All2 [.i .u8, .i .i64] ((List.range 2).map (V i))) (hz : len * 16 ≤ 140737488351232) (cell : Int) (wc : (Lit.int .u8 cell).wf = true) :
    Calls Try.prog 8 #[.slice a len cap, .int .u8 cell] w fun e w' => e = .returned (.bool true) ∧ But (fun _ => False) w w' := by
  refine lost_any a len cap V (fun i => intOf (V i 0)) (fun i => intOf (V i 1)) cell w (bounds_u8 wc) (by omega) hE (fun i hi => ?_) (fun i hi => ?_)
  · obtain ⟨h0, _⟩ := hf i hi
    obtain ⟨e, wf⟩ := CK.fits_i h0
    exact ⟨e, bounds_u8 wf⟩
  · obtain ⟨_, h1, _⟩ := hf i hi
    obtain ⟨e, wf⟩ := CK.fits_i h1
    exact ⟨e, bounds_i64 wf⟩

end Queue
end Go.Proofs.Ytboajbbnnbnpaaa
