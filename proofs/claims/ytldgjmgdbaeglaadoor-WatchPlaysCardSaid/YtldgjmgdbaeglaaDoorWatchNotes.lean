/- The document's Note (layer 23), walked; printed by gen_watch.py. -/
import Derived.Test.YtldgjmgdbaeglaaDoorWatchWalks
set_option linter.unusedVariables false
set_option linter.unusedSimpArgs false
namespace Go.Proofs.YtldgjmgdbaeglaaDoor
open Go.RowKit

theorem step_append_none {P : Program} {ops : Array Oper} {o : Oper} {a : Act} {w : World} {K : Act → World → Prop} {Q : Exit → Act → World → Prop} {E : Prop}
    (hg : Region.wanted o (yielded ops a.tmps) = true) (s x : Operand) (t : TypeId) (hop : o.op = Op.call { callee := Callee.builtin Builtin.append, args := #[s, x], argTypes := #[t, t] })
    (e : TypeId) (i : TypeInfo) (h1 : P.underlying t = some (.slice e)) (h2 : P.info? e = some i) (ao : Option Addr) (n cap : Nat) (hcap : n ≤ cap) (hs : a.eval s = .slice ao n cap) (xa : Option Addr) (xc : Nat) (hx : a.eval x = .slice xa 0 xc)
    (hK : K (a.put o.dst (.slice ao n cap)) w) :
    if Region.wanted o (yielded ops a.tmps) = true then Oper.wp P o a w K Q else E := by
  rw [if_pos hg]
  have hrun := run_append_none (P := P) w t o.type e i h1 h2 ao n cap hcap xa xc
  unfold Oper.wp
  simp [execOp, hop, resolve, invoke, builtin, hs, hx, hrun, Result.andThen]
  exact hK
theorem Row.of_blk0 {w : World} {T : TypeId} {size b : Nat} (h : Blk w b #[] T) : Row w T size (.slice (some ⟨b, 0, none⟩) 0 0) (some b) 0 [] :=
  ⟨by simp, .inr ⟨b, 0, 0, #[], rfl, rfl, h.out, Nat.le_refl _, Nat.zero_le _, by simp, by simp⟩⟩
theorem blk_src {w : World} {b : Nat} {cs : List Value} {T : TypeId} (h : Blk w b cs.toArray T) : ∀ j u, cs[j]? = some u → w.cell? ((⟨b, 0, none⟩ : Addr).add j) = some u := fun j u hj => by
  have e : (⟨b, 0, none⟩ : Addr).add j = ⟨b, j, none⟩ := by unfold Addr.add; split <;> simp_all
  rw [e, h.cell]; simpa using hj

namespace Watch

theorem may_all {T t e k n : Int} (h1 : 1 ≤ t) (h2 : t ≤ T) (h : Answer.right e k n = true) : may T ⟨t, ⟨e, k, n⟩⟩ = true := decide_eq_true ⟨h1, h2, h⟩
theorem may_not {T t e k n : Int} (h : t < 1 ∨ T < t ∨ Answer.right e k n = false) : may T ⟨t, ⟨e, k, n⟩⟩ = false := decide_eq_false (fun ⟨a, b, c⟩ => by
  have a' : 1 ≤ t := a
  have b' : t ≤ T := b
  have c' : Answer.right e k n = true := c
  rcases h with h | h | h
  · omega
  · omega
  · rw [h] at c'; cases c')

set_option maxHeartbeats 16000000 in
set_option maxRecDepth 100000 in
theorem ref_note (v : Value) (o : Option Nat) (l : List Nt) (T t e k n : Int) (w : World) (hR : RowN w v o l) (hl : l.length ≤ 200) (hn : 0 ≤ n ∧ n ≤ 18446744073709551615) :
    Calls Tryd.prog 19 #[v, .int .i64 T, .int .i64 t, .agg #[.int .i64 e, .int .i64 k, .int .u64 n]] w fun r w' => ∃ v' o', r = .returned (.tuple #[v', .int .i64 (noteE T ⟨t, ⟨e, k, n⟩⟩)]) ∧
      RowN w' v' o' (note T l ⟨t, ⟨e, k, n⟩⟩) ∧ (∀ c, o' = some c → o = some c ∨ w.heap.size ≤ c) ∧ But (fun _ => False) w w' := by
  have G0 := (But.refl (fun _ => False) w).alloc (.cells #[.int .i64 e, .int .i64 k, .int .u64 n] 42)
  have X0 := Blk.new w #[.int .i64 e, .int .i64 k, .int .u64 n] 42
  have x0 := X0.cell 0
  have x1 := X0.cell 1
  have x2 := X0.cell 2
  have HR0 := Lib.hid hR
  clear hR
  obtain ⟨a, m, cap, hv, hcap, hcap2⟩ : ∃ a m cap, v = .slice a m cap ∧ m ≤ cap ∧ cap ≤ maxLen := by
    obtain ⟨a, cap, h, h1, h2⟩ := HR0.out.val
    exact ⟨a, _, cap, h, h1, h2⟩
  subst hv
  by_cases hm : 1 ≤ t ∧ t ≤ T ∧ Answer.right e k n = true
  case neg =>
    have hmay := may_not (T := T) (t := t) (e := e) (k := k) (n := n) (by
      cases h : Answer.right e k n with
      | false => exact .inr (.inr rfl)
      | true => by_cases h1 : t < 1; exact .inl h1; by_cases h2 : T < t; exact .inr (.inl h2); exact absurd ⟨by omega, by omega, h⟩ hm)
    have HE := Lib.hid (show noteE T ⟨t, ⟨e, k, n⟩⟩ = 1 by unfold noteE; rw [hmay]; rfl)
    have HN := Lib.hid (show note T l ⟨t, ⟨e, k, n⟩⟩ = l by unfold note; rw [hmay]; rfl)
    clear hmay
    have hm2 : Answer.right e k n = false ∨ (Answer.right e k n = true ∧ (t < 1 ∨ (1 ≤ t ∧ T < t))) := by
      cases h : Answer.right e k n with
      | false => exact .inl rfl
      | true => exact .inr ⟨rfl, by by_cases h1 : t < 1; exact .inl h1; exact .inr ⟨by omega, by have : ¬ t ≤ T := fun h2 => hm ⟨by omega, h2, h⟩; omega⟩⟩
    clear hm
    go_enter Tryd.func19, Tryd.ntmps19
    go_wp2_with fail
    refine (Answer.ref_right e k n _ hn).mono ?_
    rintro r w2 ⟨rfl, g2⟩
    have G2 := Lib.hid (G0.trans g2)
    have X2 := Lib.hid (X0.but g2 (fun q => q))
    clear G0 X0 g2 x0 x1 x2
    rcases hm2 with h | ⟨h, h1 | ⟨h1, h2⟩⟩
    all_goals
      rw [h]
      clear h
      go_wp2_with fail
      go_ret2
      rw [HE.out, HN.out]
      exact ⟨.slice a m cap, o, rfl, HR0.out.but G2.out (fun _ _ q => q), (fun c hc => Or.inl hc), G2.out⟩
  case pos =>
    obtain ⟨h1, h2, hr⟩ := hm
    have hmay := may_all (T := T) (t := t) (e := e) (k := k) (n := n) h1 h2 hr
    have hE : noteE T ⟨t, ⟨e, k, n⟩⟩ = 0 := by unfold noteE; rw [hmay]; rfl
    have hN : note T l ⟨t, ⟨e, k, n⟩⟩ = l ++ [⟨t, ⟨e, k, n⟩⟩] := by unfold note; rw [hmay]; rfl
    rw [hE, hN]
    clear hE hN hmay
    obtain ⟨i0, hi, hz0, hz1, hz2⟩ := info_parts infoNt
    go_enter Tryd.func19, Tryd.ntmps19
    go_wp2_with fail
    refine (Answer.ref_right e k n _ hn).mono ?_
    rintro r w2 ⟨rfl, g2⟩
    have G2 := G0.trans g2
    have X2 := X0.but g2 (fun q => q)
    have R2 := HR0.out.but G2 (fun _ _ q => q)
    obtain ⟨bx, hbx⟩ : ∃ b, b = w.heap.size := ⟨_, rfl⟩
    rw [← hbx] at X2 ⊢
    clear hbx G0 X0 g2 x0 x1 x2
    rw [hr]
    clear hr
    have q0 := X2.cell 0
    have q1 := X2.cell 1
    have q2 := X2.cell 2
    go_wp2_with fail
    clear q0 q1 q2
    have HFIN := Lib.hid (show ∀ u y oz, Row u 70 4 y oz (l.length + 1) (encsN l ++ encN ⟨t, ⟨e, k, n⟩⟩) → RowN u y oz (l ++ [⟨t, ⟨e, k, n⟩⟩]) from fun u y oz h => by
      unfold RowN; rw [← encsN_push, List.length_append]; exact h)
    refine wp_region_any (by kernel_rfl) ?_
    change wpAny _ _ _ _ _ _ _ (World.drew _)
    obtain ⟨u0, hu0⟩ : ∃ u, u = w2.drew := ⟨_, rfl⟩
    have HGu0 := Lib.hid (show But (fun _ => False) w u0 from hu0 ▸ G2.drew)
    have HXu0 := Lib.hid (show Blk u0 bx #[.int .i64 e, .int .i64 k, .int .u64 n] 42 from hu0 ▸ X2.drew)
    have HRu0 := Lib.hid (show Row u0 70 4 _ o l.length (encsN l) from hu0 ▸ R2.drew)
    rw [← hu0]
    clear hu0 G2 X2 R2
    have q0u0 := HXu0.out.cell 0
    have q1u0 := HXu0.out.cell 1
    have q2u0 := HXu0.out.cell 2
    rcases HRu0.out.is with ⟨hv, ho, hl0⟩ | ⟨b, off, cap', cs, hv, ho, -, -, -, -, -⟩
    · obtain ⟨rfl, rfl, rfl⟩ := Value.slice.inj hv
      obtain rfl : l = [] := List.eq_nil_of_length_eq_zero hl0
      clear hv ho hl0
      refine wpAny_take (i := 1) (oi := ⟨some 26, _, _, _, _, _⟩) (v := ?_) rfl (by kernel_rfl) (by kernel_rfl) (by kernel_rfl) (fun _ _ _ h => h) (Or.inl ⟨by rfl, ?_⟩) ?_
      rotate_left
      · intro w
        go_simp
        try with_reducible rfl
      simp only [Act.put, List.setIfInBounds_toArray, List.set_cons_zero, List.set_cons_succ]
      refine wpAny_take (i := 3) (oi := ⟨some 28, _, _, _, _, _⟩) (v := ?_) rfl (by kernel_rfl) (by kernel_rfl) (by kernel_rfl) (fun _ _ _ h => h) (Or.inl ⟨by rfl, ?_⟩) ?_
      rotate_left
      · intro w
        go_simp
        try with_reducible rfl
      simp only [Act.put, List.setIfInBounds_toArray, List.set_cons_zero, List.set_cons_succ]
      refine wpAny_ready (rs := [0, 4]) (by kernel_rfl) (by simp) ?_
      refine AllReady.cons rfl (fun K hK => ?_) (AllReady.cons rfl (fun K hK => ?_) AllReady.nil)
      · go_simp
        refine hK _ _ ?_
        clear hK K
        have gu2x := (But.refl (fun _ => False) u0).alloc (.cells #[] 70)
        have bu2x := Blk.new u0 #[] 70
        have su2x := HGu0.out.size
        obtain ⟨u2x, hu⟩ : ∃ u : World, u = u0.alloc (.cells #[] 70) := ⟨_, rfl⟩
        obtain ⟨p, hp⟩ : ∃ p, p = u0.heap.size := ⟨_, rfl⟩
        rw [← hu] at gu2x bu2x ⊢
        rw [← hp] at bu2x su2x ⊢
        have HPu2x := Lib.hid bu2x
        have Lp := Lib.hid su2x
        have LXp := Lib.hid (hp.symm ▸ HXu0.out.lt)
        clear hu hp bu2x su2x
        have HGu2x := Lib.hid (HGu0.out.trans gu2x)
        have HXu2x := Lib.hid (HXu0.out.but gu2x (fun q => q))
        have q0u2x := HXu2x.out.cell 0
        have q1u2x := HXu2x.out.cell 1
        have q2u2x := HXu2x.out.cell 2
        refine wpAny_ready (rs := [2, 4]) (by kernel_rfl) (by simp) ?_
        refine AllReady.cons rfl (fun K hK => ?_) (AllReady.cons rfl (fun K hK => ?_) AllReady.nil)
        · refine step_append_none (o := ⟨some 27, _, _, _, _, _⟩) (by rfl) _ _ _ rfl 70 i0 Tryd.underlying39 hi (some ⟨p, 0, none⟩) 0 0 (Nat.le_refl _) rfl none 0 rfl ?_
          refine hK _ _ ?_
          clear hK K
          try simp only [Act.put, List.setIfInBounds_toArray, List.set_cons_zero, List.set_cons_succ]
          have HSu2x := Lib.hid (Row.of_blk0 (size := 4) HPu2x.out)
          have HSN := Lib.hid (show ∀ c, some p = some c → w.heap.size ≤ c from fun c hc => by cases hc; exact Lp.out)
          obtain ⟨os, hos⟩ : ∃ os, os = some p := ⟨_, rfl⟩
          rw [← hos] at HSu2x HSN
          clear hos
          refine wpAny_ready (rs := [4]) (by kernel_rfl) (by simp) ?_
          refine AllReady.cons rfl (fun K hK => ?_) AllReady.nil
          go_simp
          refine hK _ _ ?_
          clear hK K
          refine wpAny_take (i := 5) (oi := ⟨some 30, _, _, _, _, _⟩) (v := ?_) rfl (by kernel_rfl) (by kernel_rfl) (by kernel_rfl) (fun _ _ _ h => h) (Or.inl ⟨by rfl, ?_⟩) ?_
          rotate_left
          · intro w
            go_simp
            try with_reducible rfl
          simp only [Act.put, List.setIfInBounds_toArray, List.set_cons_zero, List.set_cons_succ]
          refine wpAny_ready (rs := [6]) (by kernel_rfl) (by simp) ?_
          refine AllReady.cons rfl (fun K hK => ?_) AllReady.nil
          go_simp
          refine hK _ _ ?_
          clear hK K
          have gu6x := (But.refl (fun _ => False) u2x).alloc (.cells #[.int .i64 t, .int .i64 e, .int .i64 k, .int .u64 n] 70)
          have bu6x := Blk.new u2x #[.int .i64 t, .int .i64 e, .int .i64 k, .int .u64 n] 70
          have su6x := HGu2x.out.size
          obtain ⟨u6x, hu⟩ : ∃ u : World, u = u2x.alloc (.cells #[.int .i64 t, .int .i64 e, .int .i64 k, .int .u64 n] 70) := ⟨_, rfl⟩
          obtain ⟨q, hp⟩ : ∃ p, p = u2x.heap.size := ⟨_, rfl⟩
          rw [← hu] at gu6x bu6x ⊢
          rw [← hp] at bu6x su6x ⊢
          have HQu6x := Lib.hid bu6x
          have Lq := Lib.hid su6x
          have LXq := Lib.hid (hp.symm ▸ HXu2x.out.lt)
          clear hu hp bu6x su6x
          have HGu6x := Lib.hid (HGu2x.out.trans gu6x)
          have HXu6x := Lib.hid (HXu2x.out.but gu6x (fun q => q))
          have q0u6x := HXu6x.out.cell 0
          have q1u6x := HXu6x.out.cell 1
          have q2u6x := HXu6x.out.cell 2
          have HSu6x := Lib.hid (HSu2x.out.but gu6x (fun _ _ q => q))
          refine wpAny_ready (rs := [7]) (by kernel_rfl) (by simp) ?_
          refine AllReady.cons rfl (fun K hK => ?_) AllReady.nil
          refine step_append_row (o := ⟨some 32, _, _, _, _, _⟩) (by rfl) _ _ _ rfl 70 i0 (.agg #[.int .i64 0, .int .i64 0, .int .i64 0, .int .u64 0]) 4 32 Tryd.underlying39 hi hz0 hz1 hz2 rfl (by decide) _ os 0 [] HSu6x.out rfl ⟨q, 0, none⟩ 1 1 (encN ⟨t, ⟨e, k, n⟩⟩) rfl rfl (blk_src HQu6x.out) (oneCell_N _) (by unfold maxLen; omega) (by omega) ?_
          intro v4 u7x oz hZ hB4 hN4
          have HZN := Lib.hid (show ∀ c, oz = some c → w.heap.size ≤ c from fun c hc => by
            rcases hN4 c hc with r | r
            · exact HSN.out c r
            · have := HGu6x.out.size; omega)
          have HGu7x := Lib.hid (HGu6x.out.trans' hB4 (fun c hc => .inr (HSN.out c hc)))
          have HZ := Lib.hid (HFIN.out u7x v4 oz hZ)
          obtain ⟨az, capz, rfl, hd1, hd2⟩ := hZ.val
          clear hZ hB4 hN4
          refine hK _ _ ?_
          clear hK K
          try simp only [Act.put, List.setIfInBounds_toArray, List.set_cons_zero, List.set_cons_succ]
          refine wpAny_ready (rs := [8]) (by kernel_rfl) (by simp) ?_
          refine AllReady.cons rfl (fun K hK => ?_) AllReady.nil
          go_simp
          refine hK _ _ ?_
          clear hK K
          refine wpAny_ready (rs := [9]) (by kernel_rfl) (by simp) ?_
          refine AllReady.cons rfl (fun K hK => ?_) AllReady.nil
          go_simp
          refine hK _ _ ?_
          clear hK K
          refine wpAny_done (by kernel_rfl) ?_ _
          go_wp2_with fail
          go_ret2
          exact ⟨_, oz, rfl, HZ.out, (fun c hc => .inr (HZN.out c hc)), HGu7x.out⟩
        · go_simp
          refine hK _ _ ?_
          clear hK K
          refine wpAny_take (i := 5) (oi := ⟨some 30, _, _, _, _, _⟩) (v := ?_) rfl (by kernel_rfl) (by kernel_rfl) (by kernel_rfl) (fun _ _ _ h => h) (Or.inl ⟨by rfl, ?_⟩) ?_
          rotate_left
          · intro w
            go_simp
            try with_reducible rfl
          simp only [Act.put, List.setIfInBounds_toArray, List.set_cons_zero, List.set_cons_succ]
          refine wpAny_ready (rs := [2, 6]) (by kernel_rfl) (by simp) ?_
          refine AllReady.cons rfl (fun K hK => ?_) (AllReady.cons rfl (fun K hK => ?_) AllReady.nil)
          · refine step_append_none (o := ⟨some 27, _, _, _, _, _⟩) (by rfl) _ _ _ rfl 70 i0 Tryd.underlying39 hi (some ⟨p, 0, none⟩) 0 0 (Nat.le_refl _) rfl none 0 rfl ?_
            refine hK _ _ ?_
            clear hK K
            try simp only [Act.put, List.setIfInBounds_toArray, List.set_cons_zero, List.set_cons_succ]
            have HSu2x := Lib.hid (Row.of_blk0 (size := 4) HPu2x.out)
            have HSN := Lib.hid (show ∀ c, some p = some c → w.heap.size ≤ c from fun c hc => by cases hc; exact Lp.out)
            obtain ⟨os, hos⟩ : ∃ os, os = some p := ⟨_, rfl⟩
            rw [← hos] at HSu2x HSN
            clear hos
            refine wpAny_ready (rs := [6]) (by kernel_rfl) (by simp) ?_
            refine AllReady.cons rfl (fun K hK => ?_) AllReady.nil
            go_simp
            refine hK _ _ ?_
            clear hK K
            have gu6x := (But.refl (fun _ => False) u2x).alloc (.cells #[.int .i64 t, .int .i64 e, .int .i64 k, .int .u64 n] 70)
            have bu6x := Blk.new u2x #[.int .i64 t, .int .i64 e, .int .i64 k, .int .u64 n] 70
            have su6x := HGu2x.out.size
            obtain ⟨u6x, hu⟩ : ∃ u : World, u = u2x.alloc (.cells #[.int .i64 t, .int .i64 e, .int .i64 k, .int .u64 n] 70) := ⟨_, rfl⟩
            obtain ⟨q, hp⟩ : ∃ p, p = u2x.heap.size := ⟨_, rfl⟩
            rw [← hu] at gu6x bu6x ⊢
            rw [← hp] at bu6x su6x ⊢
            have HQu6x := Lib.hid bu6x
            have Lq := Lib.hid su6x
            have LXq := Lib.hid (hp.symm ▸ HXu2x.out.lt)
            clear hu hp bu6x su6x
            have HGu6x := Lib.hid (HGu2x.out.trans gu6x)
            have HXu6x := Lib.hid (HXu2x.out.but gu6x (fun q => q))
            have q0u6x := HXu6x.out.cell 0
            have q1u6x := HXu6x.out.cell 1
            have q2u6x := HXu6x.out.cell 2
            have HSu6x := Lib.hid (HSu2x.out.but gu6x (fun _ _ q => q))
            refine wpAny_ready (rs := [7]) (by kernel_rfl) (by simp) ?_
            refine AllReady.cons rfl (fun K hK => ?_) AllReady.nil
            refine step_append_row (o := ⟨some 32, _, _, _, _, _⟩) (by rfl) _ _ _ rfl 70 i0 (.agg #[.int .i64 0, .int .i64 0, .int .i64 0, .int .u64 0]) 4 32 Tryd.underlying39 hi hz0 hz1 hz2 rfl (by decide) _ os 0 [] HSu6x.out rfl ⟨q, 0, none⟩ 1 1 (encN ⟨t, ⟨e, k, n⟩⟩) rfl rfl (blk_src HQu6x.out) (oneCell_N _) (by unfold maxLen; omega) (by omega) ?_
            intro v4 u7x oz hZ hB4 hN4
            have HZN := Lib.hid (show ∀ c, oz = some c → w.heap.size ≤ c from fun c hc => by
              rcases hN4 c hc with r | r
              · exact HSN.out c r
              · have := HGu6x.out.size; omega)
            have HGu7x := Lib.hid (HGu6x.out.trans' hB4 (fun c hc => .inr (HSN.out c hc)))
            have HZ := Lib.hid (HFIN.out u7x v4 oz hZ)
            obtain ⟨az, capz, rfl, hd1, hd2⟩ := hZ.val
            clear hZ hB4 hN4
            refine hK _ _ ?_
            clear hK K
            try simp only [Act.put, List.setIfInBounds_toArray, List.set_cons_zero, List.set_cons_succ]
            refine wpAny_ready (rs := [8]) (by kernel_rfl) (by simp) ?_
            refine AllReady.cons rfl (fun K hK => ?_) AllReady.nil
            go_simp
            refine hK _ _ ?_
            clear hK K
            refine wpAny_ready (rs := [9]) (by kernel_rfl) (by simp) ?_
            refine AllReady.cons rfl (fun K hK => ?_) AllReady.nil
            go_simp
            refine hK _ _ ?_
            clear hK K
            refine wpAny_done (by kernel_rfl) ?_ _
            go_wp2_with fail
            go_ret2
            exact ⟨_, oz, rfl, HZ.out, (fun c hc => .inr (HZN.out c hc)), HGu7x.out⟩
          · go_simp
            refine hK _ _ ?_
            clear hK K
            have gu5x := (But.refl (fun _ => False) u2x).alloc (.cells #[.int .i64 t, .int .i64 e, .int .i64 k, .int .u64 n] 70)
            have bu5x := Blk.new u2x #[.int .i64 t, .int .i64 e, .int .i64 k, .int .u64 n] 70
            have su5x := HGu2x.out.size
            obtain ⟨u5x, hu⟩ : ∃ u : World, u = u2x.alloc (.cells #[.int .i64 t, .int .i64 e, .int .i64 k, .int .u64 n] 70) := ⟨_, rfl⟩
            obtain ⟨q, hp⟩ : ∃ p, p = u2x.heap.size := ⟨_, rfl⟩
            rw [← hu] at gu5x bu5x ⊢
            rw [← hp] at bu5x su5x ⊢
            have HQu5x := Lib.hid bu5x
            have Lq := Lib.hid su5x
            have LXq := Lib.hid (hp.symm ▸ HXu2x.out.lt)
            have HPQ := Lib.hid (show q ≠ p from fun r => by have := HPu2x.out.lt; omega)
            clear hu hp bu5x su5x
            have HGu5x := Lib.hid (HGu2x.out.trans gu5x)
            have HXu5x := Lib.hid (HXu2x.out.but gu5x (fun q => q))
            have q0u5x := HXu5x.out.cell 0
            have q1u5x := HXu5x.out.cell 1
            have q2u5x := HXu5x.out.cell 2
            have HPu5x := Lib.hid (HPu2x.out.but gu5x (fun q => q))
            refine wpAny_ready (rs := [2]) (by kernel_rfl) (by simp) ?_
            refine AllReady.cons rfl (fun K hK => ?_) AllReady.nil
            refine step_append_none (o := ⟨some 27, _, _, _, _, _⟩) (by rfl) _ _ _ rfl 70 i0 Tryd.underlying39 hi (some ⟨p, 0, none⟩) 0 0 (Nat.le_refl _) rfl none 0 rfl ?_
            refine hK _ _ ?_
            clear hK K
            try simp only [Act.put, List.setIfInBounds_toArray, List.set_cons_zero, List.set_cons_succ]
            have HSu5x := Lib.hid (Row.of_blk0 (size := 4) HPu5x.out)
            have HSN := Lib.hid (show ∀ c, some p = some c → w.heap.size ≤ c from fun c hc => by cases hc; exact Lp.out)
            obtain ⟨os, hos⟩ : ∃ os, os = some p := ⟨_, rfl⟩
            rw [← hos] at HSu5x HSN
            clear hos
            refine wpAny_ready (rs := [7]) (by kernel_rfl) (by simp) ?_
            refine AllReady.cons rfl (fun K hK => ?_) AllReady.nil
            refine step_append_row (o := ⟨some 32, _, _, _, _, _⟩) (by rfl) _ _ _ rfl 70 i0 (.agg #[.int .i64 0, .int .i64 0, .int .i64 0, .int .u64 0]) 4 32 Tryd.underlying39 hi hz0 hz1 hz2 rfl (by decide) _ os 0 [] HSu5x.out rfl ⟨q, 0, none⟩ 1 1 (encN ⟨t, ⟨e, k, n⟩⟩) rfl rfl (blk_src HQu5x.out) (oneCell_N _) (by unfold maxLen; omega) (by omega) ?_
            intro v4 u7x oz hZ hB4 hN4
            have HZN := Lib.hid (show ∀ c, oz = some c → w.heap.size ≤ c from fun c hc => by
              rcases hN4 c hc with r | r
              · exact HSN.out c r
              · have := HGu5x.out.size; omega)
            have HGu7x := Lib.hid (HGu5x.out.trans' hB4 (fun c hc => .inr (HSN.out c hc)))
            have HZ := Lib.hid (HFIN.out u7x v4 oz hZ)
            obtain ⟨az, capz, rfl, hd1, hd2⟩ := hZ.val
            clear hZ hB4 hN4
            refine hK _ _ ?_
            clear hK K
            try simp only [Act.put, List.setIfInBounds_toArray, List.set_cons_zero, List.set_cons_succ]
            refine wpAny_ready (rs := [8]) (by kernel_rfl) (by simp) ?_
            refine AllReady.cons rfl (fun K hK => ?_) AllReady.nil
            go_simp
            refine hK _ _ ?_
            clear hK K
            refine wpAny_ready (rs := [9]) (by kernel_rfl) (by simp) ?_
            refine AllReady.cons rfl (fun K hK => ?_) AllReady.nil
            go_simp
            refine hK _ _ ?_
            clear hK K
            refine wpAny_done (by kernel_rfl) ?_ _
            go_wp2_with fail
            go_ret2
            exact ⟨_, oz, rfl, HZ.out, (fun c hc => .inr (HZN.out c hc)), HGu7x.out⟩
      · go_simp
        refine hK _ _ ?_
        clear hK K
        refine wpAny_take (i := 5) (oi := ⟨some 30, _, _, _, _, _⟩) (v := ?_) rfl (by kernel_rfl) (by kernel_rfl) (by kernel_rfl) (fun _ _ _ h => h) (Or.inl ⟨by rfl, ?_⟩) ?_
        rotate_left
        · intro w
          go_simp
          try with_reducible rfl
        simp only [Act.put, List.setIfInBounds_toArray, List.set_cons_zero, List.set_cons_succ]
        refine wpAny_ready (rs := [0, 6]) (by kernel_rfl) (by simp) ?_
        refine AllReady.cons rfl (fun K hK => ?_) (AllReady.cons rfl (fun K hK => ?_) AllReady.nil)
        · go_simp
          refine hK _ _ ?_
          clear hK K
          have gu4x := (But.refl (fun _ => False) u0).alloc (.cells #[] 70)
          have bu4x := Blk.new u0 #[] 70
          have su4x := HGu0.out.size
          obtain ⟨u4x, hu⟩ : ∃ u : World, u = u0.alloc (.cells #[] 70) := ⟨_, rfl⟩
          obtain ⟨p, hp⟩ : ∃ p, p = u0.heap.size := ⟨_, rfl⟩
          rw [← hu] at gu4x bu4x ⊢
          rw [← hp] at bu4x su4x ⊢
          have HPu4x := Lib.hid bu4x
          have Lp := Lib.hid su4x
          have LXp := Lib.hid (hp.symm ▸ HXu0.out.lt)
          clear hu hp bu4x su4x
          have HGu4x := Lib.hid (HGu0.out.trans gu4x)
          have HXu4x := Lib.hid (HXu0.out.but gu4x (fun q => q))
          have q0u4x := HXu4x.out.cell 0
          have q1u4x := HXu4x.out.cell 1
          have q2u4x := HXu4x.out.cell 2
          refine wpAny_ready (rs := [2, 6]) (by kernel_rfl) (by simp) ?_
          refine AllReady.cons rfl (fun K hK => ?_) (AllReady.cons rfl (fun K hK => ?_) AllReady.nil)
          · refine step_append_none (o := ⟨some 27, _, _, _, _, _⟩) (by rfl) _ _ _ rfl 70 i0 Tryd.underlying39 hi (some ⟨p, 0, none⟩) 0 0 (Nat.le_refl _) rfl none 0 rfl ?_
            refine hK _ _ ?_
            clear hK K
            try simp only [Act.put, List.setIfInBounds_toArray, List.set_cons_zero, List.set_cons_succ]
            have HSu4x := Lib.hid (Row.of_blk0 (size := 4) HPu4x.out)
            have HSN := Lib.hid (show ∀ c, some p = some c → w.heap.size ≤ c from fun c hc => by cases hc; exact Lp.out)
            obtain ⟨os, hos⟩ : ∃ os, os = some p := ⟨_, rfl⟩
            rw [← hos] at HSu4x HSN
            clear hos
            refine wpAny_ready (rs := [6]) (by kernel_rfl) (by simp) ?_
            refine AllReady.cons rfl (fun K hK => ?_) AllReady.nil
            go_simp
            refine hK _ _ ?_
            clear hK K
            have gu6x := (But.refl (fun _ => False) u4x).alloc (.cells #[.int .i64 t, .int .i64 e, .int .i64 k, .int .u64 n] 70)
            have bu6x := Blk.new u4x #[.int .i64 t, .int .i64 e, .int .i64 k, .int .u64 n] 70
            have su6x := HGu4x.out.size
            obtain ⟨u6x, hu⟩ : ∃ u : World, u = u4x.alloc (.cells #[.int .i64 t, .int .i64 e, .int .i64 k, .int .u64 n] 70) := ⟨_, rfl⟩
            obtain ⟨q, hp⟩ : ∃ p, p = u4x.heap.size := ⟨_, rfl⟩
            rw [← hu] at gu6x bu6x ⊢
            rw [← hp] at bu6x su6x ⊢
            have HQu6x := Lib.hid bu6x
            have Lq := Lib.hid su6x
            have LXq := Lib.hid (hp.symm ▸ HXu4x.out.lt)
            clear hu hp bu6x su6x
            have HGu6x := Lib.hid (HGu4x.out.trans gu6x)
            have HXu6x := Lib.hid (HXu4x.out.but gu6x (fun q => q))
            have q0u6x := HXu6x.out.cell 0
            have q1u6x := HXu6x.out.cell 1
            have q2u6x := HXu6x.out.cell 2
            have HSu6x := Lib.hid (HSu4x.out.but gu6x (fun _ _ q => q))
            refine wpAny_ready (rs := [7]) (by kernel_rfl) (by simp) ?_
            refine AllReady.cons rfl (fun K hK => ?_) AllReady.nil
            refine step_append_row (o := ⟨some 32, _, _, _, _, _⟩) (by rfl) _ _ _ rfl 70 i0 (.agg #[.int .i64 0, .int .i64 0, .int .i64 0, .int .u64 0]) 4 32 Tryd.underlying39 hi hz0 hz1 hz2 rfl (by decide) _ os 0 [] HSu6x.out rfl ⟨q, 0, none⟩ 1 1 (encN ⟨t, ⟨e, k, n⟩⟩) rfl rfl (blk_src HQu6x.out) (oneCell_N _) (by unfold maxLen; omega) (by omega) ?_
            intro v4 u7x oz hZ hB4 hN4
            have HZN := Lib.hid (show ∀ c, oz = some c → w.heap.size ≤ c from fun c hc => by
              rcases hN4 c hc with r | r
              · exact HSN.out c r
              · have := HGu6x.out.size; omega)
            have HGu7x := Lib.hid (HGu6x.out.trans' hB4 (fun c hc => .inr (HSN.out c hc)))
            have HZ := Lib.hid (HFIN.out u7x v4 oz hZ)
            obtain ⟨az, capz, rfl, hd1, hd2⟩ := hZ.val
            clear hZ hB4 hN4
            refine hK _ _ ?_
            clear hK K
            try simp only [Act.put, List.setIfInBounds_toArray, List.set_cons_zero, List.set_cons_succ]
            refine wpAny_ready (rs := [8]) (by kernel_rfl) (by simp) ?_
            refine AllReady.cons rfl (fun K hK => ?_) AllReady.nil
            go_simp
            refine hK _ _ ?_
            clear hK K
            refine wpAny_ready (rs := [9]) (by kernel_rfl) (by simp) ?_
            refine AllReady.cons rfl (fun K hK => ?_) AllReady.nil
            go_simp
            refine hK _ _ ?_
            clear hK K
            refine wpAny_done (by kernel_rfl) ?_ _
            go_wp2_with fail
            go_ret2
            exact ⟨_, oz, rfl, HZ.out, (fun c hc => .inr (HZN.out c hc)), HGu7x.out⟩
          · go_simp
            refine hK _ _ ?_
            clear hK K
            have gu5x := (But.refl (fun _ => False) u4x).alloc (.cells #[.int .i64 t, .int .i64 e, .int .i64 k, .int .u64 n] 70)
            have bu5x := Blk.new u4x #[.int .i64 t, .int .i64 e, .int .i64 k, .int .u64 n] 70
            have su5x := HGu4x.out.size
            obtain ⟨u5x, hu⟩ : ∃ u : World, u = u4x.alloc (.cells #[.int .i64 t, .int .i64 e, .int .i64 k, .int .u64 n] 70) := ⟨_, rfl⟩
            obtain ⟨q, hp⟩ : ∃ p, p = u4x.heap.size := ⟨_, rfl⟩
            rw [← hu] at gu5x bu5x ⊢
            rw [← hp] at bu5x su5x ⊢
            have HQu5x := Lib.hid bu5x
            have Lq := Lib.hid su5x
            have LXq := Lib.hid (hp.symm ▸ HXu4x.out.lt)
            have HPQ := Lib.hid (show q ≠ p from fun r => by have := HPu4x.out.lt; omega)
            clear hu hp bu5x su5x
            have HGu5x := Lib.hid (HGu4x.out.trans gu5x)
            have HXu5x := Lib.hid (HXu4x.out.but gu5x (fun q => q))
            have q0u5x := HXu5x.out.cell 0
            have q1u5x := HXu5x.out.cell 1
            have q2u5x := HXu5x.out.cell 2
            have HPu5x := Lib.hid (HPu4x.out.but gu5x (fun q => q))
            refine wpAny_ready (rs := [2]) (by kernel_rfl) (by simp) ?_
            refine AllReady.cons rfl (fun K hK => ?_) AllReady.nil
            refine step_append_none (o := ⟨some 27, _, _, _, _, _⟩) (by rfl) _ _ _ rfl 70 i0 Tryd.underlying39 hi (some ⟨p, 0, none⟩) 0 0 (Nat.le_refl _) rfl none 0 rfl ?_
            refine hK _ _ ?_
            clear hK K
            try simp only [Act.put, List.setIfInBounds_toArray, List.set_cons_zero, List.set_cons_succ]
            have HSu5x := Lib.hid (Row.of_blk0 (size := 4) HPu5x.out)
            have HSN := Lib.hid (show ∀ c, some p = some c → w.heap.size ≤ c from fun c hc => by cases hc; exact Lp.out)
            obtain ⟨os, hos⟩ : ∃ os, os = some p := ⟨_, rfl⟩
            rw [← hos] at HSu5x HSN
            clear hos
            refine wpAny_ready (rs := [7]) (by kernel_rfl) (by simp) ?_
            refine AllReady.cons rfl (fun K hK => ?_) AllReady.nil
            refine step_append_row (o := ⟨some 32, _, _, _, _, _⟩) (by rfl) _ _ _ rfl 70 i0 (.agg #[.int .i64 0, .int .i64 0, .int .i64 0, .int .u64 0]) 4 32 Tryd.underlying39 hi hz0 hz1 hz2 rfl (by decide) _ os 0 [] HSu5x.out rfl ⟨q, 0, none⟩ 1 1 (encN ⟨t, ⟨e, k, n⟩⟩) rfl rfl (blk_src HQu5x.out) (oneCell_N _) (by unfold maxLen; omega) (by omega) ?_
            intro v4 u7x oz hZ hB4 hN4
            have HZN := Lib.hid (show ∀ c, oz = some c → w.heap.size ≤ c from fun c hc => by
              rcases hN4 c hc with r | r
              · exact HSN.out c r
              · have := HGu5x.out.size; omega)
            have HGu7x := Lib.hid (HGu5x.out.trans' hB4 (fun c hc => .inr (HSN.out c hc)))
            have HZ := Lib.hid (HFIN.out u7x v4 oz hZ)
            obtain ⟨az, capz, rfl, hd1, hd2⟩ := hZ.val
            clear hZ hB4 hN4
            refine hK _ _ ?_
            clear hK K
            try simp only [Act.put, List.setIfInBounds_toArray, List.set_cons_zero, List.set_cons_succ]
            refine wpAny_ready (rs := [8]) (by kernel_rfl) (by simp) ?_
            refine AllReady.cons rfl (fun K hK => ?_) AllReady.nil
            go_simp
            refine hK _ _ ?_
            clear hK K
            refine wpAny_ready (rs := [9]) (by kernel_rfl) (by simp) ?_
            refine AllReady.cons rfl (fun K hK => ?_) AllReady.nil
            go_simp
            refine hK _ _ ?_
            clear hK K
            refine wpAny_done (by kernel_rfl) ?_ _
            go_wp2_with fail
            go_ret2
            exact ⟨_, oz, rfl, HZ.out, (fun c hc => .inr (HZN.out c hc)), HGu7x.out⟩
        · go_simp
          refine hK _ _ ?_
          clear hK K
          have gu4x := (But.refl (fun _ => False) u0).alloc (.cells #[.int .i64 t, .int .i64 e, .int .i64 k, .int .u64 n] 70)
          have bu4x := Blk.new u0 #[.int .i64 t, .int .i64 e, .int .i64 k, .int .u64 n] 70
          have su4x := HGu0.out.size
          obtain ⟨u4x, hu⟩ : ∃ u : World, u = u0.alloc (.cells #[.int .i64 t, .int .i64 e, .int .i64 k, .int .u64 n] 70) := ⟨_, rfl⟩
          obtain ⟨q, hp⟩ : ∃ p, p = u0.heap.size := ⟨_, rfl⟩
          rw [← hu] at gu4x bu4x ⊢
          rw [← hp] at bu4x su4x ⊢
          have HQu4x := Lib.hid bu4x
          have Lq := Lib.hid su4x
          have LXq := Lib.hid (hp.symm ▸ HXu0.out.lt)
          clear hu hp bu4x su4x
          have HGu4x := Lib.hid (HGu0.out.trans gu4x)
          have HXu4x := Lib.hid (HXu0.out.but gu4x (fun q => q))
          have q0u4x := HXu4x.out.cell 0
          have q1u4x := HXu4x.out.cell 1
          have q2u4x := HXu4x.out.cell 2
          refine wpAny_ready (rs := [0]) (by kernel_rfl) (by simp) ?_
          refine AllReady.cons rfl (fun K hK => ?_) AllReady.nil
          go_simp
          refine hK _ _ ?_
          clear hK K
          have gu5x := (But.refl (fun _ => False) u4x).alloc (.cells #[] 70)
          have bu5x := Blk.new u4x #[] 70
          have su5x := HGu4x.out.size
          obtain ⟨u5x, hu⟩ : ∃ u : World, u = u4x.alloc (.cells #[] 70) := ⟨_, rfl⟩
          obtain ⟨p, hp⟩ : ∃ p, p = u4x.heap.size := ⟨_, rfl⟩
          rw [← hu] at gu5x bu5x ⊢
          rw [← hp] at bu5x su5x ⊢
          have HPu5x := Lib.hid bu5x
          have Lp := Lib.hid su5x
          have LXp := Lib.hid (hp.symm ▸ HXu4x.out.lt)
          have HPQ := Lib.hid (show q ≠ p from fun r => by have := HQu4x.out.lt; omega)
          clear hu hp bu5x su5x
          have HGu5x := Lib.hid (HGu4x.out.trans gu5x)
          have HXu5x := Lib.hid (HXu4x.out.but gu5x (fun q => q))
          have q0u5x := HXu5x.out.cell 0
          have q1u5x := HXu5x.out.cell 1
          have q2u5x := HXu5x.out.cell 2
          have HQu5x := Lib.hid (HQu4x.out.but gu5x (fun q => q))
          refine wpAny_ready (rs := [2]) (by kernel_rfl) (by simp) ?_
          refine AllReady.cons rfl (fun K hK => ?_) AllReady.nil
          refine step_append_none (o := ⟨some 27, _, _, _, _, _⟩) (by rfl) _ _ _ rfl 70 i0 Tryd.underlying39 hi (some ⟨p, 0, none⟩) 0 0 (Nat.le_refl _) rfl none 0 rfl ?_
          refine hK _ _ ?_
          clear hK K
          try simp only [Act.put, List.setIfInBounds_toArray, List.set_cons_zero, List.set_cons_succ]
          have HSu5x := Lib.hid (Row.of_blk0 (size := 4) HPu5x.out)
          have HSN := Lib.hid (show ∀ c, some p = some c → w.heap.size ≤ c from fun c hc => by cases hc; exact Lp.out)
          obtain ⟨os, hos⟩ : ∃ os, os = some p := ⟨_, rfl⟩
          rw [← hos] at HSu5x HSN
          clear hos
          refine wpAny_ready (rs := [7]) (by kernel_rfl) (by simp) ?_
          refine AllReady.cons rfl (fun K hK => ?_) AllReady.nil
          refine step_append_row (o := ⟨some 32, _, _, _, _, _⟩) (by rfl) _ _ _ rfl 70 i0 (.agg #[.int .i64 0, .int .i64 0, .int .i64 0, .int .u64 0]) 4 32 Tryd.underlying39 hi hz0 hz1 hz2 rfl (by decide) _ os 0 [] HSu5x.out rfl ⟨q, 0, none⟩ 1 1 (encN ⟨t, ⟨e, k, n⟩⟩) rfl rfl (blk_src HQu5x.out) (oneCell_N _) (by unfold maxLen; omega) (by omega) ?_
          intro v4 u7x oz hZ hB4 hN4
          have HZN := Lib.hid (show ∀ c, oz = some c → w.heap.size ≤ c from fun c hc => by
            rcases hN4 c hc with r | r
            · exact HSN.out c r
            · have := HGu5x.out.size; omega)
          have HGu7x := Lib.hid (HGu5x.out.trans' hB4 (fun c hc => .inr (HSN.out c hc)))
          have HZ := Lib.hid (HFIN.out u7x v4 oz hZ)
          obtain ⟨az, capz, rfl, hd1, hd2⟩ := hZ.val
          clear hZ hB4 hN4
          refine hK _ _ ?_
          clear hK K
          try simp only [Act.put, List.setIfInBounds_toArray, List.set_cons_zero, List.set_cons_succ]
          refine wpAny_ready (rs := [8]) (by kernel_rfl) (by simp) ?_
          refine AllReady.cons rfl (fun K hK => ?_) AllReady.nil
          go_simp
          refine hK _ _ ?_
          clear hK K
          refine wpAny_ready (rs := [9]) (by kernel_rfl) (by simp) ?_
          refine AllReady.cons rfl (fun K hK => ?_) AllReady.nil
          go_simp
          refine hK _ _ ?_
          clear hK K
          refine wpAny_done (by kernel_rfl) ?_ _
          go_wp2_with fail
          go_ret2
          exact ⟨_, oz, rfl, HZ.out, (fun c hc => .inr (HZN.out c hc)), HGu7x.out⟩
    · obtain ⟨rfl, hml, rfl⟩ := Value.slice.inj hv
      have HML := Lib.hid hml
      have HLN := Lib.hid (show (encsN l).length = m * 4 by rw [encsN_length, hml])
      have hm200 : m ≤ 200 := by omega
      rw [← hml] at HRu0 HFIN
      clear hv ho hml
      refine wpAny_take (i := 1) (oi := ⟨some 26, _, _, _, _, _⟩) (v := ?_) rfl (by kernel_rfl) (by kernel_rfl) (by kernel_rfl) (fun _ _ _ h => h) (Or.inl ⟨by rfl, ?_⟩) ?_
      rotate_left
      · intro w
        go_simp
        try with_reducible rfl
      simp only [Act.put, List.setIfInBounds_toArray, List.set_cons_zero, List.set_cons_succ]
      refine wpAny_take (i := 3) (oi := ⟨some 28, _, _, _, _, _⟩) (v := ?_) rfl (by kernel_rfl) (by kernel_rfl) (by kernel_rfl) (fun _ _ _ h => h) (Or.inl ⟨by rfl, ?_⟩) ?_
      rotate_left
      · intro w
        go_simp
        try with_reducible rfl
      simp only [Act.put, List.setIfInBounds_toArray, List.set_cons_zero, List.set_cons_succ]
      refine wpAny_ready (rs := [0, 4]) (by kernel_rfl) (by simp) ?_
      refine AllReady.cons rfl (fun K hK => ?_) (AllReady.cons rfl (fun K hK => ?_) AllReady.nil)
      · go_simp
        refine hK _ _ ?_
        clear hK K
        have gu2x := (But.refl (fun _ => False) u0).alloc (.cells #[] 70)
        have bu2x := Blk.new u0 #[] 70
        have su2x := HGu0.out.size
        obtain ⟨u2x, hu⟩ : ∃ u : World, u = u0.alloc (.cells #[] 70) := ⟨_, rfl⟩
        obtain ⟨p, hp⟩ : ∃ p, p = u0.heap.size := ⟨_, rfl⟩
        rw [← hu] at gu2x bu2x ⊢
        rw [← hp] at bu2x su2x ⊢
        have HPu2x := Lib.hid bu2x
        have Lp := Lib.hid su2x
        have LXp := Lib.hid (hp.symm ▸ HXu0.out.lt)
        clear hu hp bu2x su2x
        have HGu2x := Lib.hid (HGu0.out.trans gu2x)
        have HXu2x := Lib.hid (HXu0.out.but gu2x (fun q => q))
        have q0u2x := HXu2x.out.cell 0
        have q1u2x := HXu2x.out.cell 1
        have q2u2x := HXu2x.out.cell 2
        have HRu2x := Lib.hid (HRu0.out.but gu2x (fun _ _ q => q))
        refine wpAny_ready (rs := [2, 4]) (by kernel_rfl) (by simp) ?_
        refine AllReady.cons rfl (fun K hK => ?_) (AllReady.cons rfl (fun K hK => ?_) AllReady.nil)
        · refine step_append_row (o := ⟨some 27, _, _, _, _, _⟩) (by rfl) _ _ _ rfl 70 i0 (.agg #[.int .i64 0, .int .i64 0, .int .i64 0, .int .u64 0]) 4 32 Tryd.underlying39 hi hz0 hz1 hz2 rfl (by decide) _ (some p) 0 [] (Row.of_blk0 HPu2x.out) rfl ⟨b, off, none⟩ m cap (encsN l) rfl HLN.out (row_src HRu2x.out) oneCell_Ns (by unfold maxLen; omega) (by omega) ?_
          intro v3 u3x os hS3 hB3 hN3
          rw [Nat.zero_add, List.nil_append] at hS3
          obtain ⟨as3, caps, rfl, hc1, hc2⟩ := hS3.val
          have HSu3x := Lib.hid hS3
          have HSN := Lib.hid (show ∀ c, os = some c → w.heap.size ≤ c from fun c hc => by
            rcases hN3 c hc with r | r
            · cases r; exact Lp.out
            · have := HGu2x.out.size; omega)
          have HGu3x := Lib.hid (HGu2x.out.trans' hB3 (fun c hc => .inr (by cases hc; exact Lp.out)))
          have HXu3x := Lib.hid (HXu2x.out.but hB3 (fun r => by have := LXp.out; have := Option.some.inj r; omega))
          have q0u3x := HXu3x.out.cell 0
          have q1u3x := HXu3x.out.cell 1
          have q2u3x := HXu3x.out.cell 2
          clear hS3 hB3 hN3
          refine hK _ _ ?_
          clear hK K
          try simp only [Act.put, List.setIfInBounds_toArray, List.set_cons_zero, List.set_cons_succ]
          refine wpAny_ready (rs := [4]) (by kernel_rfl) (by simp) ?_
          refine AllReady.cons rfl (fun K hK => ?_) AllReady.nil
          go_simp
          refine hK _ _ ?_
          clear hK K
          refine wpAny_take (i := 5) (oi := ⟨some 30, _, _, _, _, _⟩) (v := ?_) rfl (by kernel_rfl) (by kernel_rfl) (by kernel_rfl) (fun _ _ _ h => h) (Or.inl ⟨by rfl, ?_⟩) ?_
          rotate_left
          · intro w
            go_simp
            try with_reducible rfl
          simp only [Act.put, List.setIfInBounds_toArray, List.set_cons_zero, List.set_cons_succ]
          refine wpAny_ready (rs := [6]) (by kernel_rfl) (by simp) ?_
          refine AllReady.cons rfl (fun K hK => ?_) AllReady.nil
          go_simp
          refine hK _ _ ?_
          clear hK K
          have gu6x := (But.refl (fun _ => False) u3x).alloc (.cells #[.int .i64 t, .int .i64 e, .int .i64 k, .int .u64 n] 70)
          have bu6x := Blk.new u3x #[.int .i64 t, .int .i64 e, .int .i64 k, .int .u64 n] 70
          have su6x := HGu3x.out.size
          obtain ⟨u6x, hu⟩ : ∃ u : World, u = u3x.alloc (.cells #[.int .i64 t, .int .i64 e, .int .i64 k, .int .u64 n] 70) := ⟨_, rfl⟩
          obtain ⟨q, hp⟩ : ∃ p, p = u3x.heap.size := ⟨_, rfl⟩
          rw [← hu] at gu6x bu6x ⊢
          rw [← hp] at bu6x su6x ⊢
          have HQu6x := Lib.hid bu6x
          have Lq := Lib.hid su6x
          have LXq := Lib.hid (hp.symm ▸ HXu3x.out.lt)
          clear hu hp bu6x su6x
          have HGu6x := Lib.hid (HGu3x.out.trans gu6x)
          have HXu6x := Lib.hid (HXu3x.out.but gu6x (fun q => q))
          have q0u6x := HXu6x.out.cell 0
          have q1u6x := HXu6x.out.cell 1
          have q2u6x := HXu6x.out.cell 2
          have HSu6x := Lib.hid (HSu3x.out.but gu6x (fun _ _ q => q))
          refine wpAny_ready (rs := [7]) (by kernel_rfl) (by simp) ?_
          refine AllReady.cons rfl (fun K hK => ?_) AllReady.nil
          refine step_append_row (o := ⟨some 32, _, _, _, _, _⟩) (by rfl) _ _ _ rfl 70 i0 (.agg #[.int .i64 0, .int .i64 0, .int .i64 0, .int .u64 0]) 4 32 Tryd.underlying39 hi hz0 hz1 hz2 rfl (by decide) _ os m (encsN l) HSu6x.out rfl ⟨q, 0, none⟩ 1 1 (encN ⟨t, ⟨e, k, n⟩⟩) rfl rfl (blk_src HQu6x.out) (oneCell_N _) (by unfold maxLen; omega) (by omega) ?_
          intro v4 u7x oz hZ hB4 hN4
          have HZN := Lib.hid (show ∀ c, oz = some c → w.heap.size ≤ c from fun c hc => by
            rcases hN4 c hc with r | r
            · exact HSN.out c r
            · have := HGu6x.out.size; omega)
          have HGu7x := Lib.hid (HGu6x.out.trans' hB4 (fun c hc => .inr (HSN.out c hc)))
          have HZ := Lib.hid (HFIN.out u7x v4 oz hZ)
          obtain ⟨az, capz, rfl, hd1, hd2⟩ := hZ.val
          clear hZ hB4 hN4
          refine hK _ _ ?_
          clear hK K
          try simp only [Act.put, List.setIfInBounds_toArray, List.set_cons_zero, List.set_cons_succ]
          refine wpAny_ready (rs := [8]) (by kernel_rfl) (by simp) ?_
          refine AllReady.cons rfl (fun K hK => ?_) AllReady.nil
          go_simp
          refine hK _ _ ?_
          clear hK K
          refine wpAny_ready (rs := [9]) (by kernel_rfl) (by simp) ?_
          refine AllReady.cons rfl (fun K hK => ?_) AllReady.nil
          go_simp
          refine hK _ _ ?_
          clear hK K
          refine wpAny_done (by kernel_rfl) ?_ _
          go_wp2_with fail
          go_ret2
          exact ⟨_, oz, rfl, HZ.out, (fun c hc => .inr (HZN.out c hc)), HGu7x.out⟩
        · go_simp
          refine hK _ _ ?_
          clear hK K
          refine wpAny_take (i := 5) (oi := ⟨some 30, _, _, _, _, _⟩) (v := ?_) rfl (by kernel_rfl) (by kernel_rfl) (by kernel_rfl) (fun _ _ _ h => h) (Or.inl ⟨by rfl, ?_⟩) ?_
          rotate_left
          · intro w
            go_simp
            try with_reducible rfl
          simp only [Act.put, List.setIfInBounds_toArray, List.set_cons_zero, List.set_cons_succ]
          refine wpAny_ready (rs := [2, 6]) (by kernel_rfl) (by simp) ?_
          refine AllReady.cons rfl (fun K hK => ?_) (AllReady.cons rfl (fun K hK => ?_) AllReady.nil)
          · refine step_append_row (o := ⟨some 27, _, _, _, _, _⟩) (by rfl) _ _ _ rfl 70 i0 (.agg #[.int .i64 0, .int .i64 0, .int .i64 0, .int .u64 0]) 4 32 Tryd.underlying39 hi hz0 hz1 hz2 rfl (by decide) _ (some p) 0 [] (Row.of_blk0 HPu2x.out) rfl ⟨b, off, none⟩ m cap (encsN l) rfl HLN.out (row_src HRu2x.out) oneCell_Ns (by unfold maxLen; omega) (by omega) ?_
            intro v3 u5x os hS3 hB3 hN3
            rw [Nat.zero_add, List.nil_append] at hS3
            obtain ⟨as3, caps, rfl, hc1, hc2⟩ := hS3.val
            have HSu5x := Lib.hid hS3
            have HSN := Lib.hid (show ∀ c, os = some c → w.heap.size ≤ c from fun c hc => by
              rcases hN3 c hc with r | r
              · cases r; exact Lp.out
              · have := HGu2x.out.size; omega)
            have HGu5x := Lib.hid (HGu2x.out.trans' hB3 (fun c hc => .inr (by cases hc; exact Lp.out)))
            have HXu5x := Lib.hid (HXu2x.out.but hB3 (fun r => by have := LXp.out; have := Option.some.inj r; omega))
            have q0u5x := HXu5x.out.cell 0
            have q1u5x := HXu5x.out.cell 1
            have q2u5x := HXu5x.out.cell 2
            clear hS3 hB3 hN3
            refine hK _ _ ?_
            clear hK K
            try simp only [Act.put, List.setIfInBounds_toArray, List.set_cons_zero, List.set_cons_succ]
            refine wpAny_ready (rs := [6]) (by kernel_rfl) (by simp) ?_
            refine AllReady.cons rfl (fun K hK => ?_) AllReady.nil
            go_simp
            refine hK _ _ ?_
            clear hK K
            have gu6x := (But.refl (fun _ => False) u5x).alloc (.cells #[.int .i64 t, .int .i64 e, .int .i64 k, .int .u64 n] 70)
            have bu6x := Blk.new u5x #[.int .i64 t, .int .i64 e, .int .i64 k, .int .u64 n] 70
            have su6x := HGu5x.out.size
            obtain ⟨u6x, hu⟩ : ∃ u : World, u = u5x.alloc (.cells #[.int .i64 t, .int .i64 e, .int .i64 k, .int .u64 n] 70) := ⟨_, rfl⟩
            obtain ⟨q, hp⟩ : ∃ p, p = u5x.heap.size := ⟨_, rfl⟩
            rw [← hu] at gu6x bu6x ⊢
            rw [← hp] at bu6x su6x ⊢
            have HQu6x := Lib.hid bu6x
            have Lq := Lib.hid su6x
            have LXq := Lib.hid (hp.symm ▸ HXu5x.out.lt)
            clear hu hp bu6x su6x
            have HGu6x := Lib.hid (HGu5x.out.trans gu6x)
            have HXu6x := Lib.hid (HXu5x.out.but gu6x (fun q => q))
            have q0u6x := HXu6x.out.cell 0
            have q1u6x := HXu6x.out.cell 1
            have q2u6x := HXu6x.out.cell 2
            have HSu6x := Lib.hid (HSu5x.out.but gu6x (fun _ _ q => q))
            refine wpAny_ready (rs := [7]) (by kernel_rfl) (by simp) ?_
            refine AllReady.cons rfl (fun K hK => ?_) AllReady.nil
            refine step_append_row (o := ⟨some 32, _, _, _, _, _⟩) (by rfl) _ _ _ rfl 70 i0 (.agg #[.int .i64 0, .int .i64 0, .int .i64 0, .int .u64 0]) 4 32 Tryd.underlying39 hi hz0 hz1 hz2 rfl (by decide) _ os m (encsN l) HSu6x.out rfl ⟨q, 0, none⟩ 1 1 (encN ⟨t, ⟨e, k, n⟩⟩) rfl rfl (blk_src HQu6x.out) (oneCell_N _) (by unfold maxLen; omega) (by omega) ?_
            intro v4 u7x oz hZ hB4 hN4
            have HZN := Lib.hid (show ∀ c, oz = some c → w.heap.size ≤ c from fun c hc => by
              rcases hN4 c hc with r | r
              · exact HSN.out c r
              · have := HGu6x.out.size; omega)
            have HGu7x := Lib.hid (HGu6x.out.trans' hB4 (fun c hc => .inr (HSN.out c hc)))
            have HZ := Lib.hid (HFIN.out u7x v4 oz hZ)
            obtain ⟨az, capz, rfl, hd1, hd2⟩ := hZ.val
            clear hZ hB4 hN4
            refine hK _ _ ?_
            clear hK K
            try simp only [Act.put, List.setIfInBounds_toArray, List.set_cons_zero, List.set_cons_succ]
            refine wpAny_ready (rs := [8]) (by kernel_rfl) (by simp) ?_
            refine AllReady.cons rfl (fun K hK => ?_) AllReady.nil
            go_simp
            refine hK _ _ ?_
            clear hK K
            refine wpAny_ready (rs := [9]) (by kernel_rfl) (by simp) ?_
            refine AllReady.cons rfl (fun K hK => ?_) AllReady.nil
            go_simp
            refine hK _ _ ?_
            clear hK K
            refine wpAny_done (by kernel_rfl) ?_ _
            go_wp2_with fail
            go_ret2
            exact ⟨_, oz, rfl, HZ.out, (fun c hc => .inr (HZN.out c hc)), HGu7x.out⟩
          · go_simp
            refine hK _ _ ?_
            clear hK K
            have gu5x := (But.refl (fun _ => False) u2x).alloc (.cells #[.int .i64 t, .int .i64 e, .int .i64 k, .int .u64 n] 70)
            have bu5x := Blk.new u2x #[.int .i64 t, .int .i64 e, .int .i64 k, .int .u64 n] 70
            have su5x := HGu2x.out.size
            obtain ⟨u5x, hu⟩ : ∃ u : World, u = u2x.alloc (.cells #[.int .i64 t, .int .i64 e, .int .i64 k, .int .u64 n] 70) := ⟨_, rfl⟩
            obtain ⟨q, hp⟩ : ∃ p, p = u2x.heap.size := ⟨_, rfl⟩
            rw [← hu] at gu5x bu5x ⊢
            rw [← hp] at bu5x su5x ⊢
            have HQu5x := Lib.hid bu5x
            have Lq := Lib.hid su5x
            have LXq := Lib.hid (hp.symm ▸ HXu2x.out.lt)
            have HPQ := Lib.hid (show q ≠ p from fun r => by have := HPu2x.out.lt; omega)
            clear hu hp bu5x su5x
            have HGu5x := Lib.hid (HGu2x.out.trans gu5x)
            have HXu5x := Lib.hid (HXu2x.out.but gu5x (fun q => q))
            have q0u5x := HXu5x.out.cell 0
            have q1u5x := HXu5x.out.cell 1
            have q2u5x := HXu5x.out.cell 2
            have HRu5x := Lib.hid (HRu2x.out.but gu5x (fun _ _ q => q))
            have HPu5x := Lib.hid (HPu2x.out.but gu5x (fun q => q))
            refine wpAny_ready (rs := [2]) (by kernel_rfl) (by simp) ?_
            refine AllReady.cons rfl (fun K hK => ?_) AllReady.nil
            refine step_append_row (o := ⟨some 27, _, _, _, _, _⟩) (by rfl) _ _ _ rfl 70 i0 (.agg #[.int .i64 0, .int .i64 0, .int .i64 0, .int .u64 0]) 4 32 Tryd.underlying39 hi hz0 hz1 hz2 rfl (by decide) _ (some p) 0 [] (Row.of_blk0 HPu5x.out) rfl ⟨b, off, none⟩ m cap (encsN l) rfl HLN.out (row_src HRu5x.out) oneCell_Ns (by unfold maxLen; omega) (by omega) ?_
            intro v3 u6x os hS3 hB3 hN3
            rw [Nat.zero_add, List.nil_append] at hS3
            obtain ⟨as3, caps, rfl, hc1, hc2⟩ := hS3.val
            have HSu6x := Lib.hid hS3
            have HSN := Lib.hid (show ∀ c, os = some c → w.heap.size ≤ c from fun c hc => by
              rcases hN3 c hc with r | r
              · cases r; exact Lp.out
              · have := HGu5x.out.size; omega)
            have HGu6x := Lib.hid (HGu5x.out.trans' hB3 (fun c hc => .inr (by cases hc; exact Lp.out)))
            have HXu6x := Lib.hid (HXu5x.out.but hB3 (fun r => by have := LXp.out; have := Option.some.inj r; omega))
            have q0u6x := HXu6x.out.cell 0
            have q1u6x := HXu6x.out.cell 1
            have q2u6x := HXu6x.out.cell 2
            have HQu6x := Lib.hid (HQu5x.out.but hB3 (fun r => HPQ.out (Option.some.inj r).symm))
            clear hS3 hB3 hN3
            refine hK _ _ ?_
            clear hK K
            try simp only [Act.put, List.setIfInBounds_toArray, List.set_cons_zero, List.set_cons_succ]
            refine wpAny_ready (rs := [7]) (by kernel_rfl) (by simp) ?_
            refine AllReady.cons rfl (fun K hK => ?_) AllReady.nil
            refine step_append_row (o := ⟨some 32, _, _, _, _, _⟩) (by rfl) _ _ _ rfl 70 i0 (.agg #[.int .i64 0, .int .i64 0, .int .i64 0, .int .u64 0]) 4 32 Tryd.underlying39 hi hz0 hz1 hz2 rfl (by decide) _ os m (encsN l) HSu6x.out rfl ⟨q, 0, none⟩ 1 1 (encN ⟨t, ⟨e, k, n⟩⟩) rfl rfl (blk_src HQu6x.out) (oneCell_N _) (by unfold maxLen; omega) (by omega) ?_
            intro v4 u7x oz hZ hB4 hN4
            have HZN := Lib.hid (show ∀ c, oz = some c → w.heap.size ≤ c from fun c hc => by
              rcases hN4 c hc with r | r
              · exact HSN.out c r
              · have := HGu6x.out.size; omega)
            have HGu7x := Lib.hid (HGu6x.out.trans' hB4 (fun c hc => .inr (HSN.out c hc)))
            have HZ := Lib.hid (HFIN.out u7x v4 oz hZ)
            obtain ⟨az, capz, rfl, hd1, hd2⟩ := hZ.val
            clear hZ hB4 hN4
            refine hK _ _ ?_
            clear hK K
            try simp only [Act.put, List.setIfInBounds_toArray, List.set_cons_zero, List.set_cons_succ]
            refine wpAny_ready (rs := [8]) (by kernel_rfl) (by simp) ?_
            refine AllReady.cons rfl (fun K hK => ?_) AllReady.nil
            go_simp
            refine hK _ _ ?_
            clear hK K
            refine wpAny_ready (rs := [9]) (by kernel_rfl) (by simp) ?_
            refine AllReady.cons rfl (fun K hK => ?_) AllReady.nil
            go_simp
            refine hK _ _ ?_
            clear hK K
            refine wpAny_done (by kernel_rfl) ?_ _
            go_wp2_with fail
            go_ret2
            exact ⟨_, oz, rfl, HZ.out, (fun c hc => .inr (HZN.out c hc)), HGu7x.out⟩
      · go_simp
        refine hK _ _ ?_
        clear hK K
        refine wpAny_take (i := 5) (oi := ⟨some 30, _, _, _, _, _⟩) (v := ?_) rfl (by kernel_rfl) (by kernel_rfl) (by kernel_rfl) (fun _ _ _ h => h) (Or.inl ⟨by rfl, ?_⟩) ?_
        rotate_left
        · intro w
          go_simp
          try with_reducible rfl
        simp only [Act.put, List.setIfInBounds_toArray, List.set_cons_zero, List.set_cons_succ]
        refine wpAny_ready (rs := [0, 6]) (by kernel_rfl) (by simp) ?_
        refine AllReady.cons rfl (fun K hK => ?_) (AllReady.cons rfl (fun K hK => ?_) AllReady.nil)
        · go_simp
          refine hK _ _ ?_
          clear hK K
          have gu4x := (But.refl (fun _ => False) u0).alloc (.cells #[] 70)
          have bu4x := Blk.new u0 #[] 70
          have su4x := HGu0.out.size
          obtain ⟨u4x, hu⟩ : ∃ u : World, u = u0.alloc (.cells #[] 70) := ⟨_, rfl⟩
          obtain ⟨p, hp⟩ : ∃ p, p = u0.heap.size := ⟨_, rfl⟩
          rw [← hu] at gu4x bu4x ⊢
          rw [← hp] at bu4x su4x ⊢
          have HPu4x := Lib.hid bu4x
          have Lp := Lib.hid su4x
          have LXp := Lib.hid (hp.symm ▸ HXu0.out.lt)
          clear hu hp bu4x su4x
          have HGu4x := Lib.hid (HGu0.out.trans gu4x)
          have HXu4x := Lib.hid (HXu0.out.but gu4x (fun q => q))
          have q0u4x := HXu4x.out.cell 0
          have q1u4x := HXu4x.out.cell 1
          have q2u4x := HXu4x.out.cell 2
          have HRu4x := Lib.hid (HRu0.out.but gu4x (fun _ _ q => q))
          refine wpAny_ready (rs := [2, 6]) (by kernel_rfl) (by simp) ?_
          refine AllReady.cons rfl (fun K hK => ?_) (AllReady.cons rfl (fun K hK => ?_) AllReady.nil)
          · refine step_append_row (o := ⟨some 27, _, _, _, _, _⟩) (by rfl) _ _ _ rfl 70 i0 (.agg #[.int .i64 0, .int .i64 0, .int .i64 0, .int .u64 0]) 4 32 Tryd.underlying39 hi hz0 hz1 hz2 rfl (by decide) _ (some p) 0 [] (Row.of_blk0 HPu4x.out) rfl ⟨b, off, none⟩ m cap (encsN l) rfl HLN.out (row_src HRu4x.out) oneCell_Ns (by unfold maxLen; omega) (by omega) ?_
            intro v3 u5x os hS3 hB3 hN3
            rw [Nat.zero_add, List.nil_append] at hS3
            obtain ⟨as3, caps, rfl, hc1, hc2⟩ := hS3.val
            have HSu5x := Lib.hid hS3
            have HSN := Lib.hid (show ∀ c, os = some c → w.heap.size ≤ c from fun c hc => by
              rcases hN3 c hc with r | r
              · cases r; exact Lp.out
              · have := HGu4x.out.size; omega)
            have HGu5x := Lib.hid (HGu4x.out.trans' hB3 (fun c hc => .inr (by cases hc; exact Lp.out)))
            have HXu5x := Lib.hid (HXu4x.out.but hB3 (fun r => by have := LXp.out; have := Option.some.inj r; omega))
            have q0u5x := HXu5x.out.cell 0
            have q1u5x := HXu5x.out.cell 1
            have q2u5x := HXu5x.out.cell 2
            clear hS3 hB3 hN3
            refine hK _ _ ?_
            clear hK K
            try simp only [Act.put, List.setIfInBounds_toArray, List.set_cons_zero, List.set_cons_succ]
            refine wpAny_ready (rs := [6]) (by kernel_rfl) (by simp) ?_
            refine AllReady.cons rfl (fun K hK => ?_) AllReady.nil
            go_simp
            refine hK _ _ ?_
            clear hK K
            have gu6x := (But.refl (fun _ => False) u5x).alloc (.cells #[.int .i64 t, .int .i64 e, .int .i64 k, .int .u64 n] 70)
            have bu6x := Blk.new u5x #[.int .i64 t, .int .i64 e, .int .i64 k, .int .u64 n] 70
            have su6x := HGu5x.out.size
            obtain ⟨u6x, hu⟩ : ∃ u : World, u = u5x.alloc (.cells #[.int .i64 t, .int .i64 e, .int .i64 k, .int .u64 n] 70) := ⟨_, rfl⟩
            obtain ⟨q, hp⟩ : ∃ p, p = u5x.heap.size := ⟨_, rfl⟩
            rw [← hu] at gu6x bu6x ⊢
            rw [← hp] at bu6x su6x ⊢
            have HQu6x := Lib.hid bu6x
            have Lq := Lib.hid su6x
            have LXq := Lib.hid (hp.symm ▸ HXu5x.out.lt)
            clear hu hp bu6x su6x
            have HGu6x := Lib.hid (HGu5x.out.trans gu6x)
            have HXu6x := Lib.hid (HXu5x.out.but gu6x (fun q => q))
            have q0u6x := HXu6x.out.cell 0
            have q1u6x := HXu6x.out.cell 1
            have q2u6x := HXu6x.out.cell 2
            have HSu6x := Lib.hid (HSu5x.out.but gu6x (fun _ _ q => q))
            refine wpAny_ready (rs := [7]) (by kernel_rfl) (by simp) ?_
            refine AllReady.cons rfl (fun K hK => ?_) AllReady.nil
            refine step_append_row (o := ⟨some 32, _, _, _, _, _⟩) (by rfl) _ _ _ rfl 70 i0 (.agg #[.int .i64 0, .int .i64 0, .int .i64 0, .int .u64 0]) 4 32 Tryd.underlying39 hi hz0 hz1 hz2 rfl (by decide) _ os m (encsN l) HSu6x.out rfl ⟨q, 0, none⟩ 1 1 (encN ⟨t, ⟨e, k, n⟩⟩) rfl rfl (blk_src HQu6x.out) (oneCell_N _) (by unfold maxLen; omega) (by omega) ?_
            intro v4 u7x oz hZ hB4 hN4
            have HZN := Lib.hid (show ∀ c, oz = some c → w.heap.size ≤ c from fun c hc => by
              rcases hN4 c hc with r | r
              · exact HSN.out c r
              · have := HGu6x.out.size; omega)
            have HGu7x := Lib.hid (HGu6x.out.trans' hB4 (fun c hc => .inr (HSN.out c hc)))
            have HZ := Lib.hid (HFIN.out u7x v4 oz hZ)
            obtain ⟨az, capz, rfl, hd1, hd2⟩ := hZ.val
            clear hZ hB4 hN4
            refine hK _ _ ?_
            clear hK K
            try simp only [Act.put, List.setIfInBounds_toArray, List.set_cons_zero, List.set_cons_succ]
            refine wpAny_ready (rs := [8]) (by kernel_rfl) (by simp) ?_
            refine AllReady.cons rfl (fun K hK => ?_) AllReady.nil
            go_simp
            refine hK _ _ ?_
            clear hK K
            refine wpAny_ready (rs := [9]) (by kernel_rfl) (by simp) ?_
            refine AllReady.cons rfl (fun K hK => ?_) AllReady.nil
            go_simp
            refine hK _ _ ?_
            clear hK K
            refine wpAny_done (by kernel_rfl) ?_ _
            go_wp2_with fail
            go_ret2
            exact ⟨_, oz, rfl, HZ.out, (fun c hc => .inr (HZN.out c hc)), HGu7x.out⟩
          · go_simp
            refine hK _ _ ?_
            clear hK K
            have gu5x := (But.refl (fun _ => False) u4x).alloc (.cells #[.int .i64 t, .int .i64 e, .int .i64 k, .int .u64 n] 70)
            have bu5x := Blk.new u4x #[.int .i64 t, .int .i64 e, .int .i64 k, .int .u64 n] 70
            have su5x := HGu4x.out.size
            obtain ⟨u5x, hu⟩ : ∃ u : World, u = u4x.alloc (.cells #[.int .i64 t, .int .i64 e, .int .i64 k, .int .u64 n] 70) := ⟨_, rfl⟩
            obtain ⟨q, hp⟩ : ∃ p, p = u4x.heap.size := ⟨_, rfl⟩
            rw [← hu] at gu5x bu5x ⊢
            rw [← hp] at bu5x su5x ⊢
            have HQu5x := Lib.hid bu5x
            have Lq := Lib.hid su5x
            have LXq := Lib.hid (hp.symm ▸ HXu4x.out.lt)
            have HPQ := Lib.hid (show q ≠ p from fun r => by have := HPu4x.out.lt; omega)
            clear hu hp bu5x su5x
            have HGu5x := Lib.hid (HGu4x.out.trans gu5x)
            have HXu5x := Lib.hid (HXu4x.out.but gu5x (fun q => q))
            have q0u5x := HXu5x.out.cell 0
            have q1u5x := HXu5x.out.cell 1
            have q2u5x := HXu5x.out.cell 2
            have HRu5x := Lib.hid (HRu4x.out.but gu5x (fun _ _ q => q))
            have HPu5x := Lib.hid (HPu4x.out.but gu5x (fun q => q))
            refine wpAny_ready (rs := [2]) (by kernel_rfl) (by simp) ?_
            refine AllReady.cons rfl (fun K hK => ?_) AllReady.nil
            refine step_append_row (o := ⟨some 27, _, _, _, _, _⟩) (by rfl) _ _ _ rfl 70 i0 (.agg #[.int .i64 0, .int .i64 0, .int .i64 0, .int .u64 0]) 4 32 Tryd.underlying39 hi hz0 hz1 hz2 rfl (by decide) _ (some p) 0 [] (Row.of_blk0 HPu5x.out) rfl ⟨b, off, none⟩ m cap (encsN l) rfl HLN.out (row_src HRu5x.out) oneCell_Ns (by unfold maxLen; omega) (by omega) ?_
            intro v3 u6x os hS3 hB3 hN3
            rw [Nat.zero_add, List.nil_append] at hS3
            obtain ⟨as3, caps, rfl, hc1, hc2⟩ := hS3.val
            have HSu6x := Lib.hid hS3
            have HSN := Lib.hid (show ∀ c, os = some c → w.heap.size ≤ c from fun c hc => by
              rcases hN3 c hc with r | r
              · cases r; exact Lp.out
              · have := HGu5x.out.size; omega)
            have HGu6x := Lib.hid (HGu5x.out.trans' hB3 (fun c hc => .inr (by cases hc; exact Lp.out)))
            have HXu6x := Lib.hid (HXu5x.out.but hB3 (fun r => by have := LXp.out; have := Option.some.inj r; omega))
            have q0u6x := HXu6x.out.cell 0
            have q1u6x := HXu6x.out.cell 1
            have q2u6x := HXu6x.out.cell 2
            have HQu6x := Lib.hid (HQu5x.out.but hB3 (fun r => HPQ.out (Option.some.inj r).symm))
            clear hS3 hB3 hN3
            refine hK _ _ ?_
            clear hK K
            try simp only [Act.put, List.setIfInBounds_toArray, List.set_cons_zero, List.set_cons_succ]
            refine wpAny_ready (rs := [7]) (by kernel_rfl) (by simp) ?_
            refine AllReady.cons rfl (fun K hK => ?_) AllReady.nil
            refine step_append_row (o := ⟨some 32, _, _, _, _, _⟩) (by rfl) _ _ _ rfl 70 i0 (.agg #[.int .i64 0, .int .i64 0, .int .i64 0, .int .u64 0]) 4 32 Tryd.underlying39 hi hz0 hz1 hz2 rfl (by decide) _ os m (encsN l) HSu6x.out rfl ⟨q, 0, none⟩ 1 1 (encN ⟨t, ⟨e, k, n⟩⟩) rfl rfl (blk_src HQu6x.out) (oneCell_N _) (by unfold maxLen; omega) (by omega) ?_
            intro v4 u7x oz hZ hB4 hN4
            have HZN := Lib.hid (show ∀ c, oz = some c → w.heap.size ≤ c from fun c hc => by
              rcases hN4 c hc with r | r
              · exact HSN.out c r
              · have := HGu6x.out.size; omega)
            have HGu7x := Lib.hid (HGu6x.out.trans' hB4 (fun c hc => .inr (HSN.out c hc)))
            have HZ := Lib.hid (HFIN.out u7x v4 oz hZ)
            obtain ⟨az, capz, rfl, hd1, hd2⟩ := hZ.val
            clear hZ hB4 hN4
            refine hK _ _ ?_
            clear hK K
            try simp only [Act.put, List.setIfInBounds_toArray, List.set_cons_zero, List.set_cons_succ]
            refine wpAny_ready (rs := [8]) (by kernel_rfl) (by simp) ?_
            refine AllReady.cons rfl (fun K hK => ?_) AllReady.nil
            go_simp
            refine hK _ _ ?_
            clear hK K
            refine wpAny_ready (rs := [9]) (by kernel_rfl) (by simp) ?_
            refine AllReady.cons rfl (fun K hK => ?_) AllReady.nil
            go_simp
            refine hK _ _ ?_
            clear hK K
            refine wpAny_done (by kernel_rfl) ?_ _
            go_wp2_with fail
            go_ret2
            exact ⟨_, oz, rfl, HZ.out, (fun c hc => .inr (HZN.out c hc)), HGu7x.out⟩
        · go_simp
          refine hK _ _ ?_
          clear hK K
          have gu4x := (But.refl (fun _ => False) u0).alloc (.cells #[.int .i64 t, .int .i64 e, .int .i64 k, .int .u64 n] 70)
          have bu4x := Blk.new u0 #[.int .i64 t, .int .i64 e, .int .i64 k, .int .u64 n] 70
          have su4x := HGu0.out.size
          obtain ⟨u4x, hu⟩ : ∃ u : World, u = u0.alloc (.cells #[.int .i64 t, .int .i64 e, .int .i64 k, .int .u64 n] 70) := ⟨_, rfl⟩
          obtain ⟨q, hp⟩ : ∃ p, p = u0.heap.size := ⟨_, rfl⟩
          rw [← hu] at gu4x bu4x ⊢
          rw [← hp] at bu4x su4x ⊢
          have HQu4x := Lib.hid bu4x
          have Lq := Lib.hid su4x
          have LXq := Lib.hid (hp.symm ▸ HXu0.out.lt)
          clear hu hp bu4x su4x
          have HGu4x := Lib.hid (HGu0.out.trans gu4x)
          have HXu4x := Lib.hid (HXu0.out.but gu4x (fun q => q))
          have q0u4x := HXu4x.out.cell 0
          have q1u4x := HXu4x.out.cell 1
          have q2u4x := HXu4x.out.cell 2
          have HRu4x := Lib.hid (HRu0.out.but gu4x (fun _ _ q => q))
          refine wpAny_ready (rs := [0]) (by kernel_rfl) (by simp) ?_
          refine AllReady.cons rfl (fun K hK => ?_) AllReady.nil
          go_simp
          refine hK _ _ ?_
          clear hK K
          have gu5x := (But.refl (fun _ => False) u4x).alloc (.cells #[] 70)
          have bu5x := Blk.new u4x #[] 70
          have su5x := HGu4x.out.size
          obtain ⟨u5x, hu⟩ : ∃ u : World, u = u4x.alloc (.cells #[] 70) := ⟨_, rfl⟩
          obtain ⟨p, hp⟩ : ∃ p, p = u4x.heap.size := ⟨_, rfl⟩
          rw [← hu] at gu5x bu5x ⊢
          rw [← hp] at bu5x su5x ⊢
          have HPu5x := Lib.hid bu5x
          have Lp := Lib.hid su5x
          have LXp := Lib.hid (hp.symm ▸ HXu4x.out.lt)
          have HPQ := Lib.hid (show q ≠ p from fun r => by have := HQu4x.out.lt; omega)
          clear hu hp bu5x su5x
          have HGu5x := Lib.hid (HGu4x.out.trans gu5x)
          have HXu5x := Lib.hid (HXu4x.out.but gu5x (fun q => q))
          have q0u5x := HXu5x.out.cell 0
          have q1u5x := HXu5x.out.cell 1
          have q2u5x := HXu5x.out.cell 2
          have HRu5x := Lib.hid (HRu4x.out.but gu5x (fun _ _ q => q))
          have HQu5x := Lib.hid (HQu4x.out.but gu5x (fun q => q))
          refine wpAny_ready (rs := [2]) (by kernel_rfl) (by simp) ?_
          refine AllReady.cons rfl (fun K hK => ?_) AllReady.nil
          refine step_append_row (o := ⟨some 27, _, _, _, _, _⟩) (by rfl) _ _ _ rfl 70 i0 (.agg #[.int .i64 0, .int .i64 0, .int .i64 0, .int .u64 0]) 4 32 Tryd.underlying39 hi hz0 hz1 hz2 rfl (by decide) _ (some p) 0 [] (Row.of_blk0 HPu5x.out) rfl ⟨b, off, none⟩ m cap (encsN l) rfl HLN.out (row_src HRu5x.out) oneCell_Ns (by unfold maxLen; omega) (by omega) ?_
          intro v3 u6x os hS3 hB3 hN3
          rw [Nat.zero_add, List.nil_append] at hS3
          obtain ⟨as3, caps, rfl, hc1, hc2⟩ := hS3.val
          have HSu6x := Lib.hid hS3
          have HSN := Lib.hid (show ∀ c, os = some c → w.heap.size ≤ c from fun c hc => by
            rcases hN3 c hc with r | r
            · cases r; exact Lp.out
            · have := HGu5x.out.size; omega)
          have HGu6x := Lib.hid (HGu5x.out.trans' hB3 (fun c hc => .inr (by cases hc; exact Lp.out)))
          have HXu6x := Lib.hid (HXu5x.out.but hB3 (fun r => by have := LXp.out; have := Option.some.inj r; omega))
          have q0u6x := HXu6x.out.cell 0
          have q1u6x := HXu6x.out.cell 1
          have q2u6x := HXu6x.out.cell 2
          have HQu6x := Lib.hid (HQu5x.out.but hB3 (fun r => HPQ.out (Option.some.inj r).symm))
          clear hS3 hB3 hN3
          refine hK _ _ ?_
          clear hK K
          try simp only [Act.put, List.setIfInBounds_toArray, List.set_cons_zero, List.set_cons_succ]
          refine wpAny_ready (rs := [7]) (by kernel_rfl) (by simp) ?_
          refine AllReady.cons rfl (fun K hK => ?_) AllReady.nil
          refine step_append_row (o := ⟨some 32, _, _, _, _, _⟩) (by rfl) _ _ _ rfl 70 i0 (.agg #[.int .i64 0, .int .i64 0, .int .i64 0, .int .u64 0]) 4 32 Tryd.underlying39 hi hz0 hz1 hz2 rfl (by decide) _ os m (encsN l) HSu6x.out rfl ⟨q, 0, none⟩ 1 1 (encN ⟨t, ⟨e, k, n⟩⟩) rfl rfl (blk_src HQu6x.out) (oneCell_N _) (by unfold maxLen; omega) (by omega) ?_
          intro v4 u7x oz hZ hB4 hN4
          have HZN := Lib.hid (show ∀ c, oz = some c → w.heap.size ≤ c from fun c hc => by
            rcases hN4 c hc with r | r
            · exact HSN.out c r
            · have := HGu6x.out.size; omega)
          have HGu7x := Lib.hid (HGu6x.out.trans' hB4 (fun c hc => .inr (HSN.out c hc)))
          have HZ := Lib.hid (HFIN.out u7x v4 oz hZ)
          obtain ⟨az, capz, rfl, hd1, hd2⟩ := hZ.val
          clear hZ hB4 hN4
          refine hK _ _ ?_
          clear hK K
          try simp only [Act.put, List.setIfInBounds_toArray, List.set_cons_zero, List.set_cons_succ]
          refine wpAny_ready (rs := [8]) (by kernel_rfl) (by simp) ?_
          refine AllReady.cons rfl (fun K hK => ?_) AllReady.nil
          go_simp
          refine hK _ _ ?_
          clear hK K
          refine wpAny_ready (rs := [9]) (by kernel_rfl) (by simp) ?_
          refine AllReady.cons rfl (fun K hK => ?_) AllReady.nil
          go_simp
          refine hK _ _ ?_
          clear hK K
          refine wpAny_done (by kernel_rfl) ?_ _
          go_wp2_with fail
          go_ret2
          exact ⟨_, oz, rfl, HZ.out, (fun c hc => .inr (HZN.out c hc)), HGu7x.out⟩
end Watch
end Go.Proofs.YtldgjmgdbaeglaaDoor

