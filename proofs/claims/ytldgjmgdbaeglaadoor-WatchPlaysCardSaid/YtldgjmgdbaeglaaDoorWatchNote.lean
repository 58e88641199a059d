/- Note of a book (layer 23), walked; printed by gen_watch2.py. -/
import Derived.Test.YtldgjmgdbaeglaaDoorWatchNotes
import Derived.Test.YtldgjmgdbaeglaaDoorLists
set_option linter.unusedVariables false
set_option linter.unusedSimpArgs false
namespace Go.Proofs.YtldgjmgdbaeglaaDoor
open Go.RowKit

section
variable {α : Type} [DecidableEq α] {P : Program} {kt et : TypeId} {kv : α → Value} {w : World} {b : Nat} {L : List (α × Value)}
theorem step_look {ops : Array Oper} {o : Oper} {act : Act} {K' : Act → World → Prop} {Q : Exit → Act → World → Prop} {E : Prop} (h : Mp w b kv L)
    (hg : Region.wanted o (yielded ops act.tmps) = true) (m x : Operand) (t : TypeId) (hop : o.op = Op.lookup t m x false) (K : KeyOK P kt kv) (ht : P.underlying t = some (.map kt et)) (z : Value) (hz : (zeroValue et).run P w = .ok z w)
    (hm : act.eval m = .map (some b)) (a : α) (hx : act.eval x = kv a) (r : Value) (hr : (look L a).getD z = r) (hK : K' (act.put o.dst r) w) :
    if Region.wanted o (yielded ops act.tmps) = true then Oper.wp P o act w K' Q else E := by
  rw [if_pos hg]
  have hrun := h.run_look K ht hz a false
  rw [if_neg (by simp), hr] at hrun
  unfold Oper.wp
  simp [execOp, hop, hm, hx, hrun, Result.andThen]
  exact hK
theorem step_update {ops : Array Oper} {o : Oper} {act : Act} {K' : Act → World → Prop} {Q : Exit → Act → World → Prop} {E : Prop} (h : Mp w b kv L)
    (hg : Region.wanted o (yielded ops act.tmps) = true) (m x v : Operand) (t : TypeId) (hop : o.op = Op.mapUpdate t m x v) (K : KeyOK P kt kv) (ht : P.underlying t = some (.map kt et))
    (hm : act.eval m = .map (some b)) (a : α) (hx : act.eval x = kv a) (u : Value) (hu : act.eval v = u) (hr : L.length < maxLen)
    (hK : ∀ w', Mp w' b kv (put L a u) → But (fun k => k = b) w w' → K' (act.put o.dst undef) w') :
    if Region.wanted o (yielded ops act.tmps) = true then Oper.wp P o act w K' Q else E := by
  rw [if_pos hg]
  obtain ⟨w', hrun, h1, h2⟩ := h.run_update K ht a u hr
  unfold Oper.wp
  simp [execOp, hop, hm, hx, hu, hrun, Result.andThen]
  exact hK w' h1 h2
end

namespace Watch

abbrev kI : Int → Value := fun n : Int => Value.int .i64 n
theorem zeroS (w : World) : (zeroValue 47).run Tryd.prog w = .ok (.slice none 0 0) w := by rfl

set_option maxHeartbeats 8000000 in
set_option maxRecDepth 100000 in
theorem note_nil (t e k n : Int) (w : World) : Calls Tryd.prog 18 #[.pointer none, .int .i64 t, .agg #[.int .i64 e, .int .i64 k, .int .u64 n]] w fun r w' => r = .returned (.int .i64 1) ∧ But (fun _ => False) w w' := by
  have G0 := (But.refl (fun _ => False) w).alloc (.cells #[.int .i64 e, .int .i64 k, .int .u64 n] 42)
  go_enter Tryd.func18, Tryd.ntmps18
  go_wp2_with fail
  go_ret
  exact ⟨rfl, G0⟩

set_option maxHeartbeats 8000000 in
set_option maxRecDepth 100000 in
theorem note_not (b mb : Nat) (T t e k n : Int) (w : World) (hB : Blk w b #[.int .i64 T, .map (some mb)] 68) (hn : 0 ≤ n ∧ n ≤ 18446744073709551615) (hm : may T ⟨t, ⟨e, k, n⟩⟩ = false) :
    Calls Tryd.prog 18 #[.pointer (some ⟨b, 0, none⟩), .int .i64 t, .agg #[.int .i64 e, .int .i64 k, .int .u64 n]] w fun r w' => r = .returned (.int .i64 1) ∧ But (fun _ => False) w w' := by
  have G0 := (But.refl (fun _ => False) w).alloc (.cells #[.int .i64 e, .int .i64 k, .int .u64 n] 42)
  have X0 := Blk.new w #[.int .i64 e, .int .i64 k, .int .u64 n] 42
  have B0 := hB.alloc (.cells #[.int .i64 e, .int .i64 k, .int .u64 n] 42)
  have x0 := X0.cell 0
  have x1 := X0.cell 1
  have x2 := X0.cell 2
  have y0 := hB.cell 0
  have y1 := hB.cell 1
  have hlt := hB.lt
  have HB0 := Lib.hid B0
  clear hB B0
  by_cases h1 : t < 1
  · clear hm X0
    go_enter Tryd.func18, Tryd.ntmps18
    go_wp2_with fail
    go_ret
    exact ⟨rfl, G0⟩
  by_cases h2 : T < t
  · clear hm X0
    go_enter Tryd.func18, Tryd.ntmps18
    go_wp2_with fail
    go_ret
    exact ⟨rfl, G0⟩
  have hr : Answer.right e k n = false := by
    cases h : Answer.right e k n with
    | false => rfl
    | true => rw [may_all (by omega) (by omega) h] at hm; cases hm
  clear hm
  go_enter Tryd.func18, Tryd.ntmps18
  go_wp2_with fail
  refine (Answer.right_any e k n _ hn).mono ?_
  rintro r w2 ⟨rfl, g2⟩
  have G2 := Lib.hid (G0.trans g2)
  rw [hr]
  clear hr G0 X0 g2 x0 x1 x2 y0 y1
  go_wp2_with fail
  go_ret
  exact ⟨rfl, G2.out⟩

set_option maxHeartbeats 32000000 in
set_option maxRecDepth 100000 in
theorem note_walk (b mb : Nat) (T t e k n : Int) (L : List (Int × Value)) (vt : Value) (ot : Option Nat) (l : List Ans) (w : World) (hB : Blk w b #[.int .i64 T, .map (some mb)] 68) (hM : Mp w mb kI L) (hv : (look L t).getD (.slice none 0 0) = vt)
    (hR : RowA w vt ot l) (hl : l.length ≤ 200) (hL : L.length ≤ 200) (hbm : b ≠ mb) (hob : ot ≠ some b) (hom : ot ≠ some mb) (hn : 0 ≤ n ∧ n ≤ 18446744073709551615) (ht1 : 1 ≤ t) (ht2 : t ≤ T) (hr : Answer.right e k n = true) :
    Calls Tryd.prog 18 #[.pointer (some ⟨b, 0, none⟩), .int .i64 t, .agg #[.int .i64 e, .int .i64 k, .int .u64 n]] w fun r w' => r = .returned (.int .i64 0) ∧ ∃ v' o', RowA w' v' o' (l ++ [⟨e, k, n⟩]) ∧ Mp w' mb kI (put L t v') ∧
      But (fun c => ot = some c ∨ c = mb) w w' ∧ (∀ c, o' = some c → ot = some c ∨ w.heap.size ≤ c) := by
  have G0 := (But.refl (fun _ => False) w).alloc (.cells #[.int .i64 e, .int .i64 k, .int .u64 n] 42)
  have X0 := Blk.new w #[.int .i64 e, .int .i64 k, .int .u64 n] 42
  have x0 := X0.cell 0
  have x1 := X0.cell 1
  have x2 := X0.cell 2
  have y0 := hB.cell 0
  have y1 := hB.cell 1
  have hlt := hB.lt
  have HB0 := Lib.hid hB
  have HLM := Lib.hid hM.lt
  have HM0 := Lib.hid hM
  have HR0 := Lib.hid hR
  have HNX := Lib.hid (show ¬ ot = some w.heap.size from fun r => by have := hR.lt r; omega)
  have HNB := Lib.hid hob
  have HNM := Lib.hid hom
  obtain ⟨aa, la, ca, hva, hla, hca, hcb⟩ : ∃ a m cap, vt = .slice a m cap ∧ m = l.length ∧ m ≤ cap ∧ cap ≤ maxLen := by
    obtain ⟨a, cap, h, h1, h2⟩ := hR.val
    exact ⟨a, _, cap, h, rfl, h1, h2⟩
  subst hva
  have HLK := Lib.hid hv
  have HLA := Lib.hid hla
  have hl2 : la ≤ 200 := by omega
  clear hB hM hR hob hom hbm hv hl hla
  obtain ⟨i0, hi, hz0, hz1, hz2⟩ := info_parts infoAns
  go_enter Tryd.func18, Tryd.ntmps18
  go_wp2_with fail
  refine (Answer.right_any e k n _ hn).mono ?_
  rintro r w2 ⟨rfl, g2⟩
  have G2 := G0.trans g2
  have X2 := X0.but g2 (fun q => q)
  obtain ⟨bx, hbx⟩ : ∃ b, b = w.heap.size := ⟨_, rfl⟩
  rw [← hbx] at X2 ⊢
  have HNX2 := Lib.hid (show ¬ ot = some bx from hbx.symm ▸ HNX.out)
  clear hbx HNX G0 X0 g2 x0 x1 x2 y0 y1
  have HNX := HNX2
  rw [hr]
  clear hr
  have B2 := HB0.out.but G2 (fun q => q)
  have M2 := HM0.out.but G2 (fun q => q)
  have R2 := HR0.out.but G2 (fun _ _ q => q)
  have q0 := X2.cell 0
  have q1 := X2.cell 1
  have q2 := X2.cell 2
  have q3 := B2.cell 0
  have q4 := B2.cell 1
  go_wp2_with fail
  clear q0 q1 q2 q3 q4
  have HFIN := Lib.hid (show ∀ u y oz, Row u 42 3 y oz (la + 1) (encsA l ++ encA ⟨e, k, n⟩) → RowA u y oz (l ++ [⟨e, k, n⟩]) from fun u y oz h => by
    unfold RowA; rw [← encsA_push, List.length_append, ← HLA.out]; exact h)
  refine wp_region_any (by kernel_rfl) ?_
  change wpAny _ _ _ _ _ _ _ (World.drew _)
  obtain ⟨u0, hu0⟩ : ∃ u, u = w2.drew := ⟨_, rfl⟩
  have HGu0 := Lib.hid (show But (fun c => ot = some c) w u0 from hu0 ▸ (G2.mono (fun c hc => hc.elim)).drew)
  have HXu0 := Lib.hid (show Blk u0 bx #[.int .i64 e, .int .i64 k, .int .u64 n] 42 from hu0 ▸ X2.drew)
  have HBu0 := Lib.hid (show Blk u0 b #[.int .i64 T, .map (some mb)] 68 from hu0 ▸ B2.drew)
  have HMu0 := Lib.hid (show Mp u0 mb kI L from hu0 ▸ M2.drew)
  have HRu0 := Lib.hid (show Row u0 42 3 (.slice aa la ca) ot la (encsA l) from hu0 ▸ HLA.out ▸ R2.drew)
  rw [← hu0]
  clear hu0 G2 X2 B2 M2 R2 HB0 HM0 HR0 HNX2
  have q0u0 := HXu0.out.cell 0
  have q1u0 := HXu0.out.cell 1
  have q2u0 := HXu0.out.cell 2
  have q3u0 := HBu0.out.cell 0
  have q4u0 := HBu0.out.cell 1
  refine wpAny_take (i := 0) (oi := ⟨some 26, _, _, _, _, _⟩) (v := ?_) rfl (by kernel_rfl) (by kernel_rfl) (by kernel_rfl) (fun _ _ _ h => h) (Or.inl ⟨by rfl, ?_⟩) ?_
  rotate_left
  · intro w
    go_simp
    try with_reducible rfl
  simp only [Act.put, List.setIfInBounds_toArray, List.set_cons_zero, List.set_cons_succ]
  refine wpAny_take (i := 1) (oi := ⟨some 27, _, _, _, _, _⟩) (v := ?_) rfl (by kernel_rfl) (by kernel_rfl) (by kernel_rfl) (fun _ _ _ h => h) (Or.inl ⟨by rfl, ?_⟩) ?_
  rotate_left
  · intro w
    go_simp
    try with_reducible rfl
  simp only [Act.put, List.setIfInBounds_toArray, List.set_cons_zero, List.set_cons_succ]
  refine wpAny_take (i := 2) (oi := ⟨some 28, _, _, _, _, _⟩) (v := ?_) rfl (by kernel_rfl) (by kernel_rfl) (by kernel_rfl) (fun _ _ _ h => h) (Or.inl ⟨by rfl, ?_⟩) ?_
  rotate_left
  · intro w
    go_simp
    try with_reducible rfl
  simp only [Act.put, List.setIfInBounds_toArray, List.set_cons_zero, List.set_cons_succ]
  refine wpAny_take (i := 4) (oi := ⟨some 30, _, _, _, _, _⟩) (v := ?_) rfl (by kernel_rfl) (by kernel_rfl) (by kernel_rfl) (fun _ _ _ h => h) (Or.inl ⟨by rfl, ?_⟩) ?_
  rotate_left
  · intro w
    go_simp
    try with_reducible rfl
  simp only [Act.put, List.setIfInBounds_toArray, List.set_cons_zero, List.set_cons_succ]
  refine wpAny_take (i := 5) (oi := ⟨some 31, _, _, _, _, _⟩) (v := ?_) rfl (by kernel_rfl) (by kernel_rfl) (by kernel_rfl) (fun _ _ _ h => h) (Or.inl ⟨by rfl, ?_⟩) ?_
  rotate_left
  · intro w
    go_simp
    try with_reducible rfl
  simp only [Act.put, List.setIfInBounds_toArray, List.set_cons_zero, List.set_cons_succ]
  refine wpAny_take (i := 6) (oi := ⟨some 32, _, _, _, _, _⟩) (v := ?_) rfl (by kernel_rfl) (by kernel_rfl) (by kernel_rfl) (fun _ _ _ h => h) (Or.inl ⟨by rfl, ?_⟩) ?_
  rotate_left
  · intro w
    go_simp
    try with_reducible rfl
  simp only [Act.put, List.setIfInBounds_toArray, List.set_cons_zero, List.set_cons_succ]
  refine wpAny_take (i := 7) (oi := ⟨some 33, _, _, _, _, _⟩) (v := ?_) rfl (by kernel_rfl) (by kernel_rfl) (by kernel_rfl) (fun _ _ _ h => h) (Or.inl ⟨by rfl, ?_⟩) ?_
  rotate_left
  · intro w
    go_simp
    try with_reducible rfl
  simp only [Act.put, List.setIfInBounds_toArray, List.set_cons_zero, List.set_cons_succ]
  refine wpAny_take (i := 9) (oi := ⟨some 35, _, _, _, _, _⟩) (v := ?_) rfl (by kernel_rfl) (by kernel_rfl) (by kernel_rfl) (fun _ _ _ h => h) (Or.inl ⟨by rfl, ?_⟩) ?_
  rotate_left
  · intro w
    go_simp
    try with_reducible rfl
  simp only [Act.put, List.setIfInBounds_toArray, List.set_cons_zero, List.set_cons_succ]
  refine wpAny_ready (rs := [3, 8, 11]) (by kernel_rfl) (by simp) ?_
  refine AllReady.cons rfl (fun K hK => ?_) (AllReady.cons rfl (fun K hK => ?_) (AllReady.cons rfl (fun K hK => ?_) AllReady.nil))
  · go_simp
    refine hK _ _ ?_
    clear hK K
    refine wpAny_ready (rs := [8, 11]) (by kernel_rfl) (by simp) ?_
    refine AllReady.cons rfl (fun K hK => ?_) (AllReady.cons rfl (fun K hK => ?_) AllReady.nil)
    · go_simp
      refine hK _ _ ?_
      clear hK K
      refine wpAny_ready (rs := [10, 11]) (by kernel_rfl) (by simp) ?_
      refine AllReady.cons rfl (fun K hK => ?_) (AllReady.cons rfl (fun K hK => ?_) AllReady.nil)
      · refine step_look HMu0.out (o := ⟨some 36, _, _, _, _, _⟩) (by rfl) _ _ _ rfl keyI Tryd.underlying66 (.slice none 0 0) (zeroS _) rfl t rfl (.slice aa la ca) HLK.out ?_
        refine hK _ _ ?_
        clear hK K
        try simp only [Act.put, List.setIfInBounds_toArray, List.set_cons_zero, List.set_cons_succ]
        refine wpAny_ready (rs := [11]) (by kernel_rfl) (by simp) ?_
        refine AllReady.cons rfl (fun K hK => ?_) AllReady.nil
        go_simp
        refine hK _ _ ?_
        clear hK K
        refine wpAny_ready (rs := [12]) (by kernel_rfl) (by simp) ?_
        refine AllReady.cons rfl (fun K hK => ?_) AllReady.nil
        go_simp
        refine hK _ _ ?_
        clear hK K
        have g1 := (But.refl (fun _ => False) u0).alloc (.cells #[.int .i64 e, .int .i64 k, .int .u64 n] 42)
        have b1 := Blk.new u0 #[.int .i64 e, .int .i64 k, .int .u64 n] 42
        obtain ⟨u1, hu⟩ : ∃ u : World, u = u0.alloc (.cells #[.int .i64 e, .int .i64 k, .int .u64 n] 42) := ⟨_, rfl⟩
        obtain ⟨q, hp⟩ : ∃ p, p = u0.heap.size := ⟨_, rfl⟩
        rw [← hu] at g1 b1 ⊢
        rw [← hp] at b1 ⊢
        have HQ := Lib.hid b1
        have HGu1 := Lib.hid (HGu0.out.trans (g1.mono (fun c hc => hc.elim)))
        have HXu1 := Lib.hid (HXu0.out.but g1 (fun q => q))
        have HBu1 := Lib.hid (HBu0.out.but g1 (fun q => q))
        have HMu1 := Lib.hid (HMu0.out.but g1 (fun q => q))
        have HRu1 := Lib.hid (HRu0.out.but g1 (fun _ _ q => q))
        clear hu hp b1 g1
        have q0u1 := HXu1.out.cell 0
        have q1u1 := HXu1.out.cell 1
        have q2u1 := HXu1.out.cell 2
        have q3u1 := HBu1.out.cell 0
        have q4u1 := HBu1.out.cell 1
        refine wpAny_ready (rs := [13]) (by kernel_rfl) (by simp) ?_
        refine AllReady.cons rfl (fun K hK => ?_) AllReady.nil
        refine step_append_row (o := ⟨some 39, _, _, _, _, _⟩) (by rfl) _ _ _ rfl 42 i0 (.agg #[.int .i64 0, .int .i64 0, .int .u64 0]) 3 24 Tryd.underlying47 hi hz0 hz1 hz2 rfl (by decide) _ ot la (encsA l) HRu1.out rfl ⟨q, 0, none⟩ 1 1 (encA ⟨e, k, n⟩) rfl rfl (blk_src HQ.out) (oneCell_A _) (by unfold maxLen; omega) (by omega) ?_
        intro v4 u2 o4 hZ hB4 hN4
        have HN4 := Lib.hid (show ∀ c, o4 = some c → ot = some c ∨ w.heap.size ≤ c from fun c hc => by
          rcases hN4 c hc with r | r
          · exact Or.inl r
          · have := HGu1.out.size; exact Or.inr (by omega))
        have HGu2 := Lib.hid (HGu1.out.trans hB4)
        have HXu2 := Lib.hid (HXu1.out.but hB4 (fun r => HNX.out r))
        have HBu2 := Lib.hid (HBu1.out.but hB4 (fun r => HNB.out r))
        have HMu2 := Lib.hid (HMu1.out.but hB4 (fun r => HNM.out r))
        have HRu2 := Lib.hid (HFIN.out u2 v4 o4 hZ)
        clear hZ hB4 hN4
        have q0u2 := HXu2.out.cell 0
        have q1u2 := HXu2.out.cell 1
        have q2u2 := HXu2.out.cell 2
        have q3u2 := HBu2.out.cell 0
        have q4u2 := HBu2.out.cell 1
        refine hK _ _ ?_
        clear hK K
        try simp only [Act.put, List.setIfInBounds_toArray, List.set_cons_zero, List.set_cons_succ]
        refine wpAny_ready (rs := [14]) (by kernel_rfl) (by simp) ?_
        refine AllReady.cons rfl (fun K hK => ?_) AllReady.nil
        refine step_update HMu2.out (o := ⟨none, _, _, _, _, _⟩) (by rfl) _ _ _ _ rfl keyI Tryd.underlying66 rfl t rfl v4 rfl (by unfold maxLen; omega) ?_
        intro w9 hM9 hB9
        have HMz := Lib.hid hM9
        have HZ := Lib.hid (HRu2.out.but hB9 (fun c hc r => by
          subst r
          rcases HN4.out _ hc with y | y
          · exact HNM.out y
          · have := HLM.out; omega))
        have HGz := Lib.hid ((HGu2.out.mono (fun c hc => Or.inl (Or.inl hc))).trans (hB9.mono (fun c hc => Or.inl (Or.inr hc))) : But (fun c => ot = some c ∨ c = mb) w w9)
        clear hM9 hB9
        refine hK _ _ ?_
        clear hK K
        refine wpAny_done (by kernel_rfl) ?_ _
        go_wp2_with fail
        go_ret
        exact ⟨rfl, v4, o4, HZ.out, HMz.out, HGz.out, HN4.out⟩
      · go_simp
        refine hK _ _ ?_
        clear hK K
        refine wpAny_ready (rs := [10, 12]) (by kernel_rfl) (by simp) ?_
        refine AllReady.cons rfl (fun K hK => ?_) (AllReady.cons rfl (fun K hK => ?_) AllReady.nil)
        · refine step_look HMu0.out (o := ⟨some 36, _, _, _, _, _⟩) (by rfl) _ _ _ rfl keyI Tryd.underlying66 (.slice none 0 0) (zeroS _) rfl t rfl (.slice aa la ca) HLK.out ?_
          refine hK _ _ ?_
          clear hK K
          try simp only [Act.put, List.setIfInBounds_toArray, List.set_cons_zero, List.set_cons_succ]
          refine wpAny_ready (rs := [12]) (by kernel_rfl) (by simp) ?_
          refine AllReady.cons rfl (fun K hK => ?_) AllReady.nil
          go_simp
          refine hK _ _ ?_
          clear hK K
          have g1 := (But.refl (fun _ => False) u0).alloc (.cells #[.int .i64 e, .int .i64 k, .int .u64 n] 42)
          have b1 := Blk.new u0 #[.int .i64 e, .int .i64 k, .int .u64 n] 42
          obtain ⟨u1, hu⟩ : ∃ u : World, u = u0.alloc (.cells #[.int .i64 e, .int .i64 k, .int .u64 n] 42) := ⟨_, rfl⟩
          obtain ⟨q, hp⟩ : ∃ p, p = u0.heap.size := ⟨_, rfl⟩
          rw [← hu] at g1 b1 ⊢
          rw [← hp] at b1 ⊢
          have HQ := Lib.hid b1
          have HGu1 := Lib.hid (HGu0.out.trans (g1.mono (fun c hc => hc.elim)))
          have HXu1 := Lib.hid (HXu0.out.but g1 (fun q => q))
          have HBu1 := Lib.hid (HBu0.out.but g1 (fun q => q))
          have HMu1 := Lib.hid (HMu0.out.but g1 (fun q => q))
          have HRu1 := Lib.hid (HRu0.out.but g1 (fun _ _ q => q))
          clear hu hp b1 g1
          have q0u1 := HXu1.out.cell 0
          have q1u1 := HXu1.out.cell 1
          have q2u1 := HXu1.out.cell 2
          have q3u1 := HBu1.out.cell 0
          have q4u1 := HBu1.out.cell 1
          refine wpAny_ready (rs := [13]) (by kernel_rfl) (by simp) ?_
          refine AllReady.cons rfl (fun K hK => ?_) AllReady.nil
          refine step_append_row (o := ⟨some 39, _, _, _, _, _⟩) (by rfl) _ _ _ rfl 42 i0 (.agg #[.int .i64 0, .int .i64 0, .int .u64 0]) 3 24 Tryd.underlying47 hi hz0 hz1 hz2 rfl (by decide) _ ot la (encsA l) HRu1.out rfl ⟨q, 0, none⟩ 1 1 (encA ⟨e, k, n⟩) rfl rfl (blk_src HQ.out) (oneCell_A _) (by unfold maxLen; omega) (by omega) ?_
          intro v4 u2 o4 hZ hB4 hN4
          have HN4 := Lib.hid (show ∀ c, o4 = some c → ot = some c ∨ w.heap.size ≤ c from fun c hc => by
            rcases hN4 c hc with r | r
            · exact Or.inl r
            · have := HGu1.out.size; exact Or.inr (by omega))
          have HGu2 := Lib.hid (HGu1.out.trans hB4)
          have HXu2 := Lib.hid (HXu1.out.but hB4 (fun r => HNX.out r))
          have HBu2 := Lib.hid (HBu1.out.but hB4 (fun r => HNB.out r))
          have HMu2 := Lib.hid (HMu1.out.but hB4 (fun r => HNM.out r))
          have HRu2 := Lib.hid (HFIN.out u2 v4 o4 hZ)
          clear hZ hB4 hN4
          have q0u2 := HXu2.out.cell 0
          have q1u2 := HXu2.out.cell 1
          have q2u2 := HXu2.out.cell 2
          have q3u2 := HBu2.out.cell 0
          have q4u2 := HBu2.out.cell 1
          refine hK _ _ ?_
          clear hK K
          try simp only [Act.put, List.setIfInBounds_toArray, List.set_cons_zero, List.set_cons_succ]
          refine wpAny_ready (rs := [14]) (by kernel_rfl) (by simp) ?_
          refine AllReady.cons rfl (fun K hK => ?_) AllReady.nil
          refine step_update HMu2.out (o := ⟨none, _, _, _, _, _⟩) (by rfl) _ _ _ _ rfl keyI Tryd.underlying66 rfl t rfl v4 rfl (by unfold maxLen; omega) ?_
          intro w9 hM9 hB9
          have HMz := Lib.hid hM9
          have HZ := Lib.hid (HRu2.out.but hB9 (fun c hc r => by
            subst r
            rcases HN4.out _ hc with y | y
            · exact HNM.out y
            · have := HLM.out; omega))
          have HGz := Lib.hid ((HGu2.out.mono (fun c hc => Or.inl (Or.inl hc))).trans (hB9.mono (fun c hc => Or.inl (Or.inr hc))) : But (fun c => ot = some c ∨ c = mb) w w9)
          clear hM9 hB9
          refine hK _ _ ?_
          clear hK K
          refine wpAny_done (by kernel_rfl) ?_ _
          go_wp2_with fail
          go_ret
          exact ⟨rfl, v4, o4, HZ.out, HMz.out, HGz.out, HN4.out⟩
        · go_simp
          refine hK _ _ ?_
          clear hK K
          have g1 := (But.refl (fun _ => False) u0).alloc (.cells #[.int .i64 e, .int .i64 k, .int .u64 n] 42)
          have b1 := Blk.new u0 #[.int .i64 e, .int .i64 k, .int .u64 n] 42
          obtain ⟨u1, hu⟩ : ∃ u : World, u = u0.alloc (.cells #[.int .i64 e, .int .i64 k, .int .u64 n] 42) := ⟨_, rfl⟩
          obtain ⟨q, hp⟩ : ∃ p, p = u0.heap.size := ⟨_, rfl⟩
          rw [← hu] at g1 b1 ⊢
          rw [← hp] at b1 ⊢
          have HQ := Lib.hid b1
          have HGu1 := Lib.hid (HGu0.out.trans (g1.mono (fun c hc => hc.elim)))
          have HXu1 := Lib.hid (HXu0.out.but g1 (fun q => q))
          have HBu1 := Lib.hid (HBu0.out.but g1 (fun q => q))
          have HMu1 := Lib.hid (HMu0.out.but g1 (fun q => q))
          have HRu1 := Lib.hid (HRu0.out.but g1 (fun _ _ q => q))
          clear hu hp b1 g1
          have q0u1 := HXu1.out.cell 0
          have q1u1 := HXu1.out.cell 1
          have q2u1 := HXu1.out.cell 2
          have q3u1 := HBu1.out.cell 0
          have q4u1 := HBu1.out.cell 1
          refine wpAny_ready (rs := [10]) (by kernel_rfl) (by simp) ?_
          refine AllReady.cons rfl (fun K hK => ?_) AllReady.nil
          refine step_look HMu1.out (o := ⟨some 36, _, _, _, _, _⟩) (by rfl) _ _ _ rfl keyI Tryd.underlying66 (.slice none 0 0) (zeroS _) rfl t rfl (.slice aa la ca) HLK.out ?_
          refine hK _ _ ?_
          clear hK K
          try simp only [Act.put, List.setIfInBounds_toArray, List.set_cons_zero, List.set_cons_succ]
          refine wpAny_ready (rs := [13]) (by kernel_rfl) (by simp) ?_
          refine AllReady.cons rfl (fun K hK => ?_) AllReady.nil
          refine step_append_row (o := ⟨some 39, _, _, _, _, _⟩) (by rfl) _ _ _ rfl 42 i0 (.agg #[.int .i64 0, .int .i64 0, .int .u64 0]) 3 24 Tryd.underlying47 hi hz0 hz1 hz2 rfl (by decide) _ ot la (encsA l) HRu1.out rfl ⟨q, 0, none⟩ 1 1 (encA ⟨e, k, n⟩) rfl rfl (blk_src HQ.out) (oneCell_A _) (by unfold maxLen; omega) (by omega) ?_
          intro v4 u2 o4 hZ hB4 hN4
          have HN4 := Lib.hid (show ∀ c, o4 = some c → ot = some c ∨ w.heap.size ≤ c from fun c hc => by
            rcases hN4 c hc with r | r
            · exact Or.inl r
            · have := HGu1.out.size; exact Or.inr (by omega))
          have HGu2 := Lib.hid (HGu1.out.trans hB4)
          have HXu2 := Lib.hid (HXu1.out.but hB4 (fun r => HNX.out r))
          have HBu2 := Lib.hid (HBu1.out.but hB4 (fun r => HNB.out r))
          have HMu2 := Lib.hid (HMu1.out.but hB4 (fun r => HNM.out r))
          have HRu2 := Lib.hid (HFIN.out u2 v4 o4 hZ)
          clear hZ hB4 hN4
          have q0u2 := HXu2.out.cell 0
          have q1u2 := HXu2.out.cell 1
          have q2u2 := HXu2.out.cell 2
          have q3u2 := HBu2.out.cell 0
          have q4u2 := HBu2.out.cell 1
          refine hK _ _ ?_
          clear hK K
          try simp only [Act.put, List.setIfInBounds_toArray, List.set_cons_zero, List.set_cons_succ]
          refine wpAny_ready (rs := [14]) (by kernel_rfl) (by simp) ?_
          refine AllReady.cons rfl (fun K hK => ?_) AllReady.nil
          refine step_update HMu2.out (o := ⟨none, _, _, _, _, _⟩) (by rfl) _ _ _ _ rfl keyI Tryd.underlying66 rfl t rfl v4 rfl (by unfold maxLen; omega) ?_
          intro w9 hM9 hB9
          have HMz := Lib.hid hM9
          have HZ := Lib.hid (HRu2.out.but hB9 (fun c hc r => by
            subst r
            rcases HN4.out _ hc with y | y
            · exact HNM.out y
            · have := HLM.out; omega))
          have HGz := Lib.hid ((HGu2.out.mono (fun c hc => Or.inl (Or.inl hc))).trans (hB9.mono (fun c hc => Or.inl (Or.inr hc))) : But (fun c => ot = some c ∨ c = mb) w w9)
          clear hM9 hB9
          refine hK _ _ ?_
          clear hK K
          refine wpAny_done (by kernel_rfl) ?_ _
          go_wp2_with fail
          go_ret
          exact ⟨rfl, v4, o4, HZ.out, HMz.out, HGz.out, HN4.out⟩
    · go_simp
      refine hK _ _ ?_
      clear hK K
      refine wpAny_ready (rs := [8, 12]) (by kernel_rfl) (by simp) ?_
      refine AllReady.cons rfl (fun K hK => ?_) (AllReady.cons rfl (fun K hK => ?_) AllReady.nil)
      · go_simp
        refine hK _ _ ?_
        clear hK K
        refine wpAny_ready (rs := [10, 12]) (by kernel_rfl) (by simp) ?_
        refine AllReady.cons rfl (fun K hK => ?_) (AllReady.cons rfl (fun K hK => ?_) AllReady.nil)
        · refine step_look HMu0.out (o := ⟨some 36, _, _, _, _, _⟩) (by rfl) _ _ _ rfl keyI Tryd.underlying66 (.slice none 0 0) (zeroS _) rfl t rfl (.slice aa la ca) HLK.out ?_
          refine hK _ _ ?_
          clear hK K
          try simp only [Act.put, List.setIfInBounds_toArray, List.set_cons_zero, List.set_cons_succ]
          refine wpAny_ready (rs := [12]) (by kernel_rfl) (by simp) ?_
          refine AllReady.cons rfl (fun K hK => ?_) AllReady.nil
          go_simp
          refine hK _ _ ?_
          clear hK K
          have g1 := (But.refl (fun _ => False) u0).alloc (.cells #[.int .i64 e, .int .i64 k, .int .u64 n] 42)
          have b1 := Blk.new u0 #[.int .i64 e, .int .i64 k, .int .u64 n] 42
          obtain ⟨u1, hu⟩ : ∃ u : World, u = u0.alloc (.cells #[.int .i64 e, .int .i64 k, .int .u64 n] 42) := ⟨_, rfl⟩
          obtain ⟨q, hp⟩ : ∃ p, p = u0.heap.size := ⟨_, rfl⟩
          rw [← hu] at g1 b1 ⊢
          rw [← hp] at b1 ⊢
          have HQ := Lib.hid b1
          have HGu1 := Lib.hid (HGu0.out.trans (g1.mono (fun c hc => hc.elim)))
          have HXu1 := Lib.hid (HXu0.out.but g1 (fun q => q))
          have HBu1 := Lib.hid (HBu0.out.but g1 (fun q => q))
          have HMu1 := Lib.hid (HMu0.out.but g1 (fun q => q))
          have HRu1 := Lib.hid (HRu0.out.but g1 (fun _ _ q => q))
          clear hu hp b1 g1
          have q0u1 := HXu1.out.cell 0
          have q1u1 := HXu1.out.cell 1
          have q2u1 := HXu1.out.cell 2
          have q3u1 := HBu1.out.cell 0
          have q4u1 := HBu1.out.cell 1
          refine wpAny_ready (rs := [13]) (by kernel_rfl) (by simp) ?_
          refine AllReady.cons rfl (fun K hK => ?_) AllReady.nil
          refine step_append_row (o := ⟨some 39, _, _, _, _, _⟩) (by rfl) _ _ _ rfl 42 i0 (.agg #[.int .i64 0, .int .i64 0, .int .u64 0]) 3 24 Tryd.underlying47 hi hz0 hz1 hz2 rfl (by decide) _ ot la (encsA l) HRu1.out rfl ⟨q, 0, none⟩ 1 1 (encA ⟨e, k, n⟩) rfl rfl (blk_src HQ.out) (oneCell_A _) (by unfold maxLen; omega) (by omega) ?_
          intro v4 u2 o4 hZ hB4 hN4
          have HN4 := Lib.hid (show ∀ c, o4 = some c → ot = some c ∨ w.heap.size ≤ c from fun c hc => by
            rcases hN4 c hc with r | r
            · exact Or.inl r
            · have := HGu1.out.size; exact Or.inr (by omega))
          have HGu2 := Lib.hid (HGu1.out.trans hB4)
          have HXu2 := Lib.hid (HXu1.out.but hB4 (fun r => HNX.out r))
          have HBu2 := Lib.hid (HBu1.out.but hB4 (fun r => HNB.out r))
          have HMu2 := Lib.hid (HMu1.out.but hB4 (fun r => HNM.out r))
          have HRu2 := Lib.hid (HFIN.out u2 v4 o4 hZ)
          clear hZ hB4 hN4
          have q0u2 := HXu2.out.cell 0
          have q1u2 := HXu2.out.cell 1
          have q2u2 := HXu2.out.cell 2
          have q3u2 := HBu2.out.cell 0
          have q4u2 := HBu2.out.cell 1
          refine hK _ _ ?_
          clear hK K
          try simp only [Act.put, List.setIfInBounds_toArray, List.set_cons_zero, List.set_cons_succ]
          refine wpAny_ready (rs := [14]) (by kernel_rfl) (by simp) ?_
          refine AllReady.cons rfl (fun K hK => ?_) AllReady.nil
          refine step_update HMu2.out (o := ⟨none, _, _, _, _, _⟩) (by rfl) _ _ _ _ rfl keyI Tryd.underlying66 rfl t rfl v4 rfl (by unfold maxLen; omega) ?_
          intro w9 hM9 hB9
          have HMz := Lib.hid hM9
          have HZ := Lib.hid (HRu2.out.but hB9 (fun c hc r => by
            subst r
            rcases HN4.out _ hc with y | y
            · exact HNM.out y
            · have := HLM.out; omega))
          have HGz := Lib.hid ((HGu2.out.mono (fun c hc => Or.inl (Or.inl hc))).trans (hB9.mono (fun c hc => Or.inl (Or.inr hc))) : But (fun c => ot = some c ∨ c = mb) w w9)
          clear hM9 hB9
          refine hK _ _ ?_
          clear hK K
          refine wpAny_done (by kernel_rfl) ?_ _
          go_wp2_with fail
          go_ret
          exact ⟨rfl, v4, o4, HZ.out, HMz.out, HGz.out, HN4.out⟩
        · go_simp
          refine hK _ _ ?_
          clear hK K
          have g1 := (But.refl (fun _ => False) u0).alloc (.cells #[.int .i64 e, .int .i64 k, .int .u64 n] 42)
          have b1 := Blk.new u0 #[.int .i64 e, .int .i64 k, .int .u64 n] 42
          obtain ⟨u1, hu⟩ : ∃ u : World, u = u0.alloc (.cells #[.int .i64 e, .int .i64 k, .int .u64 n] 42) := ⟨_, rfl⟩
          obtain ⟨q, hp⟩ : ∃ p, p = u0.heap.size := ⟨_, rfl⟩
          rw [← hu] at g1 b1 ⊢
          rw [← hp] at b1 ⊢
          have HQ := Lib.hid b1
          have HGu1 := Lib.hid (HGu0.out.trans (g1.mono (fun c hc => hc.elim)))
          have HXu1 := Lib.hid (HXu0.out.but g1 (fun q => q))
          have HBu1 := Lib.hid (HBu0.out.but g1 (fun q => q))
          have HMu1 := Lib.hid (HMu0.out.but g1 (fun q => q))
          have HRu1 := Lib.hid (HRu0.out.but g1 (fun _ _ q => q))
          clear hu hp b1 g1
          have q0u1 := HXu1.out.cell 0
          have q1u1 := HXu1.out.cell 1
          have q2u1 := HXu1.out.cell 2
          have q3u1 := HBu1.out.cell 0
          have q4u1 := HBu1.out.cell 1
          refine wpAny_ready (rs := [10]) (by kernel_rfl) (by simp) ?_
          refine AllReady.cons rfl (fun K hK => ?_) AllReady.nil
          refine step_look HMu1.out (o := ⟨some 36, _, _, _, _, _⟩) (by rfl) _ _ _ rfl keyI Tryd.underlying66 (.slice none 0 0) (zeroS _) rfl t rfl (.slice aa la ca) HLK.out ?_
          refine hK _ _ ?_
          clear hK K
          try simp only [Act.put, List.setIfInBounds_toArray, List.set_cons_zero, List.set_cons_succ]
          refine wpAny_ready (rs := [13]) (by kernel_rfl) (by simp) ?_
          refine AllReady.cons rfl (fun K hK => ?_) AllReady.nil
          refine step_append_row (o := ⟨some 39, _, _, _, _, _⟩) (by rfl) _ _ _ rfl 42 i0 (.agg #[.int .i64 0, .int .i64 0, .int .u64 0]) 3 24 Tryd.underlying47 hi hz0 hz1 hz2 rfl (by decide) _ ot la (encsA l) HRu1.out rfl ⟨q, 0, none⟩ 1 1 (encA ⟨e, k, n⟩) rfl rfl (blk_src HQ.out) (oneCell_A _) (by unfold maxLen; omega) (by omega) ?_
          intro v4 u2 o4 hZ hB4 hN4
          have HN4 := Lib.hid (show ∀ c, o4 = some c → ot = some c ∨ w.heap.size ≤ c from fun c hc => by
            rcases hN4 c hc with r | r
            · exact Or.inl r
            · have := HGu1.out.size; exact Or.inr (by omega))
          have HGu2 := Lib.hid (HGu1.out.trans hB4)
          have HXu2 := Lib.hid (HXu1.out.but hB4 (fun r => HNX.out r))
          have HBu2 := Lib.hid (HBu1.out.but hB4 (fun r => HNB.out r))
          have HMu2 := Lib.hid (HMu1.out.but hB4 (fun r => HNM.out r))
          have HRu2 := Lib.hid (HFIN.out u2 v4 o4 hZ)
          clear hZ hB4 hN4
          have q0u2 := HXu2.out.cell 0
          have q1u2 := HXu2.out.cell 1
          have q2u2 := HXu2.out.cell 2
          have q3u2 := HBu2.out.cell 0
          have q4u2 := HBu2.out.cell 1
          refine hK _ _ ?_
          clear hK K
          try simp only [Act.put, List.setIfInBounds_toArray, List.set_cons_zero, List.set_cons_succ]
          refine wpAny_ready (rs := [14]) (by kernel_rfl) (by simp) ?_
          refine AllReady.cons rfl (fun K hK => ?_) AllReady.nil
          refine step_update HMu2.out (o := ⟨none, _, _, _, _, _⟩) (by rfl) _ _ _ _ rfl keyI Tryd.underlying66 rfl t rfl v4 rfl (by unfold maxLen; omega) ?_
          intro w9 hM9 hB9
          have HMz := Lib.hid hM9
          have HZ := Lib.hid (HRu2.out.but hB9 (fun c hc r => by
            subst r
            rcases HN4.out _ hc with y | y
            · exact HNM.out y
            · have := HLM.out; omega))
          have HGz := Lib.hid ((HGu2.out.mono (fun c hc => Or.inl (Or.inl hc))).trans (hB9.mono (fun c hc => Or.inl (Or.inr hc))) : But (fun c => ot = some c ∨ c = mb) w w9)
          clear hM9 hB9
          refine hK _ _ ?_
          clear hK K
          refine wpAny_done (by kernel_rfl) ?_ _
          go_wp2_with fail
          go_ret
          exact ⟨rfl, v4, o4, HZ.out, HMz.out, HGz.out, HN4.out⟩
      · go_simp
        refine hK _ _ ?_
        clear hK K
        have g1 := (But.refl (fun _ => False) u0).alloc (.cells #[.int .i64 e, .int .i64 k, .int .u64 n] 42)
        have b1 := Blk.new u0 #[.int .i64 e, .int .i64 k, .int .u64 n] 42
        obtain ⟨u1, hu⟩ : ∃ u : World, u = u0.alloc (.cells #[.int .i64 e, .int .i64 k, .int .u64 n] 42) := ⟨_, rfl⟩
        obtain ⟨q, hp⟩ : ∃ p, p = u0.heap.size := ⟨_, rfl⟩
        rw [← hu] at g1 b1 ⊢
        rw [← hp] at b1 ⊢
        have HQ := Lib.hid b1
        have HGu1 := Lib.hid (HGu0.out.trans (g1.mono (fun c hc => hc.elim)))
        have HXu1 := Lib.hid (HXu0.out.but g1 (fun q => q))
        have HBu1 := Lib.hid (HBu0.out.but g1 (fun q => q))
        have HMu1 := Lib.hid (HMu0.out.but g1 (fun q => q))
        have HRu1 := Lib.hid (HRu0.out.but g1 (fun _ _ q => q))
        clear hu hp b1 g1
        have q0u1 := HXu1.out.cell 0
        have q1u1 := HXu1.out.cell 1
        have q2u1 := HXu1.out.cell 2
        have q3u1 := HBu1.out.cell 0
        have q4u1 := HBu1.out.cell 1
        refine wpAny_ready (rs := [8]) (by kernel_rfl) (by simp) ?_
        refine AllReady.cons rfl (fun K hK => ?_) AllReady.nil
        go_simp
        refine hK _ _ ?_
        clear hK K
        refine wpAny_ready (rs := [10]) (by kernel_rfl) (by simp) ?_
        refine AllReady.cons rfl (fun K hK => ?_) AllReady.nil
        refine step_look HMu1.out (o := ⟨some 36, _, _, _, _, _⟩) (by rfl) _ _ _ rfl keyI Tryd.underlying66 (.slice none 0 0) (zeroS _) rfl t rfl (.slice aa la ca) HLK.out ?_
        refine hK _ _ ?_
        clear hK K
        try simp only [Act.put, List.setIfInBounds_toArray, List.set_cons_zero, List.set_cons_succ]
        refine wpAny_ready (rs := [13]) (by kernel_rfl) (by simp) ?_
        refine AllReady.cons rfl (fun K hK => ?_) AllReady.nil
        refine step_append_row (o := ⟨some 39, _, _, _, _, _⟩) (by rfl) _ _ _ rfl 42 i0 (.agg #[.int .i64 0, .int .i64 0, .int .u64 0]) 3 24 Tryd.underlying47 hi hz0 hz1 hz2 rfl (by decide) _ ot la (encsA l) HRu1.out rfl ⟨q, 0, none⟩ 1 1 (encA ⟨e, k, n⟩) rfl rfl (blk_src HQ.out) (oneCell_A _) (by unfold maxLen; omega) (by omega) ?_
        intro v4 u2 o4 hZ hB4 hN4
        have HN4 := Lib.hid (show ∀ c, o4 = some c → ot = some c ∨ w.heap.size ≤ c from fun c hc => by
          rcases hN4 c hc with r | r
          · exact Or.inl r
          · have := HGu1.out.size; exact Or.inr (by omega))
        have HGu2 := Lib.hid (HGu1.out.trans hB4)
        have HXu2 := Lib.hid (HXu1.out.but hB4 (fun r => HNX.out r))
        have HBu2 := Lib.hid (HBu1.out.but hB4 (fun r => HNB.out r))
        have HMu2 := Lib.hid (HMu1.out.but hB4 (fun r => HNM.out r))
        have HRu2 := Lib.hid (HFIN.out u2 v4 o4 hZ)
        clear hZ hB4 hN4
        have q0u2 := HXu2.out.cell 0
        have q1u2 := HXu2.out.cell 1
        have q2u2 := HXu2.out.cell 2
        have q3u2 := HBu2.out.cell 0
        have q4u2 := HBu2.out.cell 1
        refine hK _ _ ?_
        clear hK K
        try simp only [Act.put, List.setIfInBounds_toArray, List.set_cons_zero, List.set_cons_succ]
        refine wpAny_ready (rs := [14]) (by kernel_rfl) (by simp) ?_
        refine AllReady.cons rfl (fun K hK => ?_) AllReady.nil
        refine step_update HMu2.out (o := ⟨none, _, _, _, _, _⟩) (by rfl) _ _ _ _ rfl keyI Tryd.underlying66 rfl t rfl v4 rfl (by unfold maxLen; omega) ?_
        intro w9 hM9 hB9
        have HMz := Lib.hid hM9
        have HZ := Lib.hid (HRu2.out.but hB9 (fun c hc r => by
          subst r
          rcases HN4.out _ hc with y | y
          · exact HNM.out y
          · have := HLM.out; omega))
        have HGz := Lib.hid ((HGu2.out.mono (fun c hc => Or.inl (Or.inl hc))).trans (hB9.mono (fun c hc => Or.inl (Or.inr hc))) : But (fun c => ot = some c ∨ c = mb) w w9)
        clear hM9 hB9
        refine hK _ _ ?_
        clear hK K
        refine wpAny_done (by kernel_rfl) ?_ _
        go_wp2_with fail
        go_ret
        exact ⟨rfl, v4, o4, HZ.out, HMz.out, HGz.out, HN4.out⟩
  · go_simp
    refine hK _ _ ?_
    clear hK K
    refine wpAny_ready (rs := [3, 10, 11]) (by kernel_rfl) (by simp) ?_
    refine AllReady.cons rfl (fun K hK => ?_) (AllReady.cons rfl (fun K hK => ?_) (AllReady.cons rfl (fun K hK => ?_) AllReady.nil))
    · go_simp
      refine hK _ _ ?_
      clear hK K
      refine wpAny_ready (rs := [10, 11]) (by kernel_rfl) (by simp) ?_
      refine AllReady.cons rfl (fun K hK => ?_) (AllReady.cons rfl (fun K hK => ?_) AllReady.nil)
      · refine step_look HMu0.out (o := ⟨some 36, _, _, _, _, _⟩) (by rfl) _ _ _ rfl keyI Tryd.underlying66 (.slice none 0 0) (zeroS _) rfl t rfl (.slice aa la ca) HLK.out ?_
        refine hK _ _ ?_
        clear hK K
        try simp only [Act.put, List.setIfInBounds_toArray, List.set_cons_zero, List.set_cons_succ]
        refine wpAny_ready (rs := [11]) (by kernel_rfl) (by simp) ?_
        refine AllReady.cons rfl (fun K hK => ?_) AllReady.nil
        go_simp
        refine hK _ _ ?_
        clear hK K
        refine wpAny_ready (rs := [12]) (by kernel_rfl) (by simp) ?_
        refine AllReady.cons rfl (fun K hK => ?_) AllReady.nil
        go_simp
        refine hK _ _ ?_
        clear hK K
        have g1 := (But.refl (fun _ => False) u0).alloc (.cells #[.int .i64 e, .int .i64 k, .int .u64 n] 42)
        have b1 := Blk.new u0 #[.int .i64 e, .int .i64 k, .int .u64 n] 42
        obtain ⟨u1, hu⟩ : ∃ u : World, u = u0.alloc (.cells #[.int .i64 e, .int .i64 k, .int .u64 n] 42) := ⟨_, rfl⟩
        obtain ⟨q, hp⟩ : ∃ p, p = u0.heap.size := ⟨_, rfl⟩
        rw [← hu] at g1 b1 ⊢
        rw [← hp] at b1 ⊢
        have HQ := Lib.hid b1
        have HGu1 := Lib.hid (HGu0.out.trans (g1.mono (fun c hc => hc.elim)))
        have HXu1 := Lib.hid (HXu0.out.but g1 (fun q => q))
        have HBu1 := Lib.hid (HBu0.out.but g1 (fun q => q))
        have HMu1 := Lib.hid (HMu0.out.but g1 (fun q => q))
        have HRu1 := Lib.hid (HRu0.out.but g1 (fun _ _ q => q))
        clear hu hp b1 g1
        have q0u1 := HXu1.out.cell 0
        have q1u1 := HXu1.out.cell 1
        have q2u1 := HXu1.out.cell 2
        have q3u1 := HBu1.out.cell 0
        have q4u1 := HBu1.out.cell 1
        refine wpAny_ready (rs := [13]) (by kernel_rfl) (by simp) ?_
        refine AllReady.cons rfl (fun K hK => ?_) AllReady.nil
        refine step_append_row (o := ⟨some 39, _, _, _, _, _⟩) (by rfl) _ _ _ rfl 42 i0 (.agg #[.int .i64 0, .int .i64 0, .int .u64 0]) 3 24 Tryd.underlying47 hi hz0 hz1 hz2 rfl (by decide) _ ot la (encsA l) HRu1.out rfl ⟨q, 0, none⟩ 1 1 (encA ⟨e, k, n⟩) rfl rfl (blk_src HQ.out) (oneCell_A _) (by unfold maxLen; omega) (by omega) ?_
        intro v4 u2 o4 hZ hB4 hN4
        have HN4 := Lib.hid (show ∀ c, o4 = some c → ot = some c ∨ w.heap.size ≤ c from fun c hc => by
          rcases hN4 c hc with r | r
          · exact Or.inl r
          · have := HGu1.out.size; exact Or.inr (by omega))
        have HGu2 := Lib.hid (HGu1.out.trans hB4)
        have HXu2 := Lib.hid (HXu1.out.but hB4 (fun r => HNX.out r))
        have HBu2 := Lib.hid (HBu1.out.but hB4 (fun r => HNB.out r))
        have HMu2 := Lib.hid (HMu1.out.but hB4 (fun r => HNM.out r))
        have HRu2 := Lib.hid (HFIN.out u2 v4 o4 hZ)
        clear hZ hB4 hN4
        have q0u2 := HXu2.out.cell 0
        have q1u2 := HXu2.out.cell 1
        have q2u2 := HXu2.out.cell 2
        have q3u2 := HBu2.out.cell 0
        have q4u2 := HBu2.out.cell 1
        refine hK _ _ ?_
        clear hK K
        try simp only [Act.put, List.setIfInBounds_toArray, List.set_cons_zero, List.set_cons_succ]
        refine wpAny_ready (rs := [14]) (by kernel_rfl) (by simp) ?_
        refine AllReady.cons rfl (fun K hK => ?_) AllReady.nil
        refine step_update HMu2.out (o := ⟨none, _, _, _, _, _⟩) (by rfl) _ _ _ _ rfl keyI Tryd.underlying66 rfl t rfl v4 rfl (by unfold maxLen; omega) ?_
        intro w9 hM9 hB9
        have HMz := Lib.hid hM9
        have HZ := Lib.hid (HRu2.out.but hB9 (fun c hc r => by
          subst r
          rcases HN4.out _ hc with y | y
          · exact HNM.out y
          · have := HLM.out; omega))
        have HGz := Lib.hid ((HGu2.out.mono (fun c hc => Or.inl (Or.inl hc))).trans (hB9.mono (fun c hc => Or.inl (Or.inr hc))) : But (fun c => ot = some c ∨ c = mb) w w9)
        clear hM9 hB9
        refine hK _ _ ?_
        clear hK K
        refine wpAny_done (by kernel_rfl) ?_ _
        go_wp2_with fail
        go_ret
        exact ⟨rfl, v4, o4, HZ.out, HMz.out, HGz.out, HN4.out⟩
      · go_simp
        refine hK _ _ ?_
        clear hK K
        refine wpAny_ready (rs := [10, 12]) (by kernel_rfl) (by simp) ?_
        refine AllReady.cons rfl (fun K hK => ?_) (AllReady.cons rfl (fun K hK => ?_) AllReady.nil)
        · refine step_look HMu0.out (o := ⟨some 36, _, _, _, _, _⟩) (by rfl) _ _ _ rfl keyI Tryd.underlying66 (.slice none 0 0) (zeroS _) rfl t rfl (.slice aa la ca) HLK.out ?_
          refine hK _ _ ?_
          clear hK K
          try simp only [Act.put, List.setIfInBounds_toArray, List.set_cons_zero, List.set_cons_succ]
          refine wpAny_ready (rs := [12]) (by kernel_rfl) (by simp) ?_
          refine AllReady.cons rfl (fun K hK => ?_) AllReady.nil
          go_simp
          refine hK _ _ ?_
          clear hK K
          have g1 := (But.refl (fun _ => False) u0).alloc (.cells #[.int .i64 e, .int .i64 k, .int .u64 n] 42)
          have b1 := Blk.new u0 #[.int .i64 e, .int .i64 k, .int .u64 n] 42
          obtain ⟨u1, hu⟩ : ∃ u : World, u = u0.alloc (.cells #[.int .i64 e, .int .i64 k, .int .u64 n] 42) := ⟨_, rfl⟩
          obtain ⟨q, hp⟩ : ∃ p, p = u0.heap.size := ⟨_, rfl⟩
          rw [← hu] at g1 b1 ⊢
          rw [← hp] at b1 ⊢
          have HQ := Lib.hid b1
          have HGu1 := Lib.hid (HGu0.out.trans (g1.mono (fun c hc => hc.elim)))
          have HXu1 := Lib.hid (HXu0.out.but g1 (fun q => q))
          have HBu1 := Lib.hid (HBu0.out.but g1 (fun q => q))
          have HMu1 := Lib.hid (HMu0.out.but g1 (fun q => q))
          have HRu1 := Lib.hid (HRu0.out.but g1 (fun _ _ q => q))
          clear hu hp b1 g1
          have q0u1 := HXu1.out.cell 0
          have q1u1 := HXu1.out.cell 1
          have q2u1 := HXu1.out.cell 2
          have q3u1 := HBu1.out.cell 0
          have q4u1 := HBu1.out.cell 1
          refine wpAny_ready (rs := [13]) (by kernel_rfl) (by simp) ?_
          refine AllReady.cons rfl (fun K hK => ?_) AllReady.nil
          refine step_append_row (o := ⟨some 39, _, _, _, _, _⟩) (by rfl) _ _ _ rfl 42 i0 (.agg #[.int .i64 0, .int .i64 0, .int .u64 0]) 3 24 Tryd.underlying47 hi hz0 hz1 hz2 rfl (by decide) _ ot la (encsA l) HRu1.out rfl ⟨q, 0, none⟩ 1 1 (encA ⟨e, k, n⟩) rfl rfl (blk_src HQ.out) (oneCell_A _) (by unfold maxLen; omega) (by omega) ?_
          intro v4 u2 o4 hZ hB4 hN4
          have HN4 := Lib.hid (show ∀ c, o4 = some c → ot = some c ∨ w.heap.size ≤ c from fun c hc => by
            rcases hN4 c hc with r | r
            · exact Or.inl r
            · have := HGu1.out.size; exact Or.inr (by omega))
          have HGu2 := Lib.hid (HGu1.out.trans hB4)
          have HXu2 := Lib.hid (HXu1.out.but hB4 (fun r => HNX.out r))
          have HBu2 := Lib.hid (HBu1.out.but hB4 (fun r => HNB.out r))
          have HMu2 := Lib.hid (HMu1.out.but hB4 (fun r => HNM.out r))
          have HRu2 := Lib.hid (HFIN.out u2 v4 o4 hZ)
          clear hZ hB4 hN4
          have q0u2 := HXu2.out.cell 0
          have q1u2 := HXu2.out.cell 1
          have q2u2 := HXu2.out.cell 2
          have q3u2 := HBu2.out.cell 0
          have q4u2 := HBu2.out.cell 1
          refine hK _ _ ?_
          clear hK K
          try simp only [Act.put, List.setIfInBounds_toArray, List.set_cons_zero, List.set_cons_succ]
          refine wpAny_ready (rs := [14]) (by kernel_rfl) (by simp) ?_
          refine AllReady.cons rfl (fun K hK => ?_) AllReady.nil
          refine step_update HMu2.out (o := ⟨none, _, _, _, _, _⟩) (by rfl) _ _ _ _ rfl keyI Tryd.underlying66 rfl t rfl v4 rfl (by unfold maxLen; omega) ?_
          intro w9 hM9 hB9
          have HMz := Lib.hid hM9
          have HZ := Lib.hid (HRu2.out.but hB9 (fun c hc r => by
            subst r
            rcases HN4.out _ hc with y | y
            · exact HNM.out y
            · have := HLM.out; omega))
          have HGz := Lib.hid ((HGu2.out.mono (fun c hc => Or.inl (Or.inl hc))).trans (hB9.mono (fun c hc => Or.inl (Or.inr hc))) : But (fun c => ot = some c ∨ c = mb) w w9)
          clear hM9 hB9
          refine hK _ _ ?_
          clear hK K
          refine wpAny_done (by kernel_rfl) ?_ _
          go_wp2_with fail
          go_ret
          exact ⟨rfl, v4, o4, HZ.out, HMz.out, HGz.out, HN4.out⟩
        · go_simp
          refine hK _ _ ?_
          clear hK K
          have g1 := (But.refl (fun _ => False) u0).alloc (.cells #[.int .i64 e, .int .i64 k, .int .u64 n] 42)
          have b1 := Blk.new u0 #[.int .i64 e, .int .i64 k, .int .u64 n] 42
          obtain ⟨u1, hu⟩ : ∃ u : World, u = u0.alloc (.cells #[.int .i64 e, .int .i64 k, .int .u64 n] 42) := ⟨_, rfl⟩
          obtain ⟨q, hp⟩ : ∃ p, p = u0.heap.size := ⟨_, rfl⟩
          rw [← hu] at g1 b1 ⊢
          rw [← hp] at b1 ⊢
          have HQ := Lib.hid b1
          have HGu1 := Lib.hid (HGu0.out.trans (g1.mono (fun c hc => hc.elim)))
          have HXu1 := Lib.hid (HXu0.out.but g1 (fun q => q))
          have HBu1 := Lib.hid (HBu0.out.but g1 (fun q => q))
          have HMu1 := Lib.hid (HMu0.out.but g1 (fun q => q))
          have HRu1 := Lib.hid (HRu0.out.but g1 (fun _ _ q => q))
          clear hu hp b1 g1
          have q0u1 := HXu1.out.cell 0
          have q1u1 := HXu1.out.cell 1
          have q2u1 := HXu1.out.cell 2
          have q3u1 := HBu1.out.cell 0
          have q4u1 := HBu1.out.cell 1
          refine wpAny_ready (rs := [10]) (by kernel_rfl) (by simp) ?_
          refine AllReady.cons rfl (fun K hK => ?_) AllReady.nil
          refine step_look HMu1.out (o := ⟨some 36, _, _, _, _, _⟩) (by rfl) _ _ _ rfl keyI Tryd.underlying66 (.slice none 0 0) (zeroS _) rfl t rfl (.slice aa la ca) HLK.out ?_
          refine hK _ _ ?_
          clear hK K
          try simp only [Act.put, List.setIfInBounds_toArray, List.set_cons_zero, List.set_cons_succ]
          refine wpAny_ready (rs := [13]) (by kernel_rfl) (by simp) ?_
          refine AllReady.cons rfl (fun K hK => ?_) AllReady.nil
          refine step_append_row (o := ⟨some 39, _, _, _, _, _⟩) (by rfl) _ _ _ rfl 42 i0 (.agg #[.int .i64 0, .int .i64 0, .int .u64 0]) 3 24 Tryd.underlying47 hi hz0 hz1 hz2 rfl (by decide) _ ot la (encsA l) HRu1.out rfl ⟨q, 0, none⟩ 1 1 (encA ⟨e, k, n⟩) rfl rfl (blk_src HQ.out) (oneCell_A _) (by unfold maxLen; omega) (by omega) ?_
          intro v4 u2 o4 hZ hB4 hN4
          have HN4 := Lib.hid (show ∀ c, o4 = some c → ot = some c ∨ w.heap.size ≤ c from fun c hc => by
            rcases hN4 c hc with r | r
            · exact Or.inl r
            · have := HGu1.out.size; exact Or.inr (by omega))
          have HGu2 := Lib.hid (HGu1.out.trans hB4)
          have HXu2 := Lib.hid (HXu1.out.but hB4 (fun r => HNX.out r))
          have HBu2 := Lib.hid (HBu1.out.but hB4 (fun r => HNB.out r))
          have HMu2 := Lib.hid (HMu1.out.but hB4 (fun r => HNM.out r))
          have HRu2 := Lib.hid (HFIN.out u2 v4 o4 hZ)
          clear hZ hB4 hN4
          have q0u2 := HXu2.out.cell 0
          have q1u2 := HXu2.out.cell 1
          have q2u2 := HXu2.out.cell 2
          have q3u2 := HBu2.out.cell 0
          have q4u2 := HBu2.out.cell 1
          refine hK _ _ ?_
          clear hK K
          try simp only [Act.put, List.setIfInBounds_toArray, List.set_cons_zero, List.set_cons_succ]
          refine wpAny_ready (rs := [14]) (by kernel_rfl) (by simp) ?_
          refine AllReady.cons rfl (fun K hK => ?_) AllReady.nil
          refine step_update HMu2.out (o := ⟨none, _, _, _, _, _⟩) (by rfl) _ _ _ _ rfl keyI Tryd.underlying66 rfl t rfl v4 rfl (by unfold maxLen; omega) ?_
          intro w9 hM9 hB9
          have HMz := Lib.hid hM9
          have HZ := Lib.hid (HRu2.out.but hB9 (fun c hc r => by
            subst r
            rcases HN4.out _ hc with y | y
            · exact HNM.out y
            · have := HLM.out; omega))
          have HGz := Lib.hid ((HGu2.out.mono (fun c hc => Or.inl (Or.inl hc))).trans (hB9.mono (fun c hc => Or.inl (Or.inr hc))) : But (fun c => ot = some c ∨ c = mb) w w9)
          clear hM9 hB9
          refine hK _ _ ?_
          clear hK K
          refine wpAny_done (by kernel_rfl) ?_ _
          go_wp2_with fail
          go_ret
          exact ⟨rfl, v4, o4, HZ.out, HMz.out, HGz.out, HN4.out⟩
    · refine step_look HMu0.out (o := ⟨some 36, _, _, _, _, _⟩) (by rfl) _ _ _ rfl keyI Tryd.underlying66 (.slice none 0 0) (zeroS _) rfl t rfl (.slice aa la ca) HLK.out ?_
      refine hK _ _ ?_
      clear hK K
      try simp only [Act.put, List.setIfInBounds_toArray, List.set_cons_zero, List.set_cons_succ]
      refine wpAny_ready (rs := [3, 11]) (by kernel_rfl) (by simp) ?_
      refine AllReady.cons rfl (fun K hK => ?_) (AllReady.cons rfl (fun K hK => ?_) AllReady.nil)
      · go_simp
        refine hK _ _ ?_
        clear hK K
        refine wpAny_ready (rs := [11]) (by kernel_rfl) (by simp) ?_
        refine AllReady.cons rfl (fun K hK => ?_) AllReady.nil
        go_simp
        refine hK _ _ ?_
        clear hK K
        refine wpAny_ready (rs := [12]) (by kernel_rfl) (by simp) ?_
        refine AllReady.cons rfl (fun K hK => ?_) AllReady.nil
        go_simp
        refine hK _ _ ?_
        clear hK K
        have g1 := (But.refl (fun _ => False) u0).alloc (.cells #[.int .i64 e, .int .i64 k, .int .u64 n] 42)
        have b1 := Blk.new u0 #[.int .i64 e, .int .i64 k, .int .u64 n] 42
        obtain ⟨u1, hu⟩ : ∃ u : World, u = u0.alloc (.cells #[.int .i64 e, .int .i64 k, .int .u64 n] 42) := ⟨_, rfl⟩
        obtain ⟨q, hp⟩ : ∃ p, p = u0.heap.size := ⟨_, rfl⟩
        rw [← hu] at g1 b1 ⊢
        rw [← hp] at b1 ⊢
        have HQ := Lib.hid b1
        have HGu1 := Lib.hid (HGu0.out.trans (g1.mono (fun c hc => hc.elim)))
        have HXu1 := Lib.hid (HXu0.out.but g1 (fun q => q))
        have HBu1 := Lib.hid (HBu0.out.but g1 (fun q => q))
        have HMu1 := Lib.hid (HMu0.out.but g1 (fun q => q))
        have HRu1 := Lib.hid (HRu0.out.but g1 (fun _ _ q => q))
        clear hu hp b1 g1
        have q0u1 := HXu1.out.cell 0
        have q1u1 := HXu1.out.cell 1
        have q2u1 := HXu1.out.cell 2
        have q3u1 := HBu1.out.cell 0
        have q4u1 := HBu1.out.cell 1
        refine wpAny_ready (rs := [13]) (by kernel_rfl) (by simp) ?_
        refine AllReady.cons rfl (fun K hK => ?_) AllReady.nil
        refine step_append_row (o := ⟨some 39, _, _, _, _, _⟩) (by rfl) _ _ _ rfl 42 i0 (.agg #[.int .i64 0, .int .i64 0, .int .u64 0]) 3 24 Tryd.underlying47 hi hz0 hz1 hz2 rfl (by decide) _ ot la (encsA l) HRu1.out rfl ⟨q, 0, none⟩ 1 1 (encA ⟨e, k, n⟩) rfl rfl (blk_src HQ.out) (oneCell_A _) (by unfold maxLen; omega) (by omega) ?_
        intro v4 u2 o4 hZ hB4 hN4
        have HN4 := Lib.hid (show ∀ c, o4 = some c → ot = some c ∨ w.heap.size ≤ c from fun c hc => by
          rcases hN4 c hc with r | r
          · exact Or.inl r
          · have := HGu1.out.size; exact Or.inr (by omega))
        have HGu2 := Lib.hid (HGu1.out.trans hB4)
        have HXu2 := Lib.hid (HXu1.out.but hB4 (fun r => HNX.out r))
        have HBu2 := Lib.hid (HBu1.out.but hB4 (fun r => HNB.out r))
        have HMu2 := Lib.hid (HMu1.out.but hB4 (fun r => HNM.out r))
        have HRu2 := Lib.hid (HFIN.out u2 v4 o4 hZ)
        clear hZ hB4 hN4
        have q0u2 := HXu2.out.cell 0
        have q1u2 := HXu2.out.cell 1
        have q2u2 := HXu2.out.cell 2
        have q3u2 := HBu2.out.cell 0
        have q4u2 := HBu2.out.cell 1
        refine hK _ _ ?_
        clear hK K
        try simp only [Act.put, List.setIfInBounds_toArray, List.set_cons_zero, List.set_cons_succ]
        refine wpAny_ready (rs := [14]) (by kernel_rfl) (by simp) ?_
        refine AllReady.cons rfl (fun K hK => ?_) AllReady.nil
        refine step_update HMu2.out (o := ⟨none, _, _, _, _, _⟩) (by rfl) _ _ _ _ rfl keyI Tryd.underlying66 rfl t rfl v4 rfl (by unfold maxLen; omega) ?_
        intro w9 hM9 hB9
        have HMz := Lib.hid hM9
        have HZ := Lib.hid (HRu2.out.but hB9 (fun c hc r => by
          subst r
          rcases HN4.out _ hc with y | y
          · exact HNM.out y
          · have := HLM.out; omega))
        have HGz := Lib.hid ((HGu2.out.mono (fun c hc => Or.inl (Or.inl hc))).trans (hB9.mono (fun c hc => Or.inl (Or.inr hc))) : But (fun c => ot = some c ∨ c = mb) w w9)
        clear hM9 hB9
        refine hK _ _ ?_
        clear hK K
        refine wpAny_done (by kernel_rfl) ?_ _
        go_wp2_with fail
        go_ret
        exact ⟨rfl, v4, o4, HZ.out, HMz.out, HGz.out, HN4.out⟩
      · go_simp
        refine hK _ _ ?_
        clear hK K
        refine wpAny_ready (rs := [3, 12]) (by kernel_rfl) (by simp) ?_
        refine AllReady.cons rfl (fun K hK => ?_) (AllReady.cons rfl (fun K hK => ?_) AllReady.nil)
        · go_simp
          refine hK _ _ ?_
          clear hK K
          refine wpAny_ready (rs := [12]) (by kernel_rfl) (by simp) ?_
          refine AllReady.cons rfl (fun K hK => ?_) AllReady.nil
          go_simp
          refine hK _ _ ?_
          clear hK K
          have g1 := (But.refl (fun _ => False) u0).alloc (.cells #[.int .i64 e, .int .i64 k, .int .u64 n] 42)
          have b1 := Blk.new u0 #[.int .i64 e, .int .i64 k, .int .u64 n] 42
          obtain ⟨u1, hu⟩ : ∃ u : World, u = u0.alloc (.cells #[.int .i64 e, .int .i64 k, .int .u64 n] 42) := ⟨_, rfl⟩
          obtain ⟨q, hp⟩ : ∃ p, p = u0.heap.size := ⟨_, rfl⟩
          rw [← hu] at g1 b1 ⊢
          rw [← hp] at b1 ⊢
          have HQ := Lib.hid b1
          have HGu1 := Lib.hid (HGu0.out.trans (g1.mono (fun c hc => hc.elim)))
          have HXu1 := Lib.hid (HXu0.out.but g1 (fun q => q))
          have HBu1 := Lib.hid (HBu0.out.but g1 (fun q => q))
          have HMu1 := Lib.hid (HMu0.out.but g1 (fun q => q))
          have HRu1 := Lib.hid (HRu0.out.but g1 (fun _ _ q => q))
          clear hu hp b1 g1
          have q0u1 := HXu1.out.cell 0
          have q1u1 := HXu1.out.cell 1
          have q2u1 := HXu1.out.cell 2
          have q3u1 := HBu1.out.cell 0
          have q4u1 := HBu1.out.cell 1
          refine wpAny_ready (rs := [13]) (by kernel_rfl) (by simp) ?_
          refine AllReady.cons rfl (fun K hK => ?_) AllReady.nil
          refine step_append_row (o := ⟨some 39, _, _, _, _, _⟩) (by rfl) _ _ _ rfl 42 i0 (.agg #[.int .i64 0, .int .i64 0, .int .u64 0]) 3 24 Tryd.underlying47 hi hz0 hz1 hz2 rfl (by decide) _ ot la (encsA l) HRu1.out rfl ⟨q, 0, none⟩ 1 1 (encA ⟨e, k, n⟩) rfl rfl (blk_src HQ.out) (oneCell_A _) (by unfold maxLen; omega) (by omega) ?_
          intro v4 u2 o4 hZ hB4 hN4
          have HN4 := Lib.hid (show ∀ c, o4 = some c → ot = some c ∨ w.heap.size ≤ c from fun c hc => by
            rcases hN4 c hc with r | r
            · exact Or.inl r
            · have := HGu1.out.size; exact Or.inr (by omega))
          have HGu2 := Lib.hid (HGu1.out.trans hB4)
          have HXu2 := Lib.hid (HXu1.out.but hB4 (fun r => HNX.out r))
          have HBu2 := Lib.hid (HBu1.out.but hB4 (fun r => HNB.out r))
          have HMu2 := Lib.hid (HMu1.out.but hB4 (fun r => HNM.out r))
          have HRu2 := Lib.hid (HFIN.out u2 v4 o4 hZ)
          clear hZ hB4 hN4
          have q0u2 := HXu2.out.cell 0
          have q1u2 := HXu2.out.cell 1
          have q2u2 := HXu2.out.cell 2
          have q3u2 := HBu2.out.cell 0
          have q4u2 := HBu2.out.cell 1
          refine hK _ _ ?_
          clear hK K
          try simp only [Act.put, List.setIfInBounds_toArray, List.set_cons_zero, List.set_cons_succ]
          refine wpAny_ready (rs := [14]) (by kernel_rfl) (by simp) ?_
          refine AllReady.cons rfl (fun K hK => ?_) AllReady.nil
          refine step_update HMu2.out (o := ⟨none, _, _, _, _, _⟩) (by rfl) _ _ _ _ rfl keyI Tryd.underlying66 rfl t rfl v4 rfl (by unfold maxLen; omega) ?_
          intro w9 hM9 hB9
          have HMz := Lib.hid hM9
          have HZ := Lib.hid (HRu2.out.but hB9 (fun c hc r => by
            subst r
            rcases HN4.out _ hc with y | y
            · exact HNM.out y
            · have := HLM.out; omega))
          have HGz := Lib.hid ((HGu2.out.mono (fun c hc => Or.inl (Or.inl hc))).trans (hB9.mono (fun c hc => Or.inl (Or.inr hc))) : But (fun c => ot = some c ∨ c = mb) w w9)
          clear hM9 hB9
          refine hK _ _ ?_
          clear hK K
          refine wpAny_done (by kernel_rfl) ?_ _
          go_wp2_with fail
          go_ret
          exact ⟨rfl, v4, o4, HZ.out, HMz.out, HGz.out, HN4.out⟩
        · go_simp
          refine hK _ _ ?_
          clear hK K
          have g1 := (But.refl (fun _ => False) u0).alloc (.cells #[.int .i64 e, .int .i64 k, .int .u64 n] 42)
          have b1 := Blk.new u0 #[.int .i64 e, .int .i64 k, .int .u64 n] 42
          obtain ⟨u1, hu⟩ : ∃ u : World, u = u0.alloc (.cells #[.int .i64 e, .int .i64 k, .int .u64 n] 42) := ⟨_, rfl⟩
          obtain ⟨q, hp⟩ : ∃ p, p = u0.heap.size := ⟨_, rfl⟩
          rw [← hu] at g1 b1 ⊢
          rw [← hp] at b1 ⊢
          have HQ := Lib.hid b1
          have HGu1 := Lib.hid (HGu0.out.trans (g1.mono (fun c hc => hc.elim)))
          have HXu1 := Lib.hid (HXu0.out.but g1 (fun q => q))
          have HBu1 := Lib.hid (HBu0.out.but g1 (fun q => q))
          have HMu1 := Lib.hid (HMu0.out.but g1 (fun q => q))
          have HRu1 := Lib.hid (HRu0.out.but g1 (fun _ _ q => q))
          clear hu hp b1 g1
          have q0u1 := HXu1.out.cell 0
          have q1u1 := HXu1.out.cell 1
          have q2u1 := HXu1.out.cell 2
          have q3u1 := HBu1.out.cell 0
          have q4u1 := HBu1.out.cell 1
          refine wpAny_ready (rs := [3, 13]) (by kernel_rfl) (by simp) ?_
          refine AllReady.cons rfl (fun K hK => ?_) (AllReady.cons rfl (fun K hK => ?_) AllReady.nil)
          · go_simp
            refine hK _ _ ?_
            clear hK K
            refine wpAny_ready (rs := [13]) (by kernel_rfl) (by simp) ?_
            refine AllReady.cons rfl (fun K hK => ?_) AllReady.nil
            refine step_append_row (o := ⟨some 39, _, _, _, _, _⟩) (by rfl) _ _ _ rfl 42 i0 (.agg #[.int .i64 0, .int .i64 0, .int .u64 0]) 3 24 Tryd.underlying47 hi hz0 hz1 hz2 rfl (by decide) _ ot la (encsA l) HRu1.out rfl ⟨q, 0, none⟩ 1 1 (encA ⟨e, k, n⟩) rfl rfl (blk_src HQ.out) (oneCell_A _) (by unfold maxLen; omega) (by omega) ?_
            intro v4 u2 o4 hZ hB4 hN4
            have HN4 := Lib.hid (show ∀ c, o4 = some c → ot = some c ∨ w.heap.size ≤ c from fun c hc => by
              rcases hN4 c hc with r | r
              · exact Or.inl r
              · have := HGu1.out.size; exact Or.inr (by omega))
            have HGu2 := Lib.hid (HGu1.out.trans hB4)
            have HXu2 := Lib.hid (HXu1.out.but hB4 (fun r => HNX.out r))
            have HBu2 := Lib.hid (HBu1.out.but hB4 (fun r => HNB.out r))
            have HMu2 := Lib.hid (HMu1.out.but hB4 (fun r => HNM.out r))
            have HRu2 := Lib.hid (HFIN.out u2 v4 o4 hZ)
            clear hZ hB4 hN4
            have q0u2 := HXu2.out.cell 0
            have q1u2 := HXu2.out.cell 1
            have q2u2 := HXu2.out.cell 2
            have q3u2 := HBu2.out.cell 0
            have q4u2 := HBu2.out.cell 1
            refine hK _ _ ?_
            clear hK K
            try simp only [Act.put, List.setIfInBounds_toArray, List.set_cons_zero, List.set_cons_succ]
            refine wpAny_ready (rs := [14]) (by kernel_rfl) (by simp) ?_
            refine AllReady.cons rfl (fun K hK => ?_) AllReady.nil
            refine step_update HMu2.out (o := ⟨none, _, _, _, _, _⟩) (by rfl) _ _ _ _ rfl keyI Tryd.underlying66 rfl t rfl v4 rfl (by unfold maxLen; omega) ?_
            intro w9 hM9 hB9
            have HMz := Lib.hid hM9
            have HZ := Lib.hid (HRu2.out.but hB9 (fun c hc r => by
              subst r
              rcases HN4.out _ hc with y | y
              · exact HNM.out y
              · have := HLM.out; omega))
            have HGz := Lib.hid ((HGu2.out.mono (fun c hc => Or.inl (Or.inl hc))).trans (hB9.mono (fun c hc => Or.inl (Or.inr hc))) : But (fun c => ot = some c ∨ c = mb) w w9)
            clear hM9 hB9
            refine hK _ _ ?_
            clear hK K
            refine wpAny_done (by kernel_rfl) ?_ _
            go_wp2_with fail
            go_ret
            exact ⟨rfl, v4, o4, HZ.out, HMz.out, HGz.out, HN4.out⟩
          · refine step_append_row (o := ⟨some 39, _, _, _, _, _⟩) (by rfl) _ _ _ rfl 42 i0 (.agg #[.int .i64 0, .int .i64 0, .int .u64 0]) 3 24 Tryd.underlying47 hi hz0 hz1 hz2 rfl (by decide) _ ot la (encsA l) HRu1.out rfl ⟨q, 0, none⟩ 1 1 (encA ⟨e, k, n⟩) rfl rfl (blk_src HQ.out) (oneCell_A _) (by unfold maxLen; omega) (by omega) ?_
            intro v4 u2 o4 hZ hB4 hN4
            have HN4 := Lib.hid (show ∀ c, o4 = some c → ot = some c ∨ w.heap.size ≤ c from fun c hc => by
              rcases hN4 c hc with r | r
              · exact Or.inl r
              · have := HGu1.out.size; exact Or.inr (by omega))
            have HGu2 := Lib.hid (HGu1.out.trans hB4)
            have HXu2 := Lib.hid (HXu1.out.but hB4 (fun r => HNX.out r))
            have HBu2 := Lib.hid (HBu1.out.but hB4 (fun r => HNB.out r))
            have HMu2 := Lib.hid (HMu1.out.but hB4 (fun r => HNM.out r))
            have HRu2 := Lib.hid (HFIN.out u2 v4 o4 hZ)
            clear hZ hB4 hN4
            have q0u2 := HXu2.out.cell 0
            have q1u2 := HXu2.out.cell 1
            have q2u2 := HXu2.out.cell 2
            have q3u2 := HBu2.out.cell 0
            have q4u2 := HBu2.out.cell 1
            refine hK _ _ ?_
            clear hK K
            try simp only [Act.put, List.setIfInBounds_toArray, List.set_cons_zero, List.set_cons_succ]
            refine wpAny_ready (rs := [3]) (by kernel_rfl) (by simp) ?_
            refine AllReady.cons rfl (fun K hK => ?_) AllReady.nil
            go_simp
            refine hK _ _ ?_
            clear hK K
            refine wpAny_ready (rs := [14]) (by kernel_rfl) (by simp) ?_
            refine AllReady.cons rfl (fun K hK => ?_) AllReady.nil
            refine step_update HMu2.out (o := ⟨none, _, _, _, _, _⟩) (by rfl) _ _ _ _ rfl keyI Tryd.underlying66 rfl t rfl v4 rfl (by unfold maxLen; omega) ?_
            intro w9 hM9 hB9
            have HMz := Lib.hid hM9
            have HZ := Lib.hid (HRu2.out.but hB9 (fun c hc r => by
              subst r
              rcases HN4.out _ hc with y | y
              · exact HNM.out y
              · have := HLM.out; omega))
            have HGz := Lib.hid ((HGu2.out.mono (fun c hc => Or.inl (Or.inl hc))).trans (hB9.mono (fun c hc => Or.inl (Or.inr hc))) : But (fun c => ot = some c ∨ c = mb) w w9)
            clear hM9 hB9
            refine hK _ _ ?_
            clear hK K
            refine wpAny_done (by kernel_rfl) ?_ _
            go_wp2_with fail
            go_ret
            exact ⟨rfl, v4, o4, HZ.out, HMz.out, HGz.out, HN4.out⟩
    · go_simp
      refine hK _ _ ?_
      clear hK K
      refine wpAny_ready (rs := [3, 10, 12]) (by kernel_rfl) (by simp) ?_
      refine AllReady.cons rfl (fun K hK => ?_) (AllReady.cons rfl (fun K hK => ?_) (AllReady.cons rfl (fun K hK => ?_) AllReady.nil))
      · go_simp
        refine hK _ _ ?_
        clear hK K
        refine wpAny_ready (rs := [10, 12]) (by kernel_rfl) (by simp) ?_
        refine AllReady.cons rfl (fun K hK => ?_) (AllReady.cons rfl (fun K hK => ?_) AllReady.nil)
        · refine step_look HMu0.out (o := ⟨some 36, _, _, _, _, _⟩) (by rfl) _ _ _ rfl keyI Tryd.underlying66 (.slice none 0 0) (zeroS _) rfl t rfl (.slice aa la ca) HLK.out ?_
          refine hK _ _ ?_
          clear hK K
          try simp only [Act.put, List.setIfInBounds_toArray, List.set_cons_zero, List.set_cons_succ]
          refine wpAny_ready (rs := [12]) (by kernel_rfl) (by simp) ?_
          refine AllReady.cons rfl (fun K hK => ?_) AllReady.nil
          go_simp
          refine hK _ _ ?_
          clear hK K
          have g1 := (But.refl (fun _ => False) u0).alloc (.cells #[.int .i64 e, .int .i64 k, .int .u64 n] 42)
          have b1 := Blk.new u0 #[.int .i64 e, .int .i64 k, .int .u64 n] 42
          obtain ⟨u1, hu⟩ : ∃ u : World, u = u0.alloc (.cells #[.int .i64 e, .int .i64 k, .int .u64 n] 42) := ⟨_, rfl⟩
          obtain ⟨q, hp⟩ : ∃ p, p = u0.heap.size := ⟨_, rfl⟩
          rw [← hu] at g1 b1 ⊢
          rw [← hp] at b1 ⊢
          have HQ := Lib.hid b1
          have HGu1 := Lib.hid (HGu0.out.trans (g1.mono (fun c hc => hc.elim)))
          have HXu1 := Lib.hid (HXu0.out.but g1 (fun q => q))
          have HBu1 := Lib.hid (HBu0.out.but g1 (fun q => q))
          have HMu1 := Lib.hid (HMu0.out.but g1 (fun q => q))
          have HRu1 := Lib.hid (HRu0.out.but g1 (fun _ _ q => q))
          clear hu hp b1 g1
          have q0u1 := HXu1.out.cell 0
          have q1u1 := HXu1.out.cell 1
          have q2u1 := HXu1.out.cell 2
          have q3u1 := HBu1.out.cell 0
          have q4u1 := HBu1.out.cell 1
          refine wpAny_ready (rs := [13]) (by kernel_rfl) (by simp) ?_
          refine AllReady.cons rfl (fun K hK => ?_) AllReady.nil
          refine step_append_row (o := ⟨some 39, _, _, _, _, _⟩) (by rfl) _ _ _ rfl 42 i0 (.agg #[.int .i64 0, .int .i64 0, .int .u64 0]) 3 24 Tryd.underlying47 hi hz0 hz1 hz2 rfl (by decide) _ ot la (encsA l) HRu1.out rfl ⟨q, 0, none⟩ 1 1 (encA ⟨e, k, n⟩) rfl rfl (blk_src HQ.out) (oneCell_A _) (by unfold maxLen; omega) (by omega) ?_
          intro v4 u2 o4 hZ hB4 hN4
          have HN4 := Lib.hid (show ∀ c, o4 = some c → ot = some c ∨ w.heap.size ≤ c from fun c hc => by
            rcases hN4 c hc with r | r
            · exact Or.inl r
            · have := HGu1.out.size; exact Or.inr (by omega))
          have HGu2 := Lib.hid (HGu1.out.trans hB4)
          have HXu2 := Lib.hid (HXu1.out.but hB4 (fun r => HNX.out r))
          have HBu2 := Lib.hid (HBu1.out.but hB4 (fun r => HNB.out r))
          have HMu2 := Lib.hid (HMu1.out.but hB4 (fun r => HNM.out r))
          have HRu2 := Lib.hid (HFIN.out u2 v4 o4 hZ)
          clear hZ hB4 hN4
          have q0u2 := HXu2.out.cell 0
          have q1u2 := HXu2.out.cell 1
          have q2u2 := HXu2.out.cell 2
          have q3u2 := HBu2.out.cell 0
          have q4u2 := HBu2.out.cell 1
          refine hK _ _ ?_
          clear hK K
          try simp only [Act.put, List.setIfInBounds_toArray, List.set_cons_zero, List.set_cons_succ]
          refine wpAny_ready (rs := [14]) (by kernel_rfl) (by simp) ?_
          refine AllReady.cons rfl (fun K hK => ?_) AllReady.nil
          refine step_update HMu2.out (o := ⟨none, _, _, _, _, _⟩) (by rfl) _ _ _ _ rfl keyI Tryd.underlying66 rfl t rfl v4 rfl (by unfold maxLen; omega) ?_
          intro w9 hM9 hB9
          have HMz := Lib.hid hM9
          have HZ := Lib.hid (HRu2.out.but hB9 (fun c hc r => by
            subst r
            rcases HN4.out _ hc with y | y
            · exact HNM.out y
            · have := HLM.out; omega))
          have HGz := Lib.hid ((HGu2.out.mono (fun c hc => Or.inl (Or.inl hc))).trans (hB9.mono (fun c hc => Or.inl (Or.inr hc))) : But (fun c => ot = some c ∨ c = mb) w w9)
          clear hM9 hB9
          refine hK _ _ ?_
          clear hK K
          refine wpAny_done (by kernel_rfl) ?_ _
          go_wp2_with fail
          go_ret
          exact ⟨rfl, v4, o4, HZ.out, HMz.out, HGz.out, HN4.out⟩
        · go_simp
          refine hK _ _ ?_
          clear hK K
          have g1 := (But.refl (fun _ => False) u0).alloc (.cells #[.int .i64 e, .int .i64 k, .int .u64 n] 42)
          have b1 := Blk.new u0 #[.int .i64 e, .int .i64 k, .int .u64 n] 42
          obtain ⟨u1, hu⟩ : ∃ u : World, u = u0.alloc (.cells #[.int .i64 e, .int .i64 k, .int .u64 n] 42) := ⟨_, rfl⟩
          obtain ⟨q, hp⟩ : ∃ p, p = u0.heap.size := ⟨_, rfl⟩
          rw [← hu] at g1 b1 ⊢
          rw [← hp] at b1 ⊢
          have HQ := Lib.hid b1
          have HGu1 := Lib.hid (HGu0.out.trans (g1.mono (fun c hc => hc.elim)))
          have HXu1 := Lib.hid (HXu0.out.but g1 (fun q => q))
          have HBu1 := Lib.hid (HBu0.out.but g1 (fun q => q))
          have HMu1 := Lib.hid (HMu0.out.but g1 (fun q => q))
          have HRu1 := Lib.hid (HRu0.out.but g1 (fun _ _ q => q))
          clear hu hp b1 g1
          have q0u1 := HXu1.out.cell 0
          have q1u1 := HXu1.out.cell 1
          have q2u1 := HXu1.out.cell 2
          have q3u1 := HBu1.out.cell 0
          have q4u1 := HBu1.out.cell 1
          refine wpAny_ready (rs := [10]) (by kernel_rfl) (by simp) ?_
          refine AllReady.cons rfl (fun K hK => ?_) AllReady.nil
          refine step_look HMu1.out (o := ⟨some 36, _, _, _, _, _⟩) (by rfl) _ _ _ rfl keyI Tryd.underlying66 (.slice none 0 0) (zeroS _) rfl t rfl (.slice aa la ca) HLK.out ?_
          refine hK _ _ ?_
          clear hK K
          try simp only [Act.put, List.setIfInBounds_toArray, List.set_cons_zero, List.set_cons_succ]
          refine wpAny_ready (rs := [13]) (by kernel_rfl) (by simp) ?_
          refine AllReady.cons rfl (fun K hK => ?_) AllReady.nil
          refine step_append_row (o := ⟨some 39, _, _, _, _, _⟩) (by rfl) _ _ _ rfl 42 i0 (.agg #[.int .i64 0, .int .i64 0, .int .u64 0]) 3 24 Tryd.underlying47 hi hz0 hz1 hz2 rfl (by decide) _ ot la (encsA l) HRu1.out rfl ⟨q, 0, none⟩ 1 1 (encA ⟨e, k, n⟩) rfl rfl (blk_src HQ.out) (oneCell_A _) (by unfold maxLen; omega) (by omega) ?_
          intro v4 u2 o4 hZ hB4 hN4
          have HN4 := Lib.hid (show ∀ c, o4 = some c → ot = some c ∨ w.heap.size ≤ c from fun c hc => by
            rcases hN4 c hc with r | r
            · exact Or.inl r
            · have := HGu1.out.size; exact Or.inr (by omega))
          have HGu2 := Lib.hid (HGu1.out.trans hB4)
          have HXu2 := Lib.hid (HXu1.out.but hB4 (fun r => HNX.out r))
          have HBu2 := Lib.hid (HBu1.out.but hB4 (fun r => HNB.out r))
          have HMu2 := Lib.hid (HMu1.out.but hB4 (fun r => HNM.out r))
          have HRu2 := Lib.hid (HFIN.out u2 v4 o4 hZ)
          clear hZ hB4 hN4
          have q0u2 := HXu2.out.cell 0
          have q1u2 := HXu2.out.cell 1
          have q2u2 := HXu2.out.cell 2
          have q3u2 := HBu2.out.cell 0
          have q4u2 := HBu2.out.cell 1
          refine hK _ _ ?_
          clear hK K
          try simp only [Act.put, List.setIfInBounds_toArray, List.set_cons_zero, List.set_cons_succ]
          refine wpAny_ready (rs := [14]) (by kernel_rfl) (by simp) ?_
          refine AllReady.cons rfl (fun K hK => ?_) AllReady.nil
          refine step_update HMu2.out (o := ⟨none, _, _, _, _, _⟩) (by rfl) _ _ _ _ rfl keyI Tryd.underlying66 rfl t rfl v4 rfl (by unfold maxLen; omega) ?_
          intro w9 hM9 hB9
          have HMz := Lib.hid hM9
          have HZ := Lib.hid (HRu2.out.but hB9 (fun c hc r => by
            subst r
            rcases HN4.out _ hc with y | y
            · exact HNM.out y
            · have := HLM.out; omega))
          have HGz := Lib.hid ((HGu2.out.mono (fun c hc => Or.inl (Or.inl hc))).trans (hB9.mono (fun c hc => Or.inl (Or.inr hc))) : But (fun c => ot = some c ∨ c = mb) w w9)
          clear hM9 hB9
          refine hK _ _ ?_
          clear hK K
          refine wpAny_done (by kernel_rfl) ?_ _
          go_wp2_with fail
          go_ret
          exact ⟨rfl, v4, o4, HZ.out, HMz.out, HGz.out, HN4.out⟩
      · refine step_look HMu0.out (o := ⟨some 36, _, _, _, _, _⟩) (by rfl) _ _ _ rfl keyI Tryd.underlying66 (.slice none 0 0) (zeroS _) rfl t rfl (.slice aa la ca) HLK.out ?_
        refine hK _ _ ?_
        clear hK K
        try simp only [Act.put, List.setIfInBounds_toArray, List.set_cons_zero, List.set_cons_succ]
        refine wpAny_ready (rs := [3, 12]) (by kernel_rfl) (by simp) ?_
        refine AllReady.cons rfl (fun K hK => ?_) (AllReady.cons rfl (fun K hK => ?_) AllReady.nil)
        · go_simp
          refine hK _ _ ?_
          clear hK K
          refine wpAny_ready (rs := [12]) (by kernel_rfl) (by simp) ?_
          refine AllReady.cons rfl (fun K hK => ?_) AllReady.nil
          go_simp
          refine hK _ _ ?_
          clear hK K
          have g1 := (But.refl (fun _ => False) u0).alloc (.cells #[.int .i64 e, .int .i64 k, .int .u64 n] 42)
          have b1 := Blk.new u0 #[.int .i64 e, .int .i64 k, .int .u64 n] 42
          obtain ⟨u1, hu⟩ : ∃ u : World, u = u0.alloc (.cells #[.int .i64 e, .int .i64 k, .int .u64 n] 42) := ⟨_, rfl⟩
          obtain ⟨q, hp⟩ : ∃ p, p = u0.heap.size := ⟨_, rfl⟩
          rw [← hu] at g1 b1 ⊢
          rw [← hp] at b1 ⊢
          have HQ := Lib.hid b1
          have HGu1 := Lib.hid (HGu0.out.trans (g1.mono (fun c hc => hc.elim)))
          have HXu1 := Lib.hid (HXu0.out.but g1 (fun q => q))
          have HBu1 := Lib.hid (HBu0.out.but g1 (fun q => q))
          have HMu1 := Lib.hid (HMu0.out.but g1 (fun q => q))
          have HRu1 := Lib.hid (HRu0.out.but g1 (fun _ _ q => q))
          clear hu hp b1 g1
          have q0u1 := HXu1.out.cell 0
          have q1u1 := HXu1.out.cell 1
          have q2u1 := HXu1.out.cell 2
          have q3u1 := HBu1.out.cell 0
          have q4u1 := HBu1.out.cell 1
          refine wpAny_ready (rs := [13]) (by kernel_rfl) (by simp) ?_
          refine AllReady.cons rfl (fun K hK => ?_) AllReady.nil
          refine step_append_row (o := ⟨some 39, _, _, _, _, _⟩) (by rfl) _ _ _ rfl 42 i0 (.agg #[.int .i64 0, .int .i64 0, .int .u64 0]) 3 24 Tryd.underlying47 hi hz0 hz1 hz2 rfl (by decide) _ ot la (encsA l) HRu1.out rfl ⟨q, 0, none⟩ 1 1 (encA ⟨e, k, n⟩) rfl rfl (blk_src HQ.out) (oneCell_A _) (by unfold maxLen; omega) (by omega) ?_
          intro v4 u2 o4 hZ hB4 hN4
          have HN4 := Lib.hid (show ∀ c, o4 = some c → ot = some c ∨ w.heap.size ≤ c from fun c hc => by
            rcases hN4 c hc with r | r
            · exact Or.inl r
            · have := HGu1.out.size; exact Or.inr (by omega))
          have HGu2 := Lib.hid (HGu1.out.trans hB4)
          have HXu2 := Lib.hid (HXu1.out.but hB4 (fun r => HNX.out r))
          have HBu2 := Lib.hid (HBu1.out.but hB4 (fun r => HNB.out r))
          have HMu2 := Lib.hid (HMu1.out.but hB4 (fun r => HNM.out r))
          have HRu2 := Lib.hid (HFIN.out u2 v4 o4 hZ)
          clear hZ hB4 hN4
          have q0u2 := HXu2.out.cell 0
          have q1u2 := HXu2.out.cell 1
          have q2u2 := HXu2.out.cell 2
          have q3u2 := HBu2.out.cell 0
          have q4u2 := HBu2.out.cell 1
          refine hK _ _ ?_
          clear hK K
          try simp only [Act.put, List.setIfInBounds_toArray, List.set_cons_zero, List.set_cons_succ]
          refine wpAny_ready (rs := [14]) (by kernel_rfl) (by simp) ?_
          refine AllReady.cons rfl (fun K hK => ?_) AllReady.nil
          refine step_update HMu2.out (o := ⟨none, _, _, _, _, _⟩) (by rfl) _ _ _ _ rfl keyI Tryd.underlying66 rfl t rfl v4 rfl (by unfold maxLen; omega) ?_
          intro w9 hM9 hB9
          have HMz := Lib.hid hM9
          have HZ := Lib.hid (HRu2.out.but hB9 (fun c hc r => by
            subst r
            rcases HN4.out _ hc with y | y
            · exact HNM.out y
            · have := HLM.out; omega))
          have HGz := Lib.hid ((HGu2.out.mono (fun c hc => Or.inl (Or.inl hc))).trans (hB9.mono (fun c hc => Or.inl (Or.inr hc))) : But (fun c => ot = some c ∨ c = mb) w w9)
          clear hM9 hB9
          refine hK _ _ ?_
          clear hK K
          refine wpAny_done (by kernel_rfl) ?_ _
          go_wp2_with fail
          go_ret
          exact ⟨rfl, v4, o4, HZ.out, HMz.out, HGz.out, HN4.out⟩
        · go_simp
          refine hK _ _ ?_
          clear hK K
          have g1 := (But.refl (fun _ => False) u0).alloc (.cells #[.int .i64 e, .int .i64 k, .int .u64 n] 42)
          have b1 := Blk.new u0 #[.int .i64 e, .int .i64 k, .int .u64 n] 42
          obtain ⟨u1, hu⟩ : ∃ u : World, u = u0.alloc (.cells #[.int .i64 e, .int .i64 k, .int .u64 n] 42) := ⟨_, rfl⟩
          obtain ⟨q, hp⟩ : ∃ p, p = u0.heap.size := ⟨_, rfl⟩
          rw [← hu] at g1 b1 ⊢
          rw [← hp] at b1 ⊢
          have HQ := Lib.hid b1
          have HGu1 := Lib.hid (HGu0.out.trans (g1.mono (fun c hc => hc.elim)))
          have HXu1 := Lib.hid (HXu0.out.but g1 (fun q => q))
          have HBu1 := Lib.hid (HBu0.out.but g1 (fun q => q))
          have HMu1 := Lib.hid (HMu0.out.but g1 (fun q => q))
          have HRu1 := Lib.hid (HRu0.out.but g1 (fun _ _ q => q))
          clear hu hp b1 g1
          have q0u1 := HXu1.out.cell 0
          have q1u1 := HXu1.out.cell 1
          have q2u1 := HXu1.out.cell 2
          have q3u1 := HBu1.out.cell 0
          have q4u1 := HBu1.out.cell 1
          refine wpAny_ready (rs := [3, 13]) (by kernel_rfl) (by simp) ?_
          refine AllReady.cons rfl (fun K hK => ?_) (AllReady.cons rfl (fun K hK => ?_) AllReady.nil)
          · go_simp
            refine hK _ _ ?_
            clear hK K
            refine wpAny_ready (rs := [13]) (by kernel_rfl) (by simp) ?_
            refine AllReady.cons rfl (fun K hK => ?_) AllReady.nil
            refine step_append_row (o := ⟨some 39, _, _, _, _, _⟩) (by rfl) _ _ _ rfl 42 i0 (.agg #[.int .i64 0, .int .i64 0, .int .u64 0]) 3 24 Tryd.underlying47 hi hz0 hz1 hz2 rfl (by decide) _ ot la (encsA l) HRu1.out rfl ⟨q, 0, none⟩ 1 1 (encA ⟨e, k, n⟩) rfl rfl (blk_src HQ.out) (oneCell_A _) (by unfold maxLen; omega) (by omega) ?_
            intro v4 u2 o4 hZ hB4 hN4
            have HN4 := Lib.hid (show ∀ c, o4 = some c → ot = some c ∨ w.heap.size ≤ c from fun c hc => by
              rcases hN4 c hc with r | r
              · exact Or.inl r
              · have := HGu1.out.size; exact Or.inr (by omega))
            have HGu2 := Lib.hid (HGu1.out.trans hB4)
            have HXu2 := Lib.hid (HXu1.out.but hB4 (fun r => HNX.out r))
            have HBu2 := Lib.hid (HBu1.out.but hB4 (fun r => HNB.out r))
            have HMu2 := Lib.hid (HMu1.out.but hB4 (fun r => HNM.out r))
            have HRu2 := Lib.hid (HFIN.out u2 v4 o4 hZ)
            clear hZ hB4 hN4
            have q0u2 := HXu2.out.cell 0
            have q1u2 := HXu2.out.cell 1
            have q2u2 := HXu2.out.cell 2
            have q3u2 := HBu2.out.cell 0
            have q4u2 := HBu2.out.cell 1
            refine hK _ _ ?_
            clear hK K
            try simp only [Act.put, List.setIfInBounds_toArray, List.set_cons_zero, List.set_cons_succ]
            refine wpAny_ready (rs := [14]) (by kernel_rfl) (by simp) ?_
            refine AllReady.cons rfl (fun K hK => ?_) AllReady.nil
            refine step_update HMu2.out (o := ⟨none, _, _, _, _, _⟩) (by rfl) _ _ _ _ rfl keyI Tryd.underlying66 rfl t rfl v4 rfl (by unfold maxLen; omega) ?_
            intro w9 hM9 hB9
            have HMz := Lib.hid hM9
            have HZ := Lib.hid (HRu2.out.but hB9 (fun c hc r => by
              subst r
              rcases HN4.out _ hc with y | y
              · exact HNM.out y
              · have := HLM.out; omega))
            have HGz := Lib.hid ((HGu2.out.mono (fun c hc => Or.inl (Or.inl hc))).trans (hB9.mono (fun c hc => Or.inl (Or.inr hc))) : But (fun c => ot = some c ∨ c = mb) w w9)
            clear hM9 hB9
            refine hK _ _ ?_
            clear hK K
            refine wpAny_done (by kernel_rfl) ?_ _
            go_wp2_with fail
            go_ret
            exact ⟨rfl, v4, o4, HZ.out, HMz.out, HGz.out, HN4.out⟩
          · refine step_append_row (o := ⟨some 39, _, _, _, _, _⟩) (by rfl) _ _ _ rfl 42 i0 (.agg #[.int .i64 0, .int .i64 0, .int .u64 0]) 3 24 Tryd.underlying47 hi hz0 hz1 hz2 rfl (by decide) _ ot la (encsA l) HRu1.out rfl ⟨q, 0, none⟩ 1 1 (encA ⟨e, k, n⟩) rfl rfl (blk_src HQ.out) (oneCell_A _) (by unfold maxLen; omega) (by omega) ?_
            intro v4 u2 o4 hZ hB4 hN4
            have HN4 := Lib.hid (show ∀ c, o4 = some c → ot = some c ∨ w.heap.size ≤ c from fun c hc => by
              rcases hN4 c hc with r | r
              · exact Or.inl r
              · have := HGu1.out.size; exact Or.inr (by omega))
            have HGu2 := Lib.hid (HGu1.out.trans hB4)
            have HXu2 := Lib.hid (HXu1.out.but hB4 (fun r => HNX.out r))
            have HBu2 := Lib.hid (HBu1.out.but hB4 (fun r => HNB.out r))
            have HMu2 := Lib.hid (HMu1.out.but hB4 (fun r => HNM.out r))
            have HRu2 := Lib.hid (HFIN.out u2 v4 o4 hZ)
            clear hZ hB4 hN4
            have q0u2 := HXu2.out.cell 0
            have q1u2 := HXu2.out.cell 1
            have q2u2 := HXu2.out.cell 2
            have q3u2 := HBu2.out.cell 0
            have q4u2 := HBu2.out.cell 1
            refine hK _ _ ?_
            clear hK K
            try simp only [Act.put, List.setIfInBounds_toArray, List.set_cons_zero, List.set_cons_succ]
            refine wpAny_ready (rs := [3]) (by kernel_rfl) (by simp) ?_
            refine AllReady.cons rfl (fun K hK => ?_) AllReady.nil
            go_simp
            refine hK _ _ ?_
            clear hK K
            refine wpAny_ready (rs := [14]) (by kernel_rfl) (by simp) ?_
            refine AllReady.cons rfl (fun K hK => ?_) AllReady.nil
            refine step_update HMu2.out (o := ⟨none, _, _, _, _, _⟩) (by rfl) _ _ _ _ rfl keyI Tryd.underlying66 rfl t rfl v4 rfl (by unfold maxLen; omega) ?_
            intro w9 hM9 hB9
            have HMz := Lib.hid hM9
            have HZ := Lib.hid (HRu2.out.but hB9 (fun c hc r => by
              subst r
              rcases HN4.out _ hc with y | y
              · exact HNM.out y
              · have := HLM.out; omega))
            have HGz := Lib.hid ((HGu2.out.mono (fun c hc => Or.inl (Or.inl hc))).trans (hB9.mono (fun c hc => Or.inl (Or.inr hc))) : But (fun c => ot = some c ∨ c = mb) w w9)
            clear hM9 hB9
            refine hK _ _ ?_
            clear hK K
            refine wpAny_done (by kernel_rfl) ?_ _
            go_wp2_with fail
            go_ret
            exact ⟨rfl, v4, o4, HZ.out, HMz.out, HGz.out, HN4.out⟩
      · go_simp
        refine hK _ _ ?_
        clear hK K
        have g1 := (But.refl (fun _ => False) u0).alloc (.cells #[.int .i64 e, .int .i64 k, .int .u64 n] 42)
        have b1 := Blk.new u0 #[.int .i64 e, .int .i64 k, .int .u64 n] 42
        obtain ⟨u1, hu⟩ : ∃ u : World, u = u0.alloc (.cells #[.int .i64 e, .int .i64 k, .int .u64 n] 42) := ⟨_, rfl⟩
        obtain ⟨q, hp⟩ : ∃ p, p = u0.heap.size := ⟨_, rfl⟩
        rw [← hu] at g1 b1 ⊢
        rw [← hp] at b1 ⊢
        have HQ := Lib.hid b1
        have HGu1 := Lib.hid (HGu0.out.trans (g1.mono (fun c hc => hc.elim)))
        have HXu1 := Lib.hid (HXu0.out.but g1 (fun q => q))
        have HBu1 := Lib.hid (HBu0.out.but g1 (fun q => q))
        have HMu1 := Lib.hid (HMu0.out.but g1 (fun q => q))
        have HRu1 := Lib.hid (HRu0.out.but g1 (fun _ _ q => q))
        clear hu hp b1 g1
        have q0u1 := HXu1.out.cell 0
        have q1u1 := HXu1.out.cell 1
        have q2u1 := HXu1.out.cell 2
        have q3u1 := HBu1.out.cell 0
        have q4u1 := HBu1.out.cell 1
        refine wpAny_ready (rs := [3, 10]) (by kernel_rfl) (by simp) ?_
        refine AllReady.cons rfl (fun K hK => ?_) (AllReady.cons rfl (fun K hK => ?_) AllReady.nil)
        · go_simp
          refine hK _ _ ?_
          clear hK K
          refine wpAny_ready (rs := [10]) (by kernel_rfl) (by simp) ?_
          refine AllReady.cons rfl (fun K hK => ?_) AllReady.nil
          refine step_look HMu1.out (o := ⟨some 36, _, _, _, _, _⟩) (by rfl) _ _ _ rfl keyI Tryd.underlying66 (.slice none 0 0) (zeroS _) rfl t rfl (.slice aa la ca) HLK.out ?_
          refine hK _ _ ?_
          clear hK K
          try simp only [Act.put, List.setIfInBounds_toArray, List.set_cons_zero, List.set_cons_succ]
          refine wpAny_ready (rs := [13]) (by kernel_rfl) (by simp) ?_
          refine AllReady.cons rfl (fun K hK => ?_) AllReady.nil
          refine step_append_row (o := ⟨some 39, _, _, _, _, _⟩) (by rfl) _ _ _ rfl 42 i0 (.agg #[.int .i64 0, .int .i64 0, .int .u64 0]) 3 24 Tryd.underlying47 hi hz0 hz1 hz2 rfl (by decide) _ ot la (encsA l) HRu1.out rfl ⟨q, 0, none⟩ 1 1 (encA ⟨e, k, n⟩) rfl rfl (blk_src HQ.out) (oneCell_A _) (by unfold maxLen; omega) (by omega) ?_
          intro v4 u2 o4 hZ hB4 hN4
          have HN4 := Lib.hid (show ∀ c, o4 = some c → ot = some c ∨ w.heap.size ≤ c from fun c hc => by
            rcases hN4 c hc with r | r
            · exact Or.inl r
            · have := HGu1.out.size; exact Or.inr (by omega))
          have HGu2 := Lib.hid (HGu1.out.trans hB4)
          have HXu2 := Lib.hid (HXu1.out.but hB4 (fun r => HNX.out r))
          have HBu2 := Lib.hid (HBu1.out.but hB4 (fun r => HNB.out r))
          have HMu2 := Lib.hid (HMu1.out.but hB4 (fun r => HNM.out r))
          have HRu2 := Lib.hid (HFIN.out u2 v4 o4 hZ)
          clear hZ hB4 hN4
          have q0u2 := HXu2.out.cell 0
          have q1u2 := HXu2.out.cell 1
          have q2u2 := HXu2.out.cell 2
          have q3u2 := HBu2.out.cell 0
          have q4u2 := HBu2.out.cell 1
          refine hK _ _ ?_
          clear hK K
          try simp only [Act.put, List.setIfInBounds_toArray, List.set_cons_zero, List.set_cons_succ]
          refine wpAny_ready (rs := [14]) (by kernel_rfl) (by simp) ?_
          refine AllReady.cons rfl (fun K hK => ?_) AllReady.nil
          refine step_update HMu2.out (o := ⟨none, _, _, _, _, _⟩) (by rfl) _ _ _ _ rfl keyI Tryd.underlying66 rfl t rfl v4 rfl (by unfold maxLen; omega) ?_
          intro w9 hM9 hB9
          have HMz := Lib.hid hM9
          have HZ := Lib.hid (HRu2.out.but hB9 (fun c hc r => by
            subst r
            rcases HN4.out _ hc with y | y
            · exact HNM.out y
            · have := HLM.out; omega))
          have HGz := Lib.hid ((HGu2.out.mono (fun c hc => Or.inl (Or.inl hc))).trans (hB9.mono (fun c hc => Or.inl (Or.inr hc))) : But (fun c => ot = some c ∨ c = mb) w w9)
          clear hM9 hB9
          refine hK _ _ ?_
          clear hK K
          refine wpAny_done (by kernel_rfl) ?_ _
          go_wp2_with fail
          go_ret
          exact ⟨rfl, v4, o4, HZ.out, HMz.out, HGz.out, HN4.out⟩
        · refine step_look HMu1.out (o := ⟨some 36, _, _, _, _, _⟩) (by rfl) _ _ _ rfl keyI Tryd.underlying66 (.slice none 0 0) (zeroS _) rfl t rfl (.slice aa la ca) HLK.out ?_
          refine hK _ _ ?_
          clear hK K
          try simp only [Act.put, List.setIfInBounds_toArray, List.set_cons_zero, List.set_cons_succ]
          refine wpAny_ready (rs := [3, 13]) (by kernel_rfl) (by simp) ?_
          refine AllReady.cons rfl (fun K hK => ?_) (AllReady.cons rfl (fun K hK => ?_) AllReady.nil)
          · go_simp
            refine hK _ _ ?_
            clear hK K
            refine wpAny_ready (rs := [13]) (by kernel_rfl) (by simp) ?_
            refine AllReady.cons rfl (fun K hK => ?_) AllReady.nil
            refine step_append_row (o := ⟨some 39, _, _, _, _, _⟩) (by rfl) _ _ _ rfl 42 i0 (.agg #[.int .i64 0, .int .i64 0, .int .u64 0]) 3 24 Tryd.underlying47 hi hz0 hz1 hz2 rfl (by decide) _ ot la (encsA l) HRu1.out rfl ⟨q, 0, none⟩ 1 1 (encA ⟨e, k, n⟩) rfl rfl (blk_src HQ.out) (oneCell_A _) (by unfold maxLen; omega) (by omega) ?_
            intro v4 u2 o4 hZ hB4 hN4
            have HN4 := Lib.hid (show ∀ c, o4 = some c → ot = some c ∨ w.heap.size ≤ c from fun c hc => by
              rcases hN4 c hc with r | r
              · exact Or.inl r
              · have := HGu1.out.size; exact Or.inr (by omega))
            have HGu2 := Lib.hid (HGu1.out.trans hB4)
            have HXu2 := Lib.hid (HXu1.out.but hB4 (fun r => HNX.out r))
            have HBu2 := Lib.hid (HBu1.out.but hB4 (fun r => HNB.out r))
            have HMu2 := Lib.hid (HMu1.out.but hB4 (fun r => HNM.out r))
            have HRu2 := Lib.hid (HFIN.out u2 v4 o4 hZ)
            clear hZ hB4 hN4
            have q0u2 := HXu2.out.cell 0
            have q1u2 := HXu2.out.cell 1
            have q2u2 := HXu2.out.cell 2
            have q3u2 := HBu2.out.cell 0
            have q4u2 := HBu2.out.cell 1
            refine hK _ _ ?_
            clear hK K
            try simp only [Act.put, List.setIfInBounds_toArray, List.set_cons_zero, List.set_cons_succ]
            refine wpAny_ready (rs := [14]) (by kernel_rfl) (by simp) ?_
            refine AllReady.cons rfl (fun K hK => ?_) AllReady.nil
            refine step_update HMu2.out (o := ⟨none, _, _, _, _, _⟩) (by rfl) _ _ _ _ rfl keyI Tryd.underlying66 rfl t rfl v4 rfl (by unfold maxLen; omega) ?_
            intro w9 hM9 hB9
            have HMz := Lib.hid hM9
            have HZ := Lib.hid (HRu2.out.but hB9 (fun c hc r => by
              subst r
              rcases HN4.out _ hc with y | y
              · exact HNM.out y
              · have := HLM.out; omega))
            have HGz := Lib.hid ((HGu2.out.mono (fun c hc => Or.inl (Or.inl hc))).trans (hB9.mono (fun c hc => Or.inl (Or.inr hc))) : But (fun c => ot = some c ∨ c = mb) w w9)
            clear hM9 hB9
            refine hK _ _ ?_
            clear hK K
            refine wpAny_done (by kernel_rfl) ?_ _
            go_wp2_with fail
            go_ret
            exact ⟨rfl, v4, o4, HZ.out, HMz.out, HGz.out, HN4.out⟩
          · refine step_append_row (o := ⟨some 39, _, _, _, _, _⟩) (by rfl) _ _ _ rfl 42 i0 (.agg #[.int .i64 0, .int .i64 0, .int .u64 0]) 3 24 Tryd.underlying47 hi hz0 hz1 hz2 rfl (by decide) _ ot la (encsA l) HRu1.out rfl ⟨q, 0, none⟩ 1 1 (encA ⟨e, k, n⟩) rfl rfl (blk_src HQ.out) (oneCell_A _) (by unfold maxLen; omega) (by omega) ?_
            intro v4 u2 o4 hZ hB4 hN4
            have HN4 := Lib.hid (show ∀ c, o4 = some c → ot = some c ∨ w.heap.size ≤ c from fun c hc => by
              rcases hN4 c hc with r | r
              · exact Or.inl r
              · have := HGu1.out.size; exact Or.inr (by omega))
            have HGu2 := Lib.hid (HGu1.out.trans hB4)
            have HXu2 := Lib.hid (HXu1.out.but hB4 (fun r => HNX.out r))
            have HBu2 := Lib.hid (HBu1.out.but hB4 (fun r => HNB.out r))
            have HMu2 := Lib.hid (HMu1.out.but hB4 (fun r => HNM.out r))
            have HRu2 := Lib.hid (HFIN.out u2 v4 o4 hZ)
            clear hZ hB4 hN4
            have q0u2 := HXu2.out.cell 0
            have q1u2 := HXu2.out.cell 1
            have q2u2 := HXu2.out.cell 2
            have q3u2 := HBu2.out.cell 0
            have q4u2 := HBu2.out.cell 1
            refine hK _ _ ?_
            clear hK K
            try simp only [Act.put, List.setIfInBounds_toArray, List.set_cons_zero, List.set_cons_succ]
            refine wpAny_ready (rs := [3]) (by kernel_rfl) (by simp) ?_
            refine AllReady.cons rfl (fun K hK => ?_) AllReady.nil
            go_simp
            refine hK _ _ ?_
            clear hK K
            refine wpAny_ready (rs := [14]) (by kernel_rfl) (by simp) ?_
            refine AllReady.cons rfl (fun K hK => ?_) AllReady.nil
            refine step_update HMu2.out (o := ⟨none, _, _, _, _, _⟩) (by rfl) _ _ _ _ rfl keyI Tryd.underlying66 rfl t rfl v4 rfl (by unfold maxLen; omega) ?_
            intro w9 hM9 hB9
            have HMz := Lib.hid hM9
            have HZ := Lib.hid (HRu2.out.but hB9 (fun c hc r => by
              subst r
              rcases HN4.out _ hc with y | y
              · exact HNM.out y
              · have := HLM.out; omega))
            have HGz := Lib.hid ((HGu2.out.mono (fun c hc => Or.inl (Or.inl hc))).trans (hB9.mono (fun c hc => Or.inl (Or.inr hc))) : But (fun c => ot = some c ∨ c = mb) w w9)
            clear hM9 hB9
            refine hK _ _ ?_
            clear hK K
            refine wpAny_done (by kernel_rfl) ?_ _
            go_wp2_with fail
            go_ret
            exact ⟨rfl, v4, o4, HZ.out, HMz.out, HGz.out, HN4.out⟩
  · go_simp
    refine hK _ _ ?_
    clear hK K
    refine wpAny_ready (rs := [3, 8, 12]) (by kernel_rfl) (by simp) ?_
    refine AllReady.cons rfl (fun K hK => ?_) (AllReady.cons rfl (fun K hK => ?_) (AllReady.cons rfl (fun K hK => ?_) AllReady.nil))
    · go_simp
      refine hK _ _ ?_
      clear hK K
      refine wpAny_ready (rs := [8, 12]) (by kernel_rfl) (by simp) ?_
      refine AllReady.cons rfl (fun K hK => ?_) (AllReady.cons rfl (fun K hK => ?_) AllReady.nil)
      · go_simp
        refine hK _ _ ?_
        clear hK K
        refine wpAny_ready (rs := [10, 12]) (by kernel_rfl) (by simp) ?_
        refine AllReady.cons rfl (fun K hK => ?_) (AllReady.cons rfl (fun K hK => ?_) AllReady.nil)
        · refine step_look HMu0.out (o := ⟨some 36, _, _, _, _, _⟩) (by rfl) _ _ _ rfl keyI Tryd.underlying66 (.slice none 0 0) (zeroS _) rfl t rfl (.slice aa la ca) HLK.out ?_
          refine hK _ _ ?_
          clear hK K
          try simp only [Act.put, List.setIfInBounds_toArray, List.set_cons_zero, List.set_cons_succ]
          refine wpAny_ready (rs := [12]) (by kernel_rfl) (by simp) ?_
          refine AllReady.cons rfl (fun K hK => ?_) AllReady.nil
          go_simp
          refine hK _ _ ?_
          clear hK K
          have g1 := (But.refl (fun _ => False) u0).alloc (.cells #[.int .i64 e, .int .i64 k, .int .u64 n] 42)
          have b1 := Blk.new u0 #[.int .i64 e, .int .i64 k, .int .u64 n] 42
          obtain ⟨u1, hu⟩ : ∃ u : World, u = u0.alloc (.cells #[.int .i64 e, .int .i64 k, .int .u64 n] 42) := ⟨_, rfl⟩
          obtain ⟨q, hp⟩ : ∃ p, p = u0.heap.size := ⟨_, rfl⟩
          rw [← hu] at g1 b1 ⊢
          rw [← hp] at b1 ⊢
          have HQ := Lib.hid b1
          have HGu1 := Lib.hid (HGu0.out.trans (g1.mono (fun c hc => hc.elim)))
          have HXu1 := Lib.hid (HXu0.out.but g1 (fun q => q))
          have HBu1 := Lib.hid (HBu0.out.but g1 (fun q => q))
          have HMu1 := Lib.hid (HMu0.out.but g1 (fun q => q))
          have HRu1 := Lib.hid (HRu0.out.but g1 (fun _ _ q => q))
          clear hu hp b1 g1
          have q0u1 := HXu1.out.cell 0
          have q1u1 := HXu1.out.cell 1
          have q2u1 := HXu1.out.cell 2
          have q3u1 := HBu1.out.cell 0
          have q4u1 := HBu1.out.cell 1
          refine wpAny_ready (rs := [13]) (by kernel_rfl) (by simp) ?_
          refine AllReady.cons rfl (fun K hK => ?_) AllReady.nil
          refine step_append_row (o := ⟨some 39, _, _, _, _, _⟩) (by rfl) _ _ _ rfl 42 i0 (.agg #[.int .i64 0, .int .i64 0, .int .u64 0]) 3 24 Tryd.underlying47 hi hz0 hz1 hz2 rfl (by decide) _ ot la (encsA l) HRu1.out rfl ⟨q, 0, none⟩ 1 1 (encA ⟨e, k, n⟩) rfl rfl (blk_src HQ.out) (oneCell_A _) (by unfold maxLen; omega) (by omega) ?_
          intro v4 u2 o4 hZ hB4 hN4
          have HN4 := Lib.hid (show ∀ c, o4 = some c → ot = some c ∨ w.heap.size ≤ c from fun c hc => by
            rcases hN4 c hc with r | r
            · exact Or.inl r
            · have := HGu1.out.size; exact Or.inr (by omega))
          have HGu2 := Lib.hid (HGu1.out.trans hB4)
          have HXu2 := Lib.hid (HXu1.out.but hB4 (fun r => HNX.out r))
          have HBu2 := Lib.hid (HBu1.out.but hB4 (fun r => HNB.out r))
          have HMu2 := Lib.hid (HMu1.out.but hB4 (fun r => HNM.out r))
          have HRu2 := Lib.hid (HFIN.out u2 v4 o4 hZ)
          clear hZ hB4 hN4
          have q0u2 := HXu2.out.cell 0
          have q1u2 := HXu2.out.cell 1
          have q2u2 := HXu2.out.cell 2
          have q3u2 := HBu2.out.cell 0
          have q4u2 := HBu2.out.cell 1
          refine hK _ _ ?_
          clear hK K
          try simp only [Act.put, List.setIfInBounds_toArray, List.set_cons_zero, List.set_cons_succ]
          refine wpAny_ready (rs := [14]) (by kernel_rfl) (by simp) ?_
          refine AllReady.cons rfl (fun K hK => ?_) AllReady.nil
          refine step_update HMu2.out (o := ⟨none, _, _, _, _, _⟩) (by rfl) _ _ _ _ rfl keyI Tryd.underlying66 rfl t rfl v4 rfl (by unfold maxLen; omega) ?_
          intro w9 hM9 hB9
          have HMz := Lib.hid hM9
          have HZ := Lib.hid (HRu2.out.but hB9 (fun c hc r => by
            subst r
            rcases HN4.out _ hc with y | y
            · exact HNM.out y
            · have := HLM.out; omega))
          have HGz := Lib.hid ((HGu2.out.mono (fun c hc => Or.inl (Or.inl hc))).trans (hB9.mono (fun c hc => Or.inl (Or.inr hc))) : But (fun c => ot = some c ∨ c = mb) w w9)
          clear hM9 hB9
          refine hK _ _ ?_
          clear hK K
          refine wpAny_done (by kernel_rfl) ?_ _
          go_wp2_with fail
          go_ret
          exact ⟨rfl, v4, o4, HZ.out, HMz.out, HGz.out, HN4.out⟩
        · go_simp
          refine hK _ _ ?_
          clear hK K
          have g1 := (But.refl (fun _ => False) u0).alloc (.cells #[.int .i64 e, .int .i64 k, .int .u64 n] 42)
          have b1 := Blk.new u0 #[.int .i64 e, .int .i64 k, .int .u64 n] 42
          obtain ⟨u1, hu⟩ : ∃ u : World, u = u0.alloc (.cells #[.int .i64 e, .int .i64 k, .int .u64 n] 42) := ⟨_, rfl⟩
          obtain ⟨q, hp⟩ : ∃ p, p = u0.heap.size := ⟨_, rfl⟩
          rw [← hu] at g1 b1 ⊢
          rw [← hp] at b1 ⊢
          have HQ := Lib.hid b1
          have HGu1 := Lib.hid (HGu0.out.trans (g1.mono (fun c hc => hc.elim)))
          have HXu1 := Lib.hid (HXu0.out.but g1 (fun q => q))
          have HBu1 := Lib.hid (HBu0.out.but g1 (fun q => q))
          have HMu1 := Lib.hid (HMu0.out.but g1 (fun q => q))
          have HRu1 := Lib.hid (HRu0.out.but g1 (fun _ _ q => q))
          clear hu hp b1 g1
          have q0u1 := HXu1.out.cell 0
          have q1u1 := HXu1.out.cell 1
          have q2u1 := HXu1.out.cell 2
          have q3u1 := HBu1.out.cell 0
          have q4u1 := HBu1.out.cell 1
          refine wpAny_ready (rs := [10]) (by kernel_rfl) (by simp) ?_
          refine AllReady.cons rfl (fun K hK => ?_) AllReady.nil
          refine step_look HMu1.out (o := ⟨some 36, _, _, _, _, _⟩) (by rfl) _ _ _ rfl keyI Tryd.underlying66 (.slice none 0 0) (zeroS _) rfl t rfl (.slice aa la ca) HLK.out ?_
          refine hK _ _ ?_
          clear hK K
          try simp only [Act.put, List.setIfInBounds_toArray, List.set_cons_zero, List.set_cons_succ]
          refine wpAny_ready (rs := [13]) (by kernel_rfl) (by simp) ?_
          refine AllReady.cons rfl (fun K hK => ?_) AllReady.nil
          refine step_append_row (o := ⟨some 39, _, _, _, _, _⟩) (by rfl) _ _ _ rfl 42 i0 (.agg #[.int .i64 0, .int .i64 0, .int .u64 0]) 3 24 Tryd.underlying47 hi hz0 hz1 hz2 rfl (by decide) _ ot la (encsA l) HRu1.out rfl ⟨q, 0, none⟩ 1 1 (encA ⟨e, k, n⟩) rfl rfl (blk_src HQ.out) (oneCell_A _) (by unfold maxLen; omega) (by omega) ?_
          intro v4 u2 o4 hZ hB4 hN4
          have HN4 := Lib.hid (show ∀ c, o4 = some c → ot = some c ∨ w.heap.size ≤ c from fun c hc => by
            rcases hN4 c hc with r | r
            · exact Or.inl r
            · have := HGu1.out.size; exact Or.inr (by omega))
          have HGu2 := Lib.hid (HGu1.out.trans hB4)
          have HXu2 := Lib.hid (HXu1.out.but hB4 (fun r => HNX.out r))
          have HBu2 := Lib.hid (HBu1.out.but hB4 (fun r => HNB.out r))
          have HMu2 := Lib.hid (HMu1.out.but hB4 (fun r => HNM.out r))
          have HRu2 := Lib.hid (HFIN.out u2 v4 o4 hZ)
          clear hZ hB4 hN4
          have q0u2 := HXu2.out.cell 0
          have q1u2 := HXu2.out.cell 1
          have q2u2 := HXu2.out.cell 2
          have q3u2 := HBu2.out.cell 0
          have q4u2 := HBu2.out.cell 1
          refine hK _ _ ?_
          clear hK K
          try simp only [Act.put, List.setIfInBounds_toArray, List.set_cons_zero, List.set_cons_succ]
          refine wpAny_ready (rs := [14]) (by kernel_rfl) (by simp) ?_
          refine AllReady.cons rfl (fun K hK => ?_) AllReady.nil
          refine step_update HMu2.out (o := ⟨none, _, _, _, _, _⟩) (by rfl) _ _ _ _ rfl keyI Tryd.underlying66 rfl t rfl v4 rfl (by unfold maxLen; omega) ?_
          intro w9 hM9 hB9
          have HMz := Lib.hid hM9
          have HZ := Lib.hid (HRu2.out.but hB9 (fun c hc r => by
            subst r
            rcases HN4.out _ hc with y | y
            · exact HNM.out y
            · have := HLM.out; omega))
          have HGz := Lib.hid ((HGu2.out.mono (fun c hc => Or.inl (Or.inl hc))).trans (hB9.mono (fun c hc => Or.inl (Or.inr hc))) : But (fun c => ot = some c ∨ c = mb) w w9)
          clear hM9 hB9
          refine hK _ _ ?_
          clear hK K
          refine wpAny_done (by kernel_rfl) ?_ _
          go_wp2_with fail
          go_ret
          exact ⟨rfl, v4, o4, HZ.out, HMz.out, HGz.out, HN4.out⟩
      · go_simp
        refine hK _ _ ?_
        clear hK K
        have g1 := (But.refl (fun _ => False) u0).alloc (.cells #[.int .i64 e, .int .i64 k, .int .u64 n] 42)
        have b1 := Blk.new u0 #[.int .i64 e, .int .i64 k, .int .u64 n] 42
        obtain ⟨u1, hu⟩ : ∃ u : World, u = u0.alloc (.cells #[.int .i64 e, .int .i64 k, .int .u64 n] 42) := ⟨_, rfl⟩
        obtain ⟨q, hp⟩ : ∃ p, p = u0.heap.size := ⟨_, rfl⟩
        rw [← hu] at g1 b1 ⊢
        rw [← hp] at b1 ⊢
        have HQ := Lib.hid b1
        have HGu1 := Lib.hid (HGu0.out.trans (g1.mono (fun c hc => hc.elim)))
        have HXu1 := Lib.hid (HXu0.out.but g1 (fun q => q))
        have HBu1 := Lib.hid (HBu0.out.but g1 (fun q => q))
        have HMu1 := Lib.hid (HMu0.out.but g1 (fun q => q))
        have HRu1 := Lib.hid (HRu0.out.but g1 (fun _ _ q => q))
        clear hu hp b1 g1
        have q0u1 := HXu1.out.cell 0
        have q1u1 := HXu1.out.cell 1
        have q2u1 := HXu1.out.cell 2
        have q3u1 := HBu1.out.cell 0
        have q4u1 := HBu1.out.cell 1
        refine wpAny_ready (rs := [8]) (by kernel_rfl) (by simp) ?_
        refine AllReady.cons rfl (fun K hK => ?_) AllReady.nil
        go_simp
        refine hK _ _ ?_
        clear hK K
        refine wpAny_ready (rs := [10]) (by kernel_rfl) (by simp) ?_
        refine AllReady.cons rfl (fun K hK => ?_) AllReady.nil
        refine step_look HMu1.out (o := ⟨some 36, _, _, _, _, _⟩) (by rfl) _ _ _ rfl keyI Tryd.underlying66 (.slice none 0 0) (zeroS _) rfl t rfl (.slice aa la ca) HLK.out ?_
        refine hK _ _ ?_
        clear hK K
        try simp only [Act.put, List.setIfInBounds_toArray, List.set_cons_zero, List.set_cons_succ]
        refine wpAny_ready (rs := [13]) (by kernel_rfl) (by simp) ?_
        refine AllReady.cons rfl (fun K hK => ?_) AllReady.nil
        refine step_append_row (o := ⟨some 39, _, _, _, _, _⟩) (by rfl) _ _ _ rfl 42 i0 (.agg #[.int .i64 0, .int .i64 0, .int .u64 0]) 3 24 Tryd.underlying47 hi hz0 hz1 hz2 rfl (by decide) _ ot la (encsA l) HRu1.out rfl ⟨q, 0, none⟩ 1 1 (encA ⟨e, k, n⟩) rfl rfl (blk_src HQ.out) (oneCell_A _) (by unfold maxLen; omega) (by omega) ?_
        intro v4 u2 o4 hZ hB4 hN4
        have HN4 := Lib.hid (show ∀ c, o4 = some c → ot = some c ∨ w.heap.size ≤ c from fun c hc => by
          rcases hN4 c hc with r | r
          · exact Or.inl r
          · have := HGu1.out.size; exact Or.inr (by omega))
        have HGu2 := Lib.hid (HGu1.out.trans hB4)
        have HXu2 := Lib.hid (HXu1.out.but hB4 (fun r => HNX.out r))
        have HBu2 := Lib.hid (HBu1.out.but hB4 (fun r => HNB.out r))
        have HMu2 := Lib.hid (HMu1.out.but hB4 (fun r => HNM.out r))
        have HRu2 := Lib.hid (HFIN.out u2 v4 o4 hZ)
        clear hZ hB4 hN4
        have q0u2 := HXu2.out.cell 0
        have q1u2 := HXu2.out.cell 1
        have q2u2 := HXu2.out.cell 2
        have q3u2 := HBu2.out.cell 0
        have q4u2 := HBu2.out.cell 1
        refine hK _ _ ?_
        clear hK K
        try simp only [Act.put, List.setIfInBounds_toArray, List.set_cons_zero, List.set_cons_succ]
        refine wpAny_ready (rs := [14]) (by kernel_rfl) (by simp) ?_
        refine AllReady.cons rfl (fun K hK => ?_) AllReady.nil
        refine step_update HMu2.out (o := ⟨none, _, _, _, _, _⟩) (by rfl) _ _ _ _ rfl keyI Tryd.underlying66 rfl t rfl v4 rfl (by unfold maxLen; omega) ?_
        intro w9 hM9 hB9
        have HMz := Lib.hid hM9
        have HZ := Lib.hid (HRu2.out.but hB9 (fun c hc r => by
          subst r
          rcases HN4.out _ hc with y | y
          · exact HNM.out y
          · have := HLM.out; omega))
        have HGz := Lib.hid ((HGu2.out.mono (fun c hc => Or.inl (Or.inl hc))).trans (hB9.mono (fun c hc => Or.inl (Or.inr hc))) : But (fun c => ot = some c ∨ c = mb) w w9)
        clear hM9 hB9
        refine hK _ _ ?_
        clear hK K
        refine wpAny_done (by kernel_rfl) ?_ _
        go_wp2_with fail
        go_ret
        exact ⟨rfl, v4, o4, HZ.out, HMz.out, HGz.out, HN4.out⟩
    · go_simp
      refine hK _ _ ?_
      clear hK K
      refine wpAny_ready (rs := [3, 10, 12]) (by kernel_rfl) (by simp) ?_
      refine AllReady.cons rfl (fun K hK => ?_) (AllReady.cons rfl (fun K hK => ?_) (AllReady.cons rfl (fun K hK => ?_) AllReady.nil))
      · go_simp
        refine hK _ _ ?_
        clear hK K
        refine wpAny_ready (rs := [10, 12]) (by kernel_rfl) (by simp) ?_
        refine AllReady.cons rfl (fun K hK => ?_) (AllReady.cons rfl (fun K hK => ?_) AllReady.nil)
        · refine step_look HMu0.out (o := ⟨some 36, _, _, _, _, _⟩) (by rfl) _ _ _ rfl keyI Tryd.underlying66 (.slice none 0 0) (zeroS _) rfl t rfl (.slice aa la ca) HLK.out ?_
          refine hK _ _ ?_
          clear hK K
          try simp only [Act.put, List.setIfInBounds_toArray, List.set_cons_zero, List.set_cons_succ]
          refine wpAny_ready (rs := [12]) (by kernel_rfl) (by simp) ?_
          refine AllReady.cons rfl (fun K hK => ?_) AllReady.nil
          go_simp
          refine hK _ _ ?_
          clear hK K
          have g1 := (But.refl (fun _ => False) u0).alloc (.cells #[.int .i64 e, .int .i64 k, .int .u64 n] 42)
          have b1 := Blk.new u0 #[.int .i64 e, .int .i64 k, .int .u64 n] 42
          obtain ⟨u1, hu⟩ : ∃ u : World, u = u0.alloc (.cells #[.int .i64 e, .int .i64 k, .int .u64 n] 42) := ⟨_, rfl⟩
          obtain ⟨q, hp⟩ : ∃ p, p = u0.heap.size := ⟨_, rfl⟩
          rw [← hu] at g1 b1 ⊢
          rw [← hp] at b1 ⊢
          have HQ := Lib.hid b1
          have HGu1 := Lib.hid (HGu0.out.trans (g1.mono (fun c hc => hc.elim)))
          have HXu1 := Lib.hid (HXu0.out.but g1 (fun q => q))
          have HBu1 := Lib.hid (HBu0.out.but g1 (fun q => q))
          have HMu1 := Lib.hid (HMu0.out.but g1 (fun q => q))
          have HRu1 := Lib.hid (HRu0.out.but g1 (fun _ _ q => q))
          clear hu hp b1 g1
          have q0u1 := HXu1.out.cell 0
          have q1u1 := HXu1.out.cell 1
          have q2u1 := HXu1.out.cell 2
          have q3u1 := HBu1.out.cell 0
          have q4u1 := HBu1.out.cell 1
          refine wpAny_ready (rs := [13]) (by kernel_rfl) (by simp) ?_
          refine AllReady.cons rfl (fun K hK => ?_) AllReady.nil
          refine step_append_row (o := ⟨some 39, _, _, _, _, _⟩) (by rfl) _ _ _ rfl 42 i0 (.agg #[.int .i64 0, .int .i64 0, .int .u64 0]) 3 24 Tryd.underlying47 hi hz0 hz1 hz2 rfl (by decide) _ ot la (encsA l) HRu1.out rfl ⟨q, 0, none⟩ 1 1 (encA ⟨e, k, n⟩) rfl rfl (blk_src HQ.out) (oneCell_A _) (by unfold maxLen; omega) (by omega) ?_
          intro v4 u2 o4 hZ hB4 hN4
          have HN4 := Lib.hid (show ∀ c, o4 = some c → ot = some c ∨ w.heap.size ≤ c from fun c hc => by
            rcases hN4 c hc with r | r
            · exact Or.inl r
            · have := HGu1.out.size; exact Or.inr (by omega))
          have HGu2 := Lib.hid (HGu1.out.trans hB4)
          have HXu2 := Lib.hid (HXu1.out.but hB4 (fun r => HNX.out r))
          have HBu2 := Lib.hid (HBu1.out.but hB4 (fun r => HNB.out r))
          have HMu2 := Lib.hid (HMu1.out.but hB4 (fun r => HNM.out r))
          have HRu2 := Lib.hid (HFIN.out u2 v4 o4 hZ)
          clear hZ hB4 hN4
          have q0u2 := HXu2.out.cell 0
          have q1u2 := HXu2.out.cell 1
          have q2u2 := HXu2.out.cell 2
          have q3u2 := HBu2.out.cell 0
          have q4u2 := HBu2.out.cell 1
          refine hK _ _ ?_
          clear hK K
          try simp only [Act.put, List.setIfInBounds_toArray, List.set_cons_zero, List.set_cons_succ]
          refine wpAny_ready (rs := [14]) (by kernel_rfl) (by simp) ?_
          refine AllReady.cons rfl (fun K hK => ?_) AllReady.nil
          refine step_update HMu2.out (o := ⟨none, _, _, _, _, _⟩) (by rfl) _ _ _ _ rfl keyI Tryd.underlying66 rfl t rfl v4 rfl (by unfold maxLen; omega) ?_
          intro w9 hM9 hB9
          have HMz := Lib.hid hM9
          have HZ := Lib.hid (HRu2.out.but hB9 (fun c hc r => by
            subst r
            rcases HN4.out _ hc with y | y
            · exact HNM.out y
            · have := HLM.out; omega))
          have HGz := Lib.hid ((HGu2.out.mono (fun c hc => Or.inl (Or.inl hc))).trans (hB9.mono (fun c hc => Or.inl (Or.inr hc))) : But (fun c => ot = some c ∨ c = mb) w w9)
          clear hM9 hB9
          refine hK _ _ ?_
          clear hK K
          refine wpAny_done (by kernel_rfl) ?_ _
          go_wp2_with fail
          go_ret
          exact ⟨rfl, v4, o4, HZ.out, HMz.out, HGz.out, HN4.out⟩
        · go_simp
          refine hK _ _ ?_
          clear hK K
          have g1 := (But.refl (fun _ => False) u0).alloc (.cells #[.int .i64 e, .int .i64 k, .int .u64 n] 42)
          have b1 := Blk.new u0 #[.int .i64 e, .int .i64 k, .int .u64 n] 42
          obtain ⟨u1, hu⟩ : ∃ u : World, u = u0.alloc (.cells #[.int .i64 e, .int .i64 k, .int .u64 n] 42) := ⟨_, rfl⟩
          obtain ⟨q, hp⟩ : ∃ p, p = u0.heap.size := ⟨_, rfl⟩
          rw [← hu] at g1 b1 ⊢
          rw [← hp] at b1 ⊢
          have HQ := Lib.hid b1
          have HGu1 := Lib.hid (HGu0.out.trans (g1.mono (fun c hc => hc.elim)))
          have HXu1 := Lib.hid (HXu0.out.but g1 (fun q => q))
          have HBu1 := Lib.hid (HBu0.out.but g1 (fun q => q))
          have HMu1 := Lib.hid (HMu0.out.but g1 (fun q => q))
          have HRu1 := Lib.hid (HRu0.out.but g1 (fun _ _ q => q))
          clear hu hp b1 g1
          have q0u1 := HXu1.out.cell 0
          have q1u1 := HXu1.out.cell 1
          have q2u1 := HXu1.out.cell 2
          have q3u1 := HBu1.out.cell 0
          have q4u1 := HBu1.out.cell 1
          refine wpAny_ready (rs := [10]) (by kernel_rfl) (by simp) ?_
          refine AllReady.cons rfl (fun K hK => ?_) AllReady.nil
          refine step_look HMu1.out (o := ⟨some 36, _, _, _, _, _⟩) (by rfl) _ _ _ rfl keyI Tryd.underlying66 (.slice none 0 0) (zeroS _) rfl t rfl (.slice aa la ca) HLK.out ?_
          refine hK _ _ ?_
          clear hK K
          try simp only [Act.put, List.setIfInBounds_toArray, List.set_cons_zero, List.set_cons_succ]
          refine wpAny_ready (rs := [13]) (by kernel_rfl) (by simp) ?_
          refine AllReady.cons rfl (fun K hK => ?_) AllReady.nil
          refine step_append_row (o := ⟨some 39, _, _, _, _, _⟩) (by rfl) _ _ _ rfl 42 i0 (.agg #[.int .i64 0, .int .i64 0, .int .u64 0]) 3 24 Tryd.underlying47 hi hz0 hz1 hz2 rfl (by decide) _ ot la (encsA l) HRu1.out rfl ⟨q, 0, none⟩ 1 1 (encA ⟨e, k, n⟩) rfl rfl (blk_src HQ.out) (oneCell_A _) (by unfold maxLen; omega) (by omega) ?_
          intro v4 u2 o4 hZ hB4 hN4
          have HN4 := Lib.hid (show ∀ c, o4 = some c → ot = some c ∨ w.heap.size ≤ c from fun c hc => by
            rcases hN4 c hc with r | r
            · exact Or.inl r
            · have := HGu1.out.size; exact Or.inr (by omega))
          have HGu2 := Lib.hid (HGu1.out.trans hB4)
          have HXu2 := Lib.hid (HXu1.out.but hB4 (fun r => HNX.out r))
          have HBu2 := Lib.hid (HBu1.out.but hB4 (fun r => HNB.out r))
          have HMu2 := Lib.hid (HMu1.out.but hB4 (fun r => HNM.out r))
          have HRu2 := Lib.hid (HFIN.out u2 v4 o4 hZ)
          clear hZ hB4 hN4
          have q0u2 := HXu2.out.cell 0
          have q1u2 := HXu2.out.cell 1
          have q2u2 := HXu2.out.cell 2
          have q3u2 := HBu2.out.cell 0
          have q4u2 := HBu2.out.cell 1
          refine hK _ _ ?_
          clear hK K
          try simp only [Act.put, List.setIfInBounds_toArray, List.set_cons_zero, List.set_cons_succ]
          refine wpAny_ready (rs := [14]) (by kernel_rfl) (by simp) ?_
          refine AllReady.cons rfl (fun K hK => ?_) AllReady.nil
          refine step_update HMu2.out (o := ⟨none, _, _, _, _, _⟩) (by rfl) _ _ _ _ rfl keyI Tryd.underlying66 rfl t rfl v4 rfl (by unfold maxLen; omega) ?_
          intro w9 hM9 hB9
          have HMz := Lib.hid hM9
          have HZ := Lib.hid (HRu2.out.but hB9 (fun c hc r => by
            subst r
            rcases HN4.out _ hc with y | y
            · exact HNM.out y
            · have := HLM.out; omega))
          have HGz := Lib.hid ((HGu2.out.mono (fun c hc => Or.inl (Or.inl hc))).trans (hB9.mono (fun c hc => Or.inl (Or.inr hc))) : But (fun c => ot = some c ∨ c = mb) w w9)
          clear hM9 hB9
          refine hK _ _ ?_
          clear hK K
          refine wpAny_done (by kernel_rfl) ?_ _
          go_wp2_with fail
          go_ret
          exact ⟨rfl, v4, o4, HZ.out, HMz.out, HGz.out, HN4.out⟩
      · refine step_look HMu0.out (o := ⟨some 36, _, _, _, _, _⟩) (by rfl) _ _ _ rfl keyI Tryd.underlying66 (.slice none 0 0) (zeroS _) rfl t rfl (.slice aa la ca) HLK.out ?_
        refine hK _ _ ?_
        clear hK K
        try simp only [Act.put, List.setIfInBounds_toArray, List.set_cons_zero, List.set_cons_succ]
        refine wpAny_ready (rs := [3, 12]) (by kernel_rfl) (by simp) ?_
        refine AllReady.cons rfl (fun K hK => ?_) (AllReady.cons rfl (fun K hK => ?_) AllReady.nil)
        · go_simp
          refine hK _ _ ?_
          clear hK K
          refine wpAny_ready (rs := [12]) (by kernel_rfl) (by simp) ?_
          refine AllReady.cons rfl (fun K hK => ?_) AllReady.nil
          go_simp
          refine hK _ _ ?_
          clear hK K
          have g1 := (But.refl (fun _ => False) u0).alloc (.cells #[.int .i64 e, .int .i64 k, .int .u64 n] 42)
          have b1 := Blk.new u0 #[.int .i64 e, .int .i64 k, .int .u64 n] 42
          obtain ⟨u1, hu⟩ : ∃ u : World, u = u0.alloc (.cells #[.int .i64 e, .int .i64 k, .int .u64 n] 42) := ⟨_, rfl⟩
          obtain ⟨q, hp⟩ : ∃ p, p = u0.heap.size := ⟨_, rfl⟩
          rw [← hu] at g1 b1 ⊢
          rw [← hp] at b1 ⊢
          have HQ := Lib.hid b1
          have HGu1 := Lib.hid (HGu0.out.trans (g1.mono (fun c hc => hc.elim)))
          have HXu1 := Lib.hid (HXu0.out.but g1 (fun q => q))
          have HBu1 := Lib.hid (HBu0.out.but g1 (fun q => q))
          have HMu1 := Lib.hid (HMu0.out.but g1 (fun q => q))
          have HRu1 := Lib.hid (HRu0.out.but g1 (fun _ _ q => q))
          clear hu hp b1 g1
          have q0u1 := HXu1.out.cell 0
          have q1u1 := HXu1.out.cell 1
          have q2u1 := HXu1.out.cell 2
          have q3u1 := HBu1.out.cell 0
          have q4u1 := HBu1.out.cell 1
          refine wpAny_ready (rs := [13]) (by kernel_rfl) (by simp) ?_
          refine AllReady.cons rfl (fun K hK => ?_) AllReady.nil
          refine step_append_row (o := ⟨some 39, _, _, _, _, _⟩) (by rfl) _ _ _ rfl 42 i0 (.agg #[.int .i64 0, .int .i64 0, .int .u64 0]) 3 24 Tryd.underlying47 hi hz0 hz1 hz2 rfl (by decide) _ ot la (encsA l) HRu1.out rfl ⟨q, 0, none⟩ 1 1 (encA ⟨e, k, n⟩) rfl rfl (blk_src HQ.out) (oneCell_A _) (by unfold maxLen; omega) (by omega) ?_
          intro v4 u2 o4 hZ hB4 hN4
          have HN4 := Lib.hid (show ∀ c, o4 = some c → ot = some c ∨ w.heap.size ≤ c from fun c hc => by
            rcases hN4 c hc with r | r
            · exact Or.inl r
            · have := HGu1.out.size; exact Or.inr (by omega))
          have HGu2 := Lib.hid (HGu1.out.trans hB4)
          have HXu2 := Lib.hid (HXu1.out.but hB4 (fun r => HNX.out r))
          have HBu2 := Lib.hid (HBu1.out.but hB4 (fun r => HNB.out r))
          have HMu2 := Lib.hid (HMu1.out.but hB4 (fun r => HNM.out r))
          have HRu2 := Lib.hid (HFIN.out u2 v4 o4 hZ)
          clear hZ hB4 hN4
          have q0u2 := HXu2.out.cell 0
          have q1u2 := HXu2.out.cell 1
          have q2u2 := HXu2.out.cell 2
          have q3u2 := HBu2.out.cell 0
          have q4u2 := HBu2.out.cell 1
          refine hK _ _ ?_
          clear hK K
          try simp only [Act.put, List.setIfInBounds_toArray, List.set_cons_zero, List.set_cons_succ]
          refine wpAny_ready (rs := [14]) (by kernel_rfl) (by simp) ?_
          refine AllReady.cons rfl (fun K hK => ?_) AllReady.nil
          refine step_update HMu2.out (o := ⟨none, _, _, _, _, _⟩) (by rfl) _ _ _ _ rfl keyI Tryd.underlying66 rfl t rfl v4 rfl (by unfold maxLen; omega) ?_
          intro w9 hM9 hB9
          have HMz := Lib.hid hM9
          have HZ := Lib.hid (HRu2.out.but hB9 (fun c hc r => by
            subst r
            rcases HN4.out _ hc with y | y
            · exact HNM.out y
            · have := HLM.out; omega))
          have HGz := Lib.hid ((HGu2.out.mono (fun c hc => Or.inl (Or.inl hc))).trans (hB9.mono (fun c hc => Or.inl (Or.inr hc))) : But (fun c => ot = some c ∨ c = mb) w w9)
          clear hM9 hB9
          refine hK _ _ ?_
          clear hK K
          refine wpAny_done (by kernel_rfl) ?_ _
          go_wp2_with fail
          go_ret
          exact ⟨rfl, v4, o4, HZ.out, HMz.out, HGz.out, HN4.out⟩
        · go_simp
          refine hK _ _ ?_
          clear hK K
          have g1 := (But.refl (fun _ => False) u0).alloc (.cells #[.int .i64 e, .int .i64 k, .int .u64 n] 42)
          have b1 := Blk.new u0 #[.int .i64 e, .int .i64 k, .int .u64 n] 42
          obtain ⟨u1, hu⟩ : ∃ u : World, u = u0.alloc (.cells #[.int .i64 e, .int .i64 k, .int .u64 n] 42) := ⟨_, rfl⟩
          obtain ⟨q, hp⟩ : ∃ p, p = u0.heap.size := ⟨_, rfl⟩
          rw [← hu] at g1 b1 ⊢
          rw [← hp] at b1 ⊢
          have HQ := Lib.hid b1
          have HGu1 := Lib.hid (HGu0.out.trans (g1.mono (fun c hc => hc.elim)))
          have HXu1 := Lib.hid (HXu0.out.but g1 (fun q => q))
          have HBu1 := Lib.hid (HBu0.out.but g1 (fun q => q))
          have HMu1 := Lib.hid (HMu0.out.but g1 (fun q => q))
          have HRu1 := Lib.hid (HRu0.out.but g1 (fun _ _ q => q))
          clear hu hp b1 g1
          have q0u1 := HXu1.out.cell 0
          have q1u1 := HXu1.out.cell 1
          have q2u1 := HXu1.out.cell 2
          have q3u1 := HBu1.out.cell 0
          have q4u1 := HBu1.out.cell 1
          refine wpAny_ready (rs := [3, 13]) (by kernel_rfl) (by simp) ?_
          refine AllReady.cons rfl (fun K hK => ?_) (AllReady.cons rfl (fun K hK => ?_) AllReady.nil)
          · go_simp
            refine hK _ _ ?_
            clear hK K
            refine wpAny_ready (rs := [13]) (by kernel_rfl) (by simp) ?_
            refine AllReady.cons rfl (fun K hK => ?_) AllReady.nil
            refine step_append_row (o := ⟨some 39, _, _, _, _, _⟩) (by rfl) _ _ _ rfl 42 i0 (.agg #[.int .i64 0, .int .i64 0, .int .u64 0]) 3 24 Tryd.underlying47 hi hz0 hz1 hz2 rfl (by decide) _ ot la (encsA l) HRu1.out rfl ⟨q, 0, none⟩ 1 1 (encA ⟨e, k, n⟩) rfl rfl (blk_src HQ.out) (oneCell_A _) (by unfold maxLen; omega) (by omega) ?_
            intro v4 u2 o4 hZ hB4 hN4
            have HN4 := Lib.hid (show ∀ c, o4 = some c → ot = some c ∨ w.heap.size ≤ c from fun c hc => by
              rcases hN4 c hc with r | r
              · exact Or.inl r
              · have := HGu1.out.size; exact Or.inr (by omega))
            have HGu2 := Lib.hid (HGu1.out.trans hB4)
            have HXu2 := Lib.hid (HXu1.out.but hB4 (fun r => HNX.out r))
            have HBu2 := Lib.hid (HBu1.out.but hB4 (fun r => HNB.out r))
            have HMu2 := Lib.hid (HMu1.out.but hB4 (fun r => HNM.out r))
            have HRu2 := Lib.hid (HFIN.out u2 v4 o4 hZ)
            clear hZ hB4 hN4
            have q0u2 := HXu2.out.cell 0
            have q1u2 := HXu2.out.cell 1
            have q2u2 := HXu2.out.cell 2
            have q3u2 := HBu2.out.cell 0
            have q4u2 := HBu2.out.cell 1
            refine hK _ _ ?_
            clear hK K
            try simp only [Act.put, List.setIfInBounds_toArray, List.set_cons_zero, List.set_cons_succ]
            refine wpAny_ready (rs := [14]) (by kernel_rfl) (by simp) ?_
            refine AllReady.cons rfl (fun K hK => ?_) AllReady.nil
            refine step_update HMu2.out (o := ⟨none, _, _, _, _, _⟩) (by rfl) _ _ _ _ rfl keyI Tryd.underlying66 rfl t rfl v4 rfl (by unfold maxLen; omega) ?_
            intro w9 hM9 hB9
            have HMz := Lib.hid hM9
            have HZ := Lib.hid (HRu2.out.but hB9 (fun c hc r => by
              subst r
              rcases HN4.out _ hc with y | y
              · exact HNM.out y
              · have := HLM.out; omega))
            have HGz := Lib.hid ((HGu2.out.mono (fun c hc => Or.inl (Or.inl hc))).trans (hB9.mono (fun c hc => Or.inl (Or.inr hc))) : But (fun c => ot = some c ∨ c = mb) w w9)
            clear hM9 hB9
            refine hK _ _ ?_
            clear hK K
            refine wpAny_done (by kernel_rfl) ?_ _
            go_wp2_with fail
            go_ret
            exact ⟨rfl, v4, o4, HZ.out, HMz.out, HGz.out, HN4.out⟩
          · refine step_append_row (o := ⟨some 39, _, _, _, _, _⟩) (by rfl) _ _ _ rfl 42 i0 (.agg #[.int .i64 0, .int .i64 0, .int .u64 0]) 3 24 Tryd.underlying47 hi hz0 hz1 hz2 rfl (by decide) _ ot la (encsA l) HRu1.out rfl ⟨q, 0, none⟩ 1 1 (encA ⟨e, k, n⟩) rfl rfl (blk_src HQ.out) (oneCell_A _) (by unfold maxLen; omega) (by omega) ?_
            intro v4 u2 o4 hZ hB4 hN4
            have HN4 := Lib.hid (show ∀ c, o4 = some c → ot = some c ∨ w.heap.size ≤ c from fun c hc => by
              rcases hN4 c hc with r | r
              · exact Or.inl r
              · have := HGu1.out.size; exact Or.inr (by omega))
            have HGu2 := Lib.hid (HGu1.out.trans hB4)
            have HXu2 := Lib.hid (HXu1.out.but hB4 (fun r => HNX.out r))
            have HBu2 := Lib.hid (HBu1.out.but hB4 (fun r => HNB.out r))
            have HMu2 := Lib.hid (HMu1.out.but hB4 (fun r => HNM.out r))
            have HRu2 := Lib.hid (HFIN.out u2 v4 o4 hZ)
            clear hZ hB4 hN4
            have q0u2 := HXu2.out.cell 0
            have q1u2 := HXu2.out.cell 1
            have q2u2 := HXu2.out.cell 2
            have q3u2 := HBu2.out.cell 0
            have q4u2 := HBu2.out.cell 1
            refine hK _ _ ?_
            clear hK K
            try simp only [Act.put, List.setIfInBounds_toArray, List.set_cons_zero, List.set_cons_succ]
            refine wpAny_ready (rs := [3]) (by kernel_rfl) (by simp) ?_
            refine AllReady.cons rfl (fun K hK => ?_) AllReady.nil
            go_simp
            refine hK _ _ ?_
            clear hK K
            refine wpAny_ready (rs := [14]) (by kernel_rfl) (by simp) ?_
            refine AllReady.cons rfl (fun K hK => ?_) AllReady.nil
            refine step_update HMu2.out (o := ⟨none, _, _, _, _, _⟩) (by rfl) _ _ _ _ rfl keyI Tryd.underlying66 rfl t rfl v4 rfl (by unfold maxLen; omega) ?_
            intro w9 hM9 hB9
            have HMz := Lib.hid hM9
            have HZ := Lib.hid (HRu2.out.but hB9 (fun c hc r => by
              subst r
              rcases HN4.out _ hc with y | y
              · exact HNM.out y
              · have := HLM.out; omega))
            have HGz := Lib.hid ((HGu2.out.mono (fun c hc => Or.inl (Or.inl hc))).trans (hB9.mono (fun c hc => Or.inl (Or.inr hc))) : But (fun c => ot = some c ∨ c = mb) w w9)
            clear hM9 hB9
            refine hK _ _ ?_
            clear hK K
            refine wpAny_done (by kernel_rfl) ?_ _
            go_wp2_with fail
            go_ret
            exact ⟨rfl, v4, o4, HZ.out, HMz.out, HGz.out, HN4.out⟩
      · go_simp
        refine hK _ _ ?_
        clear hK K
        have g1 := (But.refl (fun _ => False) u0).alloc (.cells #[.int .i64 e, .int .i64 k, .int .u64 n] 42)
        have b1 := Blk.new u0 #[.int .i64 e, .int .i64 k, .int .u64 n] 42
        obtain ⟨u1, hu⟩ : ∃ u : World, u = u0.alloc (.cells #[.int .i64 e, .int .i64 k, .int .u64 n] 42) := ⟨_, rfl⟩
        obtain ⟨q, hp⟩ : ∃ p, p = u0.heap.size := ⟨_, rfl⟩
        rw [← hu] at g1 b1 ⊢
        rw [← hp] at b1 ⊢
        have HQ := Lib.hid b1
        have HGu1 := Lib.hid (HGu0.out.trans (g1.mono (fun c hc => hc.elim)))
        have HXu1 := Lib.hid (HXu0.out.but g1 (fun q => q))
        have HBu1 := Lib.hid (HBu0.out.but g1 (fun q => q))
        have HMu1 := Lib.hid (HMu0.out.but g1 (fun q => q))
        have HRu1 := Lib.hid (HRu0.out.but g1 (fun _ _ q => q))
        clear hu hp b1 g1
        have q0u1 := HXu1.out.cell 0
        have q1u1 := HXu1.out.cell 1
        have q2u1 := HXu1.out.cell 2
        have q3u1 := HBu1.out.cell 0
        have q4u1 := HBu1.out.cell 1
        refine wpAny_ready (rs := [3, 10]) (by kernel_rfl) (by simp) ?_
        refine AllReady.cons rfl (fun K hK => ?_) (AllReady.cons rfl (fun K hK => ?_) AllReady.nil)
        · go_simp
          refine hK _ _ ?_
          clear hK K
          refine wpAny_ready (rs := [10]) (by kernel_rfl) (by simp) ?_
          refine AllReady.cons rfl (fun K hK => ?_) AllReady.nil
          refine step_look HMu1.out (o := ⟨some 36, _, _, _, _, _⟩) (by rfl) _ _ _ rfl keyI Tryd.underlying66 (.slice none 0 0) (zeroS _) rfl t rfl (.slice aa la ca) HLK.out ?_
          refine hK _ _ ?_
          clear hK K
          try simp only [Act.put, List.setIfInBounds_toArray, List.set_cons_zero, List.set_cons_succ]
          refine wpAny_ready (rs := [13]) (by kernel_rfl) (by simp) ?_
          refine AllReady.cons rfl (fun K hK => ?_) AllReady.nil
          refine step_append_row (o := ⟨some 39, _, _, _, _, _⟩) (by rfl) _ _ _ rfl 42 i0 (.agg #[.int .i64 0, .int .i64 0, .int .u64 0]) 3 24 Tryd.underlying47 hi hz0 hz1 hz2 rfl (by decide) _ ot la (encsA l) HRu1.out rfl ⟨q, 0, none⟩ 1 1 (encA ⟨e, k, n⟩) rfl rfl (blk_src HQ.out) (oneCell_A _) (by unfold maxLen; omega) (by omega) ?_
          intro v4 u2 o4 hZ hB4 hN4
          have HN4 := Lib.hid (show ∀ c, o4 = some c → ot = some c ∨ w.heap.size ≤ c from fun c hc => by
            rcases hN4 c hc with r | r
            · exact Or.inl r
            · have := HGu1.out.size; exact Or.inr (by omega))
          have HGu2 := Lib.hid (HGu1.out.trans hB4)
          have HXu2 := Lib.hid (HXu1.out.but hB4 (fun r => HNX.out r))
          have HBu2 := Lib.hid (HBu1.out.but hB4 (fun r => HNB.out r))
          have HMu2 := Lib.hid (HMu1.out.but hB4 (fun r => HNM.out r))
          have HRu2 := Lib.hid (HFIN.out u2 v4 o4 hZ)
          clear hZ hB4 hN4
          have q0u2 := HXu2.out.cell 0
          have q1u2 := HXu2.out.cell 1
          have q2u2 := HXu2.out.cell 2
          have q3u2 := HBu2.out.cell 0
          have q4u2 := HBu2.out.cell 1
          refine hK _ _ ?_
          clear hK K
          try simp only [Act.put, List.setIfInBounds_toArray, List.set_cons_zero, List.set_cons_succ]
          refine wpAny_ready (rs := [14]) (by kernel_rfl) (by simp) ?_
          refine AllReady.cons rfl (fun K hK => ?_) AllReady.nil
          refine step_update HMu2.out (o := ⟨none, _, _, _, _, _⟩) (by rfl) _ _ _ _ rfl keyI Tryd.underlying66 rfl t rfl v4 rfl (by unfold maxLen; omega) ?_
          intro w9 hM9 hB9
          have HMz := Lib.hid hM9
          have HZ := Lib.hid (HRu2.out.but hB9 (fun c hc r => by
            subst r
            rcases HN4.out _ hc with y | y
            · exact HNM.out y
            · have := HLM.out; omega))
          have HGz := Lib.hid ((HGu2.out.mono (fun c hc => Or.inl (Or.inl hc))).trans (hB9.mono (fun c hc => Or.inl (Or.inr hc))) : But (fun c => ot = some c ∨ c = mb) w w9)
          clear hM9 hB9
          refine hK _ _ ?_
          clear hK K
          refine wpAny_done (by kernel_rfl) ?_ _
          go_wp2_with fail
          go_ret
          exact ⟨rfl, v4, o4, HZ.out, HMz.out, HGz.out, HN4.out⟩
        · refine step_look HMu1.out (o := ⟨some 36, _, _, _, _, _⟩) (by rfl) _ _ _ rfl keyI Tryd.underlying66 (.slice none 0 0) (zeroS _) rfl t rfl (.slice aa la ca) HLK.out ?_
          refine hK _ _ ?_
          clear hK K
          try simp only [Act.put, List.setIfInBounds_toArray, List.set_cons_zero, List.set_cons_succ]
          refine wpAny_ready (rs := [3, 13]) (by kernel_rfl) (by simp) ?_
          refine AllReady.cons rfl (fun K hK => ?_) (AllReady.cons rfl (fun K hK => ?_) AllReady.nil)
          · go_simp
            refine hK _ _ ?_
            clear hK K
            refine wpAny_ready (rs := [13]) (by kernel_rfl) (by simp) ?_
            refine AllReady.cons rfl (fun K hK => ?_) AllReady.nil
            refine step_append_row (o := ⟨some 39, _, _, _, _, _⟩) (by rfl) _ _ _ rfl 42 i0 (.agg #[.int .i64 0, .int .i64 0, .int .u64 0]) 3 24 Tryd.underlying47 hi hz0 hz1 hz2 rfl (by decide) _ ot la (encsA l) HRu1.out rfl ⟨q, 0, none⟩ 1 1 (encA ⟨e, k, n⟩) rfl rfl (blk_src HQ.out) (oneCell_A _) (by unfold maxLen; omega) (by omega) ?_
            intro v4 u2 o4 hZ hB4 hN4
            have HN4 := Lib.hid (show ∀ c, o4 = some c → ot = some c ∨ w.heap.size ≤ c from fun c hc => by
              rcases hN4 c hc with r | r
              · exact Or.inl r
              · have := HGu1.out.size; exact Or.inr (by omega))
            have HGu2 := Lib.hid (HGu1.out.trans hB4)
            have HXu2 := Lib.hid (HXu1.out.but hB4 (fun r => HNX.out r))
            have HBu2 := Lib.hid (HBu1.out.but hB4 (fun r => HNB.out r))
            have HMu2 := Lib.hid (HMu1.out.but hB4 (fun r => HNM.out r))
            have HRu2 := Lib.hid (HFIN.out u2 v4 o4 hZ)
            clear hZ hB4 hN4
            have q0u2 := HXu2.out.cell 0
            have q1u2 := HXu2.out.cell 1
            have q2u2 := HXu2.out.cell 2
            have q3u2 := HBu2.out.cell 0
            have q4u2 := HBu2.out.cell 1
            refine hK _ _ ?_
            clear hK K
            try simp only [Act.put, List.setIfInBounds_toArray, List.set_cons_zero, List.set_cons_succ]
            refine wpAny_ready (rs := [14]) (by kernel_rfl) (by simp) ?_
            refine AllReady.cons rfl (fun K hK => ?_) AllReady.nil
            refine step_update HMu2.out (o := ⟨none, _, _, _, _, _⟩) (by rfl) _ _ _ _ rfl keyI Tryd.underlying66 rfl t rfl v4 rfl (by unfold maxLen; omega) ?_
            intro w9 hM9 hB9
            have HMz := Lib.hid hM9
            have HZ := Lib.hid (HRu2.out.but hB9 (fun c hc r => by
              subst r
              rcases HN4.out _ hc with y | y
              · exact HNM.out y
              · have := HLM.out; omega))
            have HGz := Lib.hid ((HGu2.out.mono (fun c hc => Or.inl (Or.inl hc))).trans (hB9.mono (fun c hc => Or.inl (Or.inr hc))) : But (fun c => ot = some c ∨ c = mb) w w9)
            clear hM9 hB9
            refine hK _ _ ?_
            clear hK K
            refine wpAny_done (by kernel_rfl) ?_ _
            go_wp2_with fail
            go_ret
            exact ⟨rfl, v4, o4, HZ.out, HMz.out, HGz.out, HN4.out⟩
          · refine step_append_row (o := ⟨some 39, _, _, _, _, _⟩) (by rfl) _ _ _ rfl 42 i0 (.agg #[.int .i64 0, .int .i64 0, .int .u64 0]) 3 24 Tryd.underlying47 hi hz0 hz1 hz2 rfl (by decide) _ ot la (encsA l) HRu1.out rfl ⟨q, 0, none⟩ 1 1 (encA ⟨e, k, n⟩) rfl rfl (blk_src HQ.out) (oneCell_A _) (by unfold maxLen; omega) (by omega) ?_
            intro v4 u2 o4 hZ hB4 hN4
            have HN4 := Lib.hid (show ∀ c, o4 = some c → ot = some c ∨ w.heap.size ≤ c from fun c hc => by
              rcases hN4 c hc with r | r
              · exact Or.inl r
              · have := HGu1.out.size; exact Or.inr (by omega))
            have HGu2 := Lib.hid (HGu1.out.trans hB4)
            have HXu2 := Lib.hid (HXu1.out.but hB4 (fun r => HNX.out r))
            have HBu2 := Lib.hid (HBu1.out.but hB4 (fun r => HNB.out r))
            have HMu2 := Lib.hid (HMu1.out.but hB4 (fun r => HNM.out r))
            have HRu2 := Lib.hid (HFIN.out u2 v4 o4 hZ)
            clear hZ hB4 hN4
            have q0u2 := HXu2.out.cell 0
            have q1u2 := HXu2.out.cell 1
            have q2u2 := HXu2.out.cell 2
            have q3u2 := HBu2.out.cell 0
            have q4u2 := HBu2.out.cell 1
            refine hK _ _ ?_
            clear hK K
            try simp only [Act.put, List.setIfInBounds_toArray, List.set_cons_zero, List.set_cons_succ]
            refine wpAny_ready (rs := [3]) (by kernel_rfl) (by simp) ?_
            refine AllReady.cons rfl (fun K hK => ?_) AllReady.nil
            go_simp
            refine hK _ _ ?_
            clear hK K
            refine wpAny_ready (rs := [14]) (by kernel_rfl) (by simp) ?_
            refine AllReady.cons rfl (fun K hK => ?_) AllReady.nil
            refine step_update HMu2.out (o := ⟨none, _, _, _, _, _⟩) (by rfl) _ _ _ _ rfl keyI Tryd.underlying66 rfl t rfl v4 rfl (by unfold maxLen; omega) ?_
            intro w9 hM9 hB9
            have HMz := Lib.hid hM9
            have HZ := Lib.hid (HRu2.out.but hB9 (fun c hc r => by
              subst r
              rcases HN4.out _ hc with y | y
              · exact HNM.out y
              · have := HLM.out; omega))
            have HGz := Lib.hid ((HGu2.out.mono (fun c hc => Or.inl (Or.inl hc))).trans (hB9.mono (fun c hc => Or.inl (Or.inr hc))) : But (fun c => ot = some c ∨ c = mb) w w9)
            clear hM9 hB9
            refine hK _ _ ?_
            clear hK K
            refine wpAny_done (by kernel_rfl) ?_ _
            go_wp2_with fail
            go_ret
            exact ⟨rfl, v4, o4, HZ.out, HMz.out, HGz.out, HN4.out⟩
    · go_simp
      refine hK _ _ ?_
      clear hK K
      have g1 := (But.refl (fun _ => False) u0).alloc (.cells #[.int .i64 e, .int .i64 k, .int .u64 n] 42)
      have b1 := Blk.new u0 #[.int .i64 e, .int .i64 k, .int .u64 n] 42
      obtain ⟨u1, hu⟩ : ∃ u : World, u = u0.alloc (.cells #[.int .i64 e, .int .i64 k, .int .u64 n] 42) := ⟨_, rfl⟩
      obtain ⟨q, hp⟩ : ∃ p, p = u0.heap.size := ⟨_, rfl⟩
      rw [← hu] at g1 b1 ⊢
      rw [← hp] at b1 ⊢
      have HQ := Lib.hid b1
      have HGu1 := Lib.hid (HGu0.out.trans (g1.mono (fun c hc => hc.elim)))
      have HXu1 := Lib.hid (HXu0.out.but g1 (fun q => q))
      have HBu1 := Lib.hid (HBu0.out.but g1 (fun q => q))
      have HMu1 := Lib.hid (HMu0.out.but g1 (fun q => q))
      have HRu1 := Lib.hid (HRu0.out.but g1 (fun _ _ q => q))
      clear hu hp b1 g1
      have q0u1 := HXu1.out.cell 0
      have q1u1 := HXu1.out.cell 1
      have q2u1 := HXu1.out.cell 2
      have q3u1 := HBu1.out.cell 0
      have q4u1 := HBu1.out.cell 1
      refine wpAny_ready (rs := [3, 8]) (by kernel_rfl) (by simp) ?_
      refine AllReady.cons rfl (fun K hK => ?_) (AllReady.cons rfl (fun K hK => ?_) AllReady.nil)
      · go_simp
        refine hK _ _ ?_
        clear hK K
        refine wpAny_ready (rs := [8]) (by kernel_rfl) (by simp) ?_
        refine AllReady.cons rfl (fun K hK => ?_) AllReady.nil
        go_simp
        refine hK _ _ ?_
        clear hK K
        refine wpAny_ready (rs := [10]) (by kernel_rfl) (by simp) ?_
        refine AllReady.cons rfl (fun K hK => ?_) AllReady.nil
        refine step_look HMu1.out (o := ⟨some 36, _, _, _, _, _⟩) (by rfl) _ _ _ rfl keyI Tryd.underlying66 (.slice none 0 0) (zeroS _) rfl t rfl (.slice aa la ca) HLK.out ?_
        refine hK _ _ ?_
        clear hK K
        try simp only [Act.put, List.setIfInBounds_toArray, List.set_cons_zero, List.set_cons_succ]
        refine wpAny_ready (rs := [13]) (by kernel_rfl) (by simp) ?_
        refine AllReady.cons rfl (fun K hK => ?_) AllReady.nil
        refine step_append_row (o := ⟨some 39, _, _, _, _, _⟩) (by rfl) _ _ _ rfl 42 i0 (.agg #[.int .i64 0, .int .i64 0, .int .u64 0]) 3 24 Tryd.underlying47 hi hz0 hz1 hz2 rfl (by decide) _ ot la (encsA l) HRu1.out rfl ⟨q, 0, none⟩ 1 1 (encA ⟨e, k, n⟩) rfl rfl (blk_src HQ.out) (oneCell_A _) (by unfold maxLen; omega) (by omega) ?_
        intro v4 u2 o4 hZ hB4 hN4
        have HN4 := Lib.hid (show ∀ c, o4 = some c → ot = some c ∨ w.heap.size ≤ c from fun c hc => by
          rcases hN4 c hc with r | r
          · exact Or.inl r
          · have := HGu1.out.size; exact Or.inr (by omega))
        have HGu2 := Lib.hid (HGu1.out.trans hB4)
        have HXu2 := Lib.hid (HXu1.out.but hB4 (fun r => HNX.out r))
        have HBu2 := Lib.hid (HBu1.out.but hB4 (fun r => HNB.out r))
        have HMu2 := Lib.hid (HMu1.out.but hB4 (fun r => HNM.out r))
        have HRu2 := Lib.hid (HFIN.out u2 v4 o4 hZ)
        clear hZ hB4 hN4
        have q0u2 := HXu2.out.cell 0
        have q1u2 := HXu2.out.cell 1
        have q2u2 := HXu2.out.cell 2
        have q3u2 := HBu2.out.cell 0
        have q4u2 := HBu2.out.cell 1
        refine hK _ _ ?_
        clear hK K
        try simp only [Act.put, List.setIfInBounds_toArray, List.set_cons_zero, List.set_cons_succ]
        refine wpAny_ready (rs := [14]) (by kernel_rfl) (by simp) ?_
        refine AllReady.cons rfl (fun K hK => ?_) AllReady.nil
        refine step_update HMu2.out (o := ⟨none, _, _, _, _, _⟩) (by rfl) _ _ _ _ rfl keyI Tryd.underlying66 rfl t rfl v4 rfl (by unfold maxLen; omega) ?_
        intro w9 hM9 hB9
        have HMz := Lib.hid hM9
        have HZ := Lib.hid (HRu2.out.but hB9 (fun c hc r => by
          subst r
          rcases HN4.out _ hc with y | y
          · exact HNM.out y
          · have := HLM.out; omega))
        have HGz := Lib.hid ((HGu2.out.mono (fun c hc => Or.inl (Or.inl hc))).trans (hB9.mono (fun c hc => Or.inl (Or.inr hc))) : But (fun c => ot = some c ∨ c = mb) w w9)
        clear hM9 hB9
        refine hK _ _ ?_
        clear hK K
        refine wpAny_done (by kernel_rfl) ?_ _
        go_wp2_with fail
        go_ret
        exact ⟨rfl, v4, o4, HZ.out, HMz.out, HGz.out, HN4.out⟩
      · go_simp
        refine hK _ _ ?_
        clear hK K
        refine wpAny_ready (rs := [3, 10]) (by kernel_rfl) (by simp) ?_
        refine AllReady.cons rfl (fun K hK => ?_) (AllReady.cons rfl (fun K hK => ?_) AllReady.nil)
        · go_simp
          refine hK _ _ ?_
          clear hK K
          refine wpAny_ready (rs := [10]) (by kernel_rfl) (by simp) ?_
          refine AllReady.cons rfl (fun K hK => ?_) AllReady.nil
          refine step_look HMu1.out (o := ⟨some 36, _, _, _, _, _⟩) (by rfl) _ _ _ rfl keyI Tryd.underlying66 (.slice none 0 0) (zeroS _) rfl t rfl (.slice aa la ca) HLK.out ?_
          refine hK _ _ ?_
          clear hK K
          try simp only [Act.put, List.setIfInBounds_toArray, List.set_cons_zero, List.set_cons_succ]
          refine wpAny_ready (rs := [13]) (by kernel_rfl) (by simp) ?_
          refine AllReady.cons rfl (fun K hK => ?_) AllReady.nil
          refine step_append_row (o := ⟨some 39, _, _, _, _, _⟩) (by rfl) _ _ _ rfl 42 i0 (.agg #[.int .i64 0, .int .i64 0, .int .u64 0]) 3 24 Tryd.underlying47 hi hz0 hz1 hz2 rfl (by decide) _ ot la (encsA l) HRu1.out rfl ⟨q, 0, none⟩ 1 1 (encA ⟨e, k, n⟩) rfl rfl (blk_src HQ.out) (oneCell_A _) (by unfold maxLen; omega) (by omega) ?_
          intro v4 u2 o4 hZ hB4 hN4
          have HN4 := Lib.hid (show ∀ c, o4 = some c → ot = some c ∨ w.heap.size ≤ c from fun c hc => by
            rcases hN4 c hc with r | r
            · exact Or.inl r
            · have := HGu1.out.size; exact Or.inr (by omega))
          have HGu2 := Lib.hid (HGu1.out.trans hB4)
          have HXu2 := Lib.hid (HXu1.out.but hB4 (fun r => HNX.out r))
          have HBu2 := Lib.hid (HBu1.out.but hB4 (fun r => HNB.out r))
          have HMu2 := Lib.hid (HMu1.out.but hB4 (fun r => HNM.out r))
          have HRu2 := Lib.hid (HFIN.out u2 v4 o4 hZ)
          clear hZ hB4 hN4
          have q0u2 := HXu2.out.cell 0
          have q1u2 := HXu2.out.cell 1
          have q2u2 := HXu2.out.cell 2
          have q3u2 := HBu2.out.cell 0
          have q4u2 := HBu2.out.cell 1
          refine hK _ _ ?_
          clear hK K
          try simp only [Act.put, List.setIfInBounds_toArray, List.set_cons_zero, List.set_cons_succ]
          refine wpAny_ready (rs := [14]) (by kernel_rfl) (by simp) ?_
          refine AllReady.cons rfl (fun K hK => ?_) AllReady.nil
          refine step_update HMu2.out (o := ⟨none, _, _, _, _, _⟩) (by rfl) _ _ _ _ rfl keyI Tryd.underlying66 rfl t rfl v4 rfl (by unfold maxLen; omega) ?_
          intro w9 hM9 hB9
          have HMz := Lib.hid hM9
          have HZ := Lib.hid (HRu2.out.but hB9 (fun c hc r => by
            subst r
            rcases HN4.out _ hc with y | y
            · exact HNM.out y
            · have := HLM.out; omega))
          have HGz := Lib.hid ((HGu2.out.mono (fun c hc => Or.inl (Or.inl hc))).trans (hB9.mono (fun c hc => Or.inl (Or.inr hc))) : But (fun c => ot = some c ∨ c = mb) w w9)
          clear hM9 hB9
          refine hK _ _ ?_
          clear hK K
          refine wpAny_done (by kernel_rfl) ?_ _
          go_wp2_with fail
          go_ret
          exact ⟨rfl, v4, o4, HZ.out, HMz.out, HGz.out, HN4.out⟩
        · refine step_look HMu1.out (o := ⟨some 36, _, _, _, _, _⟩) (by rfl) _ _ _ rfl keyI Tryd.underlying66 (.slice none 0 0) (zeroS _) rfl t rfl (.slice aa la ca) HLK.out ?_
          refine hK _ _ ?_
          clear hK K
          try simp only [Act.put, List.setIfInBounds_toArray, List.set_cons_zero, List.set_cons_succ]
          refine wpAny_ready (rs := [3, 13]) (by kernel_rfl) (by simp) ?_
          refine AllReady.cons rfl (fun K hK => ?_) (AllReady.cons rfl (fun K hK => ?_) AllReady.nil)
          · go_simp
            refine hK _ _ ?_
            clear hK K
            refine wpAny_ready (rs := [13]) (by kernel_rfl) (by simp) ?_
            refine AllReady.cons rfl (fun K hK => ?_) AllReady.nil
            refine step_append_row (o := ⟨some 39, _, _, _, _, _⟩) (by rfl) _ _ _ rfl 42 i0 (.agg #[.int .i64 0, .int .i64 0, .int .u64 0]) 3 24 Tryd.underlying47 hi hz0 hz1 hz2 rfl (by decide) _ ot la (encsA l) HRu1.out rfl ⟨q, 0, none⟩ 1 1 (encA ⟨e, k, n⟩) rfl rfl (blk_src HQ.out) (oneCell_A _) (by unfold maxLen; omega) (by omega) ?_
            intro v4 u2 o4 hZ hB4 hN4
            have HN4 := Lib.hid (show ∀ c, o4 = some c → ot = some c ∨ w.heap.size ≤ c from fun c hc => by
              rcases hN4 c hc with r | r
              · exact Or.inl r
              · have := HGu1.out.size; exact Or.inr (by omega))
            have HGu2 := Lib.hid (HGu1.out.trans hB4)
            have HXu2 := Lib.hid (HXu1.out.but hB4 (fun r => HNX.out r))
            have HBu2 := Lib.hid (HBu1.out.but hB4 (fun r => HNB.out r))
            have HMu2 := Lib.hid (HMu1.out.but hB4 (fun r => HNM.out r))
            have HRu2 := Lib.hid (HFIN.out u2 v4 o4 hZ)
            clear hZ hB4 hN4
            have q0u2 := HXu2.out.cell 0
            have q1u2 := HXu2.out.cell 1
            have q2u2 := HXu2.out.cell 2
            have q3u2 := HBu2.out.cell 0
            have q4u2 := HBu2.out.cell 1
            refine hK _ _ ?_
            clear hK K
            try simp only [Act.put, List.setIfInBounds_toArray, List.set_cons_zero, List.set_cons_succ]
            refine wpAny_ready (rs := [14]) (by kernel_rfl) (by simp) ?_
            refine AllReady.cons rfl (fun K hK => ?_) AllReady.nil
            refine step_update HMu2.out (o := ⟨none, _, _, _, _, _⟩) (by rfl) _ _ _ _ rfl keyI Tryd.underlying66 rfl t rfl v4 rfl (by unfold maxLen; omega) ?_
            intro w9 hM9 hB9
            have HMz := Lib.hid hM9
            have HZ := Lib.hid (HRu2.out.but hB9 (fun c hc r => by
              subst r
              rcases HN4.out _ hc with y | y
              · exact HNM.out y
              · have := HLM.out; omega))
            have HGz := Lib.hid ((HGu2.out.mono (fun c hc => Or.inl (Or.inl hc))).trans (hB9.mono (fun c hc => Or.inl (Or.inr hc))) : But (fun c => ot = some c ∨ c = mb) w w9)
            clear hM9 hB9
            refine hK _ _ ?_
            clear hK K
            refine wpAny_done (by kernel_rfl) ?_ _
            go_wp2_with fail
            go_ret
            exact ⟨rfl, v4, o4, HZ.out, HMz.out, HGz.out, HN4.out⟩
          · refine step_append_row (o := ⟨some 39, _, _, _, _, _⟩) (by rfl) _ _ _ rfl 42 i0 (.agg #[.int .i64 0, .int .i64 0, .int .u64 0]) 3 24 Tryd.underlying47 hi hz0 hz1 hz2 rfl (by decide) _ ot la (encsA l) HRu1.out rfl ⟨q, 0, none⟩ 1 1 (encA ⟨e, k, n⟩) rfl rfl (blk_src HQ.out) (oneCell_A _) (by unfold maxLen; omega) (by omega) ?_
            intro v4 u2 o4 hZ hB4 hN4
            have HN4 := Lib.hid (show ∀ c, o4 = some c → ot = some c ∨ w.heap.size ≤ c from fun c hc => by
              rcases hN4 c hc with r | r
              · exact Or.inl r
              · have := HGu1.out.size; exact Or.inr (by omega))
            have HGu2 := Lib.hid (HGu1.out.trans hB4)
            have HXu2 := Lib.hid (HXu1.out.but hB4 (fun r => HNX.out r))
            have HBu2 := Lib.hid (HBu1.out.but hB4 (fun r => HNB.out r))
            have HMu2 := Lib.hid (HMu1.out.but hB4 (fun r => HNM.out r))
            have HRu2 := Lib.hid (HFIN.out u2 v4 o4 hZ)
            clear hZ hB4 hN4
            have q0u2 := HXu2.out.cell 0
            have q1u2 := HXu2.out.cell 1
            have q2u2 := HXu2.out.cell 2
            have q3u2 := HBu2.out.cell 0
            have q4u2 := HBu2.out.cell 1
            refine hK _ _ ?_
            clear hK K
            try simp only [Act.put, List.setIfInBounds_toArray, List.set_cons_zero, List.set_cons_succ]
            refine wpAny_ready (rs := [3]) (by kernel_rfl) (by simp) ?_
            refine AllReady.cons rfl (fun K hK => ?_) AllReady.nil
            go_simp
            refine hK _ _ ?_
            clear hK K
            refine wpAny_ready (rs := [14]) (by kernel_rfl) (by simp) ?_
            refine AllReady.cons rfl (fun K hK => ?_) AllReady.nil
            refine step_update HMu2.out (o := ⟨none, _, _, _, _, _⟩) (by rfl) _ _ _ _ rfl keyI Tryd.underlying66 rfl t rfl v4 rfl (by unfold maxLen; omega) ?_
            intro w9 hM9 hB9
            have HMz := Lib.hid hM9
            have HZ := Lib.hid (HRu2.out.but hB9 (fun c hc r => by
              subst r
              rcases HN4.out _ hc with y | y
              · exact HNM.out y
              · have := HLM.out; omega))
            have HGz := Lib.hid ((HGu2.out.mono (fun c hc => Or.inl (Or.inl hc))).trans (hB9.mono (fun c hc => Or.inl (Or.inr hc))) : But (fun c => ot = some c ∨ c = mb) w w9)
            clear hM9 hB9
            refine hK _ _ ?_
            clear hK K
            refine wpAny_done (by kernel_rfl) ?_ _
            go_wp2_with fail
            go_ret
            exact ⟨rfl, v4, o4, HZ.out, HMz.out, HGz.out, HN4.out⟩
end Watch
end Go.Proofs.YtldgjmgdbaeglaaDoor

