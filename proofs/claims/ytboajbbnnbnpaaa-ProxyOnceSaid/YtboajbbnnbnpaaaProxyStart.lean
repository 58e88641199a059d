/- Start of package proxy, walked: the whole table is held against a new one. -/
import Derived.Test.YtboajbbnnbnpaaaProxyWalks
set_option linter.unusedVariables false
set_option linter.unusedSimpArgs false
namespace Go.Proofs.Ytboajbbnnbnpaaa
open Go.RowKit

namespace Proxy

/-- The cells of a block. -/
def rowOf (w : World) (b : Nat) : Array Value := match w.heap[b]? with | some (.cells cs _ _) => cs | _ => #[]
def isTb (w : World) (b : Nat) : Prop := ∃ l, Tb w b l
theorem Tb.is {w : World} {b : Nat} {l : List En} (h : Tb w b l) : isTb w b := ⟨l, h⟩
theorem Tb.row {w : World} {b : Nat} {l : List En} (h : Tb w b l) : rowOf w b = (encs l).toArray := by unfold rowOf; rw [h.blk.out]
theorem isTb_drew {w : World} {b : Nat} (h : isTb w b) : isTb w.drew b := by obtain ⟨l, h⟩ := h; exact ⟨l, h.drewN 1⟩
theorem rowOf_drew (w : World) (b : Nat) : rowOf w.drew b = rowOf w b := rfl
theorem load_tb (w : World) (b : Nat) (h : isTb w b) : (Instr.loadAt 133 (.pointer (some ⟨b, 0, none⟩))).run Try.prog w = .ok (.agg (rowOf w b)) w := by
  obtain ⟨l, h⟩ := h
  rw [h.row]
  exact run_loadAt_mid w b 0 _ _ _ h.range Try.underlying133 rfl (by rw [encs_length, h.len]; kernel_rfl)
theorem eq_tb (w : World) (l m : List En) (hl : l.length = 8) (hm : m.length = 8) : (Op.equalIn 10000 133 (.agg (encs l).toArray) (.agg (encs m).toArray)).run Try.prog w = .ok (decide (l = m)) w := by
  match l, hl, m, hm with
  | [x0, x1, x2, x3, x4, x5, x6, x7], _, [y0, y1, y2, y3, y4, y5, y6, y7], _ => exact eqT w x0 x1 x2 x3 x4 x5 x6 x7 y0 y1 y2 y3 y4 y5 y6 y7
theorem news_length : news.length = 8 := rfl
attribute [local go_sem ↓] eq_tb
theorem step_load_mid {P : Program} {ops : Array Oper} {o : Oper} {a : Act} {w : World} {K : Act → World → Prop} {Q : Exit → Act → World → Prop} {E : Prop} (hg : Region.wanted o (yielded ops a.tmps) = true)
    (ty : TypeId) (x : Operand) (ho : o.op = .load ty x) (b off : Nat) (hx : a.eval x = .pointer (some ⟨b, off, none⟩)) (cs : List Value) (d : TypeDesc) (hc : w.rangeAt b off cs)
    (hu : P.underlying ty = some d) (hd : d.isRow = true) (hi : (P.info? ty).map (·.size) = some cs.length) (h : K (a.put o.dst (.agg cs.toArray)) w) :
    if Region.wanted o (yielded ops a.tmps) = true then Oper.wp P o a w K Q else E := by
  rw [if_pos hg]; exact wp_load_mid ty x ho b off hx cs d hc hu hd hi h
theorem size_tb {l : List En} (h : l.length = 8) : (Try.prog.info? 133).map (·.size) = some (encs l).length := by rw [encs_length, h]; kernel_rfl

set_option maxHeartbeats 4000000 in
set_option maxRecDepth 100000 in
theorem start_any (b : Nat) (l : List En) (g : Int) (w : World) (h : Tb w b l) : Calls Try.prog 91 #[.pointer (some ⟨b, 0, none⟩), .int .i64 g] w fun e w' =>
    e = .returned (.int .i64 (start l g).2) ∧ Tb w' b (start l g).1 ∧ But (fun k => k = b) w w' := by
  have HT := Lib.hid h
  cases ho : okS g with
  | false =>
    have E := Lib.hid (show start l g = (l, 1) by unfold start; rw [if_neg (by rw [ho]; simp)])
    rw [E.out]
    rw [okS_not] at ho
    clear h
    by_cases h1 : g < 1
    · have h1b : decide (g < 1) = true := by simpa using h1
      clear ho
      go_enter Try.func91, Try.ntmps91
      go_wp2_with fail
      go_quiet (fail)
      go_wp2_with fail
      go_ret
      exact ⟨rfl, HT.out.drewN _, (But.refl _ _).drewN _⟩
    · have h2 : 4294967295 < g := by omega
      have h1b : decide (g < 1) = false := by simpa using h1
      have h2b : decide (4294967295 < g) = true := by simpa using h2
      clear ho
      go_enter Try.func91, Try.ntmps91
      go_wp2_with fail
      go_quiet (fail)
      go_wp2_with fail
      go_ret
      exact ⟨rfl, HT.out.drewN _, (But.refl _ _).drewN _⟩
  | true =>
    rw [okS_iff] at ho
    have h1b : decide (g < 1) = false := by simp; omega
    have h2b : decide (4294967295 < g) = false := by simp; omega
    have hl8 := h.len
    have hn8 := news_length
    have q1 := (h.drewN 1).range
    by_cases hq : l = news
    · have hqd : decide (l = news) = true := by simpa using hq
      have E := Lib.hid (show start l g = (List.replicate 8 (freshE g), 0) by unfold start; rw [if_pos ⟨(okS_iff g).2 ho, hq⟩])
      clear hq
      clear h
      go_enter Try.func91, Try.ntmps91
      go_wp2_with fail
      refine wp_region_any (by kernel_rfl) ?_
      change wpAny _ _ _ _ _ _ _ (World.drew _)
      refine wpAny_take (i := 0) (oi := ⟨some 6, _, _, _, _, _⟩) (v := ?_) rfl (by kernel_rfl) (by kernel_rfl) (by kernel_rfl) (fun _ _ _ h => h) (Or.inl ⟨by rfl, ?_⟩) ?_
      rotate_left
      · intro w
        go_simp
        try with_reducible rfl
      simp only [Act.put, List.setIfInBounds_toArray, List.set_cons_zero, List.set_cons_succ]
      refine wpAny_take (i := 1) (oi := ⟨some 7, _, _, _, _, _⟩) (v := ?_) rfl (by kernel_rfl) (by kernel_rfl) (by kernel_rfl) (fun _ _ _ h => h) (Or.inl ⟨by rfl, ?_⟩) ?_
      rotate_left
      · intro w
        go_simp
        try with_reducible rfl
      simp only [Act.put, List.setIfInBounds_toArray, List.set_cons_zero, List.set_cons_succ]
      refine wpAny_take (i := 2) (oi := ⟨some 8, _, _, _, _, _⟩) (v := ?_) rfl (by kernel_rfl) (by kernel_rfl) (by kernel_rfl) (fun _ _ _ h => h) (Or.inl ⟨by rfl, ?_⟩) ?_
      rotate_left
      · intro w
        go_simp
        try with_reducible rfl
      simp only [Act.put, List.setIfInBounds_toArray, List.set_cons_zero, List.set_cons_succ]
      refine wpAny_take (i := 3) (oi := ⟨some 9, _, _, _, _, _⟩) (v := ?_) rfl (by kernel_rfl) (by kernel_rfl) (by kernel_rfl) (fun _ _ _ h => h) (Or.inl ⟨by rfl, ?_⟩) ?_
      rotate_left
      · intro w
        go_simp
        try with_reducible rfl
      simp only [Act.put, List.setIfInBounds_toArray, List.set_cons_zero, List.set_cons_succ]
      refine wpAny_take (i := 4) (oi := ⟨some 10, _, _, _, _, _⟩) (v := ?_) rfl (by kernel_rfl) (by kernel_rfl) (by kernel_rfl) (fun _ _ _ h => h) (Or.inl ⟨by rfl, ?_⟩) ?_
      rotate_left
      · intro w
        go_simp
        try with_reducible rfl
      simp only [Act.put, List.setIfInBounds_toArray, List.set_cons_zero, List.set_cons_succ]
      refine wpAny_take (i := 5) (oi := ⟨some 11, _, _, _, _, _⟩) (v := ?_) rfl (by kernel_rfl) (by kernel_rfl) (by kernel_rfl) (fun _ _ _ h => h) (Or.inl ⟨by rfl, ?_⟩) ?_
      rotate_left
      · intro w
        go_simp
        try with_reducible rfl
      simp only [Act.put, List.setIfInBounds_toArray, List.set_cons_zero, List.set_cons_succ]
      refine wpAny_take (i := 6) (oi := ⟨some 12, _, _, _, _, _⟩) (v := ?_) rfl (by kernel_rfl) (by kernel_rfl) (by kernel_rfl) (fun _ _ _ h => h) (Or.inl ⟨by rfl, ?_⟩) ?_
      rotate_left
      · intro w
        go_simp
        try with_reducible rfl
      simp only [Act.put, List.setIfInBounds_toArray, List.set_cons_zero, List.set_cons_succ]
      refine wpAny_take (i := 7) (oi := ⟨some 13, _, _, _, _, _⟩) (v := ?_) rfl (by kernel_rfl) (by kernel_rfl) (by kernel_rfl) (fun _ _ _ h => h) (Or.inl ⟨by rfl, ?_⟩) ?_
      rotate_left
      · intro w
        go_simp
        try with_reducible rfl
      simp only [Act.put, List.setIfInBounds_toArray, List.set_cons_zero, List.set_cons_succ]
      refine wpAny_take (i := 8) (oi := ⟨some 14, _, _, _, _, _⟩) (v := ?_) rfl (by kernel_rfl) (by kernel_rfl) (by kernel_rfl) (fun _ _ _ h => h) (Or.inl ⟨by rfl, ?_⟩) ?_
      rotate_left
      · intro w
        go_simp
        try with_reducible rfl
      simp only [Act.put, List.setIfInBounds_toArray, List.set_cons_zero, List.set_cons_succ]
      refine wpAny_take (i := 9) (oi := ⟨some 15, _, _, _, _, _⟩) (v := ?_) rfl (by kernel_rfl) (by kernel_rfl) (by kernel_rfl) (fun _ _ _ h => h) (Or.inl ⟨by rfl, ?_⟩) ?_
      rotate_left
      · intro w
        go_simp
        try with_reducible rfl
      simp only [Act.put, List.setIfInBounds_toArray, List.set_cons_zero, List.set_cons_succ]
      refine wpAny_take (i := 10) (oi := ⟨some 16, _, _, _, _, _⟩) (v := ?_) rfl (by kernel_rfl) (by kernel_rfl) (by kernel_rfl) (fun _ _ _ h => h) (Or.inl ⟨by rfl, ?_⟩) ?_
      rotate_left
      · intro w
        go_simp
        try with_reducible rfl
      simp only [Act.put, List.setIfInBounds_toArray, List.set_cons_zero, List.set_cons_succ]
      refine wpAny_take (i := 11) (oi := ⟨some 17, _, _, _, _, _⟩) (v := ?_) rfl (by kernel_rfl) (by kernel_rfl) (by kernel_rfl) (fun _ _ _ h => h) (Or.inl ⟨by rfl, ?_⟩) ?_
      rotate_left
      · intro w
        go_simp
        try with_reducible rfl
      simp only [Act.put, List.setIfInBounds_toArray, List.set_cons_zero, List.set_cons_succ]
      refine wpAny_take (i := 12) (oi := ⟨some 18, _, _, _, _, _⟩) (v := ?_) rfl (by kernel_rfl) (by kernel_rfl) (by kernel_rfl) (fun _ _ _ h => h) (Or.inl ⟨by rfl, ?_⟩) ?_
      rotate_left
      · intro w
        go_simp
        try with_reducible rfl
      simp only [Act.put, List.setIfInBounds_toArray, List.set_cons_zero, List.set_cons_succ]
      refine wpAny_ready (rs := [13, 14]) (by kernel_rfl) (by simp) ?_
      refine AllReady.cons rfl (fun K hK => ?_) (AllReady.cons rfl (fun K hK => ?_) AllReady.nil)
      · refine step_load_mid (o := ⟨some 19, _, _, _, _, _⟩) (by rfl) _ _ rfl _ _ rfl (encs l) _ q1 Try.underlying133 rfl (size_tb hl8) ?_
        refine hK _ _ ?_
        clear hK K
        simp only [Act.put, List.setIfInBounds_toArray, List.set_cons_zero, List.set_cons_succ]
        refine wpAny_ready (rs := [14]) (by kernel_rfl) (by simp) ?_
        refine AllReady.cons rfl (fun K hK => ?_) AllReady.nil
        go_simp
        go_wp2_with (go_at_call 70; refine (new_any _).mono ?_; rintro e w2 ⟨rfl, h2, g2⟩; have G2 := Lib.hid (show But (fun _ => False) w w2 from (But.refl _ w).drew.trans g2); have HT2 := Lib.hid (HT.out.but G2.out (fun q => q)); have q2 := HT2.out.range; have q3 := h2.range; clear g2 h2)
        refine wpAny_take (i := 15) (oi := ⟨some 21, _, _, _, _, _⟩) (v := ?_) rfl (by kernel_rfl) (by kernel_rfl) (by kernel_rfl) (fun _ _ _ h => h) (Or.inl ⟨by rfl, ?_⟩) ?_
        rotate_left
        · intro w
          go_simp
          try with_reducible rfl
        simp only [Act.put, List.setIfInBounds_toArray, List.set_cons_zero, List.set_cons_succ]
        refine wpAny_ready (rs := [16]) (by kernel_rfl) (by simp) ?_
        refine AllReady.cons rfl (fun K hK => ?_) AllReady.nil
        refine step_load_mid (o := ⟨some 22, _, _, _, _, _⟩) (by rfl) _ _ rfl _ _ rfl (encs news) _ q3 Try.underlying133 rfl (size_tb hn8) ?_
        refine hK _ _ ?_
        clear hK K
        simp only [Act.put, List.setIfInBounds_toArray, List.set_cons_zero, List.set_cons_succ]
        refine wpAny_take (i := 17) (oi := ⟨some 23, _, _, _, _, _⟩) (v := ?_) rfl (by kernel_rfl) (by kernel_rfl) (by kernel_rfl) (fun _ _ _ h => h) (Or.inl ⟨by rfl, ?_⟩) ?_
        rotate_left
        · intro w
          go_simp
          try with_reducible rfl
        simp only [Act.put, List.setIfInBounds_toArray, List.set_cons_zero, List.set_cons_succ]
        refine wpAny_take (i := 18) (oi := ⟨some 24, _, _, _, _, _⟩) (v := ?_) rfl (by kernel_rfl) (by kernel_rfl) (by kernel_rfl) (fun _ _ _ h => h) (Or.inl ⟨by rfl, ?_⟩) ?_
        rotate_left
        · intro w
          go_simp
          try with_reducible rfl
        simp only [Act.put, List.setIfInBounds_toArray, List.set_cons_zero, List.set_cons_succ]
        refine wpAny_done (by kernel_rfl) ?_ _
        go_wp2_with fail
        go_loopg [25] 8 (fun k i1 wr => ∃ (j : Nat), j + k = 8 ∧ i1 = .int .i64 j ∧ Tb wr b (upTo g l j) ∧ But (fun k => k = b) w wr)
        case atStart => exact ⟨0, by omega, rfl, by rw [upTo_zero]; exact HT2.out, G2.out.mono (fun k hk => hk.elim)⟩
        case round =>
          obtain ⟨j, hj, rfl, hT, hB⟩ := hrel
          have HTr := Lib.hid hT
          clear hT q1 q2 q3
          by_cases hlt : j < 8
          · go_wp2_with fail
            go_region_with (go_at_call 92; refine (fresh_any _ _).mono ?_; rintro e w3 ⟨rfl, h3⟩; have HT3 := Lib.hid ((HTr.out.drewN 1).but h3 (fun q => q)); obtain ⟨c0, c1, c2, c3⟩ := HT3.out.cells hlt; have f0 := HT3.out.free (j * 4); have f1 := HT3.out.free (j * 4 + 1); have f2 := HT3.out.free (j * 4 + 2); have f3 := HT3.out.free (j * 4 + 3))
            go_wp2_with fail
            go_roundg (8 - (j + 1))
            case measure => omega
            case rel => exact ⟨j + 1, by omega, by go_num, by
              rw [← upTo_succ (by rw [hl8]; exact hlt)]
              exact HT3.out.put hlt (freshE g), But.put4 (hB.drew.trans (h3.mono (fun k hk => hk.elim))) (by exact .inl rfl) _ _ _ _ _ _ _ _⟩
          · obtain rfl : j = 8 := by omega
            go_wp2_with fail
            go_ret
            exact ⟨by rw [E.out]; rfl, by rw [E.out]; show Tb wr b (List.replicate 8 (freshE g)); rw [← upTo_all hl8]; exact HTr.out, hB⟩
      · go_simp
        go_wp2_with (go_at_call 70; refine (new_any _).mono ?_; rintro e w2 ⟨rfl, h2, g2⟩; have G2 := Lib.hid (show But (fun _ => False) w w2 from (But.refl _ w).drew.trans g2); have HT2 := Lib.hid (HT.out.but G2.out (fun q => q)); have q2 := HT2.out.range; have q3 := h2.range; clear g2 h2)
        refine wpAny_take (i := 15) (oi := ⟨some 21, _, _, _, _, _⟩) (v := ?_) rfl (by kernel_rfl) (by kernel_rfl) (by kernel_rfl) (fun _ _ _ h => h) (Or.inl ⟨by rfl, ?_⟩) ?_
        rotate_left
        · intro w
          go_simp
          try with_reducible rfl
        simp only [Act.put, List.setIfInBounds_toArray, List.set_cons_zero, List.set_cons_succ]
        refine wpAny_ready (rs := [13, 16]) (by kernel_rfl) (by simp) ?_
        refine AllReady.cons rfl (fun K hK => ?_) (AllReady.cons rfl (fun K hK => ?_) AllReady.nil)
        · refine step_load_mid (o := ⟨some 19, _, _, _, _, _⟩) (by rfl) _ _ rfl _ _ rfl (encs l) _ q2 Try.underlying133 rfl (size_tb hl8) ?_
          refine hK _ _ ?_
          clear hK K
          simp only [Act.put, List.setIfInBounds_toArray, List.set_cons_zero, List.set_cons_succ]
          refine wpAny_ready (rs := [16]) (by kernel_rfl) (by simp) ?_
          refine AllReady.cons rfl (fun K hK => ?_) AllReady.nil
          refine step_load_mid (o := ⟨some 22, _, _, _, _, _⟩) (by rfl) _ _ rfl _ _ rfl (encs news) _ q3 Try.underlying133 rfl (size_tb hn8) ?_
          refine hK _ _ ?_
          clear hK K
          simp only [Act.put, List.setIfInBounds_toArray, List.set_cons_zero, List.set_cons_succ]
          refine wpAny_take (i := 17) (oi := ⟨some 23, _, _, _, _, _⟩) (v := ?_) rfl (by kernel_rfl) (by kernel_rfl) (by kernel_rfl) (fun _ _ _ h => h) (Or.inl ⟨by rfl, ?_⟩) ?_
          rotate_left
          · intro w
            go_simp
            try with_reducible rfl
          simp only [Act.put, List.setIfInBounds_toArray, List.set_cons_zero, List.set_cons_succ]
          refine wpAny_take (i := 18) (oi := ⟨some 24, _, _, _, _, _⟩) (v := ?_) rfl (by kernel_rfl) (by kernel_rfl) (by kernel_rfl) (fun _ _ _ h => h) (Or.inl ⟨by rfl, ?_⟩) ?_
          rotate_left
          · intro w
            go_simp
            try with_reducible rfl
          simp only [Act.put, List.setIfInBounds_toArray, List.set_cons_zero, List.set_cons_succ]
          refine wpAny_done (by kernel_rfl) ?_ _
          go_wp2_with fail
          go_loopg [25] 8 (fun k i1 wr => ∃ (j : Nat), j + k = 8 ∧ i1 = .int .i64 j ∧ Tb wr b (upTo g l j) ∧ But (fun k => k = b) w wr)
          case atStart => exact ⟨0, by omega, rfl, by rw [upTo_zero]; exact HT2.out, G2.out.mono (fun k hk => hk.elim)⟩
          case round =>
            obtain ⟨j, hj, rfl, hT, hB⟩ := hrel
            have HTr := Lib.hid hT
            clear hT q1 q2 q3
            by_cases hlt : j < 8
            · go_wp2_with fail
              go_region_with (go_at_call 92; refine (fresh_any _ _).mono ?_; rintro e w3 ⟨rfl, h3⟩; have HT3 := Lib.hid ((HTr.out.drewN 1).but h3 (fun q => q)); obtain ⟨c0, c1, c2, c3⟩ := HT3.out.cells hlt; have f0 := HT3.out.free (j * 4); have f1 := HT3.out.free (j * 4 + 1); have f2 := HT3.out.free (j * 4 + 2); have f3 := HT3.out.free (j * 4 + 3))
              go_wp2_with fail
              go_roundg (8 - (j + 1))
              case measure => omega
              case rel => exact ⟨j + 1, by omega, by go_num, by
                rw [← upTo_succ (by rw [hl8]; exact hlt)]
                exact HT3.out.put hlt (freshE g), But.put4 (hB.drew.trans (h3.mono (fun k hk => hk.elim))) (by exact .inl rfl) _ _ _ _ _ _ _ _⟩
            · obtain rfl : j = 8 := by omega
              go_wp2_with fail
              go_ret
              exact ⟨by rw [E.out]; rfl, by rw [E.out]; show Tb wr b (List.replicate 8 (freshE g)); rw [← upTo_all hl8]; exact HTr.out, hB⟩
        · refine step_load_mid (o := ⟨some 22, _, _, _, _, _⟩) (by rfl) _ _ rfl _ _ rfl (encs news) _ q3 Try.underlying133 rfl (size_tb hn8) ?_
          refine hK _ _ ?_
          clear hK K
          simp only [Act.put, List.setIfInBounds_toArray, List.set_cons_zero, List.set_cons_succ]
          refine wpAny_ready (rs := [13]) (by kernel_rfl) (by simp) ?_
          refine AllReady.cons rfl (fun K hK => ?_) AllReady.nil
          refine step_load_mid (o := ⟨some 19, _, _, _, _, _⟩) (by rfl) _ _ rfl _ _ rfl (encs l) _ q2 Try.underlying133 rfl (size_tb hl8) ?_
          refine hK _ _ ?_
          clear hK K
          simp only [Act.put, List.setIfInBounds_toArray, List.set_cons_zero, List.set_cons_succ]
          refine wpAny_take (i := 17) (oi := ⟨some 23, _, _, _, _, _⟩) (v := ?_) rfl (by kernel_rfl) (by kernel_rfl) (by kernel_rfl) (fun _ _ _ h => h) (Or.inl ⟨by rfl, ?_⟩) ?_
          rotate_left
          · intro w
            go_simp
            try with_reducible rfl
          simp only [Act.put, List.setIfInBounds_toArray, List.set_cons_zero, List.set_cons_succ]
          refine wpAny_take (i := 18) (oi := ⟨some 24, _, _, _, _, _⟩) (v := ?_) rfl (by kernel_rfl) (by kernel_rfl) (by kernel_rfl) (fun _ _ _ h => h) (Or.inl ⟨by rfl, ?_⟩) ?_
          rotate_left
          · intro w
            go_simp
            try with_reducible rfl
          simp only [Act.put, List.setIfInBounds_toArray, List.set_cons_zero, List.set_cons_succ]
          refine wpAny_done (by kernel_rfl) ?_ _
          go_wp2_with fail
          go_loopg [25] 8 (fun k i1 wr => ∃ (j : Nat), j + k = 8 ∧ i1 = .int .i64 j ∧ Tb wr b (upTo g l j) ∧ But (fun k => k = b) w wr)
          case atStart => exact ⟨0, by omega, rfl, by rw [upTo_zero]; exact HT2.out, G2.out.mono (fun k hk => hk.elim)⟩
          case round =>
            obtain ⟨j, hj, rfl, hT, hB⟩ := hrel
            have HTr := Lib.hid hT
            clear hT q1 q2 q3
            by_cases hlt : j < 8
            · go_wp2_with fail
              go_region_with (go_at_call 92; refine (fresh_any _ _).mono ?_; rintro e w3 ⟨rfl, h3⟩; have HT3 := Lib.hid ((HTr.out.drewN 1).but h3 (fun q => q)); obtain ⟨c0, c1, c2, c3⟩ := HT3.out.cells hlt; have f0 := HT3.out.free (j * 4); have f1 := HT3.out.free (j * 4 + 1); have f2 := HT3.out.free (j * 4 + 2); have f3 := HT3.out.free (j * 4 + 3))
              go_wp2_with fail
              go_roundg (8 - (j + 1))
              case measure => omega
              case rel => exact ⟨j + 1, by omega, by go_num, by
                rw [← upTo_succ (by rw [hl8]; exact hlt)]
                exact HT3.out.put hlt (freshE g), But.put4 (hB.drew.trans (h3.mono (fun k hk => hk.elim))) (by exact .inl rfl) _ _ _ _ _ _ _ _⟩
            · obtain rfl : j = 8 := by omega
              go_wp2_with fail
              go_ret
              exact ⟨by rw [E.out]; rfl, by rw [E.out]; show Tb wr b (List.replicate 8 (freshE g)); rw [← upTo_all hl8]; exact HTr.out, hB⟩
    · have hqd : decide (l = news) = false := by simpa using hq
      have E := Lib.hid (show start l g = (l, 1) by unfold start; rw [if_neg (fun q => hq q.2)])
      clear hq
      clear h
      go_enter Try.func91, Try.ntmps91
      go_wp2_with fail
      refine wp_region_any (by kernel_rfl) ?_
      change wpAny _ _ _ _ _ _ _ (World.drew _)
      refine wpAny_take (i := 0) (oi := ⟨some 6, _, _, _, _, _⟩) (v := ?_) rfl (by kernel_rfl) (by kernel_rfl) (by kernel_rfl) (fun _ _ _ h => h) (Or.inl ⟨by rfl, ?_⟩) ?_
      rotate_left
      · intro w
        go_simp
        try with_reducible rfl
      simp only [Act.put, List.setIfInBounds_toArray, List.set_cons_zero, List.set_cons_succ]
      refine wpAny_take (i := 1) (oi := ⟨some 7, _, _, _, _, _⟩) (v := ?_) rfl (by kernel_rfl) (by kernel_rfl) (by kernel_rfl) (fun _ _ _ h => h) (Or.inl ⟨by rfl, ?_⟩) ?_
      rotate_left
      · intro w
        go_simp
        try with_reducible rfl
      simp only [Act.put, List.setIfInBounds_toArray, List.set_cons_zero, List.set_cons_succ]
      refine wpAny_take (i := 2) (oi := ⟨some 8, _, _, _, _, _⟩) (v := ?_) rfl (by kernel_rfl) (by kernel_rfl) (by kernel_rfl) (fun _ _ _ h => h) (Or.inl ⟨by rfl, ?_⟩) ?_
      rotate_left
      · intro w
        go_simp
        try with_reducible rfl
      simp only [Act.put, List.setIfInBounds_toArray, List.set_cons_zero, List.set_cons_succ]
      refine wpAny_take (i := 3) (oi := ⟨some 9, _, _, _, _, _⟩) (v := ?_) rfl (by kernel_rfl) (by kernel_rfl) (by kernel_rfl) (fun _ _ _ h => h) (Or.inl ⟨by rfl, ?_⟩) ?_
      rotate_left
      · intro w
        go_simp
        try with_reducible rfl
      simp only [Act.put, List.setIfInBounds_toArray, List.set_cons_zero, List.set_cons_succ]
      refine wpAny_take (i := 4) (oi := ⟨some 10, _, _, _, _, _⟩) (v := ?_) rfl (by kernel_rfl) (by kernel_rfl) (by kernel_rfl) (fun _ _ _ h => h) (Or.inl ⟨by rfl, ?_⟩) ?_
      rotate_left
      · intro w
        go_simp
        try with_reducible rfl
      simp only [Act.put, List.setIfInBounds_toArray, List.set_cons_zero, List.set_cons_succ]
      refine wpAny_take (i := 5) (oi := ⟨some 11, _, _, _, _, _⟩) (v := ?_) rfl (by kernel_rfl) (by kernel_rfl) (by kernel_rfl) (fun _ _ _ h => h) (Or.inl ⟨by rfl, ?_⟩) ?_
      rotate_left
      · intro w
        go_simp
        try with_reducible rfl
      simp only [Act.put, List.setIfInBounds_toArray, List.set_cons_zero, List.set_cons_succ]
      refine wpAny_take (i := 6) (oi := ⟨some 12, _, _, _, _, _⟩) (v := ?_) rfl (by kernel_rfl) (by kernel_rfl) (by kernel_rfl) (fun _ _ _ h => h) (Or.inl ⟨by rfl, ?_⟩) ?_
      rotate_left
      · intro w
        go_simp
        try with_reducible rfl
      simp only [Act.put, List.setIfInBounds_toArray, List.set_cons_zero, List.set_cons_succ]
      refine wpAny_take (i := 7) (oi := ⟨some 13, _, _, _, _, _⟩) (v := ?_) rfl (by kernel_rfl) (by kernel_rfl) (by kernel_rfl) (fun _ _ _ h => h) (Or.inl ⟨by rfl, ?_⟩) ?_
      rotate_left
      · intro w
        go_simp
        try with_reducible rfl
      simp only [Act.put, List.setIfInBounds_toArray, List.set_cons_zero, List.set_cons_succ]
      refine wpAny_take (i := 8) (oi := ⟨some 14, _, _, _, _, _⟩) (v := ?_) rfl (by kernel_rfl) (by kernel_rfl) (by kernel_rfl) (fun _ _ _ h => h) (Or.inl ⟨by rfl, ?_⟩) ?_
      rotate_left
      · intro w
        go_simp
        try with_reducible rfl
      simp only [Act.put, List.setIfInBounds_toArray, List.set_cons_zero, List.set_cons_succ]
      refine wpAny_take (i := 9) (oi := ⟨some 15, _, _, _, _, _⟩) (v := ?_) rfl (by kernel_rfl) (by kernel_rfl) (by kernel_rfl) (fun _ _ _ h => h) (Or.inl ⟨by rfl, ?_⟩) ?_
      rotate_left
      · intro w
        go_simp
        try with_reducible rfl
      simp only [Act.put, List.setIfInBounds_toArray, List.set_cons_zero, List.set_cons_succ]
      refine wpAny_take (i := 10) (oi := ⟨some 16, _, _, _, _, _⟩) (v := ?_) rfl (by kernel_rfl) (by kernel_rfl) (by kernel_rfl) (fun _ _ _ h => h) (Or.inl ⟨by rfl, ?_⟩) ?_
      rotate_left
      · intro w
        go_simp
        try with_reducible rfl
      simp only [Act.put, List.setIfInBounds_toArray, List.set_cons_zero, List.set_cons_succ]
      refine wpAny_take (i := 11) (oi := ⟨some 17, _, _, _, _, _⟩) (v := ?_) rfl (by kernel_rfl) (by kernel_rfl) (by kernel_rfl) (fun _ _ _ h => h) (Or.inl ⟨by rfl, ?_⟩) ?_
      rotate_left
      · intro w
        go_simp
        try with_reducible rfl
      simp only [Act.put, List.setIfInBounds_toArray, List.set_cons_zero, List.set_cons_succ]
      refine wpAny_take (i := 12) (oi := ⟨some 18, _, _, _, _, _⟩) (v := ?_) rfl (by kernel_rfl) (by kernel_rfl) (by kernel_rfl) (fun _ _ _ h => h) (Or.inl ⟨by rfl, ?_⟩) ?_
      rotate_left
      · intro w
        go_simp
        try with_reducible rfl
      simp only [Act.put, List.setIfInBounds_toArray, List.set_cons_zero, List.set_cons_succ]
      refine wpAny_ready (rs := [13, 14]) (by kernel_rfl) (by simp) ?_
      refine AllReady.cons rfl (fun K hK => ?_) (AllReady.cons rfl (fun K hK => ?_) AllReady.nil)
      · refine step_load_mid (o := ⟨some 19, _, _, _, _, _⟩) (by rfl) _ _ rfl _ _ rfl (encs l) _ q1 Try.underlying133 rfl (size_tb hl8) ?_
        refine hK _ _ ?_
        clear hK K
        simp only [Act.put, List.setIfInBounds_toArray, List.set_cons_zero, List.set_cons_succ]
        refine wpAny_ready (rs := [14]) (by kernel_rfl) (by simp) ?_
        refine AllReady.cons rfl (fun K hK => ?_) AllReady.nil
        go_simp
        go_wp2_with (go_at_call 70; refine (new_any _).mono ?_; rintro e w2 ⟨rfl, h2, g2⟩; have G2 := Lib.hid (show But (fun _ => False) w w2 from (But.refl _ w).drew.trans g2); have HT2 := Lib.hid (HT.out.but G2.out (fun q => q)); have q2 := HT2.out.range; have q3 := h2.range; clear g2 h2)
        refine wpAny_take (i := 15) (oi := ⟨some 21, _, _, _, _, _⟩) (v := ?_) rfl (by kernel_rfl) (by kernel_rfl) (by kernel_rfl) (fun _ _ _ h => h) (Or.inl ⟨by rfl, ?_⟩) ?_
        rotate_left
        · intro w
          go_simp
          try with_reducible rfl
        simp only [Act.put, List.setIfInBounds_toArray, List.set_cons_zero, List.set_cons_succ]
        refine wpAny_ready (rs := [16]) (by kernel_rfl) (by simp) ?_
        refine AllReady.cons rfl (fun K hK => ?_) AllReady.nil
        refine step_load_mid (o := ⟨some 22, _, _, _, _, _⟩) (by rfl) _ _ rfl _ _ rfl (encs news) _ q3 Try.underlying133 rfl (size_tb hn8) ?_
        refine hK _ _ ?_
        clear hK K
        simp only [Act.put, List.setIfInBounds_toArray, List.set_cons_zero, List.set_cons_succ]
        refine wpAny_take (i := 17) (oi := ⟨some 23, _, _, _, _, _⟩) (v := ?_) rfl (by kernel_rfl) (by kernel_rfl) (by kernel_rfl) (fun _ _ _ h => h) (Or.inl ⟨by rfl, ?_⟩) ?_
        rotate_left
        · intro w
          go_simp
          try with_reducible rfl
        simp only [Act.put, List.setIfInBounds_toArray, List.set_cons_zero, List.set_cons_succ]
        refine wpAny_take (i := 18) (oi := ⟨some 24, _, _, _, _, _⟩) (v := ?_) rfl (by kernel_rfl) (by kernel_rfl) (by kernel_rfl) (fun _ _ _ h => h) (Or.inl ⟨by rfl, ?_⟩) ?_
        rotate_left
        · intro w
          go_simp
          try with_reducible rfl
        simp only [Act.put, List.setIfInBounds_toArray, List.set_cons_zero, List.set_cons_succ]
        refine wpAny_done (by kernel_rfl) ?_ _
        go_wp2_with fail
        go_ret
        exact ⟨by rw [E.out]; rfl, by rw [E.out]; exact HT2.out, G2.out.mono (fun k hk => hk.elim)⟩
      · go_simp
        go_wp2_with (go_at_call 70; refine (new_any _).mono ?_; rintro e w2 ⟨rfl, h2, g2⟩; have G2 := Lib.hid (show But (fun _ => False) w w2 from (But.refl _ w).drew.trans g2); have HT2 := Lib.hid (HT.out.but G2.out (fun q => q)); have q2 := HT2.out.range; have q3 := h2.range; clear g2 h2)
        refine wpAny_take (i := 15) (oi := ⟨some 21, _, _, _, _, _⟩) (v := ?_) rfl (by kernel_rfl) (by kernel_rfl) (by kernel_rfl) (fun _ _ _ h => h) (Or.inl ⟨by rfl, ?_⟩) ?_
        rotate_left
        · intro w
          go_simp
          try with_reducible rfl
        simp only [Act.put, List.setIfInBounds_toArray, List.set_cons_zero, List.set_cons_succ]
        refine wpAny_ready (rs := [13, 16]) (by kernel_rfl) (by simp) ?_
        refine AllReady.cons rfl (fun K hK => ?_) (AllReady.cons rfl (fun K hK => ?_) AllReady.nil)
        · refine step_load_mid (o := ⟨some 19, _, _, _, _, _⟩) (by rfl) _ _ rfl _ _ rfl (encs l) _ q2 Try.underlying133 rfl (size_tb hl8) ?_
          refine hK _ _ ?_
          clear hK K
          simp only [Act.put, List.setIfInBounds_toArray, List.set_cons_zero, List.set_cons_succ]
          refine wpAny_ready (rs := [16]) (by kernel_rfl) (by simp) ?_
          refine AllReady.cons rfl (fun K hK => ?_) AllReady.nil
          refine step_load_mid (o := ⟨some 22, _, _, _, _, _⟩) (by rfl) _ _ rfl _ _ rfl (encs news) _ q3 Try.underlying133 rfl (size_tb hn8) ?_
          refine hK _ _ ?_
          clear hK K
          simp only [Act.put, List.setIfInBounds_toArray, List.set_cons_zero, List.set_cons_succ]
          refine wpAny_take (i := 17) (oi := ⟨some 23, _, _, _, _, _⟩) (v := ?_) rfl (by kernel_rfl) (by kernel_rfl) (by kernel_rfl) (fun _ _ _ h => h) (Or.inl ⟨by rfl, ?_⟩) ?_
          rotate_left
          · intro w
            go_simp
            try with_reducible rfl
          simp only [Act.put, List.setIfInBounds_toArray, List.set_cons_zero, List.set_cons_succ]
          refine wpAny_take (i := 18) (oi := ⟨some 24, _, _, _, _, _⟩) (v := ?_) rfl (by kernel_rfl) (by kernel_rfl) (by kernel_rfl) (fun _ _ _ h => h) (Or.inl ⟨by rfl, ?_⟩) ?_
          rotate_left
          · intro w
            go_simp
            try with_reducible rfl
          simp only [Act.put, List.setIfInBounds_toArray, List.set_cons_zero, List.set_cons_succ]
          refine wpAny_done (by kernel_rfl) ?_ _
          go_wp2_with fail
          go_ret
          exact ⟨by rw [E.out]; rfl, by rw [E.out]; exact HT2.out, G2.out.mono (fun k hk => hk.elim)⟩
        · refine step_load_mid (o := ⟨some 22, _, _, _, _, _⟩) (by rfl) _ _ rfl _ _ rfl (encs news) _ q3 Try.underlying133 rfl (size_tb hn8) ?_
          refine hK _ _ ?_
          clear hK K
          simp only [Act.put, List.setIfInBounds_toArray, List.set_cons_zero, List.set_cons_succ]
          refine wpAny_ready (rs := [13]) (by kernel_rfl) (by simp) ?_
          refine AllReady.cons rfl (fun K hK => ?_) AllReady.nil
          refine step_load_mid (o := ⟨some 19, _, _, _, _, _⟩) (by rfl) _ _ rfl _ _ rfl (encs l) _ q2 Try.underlying133 rfl (size_tb hl8) ?_
          refine hK _ _ ?_
          clear hK K
          simp only [Act.put, List.setIfInBounds_toArray, List.set_cons_zero, List.set_cons_succ]
          refine wpAny_take (i := 17) (oi := ⟨some 23, _, _, _, _, _⟩) (v := ?_) rfl (by kernel_rfl) (by kernel_rfl) (by kernel_rfl) (fun _ _ _ h => h) (Or.inl ⟨by rfl, ?_⟩) ?_
          rotate_left
          · intro w
            go_simp
            try with_reducible rfl
          simp only [Act.put, List.setIfInBounds_toArray, List.set_cons_zero, List.set_cons_succ]
          refine wpAny_take (i := 18) (oi := ⟨some 24, _, _, _, _, _⟩) (v := ?_) rfl (by kernel_rfl) (by kernel_rfl) (by kernel_rfl) (fun _ _ _ h => h) (Or.inl ⟨by rfl, ?_⟩) ?_
          rotate_left
          · intro w
            go_simp
            try with_reducible rfl
          simp only [Act.put, List.setIfInBounds_toArray, List.set_cons_zero, List.set_cons_succ]
          refine wpAny_done (by kernel_rfl) ?_ _
          go_wp2_with fail
          go_ret
          exact ⟨by rw [E.out]; rfl, by rw [E.out]; exact HT2.out, G2.out.mono (fun k hk => hk.elim)⟩

end Proxy
end Go.Proofs.Ytboajbbnnbnpaaa
