/- Take of layer 6's document's answer (free), walked. -/
import Derived.Test.YtngbhhcicakolaaFreeRefNew
set_option linter.unusedVariables false
set_option linter.unusedSimpArgs false
namespace Go.Proofs.Ytngbhhcicakolaa
open Go.RowKit

namespace Free

/-- The last of the first k free cells that is of a class: its place. -/
def lastTo (r : Rf) (c : Int) : Nat → Option Nat
  | 0 => none
  | k + 1 => if (Conf.find r.s (rtop r k)).1 = c then some k else lastTo r c k
theorem lastTo_lt {r : Rf} {c : Int} : ∀ {k j : Nat}, lastTo r c k = some j → j < k ∧ (Conf.find r.s (rtop r j)).1 = c
  | 0, j, h => by cases h
  | k + 1, j, h => by
    unfold lastTo at h
    split at h
    · rename_i e; cases h; exact ⟨by omega, e⟩
    · have := lastTo_lt h; exact ⟨by omega, this.2⟩
def tookR (r : Rf) (k : Nat) : Rf := { r with p := r.p.eraseIdx k, i := r.i.set (rtop r k).toNat 1 }
def takeR (r : Rf) (c : Int) : Rf × Int × Int :=
  if clsB c = true then (match lastTo r c r.p.length with
    | none => (r, 0, 8)
    | some k => (tookR r k, rtop r k, 0)) else (r, 0, 1)
theorem takeR_bad {r : Rf} {c : Int} (h : clsB c = false) : takeR r c = (r, 0, 1) := by unfold takeR; rw [h]; rfl
theorem takeR_none {r : Rf} {c : Int} (h : clsB c = true) (h2 : lastTo r c r.p.length = none) : takeR r c = (r, 0, 8) := by unfold takeR; rw [if_pos h, h2]
theorem takeR_at {r : Rf} {c : Int} {k : Nat} (h : clsB c = true) (h2 : lastTo r c r.p.length = some k) : takeR r c = (tookR r k, rtop r k, 0) := by unfold takeR; rw [if_pos h, h2]
theorem ints_take (l : List Int) (k : Nat) : (ints l).take (k * 1) = ints (l.take k) := by unfold ints; rw [List.map_take]; simp
theorem ints_drop (l : List Int) (k : Nat) : (ints l).drop (k * 1) = ints (l.drop k) := by unfold ints; rw [List.map_drop]; simp
theorem ints_app (l m : List Int) : ints l ++ ints m = ints (l ++ m) := by unfold ints; simp

set_option maxHeartbeats 16000000 in
set_option maxRecDepth 100000 in
theorem ref_take (b : Nat) (r : Rf) (c : Int) (w : World) (S : Nat → Prop) (h : Rob b r w S) (hpv : ∀ k, k < r.p.length → 0 ≤ rtop r k ∧ rtop r k < rn r) : Calls Try.prog 75 #[.pointer (some ⟨b, 0, none⟩), .int .i64 c] w fun e w' =>
    e = .returned (.tuple #[.int .i64 (takeR r c).2.1, .int .i64 (takeR r c).2.2]) ∧ Moves (Rob b (takeR r c).1) S w w' := by
  obtain ⟨i0, hi, hz0, hz1, hz2⟩ := info_parts infoInt
  obtain ⟨bg, bi, v, o, h, rfl⟩ := h
  have H := Lib.hid h
  cases hc : clsB c with
  | false =>
    rw [takeR_bad hc]
    rw [clsB_not] at hc
    by_cases h0 : c < 0
    · clear hc h hpv
      go_enter Try.func75, Try.ntmps75
      go_wp2_with fail
      go_ret2
      exact ⟨rfl, _, ⟨bg, bi, v, o, H.out, rfl⟩, But.refl _ _, fun k hk => .inl hk⟩
    · replace hc : 2 < c := by omega
      clear h hpv
      go_enter Try.func75, Try.ntmps75
      go_wp2_with fail
      go_ret2
      exact ⟨rfl, _, ⟨bg, bi, v, o, H.out, rfl⟩, But.refl _ _, fun k hk => .inl hk⟩
  | true =>
    have HC := Lib.hid hc
    rw [clsB_iff] at hc
    obtain ⟨a, cap, hv, hcap1, hcap2, cp⟩ := h.cellP
    have HV := Lib.hid hv
    have hsm := h.small.2
    have HPV := Lib.hid hpv
    have hcl := fun (x : Int) w => Conf.ref_class r.s x w
    unfold Conf.sh at hcl
    have HCL := Lib.hid hcl
    clear h hv hpv hcl
    go_enter Try.func75, Try.ntmps75
    go_wp2_with fail
    go_loopg [6] (r.p.length + 1) (fun z i1 wr => ∃ (k : Nat), k + 1 = z ∧ k ≤ r.p.length ∧ i1 = .int .i64 ((k : Int) - 1) ∧ lastTo r c r.p.length = lastTo r c k ∧ But (fun _ => False) w wr)
    case atStart => exact ⟨r.p.length, by omega, by omega, rfl, rfl, But.refl _ _⟩
    case round =>
      obtain ⟨k, hk, hkl, rfl, hlast, hB⟩ := hrel
      have Hr := Lib.hid (H.out.but hB (fun _ q _ => q))
      have HL := Lib.hid hlast
      clear cp hlast
      have cp : wr.cell? ⟨b, 7, none⟩ = some (.slice a r.p.length cap) := by rw [Hr.out.blk.cell, ← HV.out]; rfl
      by_cases h0 : k = 0
      · subst h0
        have E := Lib.hid (takeR_none HC.out HL.out)
        go_wp2_with fail
        go_ret2
        rw [E.out]
        exact ⟨rfl, _, ⟨bg, bi, v, o, Hr.out, rfl⟩, hB.mono (fun k hk => hk.elim), fun k hk => .inl hk⟩
      · obtain ⟨k, rfl⟩ : ∃ m, k = m + 1 := ⟨k - 1, by omega⟩
        have hk1 : (((k + 1 : Nat) : Int) - 1) = k := by omega
        rw [hk1]
        have hki : (k : Int) < r.p.length := by omega
        obtain ⟨b1, off, cap1, hv1, ho1, hlt1, hcap3, hc1, hf1⟩ := Hr.out.row.cells (by omega)
        have e1 : a = some ⟨b1, off, none⟩ ∧ cap = cap1 := by have := HV.out.symm.trans hv1; simp at this; exact ⟨this.1, this.2⟩
        obtain ⟨rfl, rfl⟩ := e1
        have ck : wr.cell? ⟨b1, off + k, none⟩ = some (.int .i64 (rtop r k)) := by
          rw [hc1 k (by omega), ints_get, List.getElem?_eq_getElem (by omega)]
          unfold rtop
          simp [show k < r.p.length by omega]
        have hpk := HPV.out k (by omega)
        obtain ⟨x, hx⟩ : ∃ x : Nat, rtop r k = x := ⟨(rtop r k).toNat, by omega⟩
        have HX := Lib.hid hx
        rw [hx] at ck hpk
        clear hx hc1 hk1
        have b0 : wr.cell? ⟨b, 0, none⟩ = some (.int .i64 r.s.c0) := Hr.out.blk.cell 0
        have b1' : wr.cell? ⟨b, 1, none⟩ = some (.int .i64 r.s.c1) := Hr.out.blk.cell 1
        have b2 : wr.cell? ⟨b, 2, none⟩ = some (.int .i64 r.s.c2) := Hr.out.blk.cell 2
        have b3 : wr.cell? ⟨b, 3, none⟩ = some (.int .i64 r.s.q) := Hr.out.blk.cell 3
        have b4 : wr.cell? ⟨b, 4, none⟩ = some (.int .i64 r.s.st) := Hr.out.blk.cell 4
        by_cases hcc : (Conf.find r.s (x : Int)).1 = c
        · have E := Lib.hid (takeR_at HC.out (show lastTo r c r.p.length = some k by rw [HL.out]; unfold lastTo; rw [HX.out, if_pos hcc]))
          have hcb : ((Conf.find r.s (x : Int)).1 == c) = true := by simpa using hcc
          clear hcc
          go_wp2_with fail
          refine (HCL.out x _).mono ?_
          rintro e w2 ⟨rfl, g2⟩
          have B2 := hB.trans g2
          have H2 := Lib.hid (Hr.out.but g2 (fun _ q _ => q))
          have HG2 := Lib.hid B2
          have hd1 := ho1
          clear cp ck b0 b1' b2 b3 b4 g2 B2
          have cp : w2.cell? ⟨b, 7, none⟩ = some (.slice (some ⟨b1, off, none⟩) r.p.length cap) := by rw [H2.out.blk.cell, ← HV.out]; rfl
          have HO1 := Lib.hid ho1
          clear ho1 hd1 hv1
          go_wp2_with fail
          have hrow2 : Row w2 3 1 (.slice (some ⟨b1, off, none⟩) r.p.length cap) o r.p.length (ints r.p) := by rw [← HV.out]; exact H2.out.row
          have HS0 := Lib.hid (row_src hrow2)
          have hsrc1 : ∀ j u, (ints (r.p.take k))[j]? = some u → (w2.alloc (.cells #[] 3)).drew.cell? ((⟨b1, off, none⟩ : Addr).add j) = some u := fun j u hj => by
            have e := HS0.out j u (by
              rw [ints_get] at hj ⊢
              rw [List.getElem?_take] at hj
              split at hj
              · exact hj
              · cases hj)
            rw [← e, Addr.add_lit]
            exact World.cell?_of_block (w := w2) (((But.refl (fun _ => False) w2).alloc (.cells #[] 3)).drew.block b1 (hrow2.lt HO1.out) (fun q => q))
          have HS1 := Lib.hid hsrc1
          have hcap4 : ∀ w4, But (fun _ => False) w2 w4 → w4.cell? ⟨b, 7, none⟩ = some (.slice (some ⟨b1, off, none⟩) r.p.length cap) := fun w4 hB => by
            rw [(H2.out.blk.but hB (fun q => q)).cell, ← HV.out]; rfl
          have HCP := Lib.hid hcap4
          have HR2 := Lib.hid hrow2
          have hbi := H2.out.is.lt
          have hbb := H2.out.blk.lt
          clear hsrc1 hcap4 hrow2
          have fp := H2.out.blk.frozen 7
          have hkc : (k : Int) ≤ cap := by omega
          have hk0 : (0 : Int) ≤ k := by omega
          have hwn : ((k : Int) + 1).toNat = k + 1 := by omega
          have hw0 : (0 : Int) ≤ (k : Int) + 1 := by omega
          have hk1l : (k : Int) + 1 ≤ r.p.length := by omega
          have hwr : IntKind.i64.wrap ((k : Int) + 1) = (k : Int) + 1 := IntWalk.i64_in _ (by omega)
          obtain ⟨oq, hoq, hoq2⟩ : ∃ oq, (if cap = k + 1 then (some ⟨b1, off, none⟩ : Option Addr) else some ⟨b1, off + (k + 1), none⟩) = some ⟨b1, oq, none⟩ ∧ (oq = off + (k + 1) ∨ r.p.length ≤ k + 1) := by
            by_cases hce : cap = k + 1
            · rw [if_pos hce]; exact ⟨off, rfl, .inr (by omega)⟩
            · rw [if_neg hce]; exact ⟨_, rfl, .inl rfl⟩
          have hsrc2 : ∀ w4, But (fun _ => False) w2 w4 → ∀ j u, (ints (r.p.drop (k + 1)))[j]? = some u → w4.cell? ((⟨b1, oq, none⟩ : Addr).add j) = some u := fun w4 hB j u hj => by
            rcases hoq2 with rfl | q
            · have e := HS0.out (k + 1 + j) u (by
                rw [ints_get] at hj ⊢
                rw [List.getElem?_drop] at hj
                exact hj)
              rw [Addr.add_lit] at e ⊢
              rw [← e, Nat.add_assoc]
              exact World.cell?_of_block (w := w2) (hB.block b1 (HR2.out.lt HO1.out) (fun q => q))
            · have : r.p.drop (k + 1) = [] := List.drop_of_length_le q
              rw [this] at hj; simp [ints] at hj
          have HS2 := Lib.hid hsrc2
          clear hsrc2 hoq2
          refine wp_region_any (by kernel_rfl) ?_
          change wpAny _ _ _ _ _ _ _ (World.drew _)
          refine wpAny_take (i := 0) (oi := ⟨some 39, _, _, _, _, _⟩) (v := ?_) rfl (by kernel_rfl) (by kernel_rfl) (by kernel_rfl) (fun _ _ _ h => h) (Or.inl ⟨by rfl, ?_⟩) ?_
          rotate_left
          · intro w
            go_simp
            try with_reducible rfl
          simp only [Act.put, List.setIfInBounds_toArray, List.set_cons_zero, List.set_cons_succ]
          refine wpAny_take (i := 2) (oi := ⟨some 41, _, _, _, _, _⟩) (v := ?_) rfl (by kernel_rfl) (by kernel_rfl) (by kernel_rfl) (fun _ _ _ h => h) (Or.inl ⟨by rfl, ?_⟩) ?_
          rotate_left
          · intro w
            go_simp
            try with_reducible rfl
          simp only [Act.put, List.setIfInBounds_toArray, List.set_cons_zero, List.set_cons_succ]
          refine wpAny_take (i := 3) (oi := ⟨some 42, _, _, _, _, _⟩) (v := ?_) rfl (by kernel_rfl) (by kernel_rfl) (by kernel_rfl) (fun _ _ _ h => h) (Or.inl ⟨by rfl, ?_⟩) ?_
          rotate_left
          · intro w
            go_simp
            try with_reducible rfl
          simp only [Act.put, List.setIfInBounds_toArray, List.set_cons_zero, List.set_cons_succ]
          refine wpAny_take (i := 4) (oi := ⟨some 43, _, _, _, _, _⟩) (v := ?_) rfl (by kernel_rfl) (by kernel_rfl) (by kernel_rfl) (fun _ _ _ h => h) (Or.inl ⟨by rfl, ?_⟩) ?_
          rotate_left
          · intro w
            go_simp
            try with_reducible rfl
          simp only [Act.put, List.setIfInBounds_toArray, List.set_cons_zero, List.set_cons_succ]
          refine wpAny_take (i := 6) (oi := ⟨some 45, _, _, _, _, _⟩) (v := ?_) rfl (by kernel_rfl) (by kernel_rfl) (by kernel_rfl) (fun _ _ _ h => h) (Or.inl ⟨by rfl, ?_⟩) ?_
          rotate_left
          · intro w
            go_simp
            try with_reducible rfl
          simp only [Act.put, List.setIfInBounds_toArray, List.set_cons_zero, List.set_cons_succ]
          refine wpAny_take (i := 9) (oi := ⟨some 48, _, _, _, _, _⟩) (v := ?_) rfl (by kernel_rfl) (by kernel_rfl) (by kernel_rfl) (fun _ _ _ h => h) (Or.inl ⟨by rfl, ?_⟩) ?_
          rotate_left
          · intro w
            go_simp
            try with_reducible rfl
          simp only [Act.put, List.setIfInBounds_toArray, List.set_cons_zero, List.set_cons_succ]
          refine wpAny_take (i := 10) (oi := ⟨some 49, _, _, _, _, _⟩) (v := ?_) rfl (by kernel_rfl) (by kernel_rfl) (by kernel_rfl) (fun _ _ _ h => h) (Or.inl ⟨by rfl, ?_⟩) ?_
          rotate_left
          · intro w
            go_simp
            try with_reducible rfl
          simp only [Act.put, List.setIfInBounds_toArray, List.set_cons_zero, List.set_cons_succ]
          refine wpAny_take (i := 11) (oi := ⟨some 50, _, _, _, _, _⟩) (v := ?_) rfl (by kernel_rfl) (by kernel_rfl) (by kernel_rfl) (fun _ _ _ h => h) (Or.inl ⟨by rfl, ?_⟩) ?_
          rotate_left
          · intro w
            go_simp
            try with_reducible rfl
          simp only [Act.put, List.setIfInBounds_toArray, List.set_cons_zero, List.set_cons_succ]
          refine wpAny_take (i := 13) (oi := ⟨some 52, _, _, _, _, _⟩) (v := ?_) rfl (by kernel_rfl) (by kernel_rfl) (by kernel_rfl) (fun _ _ _ h => h) (Or.inl ⟨by rfl, ?_⟩) ?_
          rotate_left
          · intro w
            go_simp
            try with_reducible rfl
          simp only [Act.put, List.setIfInBounds_toArray, List.set_cons_zero, List.set_cons_succ]
          refine wpAny_take (i := 14) (oi := ⟨some 53, _, _, _, _, _⟩) (v := ?_) rfl (by kernel_rfl) (by kernel_rfl) (by kernel_rfl) (fun _ _ _ h => h) (Or.inl ⟨by rfl, ?_⟩) ?_
          rotate_left
          · intro w
            go_simp
            try with_reducible rfl
          simp only [Act.put, List.setIfInBounds_toArray, List.set_cons_zero, List.set_cons_succ]
          refine wpAny_ready (rs := [1, 5, 12]) (by kernel_rfl) (by simp) ?_
          refine AllReady.cons rfl (fun K hK => ?_) (AllReady.cons rfl (fun K hK => ?_) (AllReady.cons rfl (fun K hK => ?_) AllReady.nil))
          · go_simp
            refine hK _ _ ?_
            clear hK K
            refine wpAny_ready (rs := [5, 12]) (by kernel_rfl) (by simp) ?_
            refine AllReady.cons rfl (fun K hK => ?_) (AllReady.cons rfl (fun K hK => ?_) AllReady.nil)
            · go_simp
              refine hK _ _ ?_
              clear hK K
              refine wpAny_take (i := 7) (oi := ⟨some 46, _, _, _, _, _⟩) (v := ?_) rfl (by kernel_rfl) (by kernel_rfl) (by kernel_rfl) (fun _ _ _ h => h) (Or.inl ⟨by rfl, ?_⟩) ?_
              rotate_left
              · intro w
                go_simp
                try with_reducible rfl
              simp only [Act.put, List.setIfInBounds_toArray, List.set_cons_zero, List.set_cons_succ]
              refine wpAny_ready (rs := [8, 12]) (by kernel_rfl) (by simp) ?_
              refine AllReady.cons rfl (fun K hK => ?_) (AllReady.cons rfl (fun K hK => ?_) AllReady.nil)
              · refine step_append_row (o := ⟨some 47, _, _, _, _, _⟩) (by rfl) _ _ _ rfl 3 i0 (.int .i64 0) 1 8 Try.underlying51 hi hz0 hz1 hz2 rfl (by decide) _ (some w2.heap.size) 0 [] ((Row.new w2 3 1 0 [] rfl (Nat.zero_le _)).drew) rfl ⟨b1, off, none⟩ _ _ (ints (r.p.take k)) rfl (by rw [ints_length, List.length_take]; omega) HS1.out oneCell_ints (by unfold maxLen; omega) (by omega) ?_
                intro v3 w4 o3 hR3 hB3 hN3
                rw [Nat.zero_add, List.nil_append] at hR3
                obtain ⟨a3, cap3', rfl, h31, h32⟩ := hR3.val
                have HR3 := Lib.hid hR3
                have HB4 := Lib.hid ((((But.refl (fun _ => False) w2).alloc (.cells #[] 3)).drew).trans' hB3 (fun z hz => .inr (by simp at hz; omega)))
                have HN3 := Lib.hid (show ∀ z, o3 = some z → w2.heap.size ≤ z from fun z hz => by rcases hN3 z hz with q | q; (simp at q; omega); (simp at q; omega))
                have cp4 := HCP.out _ HB4.out
                clear hR3 hB3 hN3
                refine hK _ _ ?_
                clear hK K
                simp only [Act.put, List.setIfInBounds_toArray, List.set_cons_zero, List.set_cons_succ]
                refine wpAny_ready (rs := [12]) (by kernel_rfl) (by simp) ?_
                refine AllReady.cons rfl (fun K hK => ?_) AllReady.nil
                go_simp
                refine hK _ _ ?_
                clear hK K
                refine wpAny_take (i := 15) (oi := ⟨some 54, _, _, _, _, _⟩) (v := ?_) rfl (by kernel_rfl) (by kernel_rfl) (by kernel_rfl) (fun _ _ _ h => h) (Or.inl ⟨by rfl, ?_⟩) ?_
                rotate_left
                · intro w
                  go_simp
                  try with_reducible rfl
                simp only [Act.put, List.setIfInBounds_toArray, List.set_cons_zero, List.set_cons_succ]
                refine wpAny_ready (rs := [16]) (by kernel_rfl) (by simp) ?_
                refine AllReady.cons rfl (fun K hK => ?_) AllReady.nil
                refine step_append_row (o := ⟨some 55, _, _, _, _, _⟩) (by rfl) _ _ _ rfl 3 i0 (.int .i64 0) 1 8 Try.underlying51 hi hz0 hz1 hz2 rfl (by decide) _ o3 k (ints (r.p.take k)) HR3.out rfl ⟨b1, oq, none⟩ _ _ (ints (r.p.drop (k + 1))) rfl (by rw [ints_length, List.length_drop]) (HS2.out _ HB4.out) oneCell_ints (by unfold maxLen; omega) (by omega) ?_
                intro v5 w5 o5 hR5 hB5 hN5
                obtain ⟨a5, cap5, rfl, h51, h52⟩ := hR5.val
                have HR5 := Lib.hid hR5
                have HB6 := Lib.hid (HB4.out.trans' (hB5) (fun z hz => .inr (HN3.out z hz)))
                have HN5 := Lib.hid (show ∀ z, o5 = some z → w2.heap.size ≤ z from fun z hz => by rcases hN5 z hz with q | q; exact HN3.out z q; have := HB4.out.size; omega)
                have cp5 := HCP.out _ HB6.out
                have fp5 := (H2.out.blk.but HB6.out (fun q => q)).frozen 7
                clear hR5 hB5 hN5 hoq
                refine hK _ _ ?_
                clear hK K
                simp only [Act.put, List.setIfInBounds_toArray, List.set_cons_zero, List.set_cons_succ]
                refine wpAny_take (i := 17) (oi := ⟨some 56, _, _, _, _, _⟩) (v := ?_) rfl (by kernel_rfl) (by kernel_rfl) (by kernel_rfl) (fun _ _ _ h => h) (Or.inl ⟨by rfl, ?_⟩) ?_
                rotate_left
                · intro w
                  go_simp
                  try with_reducible rfl
                simp only [Act.put, List.setIfInBounds_toArray, List.set_cons_zero, List.set_cons_succ]
                refine wpAny_take (i := 18) (oi := ⟨some 57, _, _, _, _, _⟩) (v := ?_) rfl (by kernel_rfl) (by kernel_rfl) (by kernel_rfl) (fun _ _ _ h => h) (Or.inl ⟨by rfl, ?_⟩) ?_
                rotate_left
                · intro w
                  go_simp
                  try with_reducible rfl
                simp only [Act.put, List.setIfInBounds_toArray, List.set_cons_zero, List.set_cons_succ]
                refine wpAny_ready (rs := [19]) (by kernel_rfl) (by simp) ?_
                refine AllReady.cons rfl (fun K hK => ?_) AllReady.nil
                go_simp
                refine hK _ _ ?_
                clear hK K
                refine wpAny_done (by kernel_rfl) ?_ _
                obtain ⟨n6, hn6⟩ : ∃ n6, k + (r.p.length - (k + 1)) = n6 := ⟨_, rfl⟩
                have hlen6 : (r.p.eraseIdx k).length = n6 := by rw [List.length_eraseIdx]; split <;> omega
                have hR6 : Row w5 3 1 (.slice a5 n6 cap5) o5 (r.p.eraseIdx k).length (ints (r.p.eraseIdx k)) := by
                  have e := HR5.out
                  rw [ints_app, ← List.eraseIdx_eq_take_drop_succ, hn6] at e
                  rw [hlen6]; exact e
                rw [hn6]
                have h6 := H2.out.newP (r.p.eraseIdx k) _ o5 (by omega) hR6 (HB6.out.mono (fun k hk => hk.elim)) (fun z hz => .inr (HN5.out z hz))
                obtain ⟨w6, hw6⟩ : ∃ w6, w6 = w5.setCell ⟨b, 7, none⟩ (.slice a5 n6 cap5) := ⟨_, rfl⟩
                have g6 : But (fun k => k = b) w2 w6 := by rw [hw6]; exact (HB6.out.mono (fun k hk => hk.elim)).setCell (by exact .inl rfl) _
                rw [← hw6] at h6 ⊢
                have H6 := Lib.hid h6
                have HG6 := Lib.hid g6
                have c6 : w6.cell? ⟨b, 6, none⟩ = some (.slice (some ⟨bi, 0, none⟩) (rn r) (rn r)) := h6.cellI
                have hxr : x < rn r := by omega
                have cx6 : w6.cell? ⟨bi, x, none⟩ = some (.int .i64 (ris r x)) := h6.isc (x := x) hxr
                have fx6 := h6.is.frozen x
                clear h6 g6 hw6 hlen6 hn6 hR6 cp5 fp5
                go_wp2_with fail
                go_ret2
                rw [E.out]
                refine ⟨by rw [HX.out]; rfl, rfoot b bg bi o5, ⟨bg, bi, .slice a5 n6 cap5, o5, ?_, rfl⟩, ?_, ?_⟩
                · have e := H6.out.setI x 1
                  show Ro _ b bg bi _ o5 { r with p := r.p.eraseIdx k, i := r.i.set (rtop r k).toNat 1 }
                  rw [HX.out, Int.toNat_natCast]
                  exact e
                · exact ((HG2.out.mono (T := rfoot b bg bi o) (fun k hk => hk.elim)).trans' HG6.out (fun k hk => .inl (.inl hk))).setCell (by exact .inl (.inr (.inr (.inl rfl)))) _
                · have s2 := HG2.out.size
                  rintro z (rfl | rfl | rfl | e)
                  · exact .inl (.inl rfl)
                  · exact .inl (.inr (.inl rfl))
                  · exact .inl (.inr (.inr (.inl rfl)))
                  · have := HN5.out z e; exact .inr (by omega)
              · go_simp
                refine hK _ _ ?_
                clear hK K
                refine wpAny_take (i := 15) (oi := ⟨some 54, _, _, _, _, _⟩) (v := ?_) rfl (by kernel_rfl) (by kernel_rfl) (by kernel_rfl) (fun _ _ _ h => h) (Or.inl ⟨by rfl, ?_⟩) ?_
                rotate_left
                · intro w
                  go_simp
                  try with_reducible rfl
                simp only [Act.put, List.setIfInBounds_toArray, List.set_cons_zero, List.set_cons_succ]
                refine wpAny_ready (rs := [8]) (by kernel_rfl) (by simp) ?_
                refine AllReady.cons rfl (fun K hK => ?_) AllReady.nil
                refine step_append_row (o := ⟨some 47, _, _, _, _, _⟩) (by rfl) _ _ _ rfl 3 i0 (.int .i64 0) 1 8 Try.underlying51 hi hz0 hz1 hz2 rfl (by decide) _ (some w2.heap.size) 0 [] ((Row.new w2 3 1 0 [] rfl (Nat.zero_le _)).drew) rfl ⟨b1, off, none⟩ _ _ (ints (r.p.take k)) rfl (by rw [ints_length, List.length_take]; omega) HS1.out oneCell_ints (by unfold maxLen; omega) (by omega) ?_
                intro v3 w4 o3 hR3 hB3 hN3
                rw [Nat.zero_add, List.nil_append] at hR3
                obtain ⟨a3, cap3', rfl, h31, h32⟩ := hR3.val
                have HR3 := Lib.hid hR3
                have HB4 := Lib.hid ((((But.refl (fun _ => False) w2).alloc (.cells #[] 3)).drew).trans' hB3 (fun z hz => .inr (by simp at hz; omega)))
                have HN3 := Lib.hid (show ∀ z, o3 = some z → w2.heap.size ≤ z from fun z hz => by rcases hN3 z hz with q | q; (simp at q; omega); (simp at q; omega))
                have cp4 := HCP.out _ HB4.out
                clear hR3 hB3 hN3
                refine hK _ _ ?_
                clear hK K
                simp only [Act.put, List.setIfInBounds_toArray, List.set_cons_zero, List.set_cons_succ]
                refine wpAny_ready (rs := [16]) (by kernel_rfl) (by simp) ?_
                refine AllReady.cons rfl (fun K hK => ?_) AllReady.nil
                refine step_append_row (o := ⟨some 55, _, _, _, _, _⟩) (by rfl) _ _ _ rfl 3 i0 (.int .i64 0) 1 8 Try.underlying51 hi hz0 hz1 hz2 rfl (by decide) _ o3 k (ints (r.p.take k)) HR3.out rfl ⟨b1, oq, none⟩ _ _ (ints (r.p.drop (k + 1))) rfl (by rw [ints_length, List.length_drop]) (HS2.out _ HB4.out) oneCell_ints (by unfold maxLen; omega) (by omega) ?_
                intro v5 w5 o5 hR5 hB5 hN5
                obtain ⟨a5, cap5, rfl, h51, h52⟩ := hR5.val
                have HR5 := Lib.hid hR5
                have HB6 := Lib.hid (HB4.out.trans' (hB5) (fun z hz => .inr (HN3.out z hz)))
                have HN5 := Lib.hid (show ∀ z, o5 = some z → w2.heap.size ≤ z from fun z hz => by rcases hN5 z hz with q | q; exact HN3.out z q; have := HB4.out.size; omega)
                have cp5 := HCP.out _ HB6.out
                have fp5 := (H2.out.blk.but HB6.out (fun q => q)).frozen 7
                clear hR5 hB5 hN5 hoq
                refine hK _ _ ?_
                clear hK K
                simp only [Act.put, List.setIfInBounds_toArray, List.set_cons_zero, List.set_cons_succ]
                refine wpAny_take (i := 17) (oi := ⟨some 56, _, _, _, _, _⟩) (v := ?_) rfl (by kernel_rfl) (by kernel_rfl) (by kernel_rfl) (fun _ _ _ h => h) (Or.inl ⟨by rfl, ?_⟩) ?_
                rotate_left
                · intro w
                  go_simp
                  try with_reducible rfl
                simp only [Act.put, List.setIfInBounds_toArray, List.set_cons_zero, List.set_cons_succ]
                refine wpAny_take (i := 18) (oi := ⟨some 57, _, _, _, _, _⟩) (v := ?_) rfl (by kernel_rfl) (by kernel_rfl) (by kernel_rfl) (fun _ _ _ h => h) (Or.inl ⟨by rfl, ?_⟩) ?_
                rotate_left
                · intro w
                  go_simp
                  try with_reducible rfl
                simp only [Act.put, List.setIfInBounds_toArray, List.set_cons_zero, List.set_cons_succ]
                refine wpAny_ready (rs := [19]) (by kernel_rfl) (by simp) ?_
                refine AllReady.cons rfl (fun K hK => ?_) AllReady.nil
                go_simp
                refine hK _ _ ?_
                clear hK K
                refine wpAny_done (by kernel_rfl) ?_ _
                obtain ⟨n6, hn6⟩ : ∃ n6, k + (r.p.length - (k + 1)) = n6 := ⟨_, rfl⟩
                have hlen6 : (r.p.eraseIdx k).length = n6 := by rw [List.length_eraseIdx]; split <;> omega
                have hR6 : Row w5 3 1 (.slice a5 n6 cap5) o5 (r.p.eraseIdx k).length (ints (r.p.eraseIdx k)) := by
                  have e := HR5.out
                  rw [ints_app, ← List.eraseIdx_eq_take_drop_succ, hn6] at e
                  rw [hlen6]; exact e
                rw [hn6]
                have h6 := H2.out.newP (r.p.eraseIdx k) _ o5 (by omega) hR6 (HB6.out.mono (fun k hk => hk.elim)) (fun z hz => .inr (HN5.out z hz))
                obtain ⟨w6, hw6⟩ : ∃ w6, w6 = w5.setCell ⟨b, 7, none⟩ (.slice a5 n6 cap5) := ⟨_, rfl⟩
                have g6 : But (fun k => k = b) w2 w6 := by rw [hw6]; exact (HB6.out.mono (fun k hk => hk.elim)).setCell (by exact .inl rfl) _
                rw [← hw6] at h6 ⊢
                have H6 := Lib.hid h6
                have HG6 := Lib.hid g6
                have c6 : w6.cell? ⟨b, 6, none⟩ = some (.slice (some ⟨bi, 0, none⟩) (rn r) (rn r)) := h6.cellI
                have hxr : x < rn r := by omega
                have cx6 : w6.cell? ⟨bi, x, none⟩ = some (.int .i64 (ris r x)) := h6.isc (x := x) hxr
                have fx6 := h6.is.frozen x
                clear h6 g6 hw6 hlen6 hn6 hR6 cp5 fp5
                go_wp2_with fail
                go_ret2
                rw [E.out]
                refine ⟨by rw [HX.out]; rfl, rfoot b bg bi o5, ⟨bg, bi, .slice a5 n6 cap5, o5, ?_, rfl⟩, ?_, ?_⟩
                · have e := H6.out.setI x 1
                  show Ro _ b bg bi _ o5 { r with p := r.p.eraseIdx k, i := r.i.set (rtop r k).toNat 1 }
                  rw [HX.out, Int.toNat_natCast]
                  exact e
                · exact ((HG2.out.mono (T := rfoot b bg bi o) (fun k hk => hk.elim)).trans' HG6.out (fun k hk => .inl (.inl hk))).setCell (by exact .inl (.inr (.inr (.inl rfl)))) _
                · have s2 := HG2.out.size
                  rintro z (rfl | rfl | rfl | e)
                  · exact .inl (.inl rfl)
                  · exact .inl (.inr (.inl rfl))
                  · exact .inl (.inr (.inr (.inl rfl)))
                  · have := HN5.out z e; exact .inr (by omega)
            · go_simp
              refine hK _ _ ?_
              clear hK K
              refine wpAny_take (i := 15) (oi := ⟨some 54, _, _, _, _, _⟩) (v := ?_) rfl (by kernel_rfl) (by kernel_rfl) (by kernel_rfl) (fun _ _ _ h => h) (Or.inl ⟨by rfl, ?_⟩) ?_
              rotate_left
              · intro w
                go_simp
                try with_reducible rfl
              simp only [Act.put, List.setIfInBounds_toArray, List.set_cons_zero, List.set_cons_succ]
              refine wpAny_ready (rs := [5]) (by kernel_rfl) (by simp) ?_
              refine AllReady.cons rfl (fun K hK => ?_) AllReady.nil
              go_simp
              refine hK _ _ ?_
              clear hK K
              refine wpAny_take (i := 7) (oi := ⟨some 46, _, _, _, _, _⟩) (v := ?_) rfl (by kernel_rfl) (by kernel_rfl) (by kernel_rfl) (fun _ _ _ h => h) (Or.inl ⟨by rfl, ?_⟩) ?_
              rotate_left
              · intro w
                go_simp
                try with_reducible rfl
              simp only [Act.put, List.setIfInBounds_toArray, List.set_cons_zero, List.set_cons_succ]
              refine wpAny_ready (rs := [8]) (by kernel_rfl) (by simp) ?_
              refine AllReady.cons rfl (fun K hK => ?_) AllReady.nil
              refine step_append_row (o := ⟨some 47, _, _, _, _, _⟩) (by rfl) _ _ _ rfl 3 i0 (.int .i64 0) 1 8 Try.underlying51 hi hz0 hz1 hz2 rfl (by decide) _ (some w2.heap.size) 0 [] ((Row.new w2 3 1 0 [] rfl (Nat.zero_le _)).drew) rfl ⟨b1, off, none⟩ _ _ (ints (r.p.take k)) rfl (by rw [ints_length, List.length_take]; omega) HS1.out oneCell_ints (by unfold maxLen; omega) (by omega) ?_
              intro v3 w4 o3 hR3 hB3 hN3
              rw [Nat.zero_add, List.nil_append] at hR3
              obtain ⟨a3, cap3', rfl, h31, h32⟩ := hR3.val
              have HR3 := Lib.hid hR3
              have HB4 := Lib.hid ((((But.refl (fun _ => False) w2).alloc (.cells #[] 3)).drew).trans' hB3 (fun z hz => .inr (by simp at hz; omega)))
              have HN3 := Lib.hid (show ∀ z, o3 = some z → w2.heap.size ≤ z from fun z hz => by rcases hN3 z hz with q | q; (simp at q; omega); (simp at q; omega))
              have cp4 := HCP.out _ HB4.out
              clear hR3 hB3 hN3
              refine hK _ _ ?_
              clear hK K
              simp only [Act.put, List.setIfInBounds_toArray, List.set_cons_zero, List.set_cons_succ]
              refine wpAny_ready (rs := [16]) (by kernel_rfl) (by simp) ?_
              refine AllReady.cons rfl (fun K hK => ?_) AllReady.nil
              refine step_append_row (o := ⟨some 55, _, _, _, _, _⟩) (by rfl) _ _ _ rfl 3 i0 (.int .i64 0) 1 8 Try.underlying51 hi hz0 hz1 hz2 rfl (by decide) _ o3 k (ints (r.p.take k)) HR3.out rfl ⟨b1, oq, none⟩ _ _ (ints (r.p.drop (k + 1))) rfl (by rw [ints_length, List.length_drop]) (HS2.out _ HB4.out) oneCell_ints (by unfold maxLen; omega) (by omega) ?_
              intro v5 w5 o5 hR5 hB5 hN5
              obtain ⟨a5, cap5, rfl, h51, h52⟩ := hR5.val
              have HR5 := Lib.hid hR5
              have HB6 := Lib.hid (HB4.out.trans' (hB5) (fun z hz => .inr (HN3.out z hz)))
              have HN5 := Lib.hid (show ∀ z, o5 = some z → w2.heap.size ≤ z from fun z hz => by rcases hN5 z hz with q | q; exact HN3.out z q; have := HB4.out.size; omega)
              have cp5 := HCP.out _ HB6.out
              have fp5 := (H2.out.blk.but HB6.out (fun q => q)).frozen 7
              clear hR5 hB5 hN5 hoq
              refine hK _ _ ?_
              clear hK K
              simp only [Act.put, List.setIfInBounds_toArray, List.set_cons_zero, List.set_cons_succ]
              refine wpAny_take (i := 17) (oi := ⟨some 56, _, _, _, _, _⟩) (v := ?_) rfl (by kernel_rfl) (by kernel_rfl) (by kernel_rfl) (fun _ _ _ h => h) (Or.inl ⟨by rfl, ?_⟩) ?_
              rotate_left
              · intro w
                go_simp
                try with_reducible rfl
              simp only [Act.put, List.setIfInBounds_toArray, List.set_cons_zero, List.set_cons_succ]
              refine wpAny_take (i := 18) (oi := ⟨some 57, _, _, _, _, _⟩) (v := ?_) rfl (by kernel_rfl) (by kernel_rfl) (by kernel_rfl) (fun _ _ _ h => h) (Or.inl ⟨by rfl, ?_⟩) ?_
              rotate_left
              · intro w
                go_simp
                try with_reducible rfl
              simp only [Act.put, List.setIfInBounds_toArray, List.set_cons_zero, List.set_cons_succ]
              refine wpAny_ready (rs := [19]) (by kernel_rfl) (by simp) ?_
              refine AllReady.cons rfl (fun K hK => ?_) AllReady.nil
              go_simp
              refine hK _ _ ?_
              clear hK K
              refine wpAny_done (by kernel_rfl) ?_ _
              obtain ⟨n6, hn6⟩ : ∃ n6, k + (r.p.length - (k + 1)) = n6 := ⟨_, rfl⟩
              have hlen6 : (r.p.eraseIdx k).length = n6 := by rw [List.length_eraseIdx]; split <;> omega
              have hR6 : Row w5 3 1 (.slice a5 n6 cap5) o5 (r.p.eraseIdx k).length (ints (r.p.eraseIdx k)) := by
                have e := HR5.out
                rw [ints_app, ← List.eraseIdx_eq_take_drop_succ, hn6] at e
                rw [hlen6]; exact e
              rw [hn6]
              have h6 := H2.out.newP (r.p.eraseIdx k) _ o5 (by omega) hR6 (HB6.out.mono (fun k hk => hk.elim)) (fun z hz => .inr (HN5.out z hz))
              obtain ⟨w6, hw6⟩ : ∃ w6, w6 = w5.setCell ⟨b, 7, none⟩ (.slice a5 n6 cap5) := ⟨_, rfl⟩
              have g6 : But (fun k => k = b) w2 w6 := by rw [hw6]; exact (HB6.out.mono (fun k hk => hk.elim)).setCell (by exact .inl rfl) _
              rw [← hw6] at h6 ⊢
              have H6 := Lib.hid h6
              have HG6 := Lib.hid g6
              have c6 : w6.cell? ⟨b, 6, none⟩ = some (.slice (some ⟨bi, 0, none⟩) (rn r) (rn r)) := h6.cellI
              have hxr : x < rn r := by omega
              have cx6 : w6.cell? ⟨bi, x, none⟩ = some (.int .i64 (ris r x)) := h6.isc (x := x) hxr
              have fx6 := h6.is.frozen x
              clear h6 g6 hw6 hlen6 hn6 hR6 cp5 fp5
              go_wp2_with fail
              go_ret2
              rw [E.out]
              refine ⟨by rw [HX.out]; rfl, rfoot b bg bi o5, ⟨bg, bi, .slice a5 n6 cap5, o5, ?_, rfl⟩, ?_, ?_⟩
              · have e := H6.out.setI x 1
                show Ro _ b bg bi _ o5 { r with p := r.p.eraseIdx k, i := r.i.set (rtop r k).toNat 1 }
                rw [HX.out, Int.toNat_natCast]
                exact e
              · exact ((HG2.out.mono (T := rfoot b bg bi o) (fun k hk => hk.elim)).trans' HG6.out (fun k hk => .inl (.inl hk))).setCell (by exact .inl (.inr (.inr (.inl rfl)))) _
              · have s2 := HG2.out.size
                rintro z (rfl | rfl | rfl | e)
                · exact .inl (.inl rfl)
                · exact .inl (.inr (.inl rfl))
                · exact .inl (.inr (.inr (.inl rfl)))
                · have := HN5.out z e; exact .inr (by omega)
          · go_simp
            refine hK _ _ ?_
            clear hK K
            refine wpAny_take (i := 7) (oi := ⟨some 46, _, _, _, _, _⟩) (v := ?_) rfl (by kernel_rfl) (by kernel_rfl) (by kernel_rfl) (fun _ _ _ h => h) (Or.inl ⟨by rfl, ?_⟩) ?_
            rotate_left
            · intro w
              go_simp
              try with_reducible rfl
            simp only [Act.put, List.setIfInBounds_toArray, List.set_cons_zero, List.set_cons_succ]
            refine wpAny_ready (rs := [1, 12]) (by kernel_rfl) (by simp) ?_
            refine AllReady.cons rfl (fun K hK => ?_) (AllReady.cons rfl (fun K hK => ?_) AllReady.nil)
            · go_simp
              refine hK _ _ ?_
              clear hK K
              refine wpAny_ready (rs := [8, 12]) (by kernel_rfl) (by simp) ?_
              refine AllReady.cons rfl (fun K hK => ?_) (AllReady.cons rfl (fun K hK => ?_) AllReady.nil)
              · refine step_append_row (o := ⟨some 47, _, _, _, _, _⟩) (by rfl) _ _ _ rfl 3 i0 (.int .i64 0) 1 8 Try.underlying51 hi hz0 hz1 hz2 rfl (by decide) _ (some w2.heap.size) 0 [] ((Row.new w2 3 1 0 [] rfl (Nat.zero_le _)).drew) rfl ⟨b1, off, none⟩ _ _ (ints (r.p.take k)) rfl (by rw [ints_length, List.length_take]; omega) HS1.out oneCell_ints (by unfold maxLen; omega) (by omega) ?_
                intro v3 w4 o3 hR3 hB3 hN3
                rw [Nat.zero_add, List.nil_append] at hR3
                obtain ⟨a3, cap3', rfl, h31, h32⟩ := hR3.val
                have HR3 := Lib.hid hR3
                have HB4 := Lib.hid ((((But.refl (fun _ => False) w2).alloc (.cells #[] 3)).drew).trans' hB3 (fun z hz => .inr (by simp at hz; omega)))
                have HN3 := Lib.hid (show ∀ z, o3 = some z → w2.heap.size ≤ z from fun z hz => by rcases hN3 z hz with q | q; (simp at q; omega); (simp at q; omega))
                have cp4 := HCP.out _ HB4.out
                clear hR3 hB3 hN3
                refine hK _ _ ?_
                clear hK K
                simp only [Act.put, List.setIfInBounds_toArray, List.set_cons_zero, List.set_cons_succ]
                refine wpAny_ready (rs := [12]) (by kernel_rfl) (by simp) ?_
                refine AllReady.cons rfl (fun K hK => ?_) AllReady.nil
                go_simp
                refine hK _ _ ?_
                clear hK K
                refine wpAny_take (i := 15) (oi := ⟨some 54, _, _, _, _, _⟩) (v := ?_) rfl (by kernel_rfl) (by kernel_rfl) (by kernel_rfl) (fun _ _ _ h => h) (Or.inl ⟨by rfl, ?_⟩) ?_
                rotate_left
                · intro w
                  go_simp
                  try with_reducible rfl
                simp only [Act.put, List.setIfInBounds_toArray, List.set_cons_zero, List.set_cons_succ]
                refine wpAny_ready (rs := [16]) (by kernel_rfl) (by simp) ?_
                refine AllReady.cons rfl (fun K hK => ?_) AllReady.nil
                refine step_append_row (o := ⟨some 55, _, _, _, _, _⟩) (by rfl) _ _ _ rfl 3 i0 (.int .i64 0) 1 8 Try.underlying51 hi hz0 hz1 hz2 rfl (by decide) _ o3 k (ints (r.p.take k)) HR3.out rfl ⟨b1, oq, none⟩ _ _ (ints (r.p.drop (k + 1))) rfl (by rw [ints_length, List.length_drop]) (HS2.out _ HB4.out) oneCell_ints (by unfold maxLen; omega) (by omega) ?_
                intro v5 w5 o5 hR5 hB5 hN5
                obtain ⟨a5, cap5, rfl, h51, h52⟩ := hR5.val
                have HR5 := Lib.hid hR5
                have HB6 := Lib.hid (HB4.out.trans' (hB5) (fun z hz => .inr (HN3.out z hz)))
                have HN5 := Lib.hid (show ∀ z, o5 = some z → w2.heap.size ≤ z from fun z hz => by rcases hN5 z hz with q | q; exact HN3.out z q; have := HB4.out.size; omega)
                have cp5 := HCP.out _ HB6.out
                have fp5 := (H2.out.blk.but HB6.out (fun q => q)).frozen 7
                clear hR5 hB5 hN5 hoq
                refine hK _ _ ?_
                clear hK K
                simp only [Act.put, List.setIfInBounds_toArray, List.set_cons_zero, List.set_cons_succ]
                refine wpAny_take (i := 17) (oi := ⟨some 56, _, _, _, _, _⟩) (v := ?_) rfl (by kernel_rfl) (by kernel_rfl) (by kernel_rfl) (fun _ _ _ h => h) (Or.inl ⟨by rfl, ?_⟩) ?_
                rotate_left
                · intro w
                  go_simp
                  try with_reducible rfl
                simp only [Act.put, List.setIfInBounds_toArray, List.set_cons_zero, List.set_cons_succ]
                refine wpAny_take (i := 18) (oi := ⟨some 57, _, _, _, _, _⟩) (v := ?_) rfl (by kernel_rfl) (by kernel_rfl) (by kernel_rfl) (fun _ _ _ h => h) (Or.inl ⟨by rfl, ?_⟩) ?_
                rotate_left
                · intro w
                  go_simp
                  try with_reducible rfl
                simp only [Act.put, List.setIfInBounds_toArray, List.set_cons_zero, List.set_cons_succ]
                refine wpAny_ready (rs := [19]) (by kernel_rfl) (by simp) ?_
                refine AllReady.cons rfl (fun K hK => ?_) AllReady.nil
                go_simp
                refine hK _ _ ?_
                clear hK K
                refine wpAny_done (by kernel_rfl) ?_ _
                obtain ⟨n6, hn6⟩ : ∃ n6, k + (r.p.length - (k + 1)) = n6 := ⟨_, rfl⟩
                have hlen6 : (r.p.eraseIdx k).length = n6 := by rw [List.length_eraseIdx]; split <;> omega
                have hR6 : Row w5 3 1 (.slice a5 n6 cap5) o5 (r.p.eraseIdx k).length (ints (r.p.eraseIdx k)) := by
                  have e := HR5.out
                  rw [ints_app, ← List.eraseIdx_eq_take_drop_succ, hn6] at e
                  rw [hlen6]; exact e
                rw [hn6]
                have h6 := H2.out.newP (r.p.eraseIdx k) _ o5 (by omega) hR6 (HB6.out.mono (fun k hk => hk.elim)) (fun z hz => .inr (HN5.out z hz))
                obtain ⟨w6, hw6⟩ : ∃ w6, w6 = w5.setCell ⟨b, 7, none⟩ (.slice a5 n6 cap5) := ⟨_, rfl⟩
                have g6 : But (fun k => k = b) w2 w6 := by rw [hw6]; exact (HB6.out.mono (fun k hk => hk.elim)).setCell (by exact .inl rfl) _
                rw [← hw6] at h6 ⊢
                have H6 := Lib.hid h6
                have HG6 := Lib.hid g6
                have c6 : w6.cell? ⟨b, 6, none⟩ = some (.slice (some ⟨bi, 0, none⟩) (rn r) (rn r)) := h6.cellI
                have hxr : x < rn r := by omega
                have cx6 : w6.cell? ⟨bi, x, none⟩ = some (.int .i64 (ris r x)) := h6.isc (x := x) hxr
                have fx6 := h6.is.frozen x
                clear h6 g6 hw6 hlen6 hn6 hR6 cp5 fp5
                go_wp2_with fail
                go_ret2
                rw [E.out]
                refine ⟨by rw [HX.out]; rfl, rfoot b bg bi o5, ⟨bg, bi, .slice a5 n6 cap5, o5, ?_, rfl⟩, ?_, ?_⟩
                · have e := H6.out.setI x 1
                  show Ro _ b bg bi _ o5 { r with p := r.p.eraseIdx k, i := r.i.set (rtop r k).toNat 1 }
                  rw [HX.out, Int.toNat_natCast]
                  exact e
                · exact ((HG2.out.mono (T := rfoot b bg bi o) (fun k hk => hk.elim)).trans' HG6.out (fun k hk => .inl (.inl hk))).setCell (by exact .inl (.inr (.inr (.inl rfl)))) _
                · have s2 := HG2.out.size
                  rintro z (rfl | rfl | rfl | e)
                  · exact .inl (.inl rfl)
                  · exact .inl (.inr (.inl rfl))
                  · exact .inl (.inr (.inr (.inl rfl)))
                  · have := HN5.out z e; exact .inr (by omega)
              · go_simp
                refine hK _ _ ?_
                clear hK K
                refine wpAny_take (i := 15) (oi := ⟨some 54, _, _, _, _, _⟩) (v := ?_) rfl (by kernel_rfl) (by kernel_rfl) (by kernel_rfl) (fun _ _ _ h => h) (Or.inl ⟨by rfl, ?_⟩) ?_
                rotate_left
                · intro w
                  go_simp
                  try with_reducible rfl
                simp only [Act.put, List.setIfInBounds_toArray, List.set_cons_zero, List.set_cons_succ]
                refine wpAny_ready (rs := [8]) (by kernel_rfl) (by simp) ?_
                refine AllReady.cons rfl (fun K hK => ?_) AllReady.nil
                refine step_append_row (o := ⟨some 47, _, _, _, _, _⟩) (by rfl) _ _ _ rfl 3 i0 (.int .i64 0) 1 8 Try.underlying51 hi hz0 hz1 hz2 rfl (by decide) _ (some w2.heap.size) 0 [] ((Row.new w2 3 1 0 [] rfl (Nat.zero_le _)).drew) rfl ⟨b1, off, none⟩ _ _ (ints (r.p.take k)) rfl (by rw [ints_length, List.length_take]; omega) HS1.out oneCell_ints (by unfold maxLen; omega) (by omega) ?_
                intro v3 w4 o3 hR3 hB3 hN3
                rw [Nat.zero_add, List.nil_append] at hR3
                obtain ⟨a3, cap3', rfl, h31, h32⟩ := hR3.val
                have HR3 := Lib.hid hR3
                have HB4 := Lib.hid ((((But.refl (fun _ => False) w2).alloc (.cells #[] 3)).drew).trans' hB3 (fun z hz => .inr (by simp at hz; omega)))
                have HN3 := Lib.hid (show ∀ z, o3 = some z → w2.heap.size ≤ z from fun z hz => by rcases hN3 z hz with q | q; (simp at q; omega); (simp at q; omega))
                have cp4 := HCP.out _ HB4.out
                clear hR3 hB3 hN3
                refine hK _ _ ?_
                clear hK K
                simp only [Act.put, List.setIfInBounds_toArray, List.set_cons_zero, List.set_cons_succ]
                refine wpAny_ready (rs := [16]) (by kernel_rfl) (by simp) ?_
                refine AllReady.cons rfl (fun K hK => ?_) AllReady.nil
                refine step_append_row (o := ⟨some 55, _, _, _, _, _⟩) (by rfl) _ _ _ rfl 3 i0 (.int .i64 0) 1 8 Try.underlying51 hi hz0 hz1 hz2 rfl (by decide) _ o3 k (ints (r.p.take k)) HR3.out rfl ⟨b1, oq, none⟩ _ _ (ints (r.p.drop (k + 1))) rfl (by rw [ints_length, List.length_drop]) (HS2.out _ HB4.out) oneCell_ints (by unfold maxLen; omega) (by omega) ?_
                intro v5 w5 o5 hR5 hB5 hN5
                obtain ⟨a5, cap5, rfl, h51, h52⟩ := hR5.val
                have HR5 := Lib.hid hR5
                have HB6 := Lib.hid (HB4.out.trans' (hB5) (fun z hz => .inr (HN3.out z hz)))
                have HN5 := Lib.hid (show ∀ z, o5 = some z → w2.heap.size ≤ z from fun z hz => by rcases hN5 z hz with q | q; exact HN3.out z q; have := HB4.out.size; omega)
                have cp5 := HCP.out _ HB6.out
                have fp5 := (H2.out.blk.but HB6.out (fun q => q)).frozen 7
                clear hR5 hB5 hN5 hoq
                refine hK _ _ ?_
                clear hK K
                simp only [Act.put, List.setIfInBounds_toArray, List.set_cons_zero, List.set_cons_succ]
                refine wpAny_take (i := 17) (oi := ⟨some 56, _, _, _, _, _⟩) (v := ?_) rfl (by kernel_rfl) (by kernel_rfl) (by kernel_rfl) (fun _ _ _ h => h) (Or.inl ⟨by rfl, ?_⟩) ?_
                rotate_left
                · intro w
                  go_simp
                  try with_reducible rfl
                simp only [Act.put, List.setIfInBounds_toArray, List.set_cons_zero, List.set_cons_succ]
                refine wpAny_take (i := 18) (oi := ⟨some 57, _, _, _, _, _⟩) (v := ?_) rfl (by kernel_rfl) (by kernel_rfl) (by kernel_rfl) (fun _ _ _ h => h) (Or.inl ⟨by rfl, ?_⟩) ?_
                rotate_left
                · intro w
                  go_simp
                  try with_reducible rfl
                simp only [Act.put, List.setIfInBounds_toArray, List.set_cons_zero, List.set_cons_succ]
                refine wpAny_ready (rs := [19]) (by kernel_rfl) (by simp) ?_
                refine AllReady.cons rfl (fun K hK => ?_) AllReady.nil
                go_simp
                refine hK _ _ ?_
                clear hK K
                refine wpAny_done (by kernel_rfl) ?_ _
                obtain ⟨n6, hn6⟩ : ∃ n6, k + (r.p.length - (k + 1)) = n6 := ⟨_, rfl⟩
                have hlen6 : (r.p.eraseIdx k).length = n6 := by rw [List.length_eraseIdx]; split <;> omega
                have hR6 : Row w5 3 1 (.slice a5 n6 cap5) o5 (r.p.eraseIdx k).length (ints (r.p.eraseIdx k)) := by
                  have e := HR5.out
                  rw [ints_app, ← List.eraseIdx_eq_take_drop_succ, hn6] at e
                  rw [hlen6]; exact e
                rw [hn6]
                have h6 := H2.out.newP (r.p.eraseIdx k) _ o5 (by omega) hR6 (HB6.out.mono (fun k hk => hk.elim)) (fun z hz => .inr (HN5.out z hz))
                obtain ⟨w6, hw6⟩ : ∃ w6, w6 = w5.setCell ⟨b, 7, none⟩ (.slice a5 n6 cap5) := ⟨_, rfl⟩
                have g6 : But (fun k => k = b) w2 w6 := by rw [hw6]; exact (HB6.out.mono (fun k hk => hk.elim)).setCell (by exact .inl rfl) _
                rw [← hw6] at h6 ⊢
                have H6 := Lib.hid h6
                have HG6 := Lib.hid g6
                have c6 : w6.cell? ⟨b, 6, none⟩ = some (.slice (some ⟨bi, 0, none⟩) (rn r) (rn r)) := h6.cellI
                have hxr : x < rn r := by omega
                have cx6 : w6.cell? ⟨bi, x, none⟩ = some (.int .i64 (ris r x)) := h6.isc (x := x) hxr
                have fx6 := h6.is.frozen x
                clear h6 g6 hw6 hlen6 hn6 hR6 cp5 fp5
                go_wp2_with fail
                go_ret2
                rw [E.out]
                refine ⟨by rw [HX.out]; rfl, rfoot b bg bi o5, ⟨bg, bi, .slice a5 n6 cap5, o5, ?_, rfl⟩, ?_, ?_⟩
                · have e := H6.out.setI x 1
                  show Ro _ b bg bi _ o5 { r with p := r.p.eraseIdx k, i := r.i.set (rtop r k).toNat 1 }
                  rw [HX.out, Int.toNat_natCast]
                  exact e
                · exact ((HG2.out.mono (T := rfoot b bg bi o) (fun k hk => hk.elim)).trans' HG6.out (fun k hk => .inl (.inl hk))).setCell (by exact .inl (.inr (.inr (.inl rfl)))) _
                · have s2 := HG2.out.size
                  rintro z (rfl | rfl | rfl | e)
                  · exact .inl (.inl rfl)
                  · exact .inl (.inr (.inl rfl))
                  · exact .inl (.inr (.inr (.inl rfl)))
                  · have := HN5.out z e; exact .inr (by omega)
            · go_simp
              refine hK _ _ ?_
              clear hK K
              refine wpAny_take (i := 15) (oi := ⟨some 54, _, _, _, _, _⟩) (v := ?_) rfl (by kernel_rfl) (by kernel_rfl) (by kernel_rfl) (fun _ _ _ h => h) (Or.inl ⟨by rfl, ?_⟩) ?_
              rotate_left
              · intro w
                go_simp
                try with_reducible rfl
              simp only [Act.put, List.setIfInBounds_toArray, List.set_cons_zero, List.set_cons_succ]
              refine wpAny_ready (rs := [1]) (by kernel_rfl) (by simp) ?_
              refine AllReady.cons rfl (fun K hK => ?_) AllReady.nil
              go_simp
              refine hK _ _ ?_
              clear hK K
              refine wpAny_ready (rs := [8]) (by kernel_rfl) (by simp) ?_
              refine AllReady.cons rfl (fun K hK => ?_) AllReady.nil
              refine step_append_row (o := ⟨some 47, _, _, _, _, _⟩) (by rfl) _ _ _ rfl 3 i0 (.int .i64 0) 1 8 Try.underlying51 hi hz0 hz1 hz2 rfl (by decide) _ (some w2.heap.size) 0 [] ((Row.new w2 3 1 0 [] rfl (Nat.zero_le _)).drew) rfl ⟨b1, off, none⟩ _ _ (ints (r.p.take k)) rfl (by rw [ints_length, List.length_take]; omega) HS1.out oneCell_ints (by unfold maxLen; omega) (by omega) ?_
              intro v3 w4 o3 hR3 hB3 hN3
              rw [Nat.zero_add, List.nil_append] at hR3
              obtain ⟨a3, cap3', rfl, h31, h32⟩ := hR3.val
              have HR3 := Lib.hid hR3
              have HB4 := Lib.hid ((((But.refl (fun _ => False) w2).alloc (.cells #[] 3)).drew).trans' hB3 (fun z hz => .inr (by simp at hz; omega)))
              have HN3 := Lib.hid (show ∀ z, o3 = some z → w2.heap.size ≤ z from fun z hz => by rcases hN3 z hz with q | q; (simp at q; omega); (simp at q; omega))
              have cp4 := HCP.out _ HB4.out
              clear hR3 hB3 hN3
              refine hK _ _ ?_
              clear hK K
              simp only [Act.put, List.setIfInBounds_toArray, List.set_cons_zero, List.set_cons_succ]
              refine wpAny_ready (rs := [16]) (by kernel_rfl) (by simp) ?_
              refine AllReady.cons rfl (fun K hK => ?_) AllReady.nil
              refine step_append_row (o := ⟨some 55, _, _, _, _, _⟩) (by rfl) _ _ _ rfl 3 i0 (.int .i64 0) 1 8 Try.underlying51 hi hz0 hz1 hz2 rfl (by decide) _ o3 k (ints (r.p.take k)) HR3.out rfl ⟨b1, oq, none⟩ _ _ (ints (r.p.drop (k + 1))) rfl (by rw [ints_length, List.length_drop]) (HS2.out _ HB4.out) oneCell_ints (by unfold maxLen; omega) (by omega) ?_
              intro v5 w5 o5 hR5 hB5 hN5
              obtain ⟨a5, cap5, rfl, h51, h52⟩ := hR5.val
              have HR5 := Lib.hid hR5
              have HB6 := Lib.hid (HB4.out.trans' (hB5) (fun z hz => .inr (HN3.out z hz)))
              have HN5 := Lib.hid (show ∀ z, o5 = some z → w2.heap.size ≤ z from fun z hz => by rcases hN5 z hz with q | q; exact HN3.out z q; have := HB4.out.size; omega)
              have cp5 := HCP.out _ HB6.out
              have fp5 := (H2.out.blk.but HB6.out (fun q => q)).frozen 7
              clear hR5 hB5 hN5 hoq
              refine hK _ _ ?_
              clear hK K
              simp only [Act.put, List.setIfInBounds_toArray, List.set_cons_zero, List.set_cons_succ]
              refine wpAny_take (i := 17) (oi := ⟨some 56, _, _, _, _, _⟩) (v := ?_) rfl (by kernel_rfl) (by kernel_rfl) (by kernel_rfl) (fun _ _ _ h => h) (Or.inl ⟨by rfl, ?_⟩) ?_
              rotate_left
              · intro w
                go_simp
                try with_reducible rfl
              simp only [Act.put, List.setIfInBounds_toArray, List.set_cons_zero, List.set_cons_succ]
              refine wpAny_take (i := 18) (oi := ⟨some 57, _, _, _, _, _⟩) (v := ?_) rfl (by kernel_rfl) (by kernel_rfl) (by kernel_rfl) (fun _ _ _ h => h) (Or.inl ⟨by rfl, ?_⟩) ?_
              rotate_left
              · intro w
                go_simp
                try with_reducible rfl
              simp only [Act.put, List.setIfInBounds_toArray, List.set_cons_zero, List.set_cons_succ]
              refine wpAny_ready (rs := [19]) (by kernel_rfl) (by simp) ?_
              refine AllReady.cons rfl (fun K hK => ?_) AllReady.nil
              go_simp
              refine hK _ _ ?_
              clear hK K
              refine wpAny_done (by kernel_rfl) ?_ _
              obtain ⟨n6, hn6⟩ : ∃ n6, k + (r.p.length - (k + 1)) = n6 := ⟨_, rfl⟩
              have hlen6 : (r.p.eraseIdx k).length = n6 := by rw [List.length_eraseIdx]; split <;> omega
              have hR6 : Row w5 3 1 (.slice a5 n6 cap5) o5 (r.p.eraseIdx k).length (ints (r.p.eraseIdx k)) := by
                have e := HR5.out
                rw [ints_app, ← List.eraseIdx_eq_take_drop_succ, hn6] at e
                rw [hlen6]; exact e
              rw [hn6]
              have h6 := H2.out.newP (r.p.eraseIdx k) _ o5 (by omega) hR6 (HB6.out.mono (fun k hk => hk.elim)) (fun z hz => .inr (HN5.out z hz))
              obtain ⟨w6, hw6⟩ : ∃ w6, w6 = w5.setCell ⟨b, 7, none⟩ (.slice a5 n6 cap5) := ⟨_, rfl⟩
              have g6 : But (fun k => k = b) w2 w6 := by rw [hw6]; exact (HB6.out.mono (fun k hk => hk.elim)).setCell (by exact .inl rfl) _
              rw [← hw6] at h6 ⊢
              have H6 := Lib.hid h6
              have HG6 := Lib.hid g6
              have c6 : w6.cell? ⟨b, 6, none⟩ = some (.slice (some ⟨bi, 0, none⟩) (rn r) (rn r)) := h6.cellI
              have hxr : x < rn r := by omega
              have cx6 : w6.cell? ⟨bi, x, none⟩ = some (.int .i64 (ris r x)) := h6.isc (x := x) hxr
              have fx6 := h6.is.frozen x
              clear h6 g6 hw6 hlen6 hn6 hR6 cp5 fp5
              go_wp2_with fail
              go_ret2
              rw [E.out]
              refine ⟨by rw [HX.out]; rfl, rfoot b bg bi o5, ⟨bg, bi, .slice a5 n6 cap5, o5, ?_, rfl⟩, ?_, ?_⟩
              · have e := H6.out.setI x 1
                show Ro _ b bg bi _ o5 { r with p := r.p.eraseIdx k, i := r.i.set (rtop r k).toNat 1 }
                rw [HX.out, Int.toNat_natCast]
                exact e
              · exact ((HG2.out.mono (T := rfoot b bg bi o) (fun k hk => hk.elim)).trans' HG6.out (fun k hk => .inl (.inl hk))).setCell (by exact .inl (.inr (.inr (.inl rfl)))) _
              · have s2 := HG2.out.size
                rintro z (rfl | rfl | rfl | e)
                · exact .inl (.inl rfl)
                · exact .inl (.inr (.inl rfl))
                · exact .inl (.inr (.inr (.inl rfl)))
                · have := HN5.out z e; exact .inr (by omega)
          · go_simp
            refine hK _ _ ?_
            clear hK K
            refine wpAny_take (i := 15) (oi := ⟨some 54, _, _, _, _, _⟩) (v := ?_) rfl (by kernel_rfl) (by kernel_rfl) (by kernel_rfl) (fun _ _ _ h => h) (Or.inl ⟨by rfl, ?_⟩) ?_
            rotate_left
            · intro w
              go_simp
              try with_reducible rfl
            simp only [Act.put, List.setIfInBounds_toArray, List.set_cons_zero, List.set_cons_succ]
            refine wpAny_ready (rs := [1, 5]) (by kernel_rfl) (by simp) ?_
            refine AllReady.cons rfl (fun K hK => ?_) (AllReady.cons rfl (fun K hK => ?_) AllReady.nil)
            · go_simp
              refine hK _ _ ?_
              clear hK K
              refine wpAny_ready (rs := [5]) (by kernel_rfl) (by simp) ?_
              refine AllReady.cons rfl (fun K hK => ?_) AllReady.nil
              go_simp
              refine hK _ _ ?_
              clear hK K
              refine wpAny_take (i := 7) (oi := ⟨some 46, _, _, _, _, _⟩) (v := ?_) rfl (by kernel_rfl) (by kernel_rfl) (by kernel_rfl) (fun _ _ _ h => h) (Or.inl ⟨by rfl, ?_⟩) ?_
              rotate_left
              · intro w
                go_simp
                try with_reducible rfl
              simp only [Act.put, List.setIfInBounds_toArray, List.set_cons_zero, List.set_cons_succ]
              refine wpAny_ready (rs := [8]) (by kernel_rfl) (by simp) ?_
              refine AllReady.cons rfl (fun K hK => ?_) AllReady.nil
              refine step_append_row (o := ⟨some 47, _, _, _, _, _⟩) (by rfl) _ _ _ rfl 3 i0 (.int .i64 0) 1 8 Try.underlying51 hi hz0 hz1 hz2 rfl (by decide) _ (some w2.heap.size) 0 [] ((Row.new w2 3 1 0 [] rfl (Nat.zero_le _)).drew) rfl ⟨b1, off, none⟩ _ _ (ints (r.p.take k)) rfl (by rw [ints_length, List.length_take]; omega) HS1.out oneCell_ints (by unfold maxLen; omega) (by omega) ?_
              intro v3 w4 o3 hR3 hB3 hN3
              rw [Nat.zero_add, List.nil_append] at hR3
              obtain ⟨a3, cap3', rfl, h31, h32⟩ := hR3.val
              have HR3 := Lib.hid hR3
              have HB4 := Lib.hid ((((But.refl (fun _ => False) w2).alloc (.cells #[] 3)).drew).trans' hB3 (fun z hz => .inr (by simp at hz; omega)))
              have HN3 := Lib.hid (show ∀ z, o3 = some z → w2.heap.size ≤ z from fun z hz => by rcases hN3 z hz with q | q; (simp at q; omega); (simp at q; omega))
              have cp4 := HCP.out _ HB4.out
              clear hR3 hB3 hN3
              refine hK _ _ ?_
              clear hK K
              simp only [Act.put, List.setIfInBounds_toArray, List.set_cons_zero, List.set_cons_succ]
              refine wpAny_ready (rs := [16]) (by kernel_rfl) (by simp) ?_
              refine AllReady.cons rfl (fun K hK => ?_) AllReady.nil
              refine step_append_row (o := ⟨some 55, _, _, _, _, _⟩) (by rfl) _ _ _ rfl 3 i0 (.int .i64 0) 1 8 Try.underlying51 hi hz0 hz1 hz2 rfl (by decide) _ o3 k (ints (r.p.take k)) HR3.out rfl ⟨b1, oq, none⟩ _ _ (ints (r.p.drop (k + 1))) rfl (by rw [ints_length, List.length_drop]) (HS2.out _ HB4.out) oneCell_ints (by unfold maxLen; omega) (by omega) ?_
              intro v5 w5 o5 hR5 hB5 hN5
              obtain ⟨a5, cap5, rfl, h51, h52⟩ := hR5.val
              have HR5 := Lib.hid hR5
              have HB6 := Lib.hid (HB4.out.trans' (hB5) (fun z hz => .inr (HN3.out z hz)))
              have HN5 := Lib.hid (show ∀ z, o5 = some z → w2.heap.size ≤ z from fun z hz => by rcases hN5 z hz with q | q; exact HN3.out z q; have := HB4.out.size; omega)
              have cp5 := HCP.out _ HB6.out
              have fp5 := (H2.out.blk.but HB6.out (fun q => q)).frozen 7
              clear hR5 hB5 hN5 hoq
              refine hK _ _ ?_
              clear hK K
              simp only [Act.put, List.setIfInBounds_toArray, List.set_cons_zero, List.set_cons_succ]
              refine wpAny_take (i := 17) (oi := ⟨some 56, _, _, _, _, _⟩) (v := ?_) rfl (by kernel_rfl) (by kernel_rfl) (by kernel_rfl) (fun _ _ _ h => h) (Or.inl ⟨by rfl, ?_⟩) ?_
              rotate_left
              · intro w
                go_simp
                try with_reducible rfl
              simp only [Act.put, List.setIfInBounds_toArray, List.set_cons_zero, List.set_cons_succ]
              refine wpAny_take (i := 18) (oi := ⟨some 57, _, _, _, _, _⟩) (v := ?_) rfl (by kernel_rfl) (by kernel_rfl) (by kernel_rfl) (fun _ _ _ h => h) (Or.inl ⟨by rfl, ?_⟩) ?_
              rotate_left
              · intro w
                go_simp
                try with_reducible rfl
              simp only [Act.put, List.setIfInBounds_toArray, List.set_cons_zero, List.set_cons_succ]
              refine wpAny_ready (rs := [19]) (by kernel_rfl) (by simp) ?_
              refine AllReady.cons rfl (fun K hK => ?_) AllReady.nil
              go_simp
              refine hK _ _ ?_
              clear hK K
              refine wpAny_done (by kernel_rfl) ?_ _
              obtain ⟨n6, hn6⟩ : ∃ n6, k + (r.p.length - (k + 1)) = n6 := ⟨_, rfl⟩
              have hlen6 : (r.p.eraseIdx k).length = n6 := by rw [List.length_eraseIdx]; split <;> omega
              have hR6 : Row w5 3 1 (.slice a5 n6 cap5) o5 (r.p.eraseIdx k).length (ints (r.p.eraseIdx k)) := by
                have e := HR5.out
                rw [ints_app, ← List.eraseIdx_eq_take_drop_succ, hn6] at e
                rw [hlen6]; exact e
              rw [hn6]
              have h6 := H2.out.newP (r.p.eraseIdx k) _ o5 (by omega) hR6 (HB6.out.mono (fun k hk => hk.elim)) (fun z hz => .inr (HN5.out z hz))
              obtain ⟨w6, hw6⟩ : ∃ w6, w6 = w5.setCell ⟨b, 7, none⟩ (.slice a5 n6 cap5) := ⟨_, rfl⟩
              have g6 : But (fun k => k = b) w2 w6 := by rw [hw6]; exact (HB6.out.mono (fun k hk => hk.elim)).setCell (by exact .inl rfl) _
              rw [← hw6] at h6 ⊢
              have H6 := Lib.hid h6
              have HG6 := Lib.hid g6
              have c6 : w6.cell? ⟨b, 6, none⟩ = some (.slice (some ⟨bi, 0, none⟩) (rn r) (rn r)) := h6.cellI
              have hxr : x < rn r := by omega
              have cx6 : w6.cell? ⟨bi, x, none⟩ = some (.int .i64 (ris r x)) := h6.isc (x := x) hxr
              have fx6 := h6.is.frozen x
              clear h6 g6 hw6 hlen6 hn6 hR6 cp5 fp5
              go_wp2_with fail
              go_ret2
              rw [E.out]
              refine ⟨by rw [HX.out]; rfl, rfoot b bg bi o5, ⟨bg, bi, .slice a5 n6 cap5, o5, ?_, rfl⟩, ?_, ?_⟩
              · have e := H6.out.setI x 1
                show Ro _ b bg bi _ o5 { r with p := r.p.eraseIdx k, i := r.i.set (rtop r k).toNat 1 }
                rw [HX.out, Int.toNat_natCast]
                exact e
              · exact ((HG2.out.mono (T := rfoot b bg bi o) (fun k hk => hk.elim)).trans' HG6.out (fun k hk => .inl (.inl hk))).setCell (by exact .inl (.inr (.inr (.inl rfl)))) _
              · have s2 := HG2.out.size
                rintro z (rfl | rfl | rfl | e)
                · exact .inl (.inl rfl)
                · exact .inl (.inr (.inl rfl))
                · exact .inl (.inr (.inr (.inl rfl)))
                · have := HN5.out z e; exact .inr (by omega)
            · go_simp
              refine hK _ _ ?_
              clear hK K
              refine wpAny_take (i := 7) (oi := ⟨some 46, _, _, _, _, _⟩) (v := ?_) rfl (by kernel_rfl) (by kernel_rfl) (by kernel_rfl) (fun _ _ _ h => h) (Or.inl ⟨by rfl, ?_⟩) ?_
              rotate_left
              · intro w
                go_simp
                try with_reducible rfl
              simp only [Act.put, List.setIfInBounds_toArray, List.set_cons_zero, List.set_cons_succ]
              refine wpAny_ready (rs := [1]) (by kernel_rfl) (by simp) ?_
              refine AllReady.cons rfl (fun K hK => ?_) AllReady.nil
              go_simp
              refine hK _ _ ?_
              clear hK K
              refine wpAny_ready (rs := [8]) (by kernel_rfl) (by simp) ?_
              refine AllReady.cons rfl (fun K hK => ?_) AllReady.nil
              refine step_append_row (o := ⟨some 47, _, _, _, _, _⟩) (by rfl) _ _ _ rfl 3 i0 (.int .i64 0) 1 8 Try.underlying51 hi hz0 hz1 hz2 rfl (by decide) _ (some w2.heap.size) 0 [] ((Row.new w2 3 1 0 [] rfl (Nat.zero_le _)).drew) rfl ⟨b1, off, none⟩ _ _ (ints (r.p.take k)) rfl (by rw [ints_length, List.length_take]; omega) HS1.out oneCell_ints (by unfold maxLen; omega) (by omega) ?_
              intro v3 w4 o3 hR3 hB3 hN3
              rw [Nat.zero_add, List.nil_append] at hR3
              obtain ⟨a3, cap3', rfl, h31, h32⟩ := hR3.val
              have HR3 := Lib.hid hR3
              have HB4 := Lib.hid ((((But.refl (fun _ => False) w2).alloc (.cells #[] 3)).drew).trans' hB3 (fun z hz => .inr (by simp at hz; omega)))
              have HN3 := Lib.hid (show ∀ z, o3 = some z → w2.heap.size ≤ z from fun z hz => by rcases hN3 z hz with q | q; (simp at q; omega); (simp at q; omega))
              have cp4 := HCP.out _ HB4.out
              clear hR3 hB3 hN3
              refine hK _ _ ?_
              clear hK K
              simp only [Act.put, List.setIfInBounds_toArray, List.set_cons_zero, List.set_cons_succ]
              refine wpAny_ready (rs := [16]) (by kernel_rfl) (by simp) ?_
              refine AllReady.cons rfl (fun K hK => ?_) AllReady.nil
              refine step_append_row (o := ⟨some 55, _, _, _, _, _⟩) (by rfl) _ _ _ rfl 3 i0 (.int .i64 0) 1 8 Try.underlying51 hi hz0 hz1 hz2 rfl (by decide) _ o3 k (ints (r.p.take k)) HR3.out rfl ⟨b1, oq, none⟩ _ _ (ints (r.p.drop (k + 1))) rfl (by rw [ints_length, List.length_drop]) (HS2.out _ HB4.out) oneCell_ints (by unfold maxLen; omega) (by omega) ?_
              intro v5 w5 o5 hR5 hB5 hN5
              obtain ⟨a5, cap5, rfl, h51, h52⟩ := hR5.val
              have HR5 := Lib.hid hR5
              have HB6 := Lib.hid (HB4.out.trans' (hB5) (fun z hz => .inr (HN3.out z hz)))
              have HN5 := Lib.hid (show ∀ z, o5 = some z → w2.heap.size ≤ z from fun z hz => by rcases hN5 z hz with q | q; exact HN3.out z q; have := HB4.out.size; omega)
              have cp5 := HCP.out _ HB6.out
              have fp5 := (H2.out.blk.but HB6.out (fun q => q)).frozen 7
              clear hR5 hB5 hN5 hoq
              refine hK _ _ ?_
              clear hK K
              simp only [Act.put, List.setIfInBounds_toArray, List.set_cons_zero, List.set_cons_succ]
              refine wpAny_take (i := 17) (oi := ⟨some 56, _, _, _, _, _⟩) (v := ?_) rfl (by kernel_rfl) (by kernel_rfl) (by kernel_rfl) (fun _ _ _ h => h) (Or.inl ⟨by rfl, ?_⟩) ?_
              rotate_left
              · intro w
                go_simp
                try with_reducible rfl
              simp only [Act.put, List.setIfInBounds_toArray, List.set_cons_zero, List.set_cons_succ]
              refine wpAny_take (i := 18) (oi := ⟨some 57, _, _, _, _, _⟩) (v := ?_) rfl (by kernel_rfl) (by kernel_rfl) (by kernel_rfl) (fun _ _ _ h => h) (Or.inl ⟨by rfl, ?_⟩) ?_
              rotate_left
              · intro w
                go_simp
                try with_reducible rfl
              simp only [Act.put, List.setIfInBounds_toArray, List.set_cons_zero, List.set_cons_succ]
              refine wpAny_ready (rs := [19]) (by kernel_rfl) (by simp) ?_
              refine AllReady.cons rfl (fun K hK => ?_) AllReady.nil
              go_simp
              refine hK _ _ ?_
              clear hK K
              refine wpAny_done (by kernel_rfl) ?_ _
              obtain ⟨n6, hn6⟩ : ∃ n6, k + (r.p.length - (k + 1)) = n6 := ⟨_, rfl⟩
              have hlen6 : (r.p.eraseIdx k).length = n6 := by rw [List.length_eraseIdx]; split <;> omega
              have hR6 : Row w5 3 1 (.slice a5 n6 cap5) o5 (r.p.eraseIdx k).length (ints (r.p.eraseIdx k)) := by
                have e := HR5.out
                rw [ints_app, ← List.eraseIdx_eq_take_drop_succ, hn6] at e
                rw [hlen6]; exact e
              rw [hn6]
              have h6 := H2.out.newP (r.p.eraseIdx k) _ o5 (by omega) hR6 (HB6.out.mono (fun k hk => hk.elim)) (fun z hz => .inr (HN5.out z hz))
              obtain ⟨w6, hw6⟩ : ∃ w6, w6 = w5.setCell ⟨b, 7, none⟩ (.slice a5 n6 cap5) := ⟨_, rfl⟩
              have g6 : But (fun k => k = b) w2 w6 := by rw [hw6]; exact (HB6.out.mono (fun k hk => hk.elim)).setCell (by exact .inl rfl) _
              rw [← hw6] at h6 ⊢
              have H6 := Lib.hid h6
              have HG6 := Lib.hid g6
              have c6 : w6.cell? ⟨b, 6, none⟩ = some (.slice (some ⟨bi, 0, none⟩) (rn r) (rn r)) := h6.cellI
              have hxr : x < rn r := by omega
              have cx6 : w6.cell? ⟨bi, x, none⟩ = some (.int .i64 (ris r x)) := h6.isc (x := x) hxr
              have fx6 := h6.is.frozen x
              clear h6 g6 hw6 hlen6 hn6 hR6 cp5 fp5
              go_wp2_with fail
              go_ret2
              rw [E.out]
              refine ⟨by rw [HX.out]; rfl, rfoot b bg bi o5, ⟨bg, bi, .slice a5 n6 cap5, o5, ?_, rfl⟩, ?_, ?_⟩
              · have e := H6.out.setI x 1
                show Ro _ b bg bi _ o5 { r with p := r.p.eraseIdx k, i := r.i.set (rtop r k).toNat 1 }
                rw [HX.out, Int.toNat_natCast]
                exact e
              · exact ((HG2.out.mono (T := rfoot b bg bi o) (fun k hk => hk.elim)).trans' HG6.out (fun k hk => .inl (.inl hk))).setCell (by exact .inl (.inr (.inr (.inl rfl)))) _
              · have s2 := HG2.out.size
                rintro z (rfl | rfl | rfl | e)
                · exact .inl (.inl rfl)
                · exact .inl (.inr (.inl rfl))
                · exact .inl (.inr (.inr (.inl rfl)))
                · have := HN5.out z e; exact .inr (by omega)
        · have E := Lib.hid (show lastTo r c r.p.length = lastTo r c k by rw [HL.out]; conv => lhs; unfold lastTo; rw [HX.out, if_neg hcc])
          have hcb : ((Conf.find r.s (x : Int)).1 == c) = false := by simpa using hcc
          clear hcc
          go_wp2_with fail
          refine (HCL.out x _).mono ?_
          rintro e w2 ⟨rfl, g2⟩
          go_wp2_with fail
          go_roundg (k + 1)
          case measure => omega
          case rel => exact ⟨k, by omega, by omega, rfl, E.out, hB.trans g2⟩

end Free
end Go.Proofs.Ytngbhhcicakolaa
