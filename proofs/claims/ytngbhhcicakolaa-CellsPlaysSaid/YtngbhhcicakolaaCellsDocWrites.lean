/- The document's answer for cells (layer 7), walked: Free, Set, Live. -/
import Derived.Test.YtngbhhcicakolaaCellsDocReads
import Derived.Test.YtngbhhcicakolaaWordRef
import Derived.Test.YtngbhhcicakolaaAppend
import Derived.Test.YtngbhhcicakolaaFreeNew
import Derived.Deep.RegionHeld3
set_option linter.unusedVariables false
set_option linter.unusedSimpArgs false
namespace Go.Proofs.Ytngbhhcicakolaa
open Go.RowKit Go.Deep

namespace Cells
open Free (Fr genAt takenAt)

theorem infoVal : (Try.prog.info? 43).map (fun i => (i.zero, i.size, i.bytes)) = some (some (.agg #[.int .i64 0, .int .u64 0]), 2, 16) := by kernel_rfl
theorem made_vals {k : Nat} (hk : k ≤ 4) : madeCells (Value.agg #[.int .i64 0, .int .u64 0]).cells (k * 2) = (valCells (List.replicate k (0, 0))).toArray := by
  obtain rfl | rfl | rfl | rfl | rfl : k = 0 ∨ k = 1 ∨ k = 2 ∨ k = 3 ∨ k = 4 := by omega
  all_goals first | kernel_rfl | simp [madeCells, valCells, Value.cells, Array.range]
theorem mk_vals {k : Nat} (hk : k ≤ 4) (w : World) : (Instr.makeSlice 89 (.int .i64 k) (.int .i64 k)).run Try.prog w = .ok (.slice (some ⟨w.heap.size, 0, none⟩) k k) (w.alloc (.cells (valCells (List.replicate k (0, 0))).toArray 43)) := by
  obtain ⟨i0, hi, hz0, hz1, hz2⟩ := info_parts infoVal
  have h := run_make w 89 43 i0 (.agg #[.int .i64 0, .int .u64 0]) Try.underlying89 hi hz0 .i64 .i64 k k (by omega) (Int.le_refl _) (by rw [hz2]; omega) (by omega)
  rw [h, hz1]
  simp only [Int.toNat_natCast]
  rw [made_vals hk]

theorem alloc_far {w : World} {o : Obj} {a : Addr} {v : Value} (h : w.cell? a = some v) (ha : a.block < w.heap.size) : (w.alloc o).cell? a = some v := by
  rw [← h]
  exact World.cell?_of_block (w := w) (Below.heap_alloc w o a.block ha)
theorem set_far {w : World} {p a : Addr} {u v : Value} (h : w.cell? a = some v) (ha : a.block ≠ p.block) : (w.setCell p u).cell? a = some v := by
  rw [← h]
  exact World.cell?_of_block (w := w) (Below.heap_setCell w p u a.block ha)
theorem own_val {w0 w : World} {P : Pc} {d rb vb b off cap : Nat} {cn : List Int} {r : Free.Rf} {Sr : Nat → Prop} {vs : List (Nat × List (Int × Int))} {v1 : Value} {o1 o2 : Option Nat} (W : Own w0 w (rl P d rb r Sr cn vs v1 (.slice (some ⟨b, off, none⟩) vs.length cap) o1 o2)) {x : Nat} {l : List (Int × Int)} (hx : vs[x]? = some (vb, l)) :
    w.cell? ⟨b, off + x, none⟩ = some (.slice (some ⟨vb, 0, none⟩) l.length l.length) ∧ w.frozen? ⟨b, off + x, none⟩ = false ∧ b < w.heap.size ∧ w.cell? ⟨d, 2, none⟩ = some (.slice (some ⟨b, off, none⟩) vs.length cap) ∧ d < w.heap.size ∧ d ≠ b := by
  have hlt := (List.getElem?_eq_some_iff.1 hx).1
  have R4 : Row w 89 1 (.slice (some ⟨b, off, none⟩) vs.length cap) o2 vs.length (vs.map vsl) := W.get 4 rfl
  have B1 : Blk w d #[.pointer (some ⟨rb, 0, none⟩), v1, .slice (some ⟨b, off, none⟩) vs.length cap] 59 := W.get 1 rfl
  obtain ⟨b', off', cap', e, ho, hl, -, hc, hf⟩ := R4.cells (by omega)
  simp at e
  obtain ⟨⟨rfl, rfl⟩, -⟩ := e
  refine ⟨?_, hf _, hl, B1.cell 2, B1.lt, fun e => W.apart 1 4 (by simp [rl]) (by simp [rl]) (by decide) d rfl (show o2 = some d by rw [ho, e])⟩
  rw [hc x (by omega), List.getElem?_map, hx]
  rfl
section
variable {w0 w : World} {P : Pc} {d : Nat} {c : Cs}

set_option maxHeartbeats 8000000 in
set_option maxRecDepth 100000 in
theorem d_free (h : Doc w0 P d c w) (x : Int) : Calls Try.prog 42 #[.pointer (some ⟨d, 0, none⟩), .int .i64 x] w fun e w' => e = .returned (.tuple #[.bool (free c x).2.1, .int .i64 (free c x).2.2]) ∧ Doc w0 P d (free c x).1 w' := by
  obtain ⟨r, ⟨rb, Sr, vs, v1, v2, o1, o2, W, hv⟩, hr⟩ := h.ex
  have B1 : Blk w d #[.pointer (some ⟨rb, 0, none⟩), v1, v2] 59 := W.get 1 rfl
  have k0 : w.cell? ⟨d, 0, none⟩ = some (.pointer (some ⟨rb, 0, none⟩)) := B1.cell 0
  have hh := Free.ref_give' rb c.f r x w Sr (W.get 2 rfl) hr h.inv.f
  have E := Free.rel_give hr h.inv.f x
  rw [E.1] at hh
  have HH := Lib.hid hh
  have HW := Lib.hid W
  by_cases he : (Free.give c.f x).2.2 = 0
  · have hfr : (free c x).2.2 = 0 := by unfold free; rw [if_pos he]
    have hinv := free_inv h.inv x
    obtain ⟨y, rfl, h2, h3, h4, h5, h6, h7, h8, h9⟩ := free_ok h.inv hfr
    rw [h3] at hinv ⊢
    rw [he] at HH
    obtain ⟨f', hf'⟩ : ∃ f', (Free.give c.f (y : Int)).1 = f' := ⟨_, rfl⟩
    obtain ⟨g', hg'⟩ : ∃ g', (Free.give c.f (y : Int)).2.1 = g' := ⟨_, rfl⟩
    rw [hf'] at E hinv h7 h8 ⊢
    rw [hg'] at HH ⊢
    obtain ⟨r', hr'⟩ : ∃ r', (Free.giveR r (y : Int)).1 = r' := ⟨_, rfl⟩
    rw [hr'] at E HH
    have cl := h.inv.cl
    have vl := h.inv.vl
    have hlen := h.inv.vs y h2
    have hl4 : (valsAt c y).length ≤ 4 := by have := slots_bd c.f.s y; omega
    have HE := Lib.hid E.2.1
    have HI := Lib.hid hinv
    have HV := Lib.hid hv
    have HN := Lib.hid h7
    have hsm : n c ≤ 192 := h.inv.f.small
    clear hh W E h hv hr B1 hf' hg' hr' h4 h5 h6 h8 h9 h3 hlen hfr he hinv h7
    go_enter Try.func42, Try.ntmps42
    go_wp2_with fail
    refine HH.out.mono ?_
    rintro e w2 ⟨rfl, hm⟩
    obtain ⟨Sr', W2⟩ := own_moved HW.out hm
    obtain ⟨a1, cap1, a2, cap2, rfl, rfl, hS⟩ := own_seen (c := ⟨f', c.cn, c.v⟩) W2 HV.out HE.out (by show _ = Free.n f'; rw [HN.out]; exact cl) (by show _ = Free.n f'; rw [HN.out]; exact vl)
    have en : n ⟨f', c.cn, c.v⟩ = n c := HN.out
    rw [en] at W2
    obtain ⟨cb, coff, rfl, -, e1, f1⟩ := hS.cn y (by rw [en]; exact h2)
    obtain ⟨vbb, voff, vb0, rfl, -, -, -, -, -⟩ := hS.vs y (by rw [en]; exact h2)
    have q1 : w2.cell? ⟨d, 1, none⟩ = some (.slice (some ⟨cb, coff, none⟩) (n c) cap1) := by have := hS.k1; rw [en] at this; exact this
    obtain ⟨vb, hvb⟩ := vs_at HV.out (x := y) (by omega)
    have hvl : vs.length = n c := by rw [← vl, ← HV.out, List.length_map]
    have W3 := own_count (show Own w0 w2 (rl P d rb r' Sr' c.cn vs (.slice (some ⟨cb, coff, none⟩) c.cn.length cap1) (.slice (some ⟨vbb, voff, none⟩) vs.length cap2) o1 o2) by rw [cl, hvl]; exact W2) (x := y) (by omega) 0
    have hyn : (y : Int) < n c := by omega
    clear hS W2 hm en
    obtain ⟨w3, hw3⟩ : ∃ w3, w3 = w2.setCell ⟨cb, coff + y, none⟩ (.int .i64 0) := ⟨_, rfl⟩
    have HW3 := Lib.hid hw3
    rw [← hw3] at W3
    clear hw3
    obtain ⟨e2, f2, z2, q2, zd, hdv⟩ := own_val W3 hvb
    rw [hvl] at q2
    have W3' := Lib.hid W3
    clear W3
    obtain ⟨len, hlen⟩ : ∃ len, (valsAt c y).length = len := ⟨_, rfl⟩
    rw [hlen] at e2 hl4
    have HLN := Lib.hid hlen
    have hmk := fun w => mk_vals hl4 w
    clear hlen
    go_wp2_with fail
    rw [← HW3.out]
    -- region 4 of Free
    refine wp_region_any (by kernel_rfl) ?_
    change wpAny _ _ _ _ _ _ _ (World.drew _)
    obtain ⟨wd, hwd⟩ : ∃ wd, wd = w3.drew := ⟨_, rfl⟩
    have W5 := own_values (W3'.out.same ((But.refl _ w3).drew)) hvb (List.replicate len (0, 0))
    rw [List.length_replicate, hvl] at W5
    have q3 : wd.cell? ⟨d, 2, none⟩ = some (.slice (some ⟨vbb, voff, none⟩) (n c) cap2) := by rw [hwd]; exact q2
    have e3 : wd.cell? ⟨vbb, voff + y, none⟩ = some (.slice (some ⟨vb, 0, none⟩) len len) := by rw [hwd]; exact e2
    have f3 : wd.frozen? ⟨vbb, voff + y, none⟩ = false := by rw [hwd]; exact f2
    have z3 : vbb < wd.heap.size := by rw [hwd]; exact z2
    have far1 : ∀ o, (wd.alloc o).cell? ⟨d, 2, none⟩ = some (.slice (some ⟨vbb, voff, none⟩) (n c) cap2) := fun o => alloc_far q3 (by rw [hwd]; exact zd)
    rw [← hwd] at W5 ⊢
    have HW5 := Lib.hid W5
    clear hwd W5 q2 e2 f2 z2 HW3
    refine wpAny_take (i := 0) (oi := ⟨some 25, _, _, _, _, _⟩) (v := ?_) rfl (by kernel_rfl) (by kernel_rfl) (by kernel_rfl) (fun _ _ _ h => h) (Or.inl ⟨by rfl, ?_⟩) ?_
    rotate_left
    · intro w
      go_simp
      try with_reducible rfl
    simp only [Act.put, List.setIfInBounds_toArray, List.set_cons_zero, List.set_cons_succ]
    refine wpAny_take (i := 1) (oi := ⟨some 26, _, _, _, _, _⟩) (v := ?_) rfl (by kernel_rfl) (by kernel_rfl) (by kernel_rfl) (fun _ _ _ h => h) (Or.inl ⟨by rfl, ?_⟩) ?_
    rotate_left
    · intro w
      go_simp
      try with_reducible rfl
    simp only [Act.put, List.setIfInBounds_toArray, List.set_cons_zero, List.set_cons_succ]
    refine wpAny_take (i := 2) (oi := ⟨some 27, _, _, _, _, _⟩) (v := ?_) rfl (by kernel_rfl) (by kernel_rfl) (by kernel_rfl) (fun _ _ _ h => h) (Or.inl ⟨by rfl, ?_⟩) ?_
    rotate_left
    · intro w
      go_simp
      try with_reducible rfl
    simp only [Act.put, List.setIfInBounds_toArray, List.set_cons_zero, List.set_cons_succ]
    refine wpAny_take (i := 4) (oi := ⟨some 29, _, _, _, _, _⟩) (v := ?_) rfl (by kernel_rfl) (by kernel_rfl) (by kernel_rfl) (fun _ _ _ h => h) (Or.inl ⟨by rfl, ?_⟩) ?_
    rotate_left
    · intro w
      go_simp
      try with_reducible rfl
    simp only [Act.put, List.setIfInBounds_toArray, List.set_cons_zero, List.set_cons_succ]
    refine wpAny_take (i := 5) (oi := ⟨some 30, _, _, _, _, _⟩) (v := ?_) rfl (by kernel_rfl) (by kernel_rfl) (by kernel_rfl) (fun _ _ _ h => h) (Or.inl ⟨by rfl, ?_⟩) ?_
    rotate_left
    · intro w
      go_simp
      try with_reducible rfl
    simp only [Act.put, List.setIfInBounds_toArray, List.set_cons_zero, List.set_cons_succ]
    refine wpAny_take (i := 6) (oi := ⟨some 31, _, _, _, _, _⟩) (v := ?_) rfl (by kernel_rfl) (by kernel_rfl) (by kernel_rfl) (fun _ _ _ h => h) (Or.inl ⟨by rfl, ?_⟩) ?_
    rotate_left
    · intro w
      go_simp
      try with_reducible rfl
    simp only [Act.put, List.setIfInBounds_toArray, List.set_cons_zero, List.set_cons_succ]
    refine wpAny_take (i := 7) (oi := ⟨some 32, _, _, _, _, _⟩) (v := ?_) rfl (by kernel_rfl) (by kernel_rfl) (by kernel_rfl) (fun _ _ _ h => h) (Or.inl ⟨by rfl, ?_⟩) ?_
    rotate_left
    · intro w
      go_simp
      try with_reducible rfl
    simp only [Act.put, List.setIfInBounds_toArray, List.set_cons_zero, List.set_cons_succ]
    refine wpAny_take (i := 9) (oi := ⟨some 34, _, _, _, _, _⟩) (v := ?_) rfl (by kernel_rfl) (by kernel_rfl) (by kernel_rfl) (fun _ _ _ h => h) (Or.inl ⟨by rfl, ?_⟩) ?_
    rotate_left
    · intro w
      go_simp
      try with_reducible rfl
    simp only [Act.put, List.setIfInBounds_toArray, List.set_cons_zero, List.set_cons_succ]
    refine wpAny_ready (rs := [3, 8]) (by kernel_rfl) (by simp) ?_
    refine AllReady.cons rfl (fun K hK => ?_) (AllReady.cons rfl (fun K hK => ?_) AllReady.nil)
    · go_simp
      refine hK _ _ ?_
      clear hK K
      refine wpAny_ready (rs := [8]) (by kernel_rfl) (by simp) ?_
      refine AllReady.cons rfl (fun K hK => ?_) AllReady.nil
      go_simp
      refine hK _ _ ?_
      clear hK K
      refine wpAny_take (i := 10) (oi := ⟨some 35, _, _, _, _, _⟩) (v := ?_) rfl (by kernel_rfl) (by kernel_rfl) (by kernel_rfl) (fun _ _ _ h => h) (Or.inl ⟨by rfl, ?_⟩) ?_
      rotate_left
      · intro w
        go_simp
        try with_reducible rfl
      simp only [Act.put, List.setIfInBounds_toArray, List.set_cons_zero, List.set_cons_succ]
      refine wpAny_ready (rs := [11]) (by kernel_rfl) (by simp) ?_
      refine AllReady.cons rfl (fun K hK => ?_) AllReady.nil
      go_simp
      refine hK _ _ ?_
      clear hK K
      refine wpAny_ready (rs := [12]) (by kernel_rfl) (by simp) ?_
      refine AllReady.cons rfl (fun K hK => ?_) AllReady.nil
      go_simp
      refine hK _ _ ?_
      clear hK K
      refine wpAny_ready (rs := [13]) (by kernel_rfl) (by simp) ?_
      refine AllReady.cons rfl (fun K hK => ?_) AllReady.nil
      go_simp
      refine hK _ _ ?_
      clear hK K
      refine wpAny_take (i := 14) (oi := ⟨some 39, _, _, _, _, _⟩) (v := ?_) rfl (by kernel_rfl) (by kernel_rfl) (by kernel_rfl) (fun _ _ _ h => h) (Or.inl ⟨by rfl, ?_⟩) ?_
      rotate_left
      · intro w
        go_simp
        try with_reducible rfl
      simp only [Act.put, List.setIfInBounds_toArray, List.set_cons_zero, List.set_cons_succ]
      refine wpAny_ready (rs := [15]) (by kernel_rfl) (by simp) ?_
      refine AllReady.cons rfl (fun K hK => ?_) AllReady.nil
      go_simp
      refine hK _ _ ?_
      clear hK K
      refine wpAny_done (by kernel_rfl) ?_ _
      go_wp2_with fail
      go_ret2
      refine ⟨rfl, ⟨r', ⟨rb, Sr', vs.set y (wd.heap.size, List.replicate len (0, 0)), _, _, o1, o2, HW5.out, ?_⟩, HE.out⟩, HI.out⟩
      rw [List.map_set, HV.out]
      unfold gone
      rw [HLN.out]
    · go_simp
      refine hK _ _ ?_
      clear hK K
      refine wpAny_take (i := 10) (oi := ⟨some 35, _, _, _, _, _⟩) (v := ?_) rfl (by kernel_rfl) (by kernel_rfl) (by kernel_rfl) (fun _ _ _ h => h) (Or.inl ⟨by rfl, ?_⟩) ?_
      rotate_left
      · intro w
        go_simp
        try with_reducible rfl
      simp only [Act.put, List.setIfInBounds_toArray, List.set_cons_zero, List.set_cons_succ]
      refine wpAny_ready (rs := [3, 11]) (by kernel_rfl) (by simp) ?_
      refine AllReady.cons rfl (fun K hK => ?_) (AllReady.cons rfl (fun K hK => ?_) AllReady.nil)
      · go_simp
        refine hK _ _ ?_
        clear hK K
        refine wpAny_ready (rs := [11]) (by kernel_rfl) (by simp) ?_
        refine AllReady.cons rfl (fun K hK => ?_) AllReady.nil
        go_simp
        refine hK _ _ ?_
        clear hK K
        refine wpAny_ready (rs := [12]) (by kernel_rfl) (by simp) ?_
        refine AllReady.cons rfl (fun K hK => ?_) AllReady.nil
        go_simp
        refine hK _ _ ?_
        clear hK K
        refine wpAny_ready (rs := [13]) (by kernel_rfl) (by simp) ?_
        refine AllReady.cons rfl (fun K hK => ?_) AllReady.nil
        go_simp
        refine hK _ _ ?_
        clear hK K
        refine wpAny_take (i := 14) (oi := ⟨some 39, _, _, _, _, _⟩) (v := ?_) rfl (by kernel_rfl) (by kernel_rfl) (by kernel_rfl) (fun _ _ _ h => h) (Or.inl ⟨by rfl, ?_⟩) ?_
        rotate_left
        · intro w
          go_simp
          try with_reducible rfl
        simp only [Act.put, List.setIfInBounds_toArray, List.set_cons_zero, List.set_cons_succ]
        refine wpAny_ready (rs := [15]) (by kernel_rfl) (by simp) ?_
        refine AllReady.cons rfl (fun K hK => ?_) AllReady.nil
        go_simp
        refine hK _ _ ?_
        clear hK K
        refine wpAny_done (by kernel_rfl) ?_ _
        go_wp2_with fail
        go_ret2
        refine ⟨rfl, ⟨r', ⟨rb, Sr', vs.set y (wd.heap.size, List.replicate len (0, 0)), _, _, o1, o2, HW5.out, ?_⟩, HE.out⟩, HI.out⟩
        rw [List.map_set, HV.out]
        unfold gone
        rw [HLN.out]
      · go_simp
        refine hK _ _ ?_
        clear hK K
        refine wpAny_ready (rs := [3, 12]) (by kernel_rfl) (by simp) ?_
        refine AllReady.cons rfl (fun K hK => ?_) (AllReady.cons rfl (fun K hK => ?_) AllReady.nil)
        · go_simp
          refine hK _ _ ?_
          clear hK K
          refine wpAny_ready (rs := [12]) (by kernel_rfl) (by simp) ?_
          refine AllReady.cons rfl (fun K hK => ?_) AllReady.nil
          go_simp
          refine hK _ _ ?_
          clear hK K
          refine wpAny_ready (rs := [13]) (by kernel_rfl) (by simp) ?_
          refine AllReady.cons rfl (fun K hK => ?_) AllReady.nil
          go_simp
          refine hK _ _ ?_
          clear hK K
          refine wpAny_take (i := 14) (oi := ⟨some 39, _, _, _, _, _⟩) (v := ?_) rfl (by kernel_rfl) (by kernel_rfl) (by kernel_rfl) (fun _ _ _ h => h) (Or.inl ⟨by rfl, ?_⟩) ?_
          rotate_left
          · intro w
            go_simp
            try with_reducible rfl
          simp only [Act.put, List.setIfInBounds_toArray, List.set_cons_zero, List.set_cons_succ]
          refine wpAny_ready (rs := [15]) (by kernel_rfl) (by simp) ?_
          refine AllReady.cons rfl (fun K hK => ?_) AllReady.nil
          go_simp
          refine hK _ _ ?_
          clear hK K
          refine wpAny_done (by kernel_rfl) ?_ _
          go_wp2_with fail
          go_ret2
          refine ⟨rfl, ⟨r', ⟨rb, Sr', vs.set y (wd.heap.size, List.replicate len (0, 0)), _, _, o1, o2, HW5.out, ?_⟩, HE.out⟩, HI.out⟩
          rw [List.map_set, HV.out]
          unfold gone
          rw [HLN.out]
        · go_simp
          refine hK _ _ ?_
          clear hK K
          refine wpAny_ready (rs := [3, 13]) (by kernel_rfl) (by simp) ?_
          refine AllReady.cons rfl (fun K hK => ?_) (AllReady.cons rfl (fun K hK => ?_) AllReady.nil)
          · go_simp
            refine hK _ _ ?_
            clear hK K
            refine wpAny_ready (rs := [13]) (by kernel_rfl) (by simp) ?_
            refine AllReady.cons rfl (fun K hK => ?_) AllReady.nil
            go_simp
            refine hK _ _ ?_
            clear hK K
            refine wpAny_take (i := 14) (oi := ⟨some 39, _, _, _, _, _⟩) (v := ?_) rfl (by kernel_rfl) (by kernel_rfl) (by kernel_rfl) (fun _ _ _ h => h) (Or.inl ⟨by rfl, ?_⟩) ?_
            rotate_left
            · intro w
              go_simp
              try with_reducible rfl
            simp only [Act.put, List.setIfInBounds_toArray, List.set_cons_zero, List.set_cons_succ]
            refine wpAny_ready (rs := [15]) (by kernel_rfl) (by simp) ?_
            refine AllReady.cons rfl (fun K hK => ?_) AllReady.nil
            go_simp
            refine hK _ _ ?_
            clear hK K
            refine wpAny_done (by kernel_rfl) ?_ _
            go_wp2_with fail
            go_ret2
            refine ⟨rfl, ⟨r', ⟨rb, Sr', vs.set y (wd.heap.size, List.replicate len (0, 0)), _, _, o1, o2, HW5.out, ?_⟩, HE.out⟩, HI.out⟩
            rw [List.map_set, HV.out]
            unfold gone
            rw [HLN.out]
          · go_simp
            refine hK _ _ ?_
            clear hK K
            refine wpAny_ready (rs := [3]) (by kernel_rfl) (by simp) ?_
            refine AllReady.cons rfl (fun K hK => ?_) AllReady.nil
            go_simp
            refine hK _ _ ?_
            clear hK K
            refine wpAny_take (i := 14) (oi := ⟨some 39, _, _, _, _, _⟩) (v := ?_) rfl (by kernel_rfl) (by kernel_rfl) (by kernel_rfl) (fun _ _ _ h => h) (Or.inl ⟨by rfl, ?_⟩) ?_
            rotate_left
            · intro w
              go_simp
              try with_reducible rfl
            simp only [Act.put, List.setIfInBounds_toArray, List.set_cons_zero, List.set_cons_succ]
            refine wpAny_ready (rs := [15]) (by kernel_rfl) (by simp) ?_
            refine AllReady.cons rfl (fun K hK => ?_) AllReady.nil
            go_simp
            refine hK _ _ ?_
            clear hK K
            refine wpAny_done (by kernel_rfl) ?_ _
            go_wp2_with fail
            go_ret2
            refine ⟨rfl, ⟨r', ⟨rb, Sr', vs.set y (wd.heap.size, List.replicate len (0, 0)), _, _, o1, o2, HW5.out, ?_⟩, HE.out⟩, HI.out⟩
            rw [List.map_set, HV.out]
            unfold gone
            rw [HLN.out]
    -- end of region 4
  · have he2 : (Free.give c.f x).2.1 = false := by
      unfold Free.give at he ⊢
      split
      · rename_i a
        rw [if_pos a] at he
        split
        · rename_i b; rw [if_pos b] at he; exact absurd rfl he
        · rfl
      · rfl
    have hE : free c x = (c, false, (Free.give c.f x).2.2) := by unfold free; rw [if_neg he]
    rw [hE]
    rw [he2] at HH
    have hfe := Free.give_no he
    rw [hfe] at E
    have HE := Lib.hid E.2.1
    have HI := Lib.hid h.inv
    have HV := Lib.hid hv
    obtain ⟨q, hq⟩ : ∃ q, (Free.give c.f x).2.2 = q := ⟨_, rfl⟩
    rw [hq] at HH he ⊢
    clear hh W E h hv hr B1 he2 hE hfe hq
    go_enter Try.func42, Try.ntmps42
    go_wp2_with fail
    refine HH.out.mono ?_
    rintro e w2 ⟨rfl, hm⟩
    obtain ⟨Sr', W'⟩ := own_moved HW.out hm
    have HW2 := Lib.hid W'
    clear hm W'
    go_wp2_with fail
    go_ret2
    exact ⟨rfl, ⟨_, ⟨rb, Sr', vs, v1, v2, o1, o2, HW2.out, HV.out⟩, HE.out⟩, HI.out⟩

set_option maxHeartbeats 8000000 in
set_option maxRecDepth 100000 in
theorem d_set (h : Doc w0 P d c w) (x z kk nn : Int) (hn : 0 ≤ nn ∧ nn ≤ 18446744073709551615) : Calls Try.prog 44 #[.pointer (some ⟨d, 0, none⟩), .int .i64 x, .int .i64 z, .agg #[.int .i64 kk, .int .u64 nn]] w fun e w' => e = .returned (.int .i64 (set c x z (kk, nn)).2) ∧ Doc w0 P d (set c x z (kk, nn)).1 w' := by
  have K0 := Blk.new w #[.int .i64 kk, .int .u64 nn] 43
  have G0 := (But.refl (fun _ => False) w).alloc (.cells #[.int .i64 kk, .int .u64 nn] 43)
  have HRT := Lib.hid (fun w => Word.ref_right kk nn w hn)
  have k0 : (w.alloc (.cells #[.int .i64 kk, .int .u64 nn] 43)).cell? ⟨w.heap.size, 0, none⟩ = some (.int .i64 kk) := K0.cell 0
  have k1 : (w.alloc (.cells #[.int .i64 kk, .int .u64 nn] 43)).cell? ⟨w.heap.size, 1, none⟩ = some (.int .u64 nn) := K0.cell 1
  cases hv : Word.vright kk nn with
  | false =>
    rw [show set c x z (kk, nn) = (c, 1) by unfold set; rw [hv, if_neg (by simp)]]
    rw [hv] at HRT
    go_enter Try.func44, Try.ntmps44
    go_wp2_with fail
    refine (HRT.out _).mono ?_
    rintro e w2 ⟨rfl, g2⟩
    go_wp2_with fail
    go_ret
    exact ⟨rfl, h.same (G0.trans g2)⟩
  | true =>
    rw [hv] at HRT
    have hsm : n c ≤ 192 := h.inv.f.small
    cases hok : slotOK c x z with
    | false =>
      rw [show set c x z (kk, nn) = (c, 1) by unfold set; rw [hok, if_neg (by simp)]]
      by_cases h0 : x < 0
      · have H := Lib.hid h
        clear hok h
        go_enter Try.func44, Try.ntmps44
        go_wp2_with fail
        refine (HRT.out _).mono ?_
        rintro e w2 ⟨rfl, g2⟩
        go_wp2_with fail
        go_ret
        exact ⟨rfl, H.out.same (G0.trans g2)⟩
      · by_cases h1 : (n c : Int) ≤ x
        · have H := Lib.hid h
          clear hok h
          go_enter Try.func44, Try.ntmps44
          go_wp2_with fail
          refine (HRT.out _).mono ?_
          rintro e w2 ⟨rfl, g2⟩
          have H2 := H.out.same (G0.trans g2)
          obtain ⟨rb, r, Sr, a1, cap1, a2, cap2, hS⟩ := H2.seen
          have c2 := hS.k2
          have H2 := Lib.hid H2
          clear hS
          go_wp2_with fail
          go_ret
          exact ⟨rfl, H2.out⟩
        · obtain ⟨y, rfl⟩ : ∃ k : Nat, x = k := ⟨x.toNat, by omega⟩
          rw [slotOK_not, ← h.inv.vs y (by omega)] at hok
          have H := Lib.hid h
          clear h
          by_cases h2 : z < 0
          · clear hok
            go_enter Try.func44, Try.ntmps44
            go_wp2_with fail
            refine (HRT.out _).mono ?_
            rintro e w2 ⟨rfl, g2⟩
            have H2 := H.out.same (G0.trans g2)
            obtain ⟨rb, r, Sr, a1, cap1, a2, cap2, hS⟩ := H2.seen
            have c2 := hS.k2
            have H2 := Lib.hid H2
            clear hS
            go_wp2_with fail
            go_ret
            exact ⟨rfl, H2.out⟩
          · replace hok : ((valsAt c y).length : Int) ≤ z := by omega
            go_enter Try.func44, Try.ntmps44
            go_wp2_with fail
            refine (HRT.out _).mono ?_
            rintro e w2 ⟨rfl, g2⟩
            have H2 := H.out.same (G0.trans g2)
            obtain ⟨rb, r, Sr, a1, cap1, a2, cap2, hS⟩ := H2.seen
            have c2 := hS.k2
            obtain ⟨vbb, voff, vb, rfl, -, -, e2, -, -⟩ := hS.vs y (by omega)
            have H2 := Lib.hid H2
            clear hS
            go_wp2_with fail
            go_ret
            exact ⟨rfl, H2.out⟩
    | true =>
      have hci := slotOK_cell h.inv hok
      have hc := (isCell_iff c x).1 hci
      have hs := (slotOK_iff c x z).1 hok
      obtain ⟨y, rfl⟩ : ∃ k : Nat, x = k := ⟨x.toNat, by omega⟩
      obtain ⟨k, rfl⟩ : ∃ k : Nat, z = k := ⟨z.toNat, by omega⟩
      have hsl := hs.2
      rw [← h.inv.vs y (by omega)] at hs
      have hE : set c (y : Int) (k : Int) (kk, nn) = if takenAt c.f y = true then (putV c y k (kk, nn), 0) else (c, 9) := by unfold set; rw [if_pos ⟨hv, hok⟩, Int.toNat_natCast, Int.toNat_natCast]
      have hhc : (y : Int) < n c := by omega
      have hhk : (k : Int) < (valsAt c y).length := by omega
      have HIN := Lib.hid h.inv
      have HTC := Lib.hid (taken_cell h.inv hci)
      have H := Lib.hid h
      clear h hok hci hc hs
      cases ht : takenAt c.f y with
      | false =>
        rw [hE, ht]
        rw [ht] at HTC
        clear hE
        go_enter Try.func44, Try.ntmps44
        go_wp2_with fail
        refine (HRT.out _).mono ?_
        rintro e w2 ⟨rfl, g2⟩
        have g3 := G0.trans g2
        have H2 := H.out.same g3
        have K2 := K0.but g2 (fun q => q)
        obtain ⟨r, ⟨rb, Sr, vs, v1, v2, o1, o2, W, hv2⟩, hr⟩ := H2.ex
        obtain ⟨a1, cap1, a2, cap2, rfl, rfl, hS⟩ := own_seen W hv2 hr HIN.out.cl HIN.out.vl
        have c0 := hS.k0
        have c2 := hS.k2
        obtain ⟨vbb, voff, vb0, rfl, -, -, -, -, -⟩ := hS.vs y (by omega)
        obtain ⟨vb, hvb⟩ := vs_at hv2 (x := y) (by have := HIN.out.vl; omega)
        have hvl : vs.length = n c := by rw [← HIN.out.vl, ← hv2, List.length_map]
        obtain ⟨e2, f2, z2, q2, zd, hdv⟩ := own_val (show Own w0 w2 (rl P d rb r Sr c.cn vs (.slice a1 (n c) cap1) (.slice (some ⟨vbb, voff, none⟩) vs.length cap2) o1 o2) by rw [hvl]; exact W) hvb
        have BV : Blk w2 vb (valCells (valsAt c y)).toArray 43 := W.get (y + 5) (p := vbk (vb, valsAt c y)) (by show (vs.map vbk)[y]? = _; rw [List.getElem?_map, hvb]; rfl)
        have y1 := BV.frozen (k * 2)
        have y2 := BV.frozen (k * 2 + 1)
        have hgk := valCells_get (valsAt c y) k (by omega)
        have y3 : w2.cell? ⟨vb, k * 2, none⟩ = some (.int .i64 ((valsAt c y).getD k (0, 0)).1) := by have := BV.cell (k * 2); rw [List.getElem?_toArray] at this; exact this.trans hgk.1
        have y4 : w2.cell? ⟨vb, k * 2 + 1, none⟩ = some (.int .u64 ((valsAt c y).getD k (0, 0)).2) := by have := BV.cell (k * 2 + 1); rw [List.getElem?_toArray] at this; exact this.trans hgk.2
        have HW := Lib.hid W
        have htk := Free.ref_taken rb r (y : Int) w2 Sr hS.rob
        rw [Free.takenR_is hS.rel, HTC.out] at htk
        have HTK := Lib.hid htk
        obtain ⟨b3, hb3⟩ : ∃ b3, b3 = w.heap.size := ⟨_, rfl⟩
        rw [← hb3] at K2 ⊢
        clear k0 k1
        have k0 : w2.cell? ⟨b3, 0, none⟩ = some (.int .i64 kk) := K2.cell 0
        have k1 : w2.cell? ⟨b3, 1, none⟩ = some (.int .u64 nn) := K2.cell 1
        clear htk hS BV hgk hb3 K2 K0 G0 g2 g3
        have HV2 := Lib.hid hv2
        have HR := Lib.hid hr
        have HH2 := Lib.hid H2
        clear W hv2 hr H2 H
        go_wp2_with fail
        refine HTK.out.mono ?_
        rintro e wb ⟨rfl, rfl⟩
        go_wp2_with fail
        go_ret
        exact ⟨rfl, HH2.out⟩
      | true =>
        have hI := putV_inv HIN.out (p := (kk, nn)) (by omega) hsl ⟨hv, hn.1⟩ ht
        rw [hE, ht]
        rw [ht] at HTC
        have HI := Lib.hid hI
        clear hE hI
        go_enter Try.func44, Try.ntmps44
        go_wp2_with fail
        refine (HRT.out _).mono ?_
        rintro e w2 ⟨rfl, g2⟩
        have g3 := G0.trans g2
        have H2 := H.out.same g3
        have K2 := K0.but g2 (fun q => q)
        obtain ⟨r, ⟨rb, Sr, vs, v1, v2, o1, o2, W, hv2⟩, hr⟩ := H2.ex
        obtain ⟨a1, cap1, a2, cap2, rfl, rfl, hS⟩ := own_seen W hv2 hr HIN.out.cl HIN.out.vl
        have c0 := hS.k0
        have c2 := hS.k2
        obtain ⟨vbb, voff, vb0, rfl, -, -, -, -, -⟩ := hS.vs y (by omega)
        obtain ⟨vb, hvb⟩ := vs_at hv2 (x := y) (by have := HIN.out.vl; omega)
        have hvl : vs.length = n c := by rw [← HIN.out.vl, ← hv2, List.length_map]
        obtain ⟨e2, f2, z2, q2, zd, hdv⟩ := own_val (show Own w0 w2 (rl P d rb r Sr c.cn vs (.slice a1 (n c) cap1) (.slice (some ⟨vbb, voff, none⟩) vs.length cap2) o1 o2) by rw [hvl]; exact W) hvb
        have BV : Blk w2 vb (valCells (valsAt c y)).toArray 43 := W.get (y + 5) (p := vbk (vb, valsAt c y)) (by show (vs.map vbk)[y]? = _; rw [List.getElem?_map, hvb]; rfl)
        have y1 := BV.frozen (k * 2)
        have y2 := BV.frozen (k * 2 + 1)
        have hgk := valCells_get (valsAt c y) k (by omega)
        have y3 : w2.cell? ⟨vb, k * 2, none⟩ = some (.int .i64 ((valsAt c y).getD k (0, 0)).1) := by have := BV.cell (k * 2); rw [List.getElem?_toArray] at this; exact this.trans hgk.1
        have y4 : w2.cell? ⟨vb, k * 2 + 1, none⟩ = some (.int .u64 ((valsAt c y).getD k (0, 0)).2) := by have := BV.cell (k * 2 + 1); rw [List.getElem?_toArray] at this; exact this.trans hgk.2
        have HW := Lib.hid W
        have htk := Free.ref_taken rb r (y : Int) w2 Sr hS.rob
        rw [Free.takenR_is hS.rel, HTC.out] at htk
        have HTK := Lib.hid htk
        obtain ⟨b3, hb3⟩ : ∃ b3, b3 = w.heap.size := ⟨_, rfl⟩
        rw [← hb3] at K2 ⊢
        clear k0 k1
        have k0 : w2.cell? ⟨b3, 0, none⟩ = some (.int .i64 kk) := K2.cell 0
        have k1 : w2.cell? ⟨b3, 1, none⟩ = some (.int .u64 nn) := K2.cell 1
        clear htk hS BV hgk hb3 K2 K0 G0 g2 g3
        have HV2 := Lib.hid hv2
        have HR := Lib.hid hr
        have HH2 := Lib.hid H2
        clear W hv2 hr H2 H
        go_wp2_with fail
        refine HTK.out.mono ?_
        rintro e wb ⟨rfl, rfl⟩
        go_wp2_with fail
        go_still_tail 10, (by kernel_rfl)
        change wpList _ _ _ _ _ w2.drew
        obtain ⟨wd, hwd⟩ : ∃ wd, wd = w2.drew := ⟨_, rfl⟩
        have j1 : wd.frozen? ⟨vb, k * 2, none⟩ = false := by rw [hwd]; exact y1
        have j2 : wd.frozen? ⟨vb, k * 2 + 1, none⟩ = false := by rw [hwd]; exact y2
        have j3 : wd.cell? ⟨vb, k * 2, none⟩ = some (.int .i64 ((valsAt c y).getD k (0, 0)).1) := by rw [hwd]; exact y3
        have j4 : wd.cell? ⟨vb, k * 2 + 1, none⟩ = some (.int .u64 ((valsAt c y).getD k (0, 0)).2) := by rw [hwd]; exact y4
        have W3 := own_value (HW.out.same ((But.refl _ w2).drew)) hvb (k := k) (by omega) (kk, nn)
        rw [← hwd] at W3 ⊢
        have HW3 := Lib.hid W3
        clear hwd y1 y2 y3 y4 W3
        go_wp2_with fail
        go_ret
        refine ⟨rfl, ⟨r, ⟨rb, Sr, vs.set y (vb, (valsAt c y).set k (kk, nn)), _, _, o1, o2, HW3.out, ?_⟩, HR.out⟩, HI.out⟩
        rw [List.map_set, HV2.out]
        rfl

end
end Cells
end Go.Proofs.Ytngbhhcicakolaa
