/- Begin of layer 6's document's answer (free), walked. -/
import Derived.Test.YtngbhhcicakolaaFreeRef
set_option linter.unusedVariables false
set_option linter.unusedSimpArgs false
namespace Go.Proofs.Ytngbhhcicakolaa
open Go.RowKit

namespace Free

/-- The document's list, when its last k cells are laid. -/
def beginTo (s : Conf.Sh) (m k : Nat) : Rf where
  s := s
  g := List.replicate (m - k) 0 ++ List.replicate k s.st
  i := List.replicate m 0
  p := (List.range k).map (fun (i : Nat) => (m : Int) - 1 - (i : Int))
theorem beginTo_n (s : Conf.Sh) {m k : Nat} (h : k ≤ m) : rn (beginTo s m k) = m := by unfold rn beginTo; simp; omega
theorem beginTo_len (s : Conf.Sh) (m k : Nat) : (beginTo s m k).p.length = k := by unfold beginTo; simp
theorem beginTo_next (s : Conf.Sh) {m k q : Nat} (h : k < m) (hq : (m : Int) - 1 - k = q) : beginTo s m (k + 1) = { beginTo s m k with g := (beginTo s m k).g.set q s.st, p := (beginTo s m k).p ++ [(q : Int)] } := by
  have e0 : m - 1 - k = q := by omega
  unfold beginTo
  congr 1
  · rw [List.set_append_left _ _ (by simp; omega), ← e0]
    have e : (List.replicate (m - k) (0 : Int)).set (m - 1 - k) s.st = List.replicate (m - (k + 1)) 0 ++ [s.st] := by
      rw [show m - k = (m - (k + 1)) + 1 by omega, List.replicate_succ', List.set_append_right _ _ (by simp; omega)]
      rw [show m - 1 - k - (List.replicate (m - (k + 1)) (0 : Int)).length = 0 by simp; omega]; rfl
    rw [e, List.append_assoc]; rfl
  · rw [List.range_succ, List.map_append, ← hq]; rfl
def headR (s : Conf.Sh) (m bg bi : Nat) : Array Value := #[.int .i64 s.c0, .int .i64 s.c1, .int .i64 s.c2, .int .i64 s.q, .int .i64 s.st, .slice (some ⟨bg, 0, none⟩) m m, .slice (some ⟨bi, 0, none⟩) m m, .slice none 0 0]
theorem ro_new {w : World} {b bg bi : Nat} (s : Conf.Sh) (m : Nat) (hm : m ≤ 192) (h1 : Blk w b (headR s m bg bi) 109) (h2 : Blk w bg (ints (List.replicate m 0)).toArray 3) (h3 : Blk w bi (ints (List.replicate m 0)).toArray 3) (hne : b ≠ bg ∧ b ≠ bi ∧ bg ≠ bi) :
    Ro w b bg bi (.slice none 0 0) none (beginTo s m 0) := by
  have hn : rn (beginTo s m 0) = m := beginTo_n s (Nat.zero_le _)
  refine ⟨?_, ?_, h3, Row.nil _ _ _, hne, (fun k hk => by cases hk), ?_, ?_⟩
  · rw [hn]; exact h1
  · unfold beginTo; simpa using h2
  · rw [hn]; unfold beginTo; simp
  · rw [hn, beginTo_len]; omega
theorem ro_new1 (w : World) (s : Conf.Sh) (m : Nat) (hm : m ≤ 192) : Ro (((w.alloc (.cells (ints (List.replicate m 0)).toArray 3)).alloc (.cells (ints (List.replicate m 0)).toArray 3)).alloc (.cells (headR s m w.heap.size (w.heap.size + 1)) 109)).drew
    (w.heap.size + 1 + 1) w.heap.size (w.heap.size + 1) (.slice none 0 0) none (beginTo s m 0) := by
  refine (ro_new s m hm ?_ ?_ ?_ (by omega)).drew
  · simpa using Blk.new ((w.alloc (.cells (ints (List.replicate m 0)).toArray 3)).alloc (.cells (ints (List.replicate m 0)).toArray 3)) (headR s m w.heap.size (w.heap.size + 1)) 109
  · exact ((Blk.new w _ _).alloc _).alloc _
  · exact (by simpa using Blk.new (w.alloc (.cells (ints (List.replicate m 0)).toArray 3)) (ints (List.replicate m 0)).toArray 3 : Blk _ _ _ _).alloc _
theorem ro_new2 (w : World) (s : Conf.Sh) (m : Nat) (hm : m ≤ 192) : Ro (((w.alloc (.cells (ints (List.replicate m 0)).toArray 3)).alloc (.cells (ints (List.replicate m 0)).toArray 3)).alloc (.cells (headR s m (w.heap.size + 1) w.heap.size) 109)).drew
    (w.heap.size + 1 + 1) (w.heap.size + 1) w.heap.size (.slice none 0 0) none (beginTo s m 0) := by
  refine (ro_new s m hm ?_ ?_ ?_ (by omega)).drew
  · simpa using Blk.new ((w.alloc (.cells (ints (List.replicate m 0)).toArray 3)).alloc (.cells (ints (List.replicate m 0)).toArray 3)) (headR s m (w.heap.size + 1) w.heap.size) 109
  · exact (by simpa using Blk.new (w.alloc (.cells (ints (List.replicate m 0)).toArray 3)) (ints (List.replicate m 0)).toArray 3 : Blk _ _ _ _).alloc _
  · exact ((Blk.new w _ _).alloc _).alloc _

set_option maxHeartbeats 16000000 in
set_option maxRecDepth 100000 in
theorem begin_any (s : Conf.Sh) (w : World) (h : Conf.ok s = true) : Calls Try.prog 38 #[.agg (Conf.sh s)] w fun e w' => ∃ b S, e = .returned (.pointer (some ⟨b, 0, none⟩)) ∧ Rob b (beginTo s (Conf.count s).toNat (Conf.count s).toNat) w' S ∧ But (fun _ => False) w w' ∧ ∀ k, S k → w.heap.size ≤ k := by
  obtain ⟨i0, hi, hz0, hz1, hz2⟩ := info_parts infoInt
  have hcb := Conf.count_bd s
  obtain ⟨m, hm⟩ : ∃ m : Nat, Conf.count s = m := ⟨(Conf.count s).toNat, by omega⟩
  have hm2 : m ≤ 192 := by omega
  rw [hm, Int.toNat_natCast]
  have HM := Lib.hid hm
  clear h hcb hm
  have hbx : ∀ (w : World) T, Blk (w.alloc (.cells (Conf.sh s) T)) w.heap.size (Conf.sh s) T := fun w T => Blk.new w _ T
  have hct := fun w => Conf.ref_count s w
  unfold Conf.sh at hbx hct ⊢
  have HB := Lib.hid hbx
  have HCt := Lib.hid hct
  have hmk1 := mk_ints m (by omega)
  clear hbx hct
  go_enter Try.func38, Try.ntmps38
  go_wp2_with fail
  refine (HCt.out _).mono ?_
  rintro e w2 ⟨rfl, g2⟩
  rw [HM.out]
  have X2 := Lib.hid ((HB.out w 24).but g2 (fun q => q))
  have G2 := Lib.hid (((But.refl (fun _ => False) w).alloc _).trans g2)
  clear g2
  have k0 : w2.cell? ⟨w.heap.size, 0, none⟩ = some (.int .i64 s.c0) := X2.out.cell 0
  have k1 : w2.cell? ⟨w.heap.size, 1, none⟩ = some (.int .i64 s.c1) := X2.out.cell 1
  have k2 : w2.cell? ⟨w.heap.size, 2, none⟩ = some (.int .i64 s.c2) := X2.out.cell 2
  have k3 : w2.cell? ⟨w.heap.size, 3, none⟩ = some (.int .i64 s.q) := X2.out.cell 3
  have k4 : w2.cell? ⟨w.heap.size, 4, none⟩ = some (.int .i64 s.st) := X2.out.cell 4
  obtain ⟨bx, hbx⟩ : ∃ bx, bx = w.heap.size := ⟨_, rfl⟩
  rw [← hbx] at k0 k1 k2 k3 k4 X2 ⊢
  have HBX := Lib.hid hbx
  clear hbx
  have hx2 : bx < w2.heap.size := X2.out.lt
  have hx3 : bx < w2.heap.size + 1 := by omega
  have hx4 : bx < w2.heap.size + 1 + 1 := by omega
  go_wp2_with fail
  go_region_held3 (fun w' => w'.cell? ⟨bx, 0, none⟩ = some (.int .i64 s.c0) ∧ w'.cell? ⟨bx, 1, none⟩ = some (.int .i64 s.c1) ∧ w'.cell? ⟨bx, 2, none⟩ = some (.int .i64 s.c2) ∧ w'.cell? ⟨bx, 3, none⟩ = some (.int .i64 s.q) ∧ w'.cell? ⟨bx, 4, none⟩ = some (.int .i64 s.st)) (first | (exact ⟨far3 k0, far3 k1, far3 k2, far3 k3, far3 k4⟩) | go_keep) (fail)
  · have hF := ro_new1 w2 s m hm2
    obtain ⟨w3, hw3⟩ : ∃ w3, w3 = (((w2.alloc (.cells (ints (List.replicate m 0)).toArray 3)).alloc (.cells (ints (List.replicate m 0)).toArray 3)).alloc (.cells (headR s m w2.heap.size (w2.heap.size + 1)) 109)).drew := ⟨_, rfl⟩
    have g3 : But (fun _ => False) w2 w3 := by rw [hw3]; exact but3 _ _ _ _
    rw [← hw3] at hF
    change Exit.then _ _ _ _ (((w2.alloc (.cells (ints (List.replicate m 0)).toArray 3)).alloc (.cells (ints (List.replicate m 0)).toArray 3)).alloc (.cells (headR s m w2.heap.size (w2.heap.size + 1)) 109)).drew
    rw [← hw3]
    obtain ⟨b, hb⟩ : ∃ b, b = w2.heap.size + 1 + 1 := ⟨_, rfl⟩
    rw [← hb] at hF
    have HF := Lib.hid hF
    have HG3 := Lib.hid g3
    have hbl : w2.heap.size ≤ b := by omega
    have eb : w2.heap.size + 1 + 1 = b := hb.symm
    try rw [eb]
    have hlow : ∀ k, rfoot b w2.heap.size (w2.heap.size + 1) none k → w2.heap.size ≤ k := by
      rintro k (rfl | rfl | rfl | e)
      · omega
      · omega
      · omega
      · cases e
    have HL := Lib.hid hlow
    clear hlow hF g3 hw3 hb eb k0 k1 k2 k3 k4 hx3 hx4
    go_wp2_with fail
    go_loopg [5] m (fun k i1 wr => ∃ (j bg bi : Nat) (pv : Value) (po : Option Nat), j + k = m ∧ i1 = .int .i64 ((m : Int) - 1 - j) ∧ Ro wr b bg bi pv po (beginTo s m j) ∧ (∀ k, rfoot b bg bi po k → w2.heap.size ≤ k) ∧ But (fun _ => False) w2 wr)
    case atStart => exact ⟨0, _, _, _, _, by omega, by simp, HF.out, HL.out, HG3.out⟩
    case round =>
      obtain ⟨j, bg, bi, pv, po, hj, rfl, hF, hL, hB⟩ := hrel
      have HFj := Lib.hid hF
      have HLj := Lib.hid hL
      clear hF hL
      clear HF HL HG3
      have HNN := Lib.hid (beginTo_n s (m := m) (k := j) (by omega))
      by_cases hlt : j < m
      · obtain ⟨q, hq⟩ : ∃ q : Nat, (m : Int) - 1 - j = q := ⟨m - 1 - j, by omega⟩
        have hqm : q < m := by omega
        have hq2 : (q : Int) < m := by omega
        have HQ := Lib.hid hq
        rw [HQ.out]
        have Xr := Lib.hid (X2.out.but hB (fun z => z))
        have hbg := HLj.out bg (.inr (.inl rfl))
        have hxg1 : ¬ bx = bg := by omega
        have hxg2 : ¬ bg = bx := by omega
        have k4 : wr.cell? ⟨bx, 4, none⟩ = some (.int .i64 s.st) := Xr.out.cell 4
        have c11 := HFj.out.cellG
        have cg := HFj.out.gen (x := q) (by rw [HNN.out]; exact hqm)
        have fg := HFj.out.gs.frozen q
        rw [HNN.out] at c11
        clear hq
        go_wp2_with fail
        go_still_tail 8, (by kernel_rfl)
        change wpList _ _ _ _ _ wr.drew
        obtain ⟨F, hFe⟩ : ∃ F, F = { beginTo s m j with g := (beginTo s m j).g.set q s.st } := ⟨_, rfl⟩
        have h5 := HFj.out.setG q s.st
        rw [← hFe] at h5
        have hlen : F.p.length ≤ 192 ∧ F.p.length = j := by rw [hFe]; show (beginTo s m j).p.length ≤ 192 ∧ (beginTo s m j).p.length = j; rw [beginTo_len]; omega
        obtain ⟨hlen, hlj⟩ := hlen
        have hlen2 : (F.p ++ [(q : Int)]).length ≤ 192 := by rw [List.length_append, hlj]; simp; omega
        have HFe := Lib.hid hFe
        have HG5 := Lib.hid (show But (fun _ => False) w2 (wr.setCell ⟨bg, q, none⟩ (.int .i64 s.st)) from hB.setCell (by exact .inr hbg) _)
        have HSZ := Lib.hid (show ((wr.setCell ⟨bg, q, none⟩ (.int .i64 s.st))).heap.size = wr.heap.size by simp [World.setCell])
        have H5 := Lib.hid h5
        obtain ⟨a, cap, hv', hcap1', hcap2', cp5⟩ := h5.cellP
        have cp : wr.cell? ⟨b, 7, none⟩ = some (.slice a F.p.length cap) := by
          rw [HFj.out.blk.cell, ← hv']; rfl
        have hbb1 : ¬ b = bg := HFj.out.ne.1
        have hbb2 : ¬ bg = b := fun e => hbb1 e.symm
        have HV := Lib.hid hv'
        clear h5 hFe hv' hlj cp5
        go_wp2_with ((at_builtin; refine wpList_append_row _ rfl _ _ _ rfl 3 i0 (.int .i64 0) 1 8 Try.underlying51 hi hz0 hz1 hz2 rfl (by decide) (.slice a F.p.length cap) po F.p.length (ints F.p) (by rw [← HV.out]; exact (H5.out.row.alloc _).drew) rfl ⟨wr.heap.size, 0, none⟩ 1 1 [.int .i64 q] rfl rfl (fun j u hj => new_src' (wr.setCell ⟨bg, q, none⟩ (.int .i64 s.st)) [.int .i64 q] 3 HSZ.out j u hj) (by simp [Value.oneCell']) (by unfold maxLen; omega) (by omega) ?_; intro v6 w6 o6 hR6 hB6 hN6; obtain ⟨a6, cap6, rfl, h61, h62⟩ := hR6.val; have hB7 := ((But.refl (fun k => po = some k) (wr.setCell ⟨bg, q, none⟩ (.int .i64 s.st))).alloc (.cells #[.int .i64 q] 3)).drew.trans hB6; have fp6 : w6.frozen? ⟨b, 7, none⟩ = false := (H5.out.blk.but hB7 (fun z => (H5.out.far b z).1 rfl)).frozen _; have cp6 : w6.cell? ⟨b, 7, none⟩ = some (.slice a F.p.length cap) := by rw [(H5.out.blk.but hB7 (fun z => (H5.out.far b z).1 rfl)).cell, ← HV.out]; rfl))
        go_roundg (m - (j + 1))
        case measure => omega
        case rel =>
          have hN7 : ∀ k, o6 = some k → po = some k ∨ wr.heap.size ≤ k := fun k hk => by
            rcases hN6 k hk with z | z
            · exact .inl z
            · simp [World.setCell] at z; exact .inr (by omega)
          have hR7 : Row w6 3 1 (.slice a6 (F.p.length + 1) cap6) o6 (F.p ++ [(q : Int)]).length (ints (F.p ++ [(q : Int)])) := by simpa [ints] using hR6
          have hbs := hB.size
          refine ⟨j + 1, bg, bi, _, o6, by omega, (by have := HQ.out; exact congrArg (Value.int .i64) (by omega)), (by
            have e := H5.out.newP (F.p ++ [(q : Int)]) _ o6 hlen2 hR7 hB7 (by rw [HSZ.out]; exact hN7)
            rw [beginTo_next s hlt HQ.out]
            rw [HFe.out] at e ⊢
            exact e), ?_, ?_⟩
          · rintro k (rfl | rfl | rfl | e)
            · exact hbl
            · exact HLj.out k (.inr (.inl rfl))
            · exact HLj.out k (.inr (.inr (.inl rfl)))
            · rcases hN7 k e with z | z
              · exact HLj.out k (.inr (.inr (.inr z)))
              · omega
          · exact (HG5.out.trans' hB7 (fun k hk => .inr (HLj.out k (.inr (.inr (.inr hk)))))).setCell (by exact .inr hbl) _
      · obtain rfl : j = m := by omega
        go_wp2_with fail
        go_ret
        exact ⟨b, _, rfl, ⟨bg, bi, pv, po, HFj.out, rfl⟩, G2.out.trans hB, fun k hk => by have := HLj.out k hk; have := G2.out.size; omega⟩
  · have hF := ro_new2 w2 s m hm2
    obtain ⟨w3, hw3⟩ : ∃ w3, w3 = (((w2.alloc (.cells (ints (List.replicate m 0)).toArray 3)).alloc (.cells (ints (List.replicate m 0)).toArray 3)).alloc (.cells (headR s m (w2.heap.size + 1) w2.heap.size) 109)).drew := ⟨_, rfl⟩
    have g3 : But (fun _ => False) w2 w3 := by rw [hw3]; exact but3 _ _ _ _
    rw [← hw3] at hF
    change Exit.then _ _ _ _ (((w2.alloc (.cells (ints (List.replicate m 0)).toArray 3)).alloc (.cells (ints (List.replicate m 0)).toArray 3)).alloc (.cells (headR s m (w2.heap.size + 1) w2.heap.size) 109)).drew
    rw [← hw3]
    obtain ⟨b, hb⟩ : ∃ b, b = w2.heap.size + 1 + 1 := ⟨_, rfl⟩
    rw [← hb] at hF
    have HF := Lib.hid hF
    have HG3 := Lib.hid g3
    have hbl : w2.heap.size ≤ b := by omega
    have eb : w2.heap.size + 1 + 1 = b := hb.symm
    try rw [eb]
    have hlow : ∀ k, rfoot b (w2.heap.size + 1) w2.heap.size none k → w2.heap.size ≤ k := by
      rintro k (rfl | rfl | rfl | e)
      · omega
      · omega
      · omega
      · cases e
    have HL := Lib.hid hlow
    clear hlow hF g3 hw3 hb eb k0 k1 k2 k3 k4 hx3 hx4
    go_wp2_with fail
    go_loopg [5] m (fun k i1 wr => ∃ (j bg bi : Nat) (pv : Value) (po : Option Nat), j + k = m ∧ i1 = .int .i64 ((m : Int) - 1 - j) ∧ Ro wr b bg bi pv po (beginTo s m j) ∧ (∀ k, rfoot b bg bi po k → w2.heap.size ≤ k) ∧ But (fun _ => False) w2 wr)
    case atStart => exact ⟨0, _, _, _, _, by omega, by simp, HF.out, HL.out, HG3.out⟩
    case round =>
      obtain ⟨j, bg, bi, pv, po, hj, rfl, hF, hL, hB⟩ := hrel
      have HFj := Lib.hid hF
      have HLj := Lib.hid hL
      clear hF hL
      clear HF HL HG3
      have HNN := Lib.hid (beginTo_n s (m := m) (k := j) (by omega))
      by_cases hlt : j < m
      · obtain ⟨q, hq⟩ : ∃ q : Nat, (m : Int) - 1 - j = q := ⟨m - 1 - j, by omega⟩
        have hqm : q < m := by omega
        have hq2 : (q : Int) < m := by omega
        have HQ := Lib.hid hq
        rw [HQ.out]
        have Xr := Lib.hid (X2.out.but hB (fun z => z))
        have hbg := HLj.out bg (.inr (.inl rfl))
        have hxg1 : ¬ bx = bg := by omega
        have hxg2 : ¬ bg = bx := by omega
        have k4 : wr.cell? ⟨bx, 4, none⟩ = some (.int .i64 s.st) := Xr.out.cell 4
        have c11 := HFj.out.cellG
        have cg := HFj.out.gen (x := q) (by rw [HNN.out]; exact hqm)
        have fg := HFj.out.gs.frozen q
        rw [HNN.out] at c11
        clear hq
        go_wp2_with fail
        go_still_tail 8, (by kernel_rfl)
        change wpList _ _ _ _ _ wr.drew
        obtain ⟨F, hFe⟩ : ∃ F, F = { beginTo s m j with g := (beginTo s m j).g.set q s.st } := ⟨_, rfl⟩
        have h5 := HFj.out.setG q s.st
        rw [← hFe] at h5
        have hlen : F.p.length ≤ 192 ∧ F.p.length = j := by rw [hFe]; show (beginTo s m j).p.length ≤ 192 ∧ (beginTo s m j).p.length = j; rw [beginTo_len]; omega
        obtain ⟨hlen, hlj⟩ := hlen
        have hlen2 : (F.p ++ [(q : Int)]).length ≤ 192 := by rw [List.length_append, hlj]; simp; omega
        have HFe := Lib.hid hFe
        have HG5 := Lib.hid (show But (fun _ => False) w2 (wr.setCell ⟨bg, q, none⟩ (.int .i64 s.st)) from hB.setCell (by exact .inr hbg) _)
        have HSZ := Lib.hid (show ((wr.setCell ⟨bg, q, none⟩ (.int .i64 s.st))).heap.size = wr.heap.size by simp [World.setCell])
        have H5 := Lib.hid h5
        obtain ⟨a, cap, hv', hcap1', hcap2', cp5⟩ := h5.cellP
        have cp : wr.cell? ⟨b, 7, none⟩ = some (.slice a F.p.length cap) := by
          rw [HFj.out.blk.cell, ← hv']; rfl
        have hbb1 : ¬ b = bg := HFj.out.ne.1
        have hbb2 : ¬ bg = b := fun e => hbb1 e.symm
        have HV := Lib.hid hv'
        clear h5 hFe hv' hlj cp5
        go_wp2_with ((at_builtin; refine wpList_append_row _ rfl _ _ _ rfl 3 i0 (.int .i64 0) 1 8 Try.underlying51 hi hz0 hz1 hz2 rfl (by decide) (.slice a F.p.length cap) po F.p.length (ints F.p) (by rw [← HV.out]; exact (H5.out.row.alloc _).drew) rfl ⟨wr.heap.size, 0, none⟩ 1 1 [.int .i64 q] rfl rfl (fun j u hj => new_src' (wr.setCell ⟨bg, q, none⟩ (.int .i64 s.st)) [.int .i64 q] 3 HSZ.out j u hj) (by simp [Value.oneCell']) (by unfold maxLen; omega) (by omega) ?_; intro v6 w6 o6 hR6 hB6 hN6; obtain ⟨a6, cap6, rfl, h61, h62⟩ := hR6.val; have hB7 := ((But.refl (fun k => po = some k) (wr.setCell ⟨bg, q, none⟩ (.int .i64 s.st))).alloc (.cells #[.int .i64 q] 3)).drew.trans hB6; have fp6 : w6.frozen? ⟨b, 7, none⟩ = false := (H5.out.blk.but hB7 (fun z => (H5.out.far b z).1 rfl)).frozen _; have cp6 : w6.cell? ⟨b, 7, none⟩ = some (.slice a F.p.length cap) := by rw [(H5.out.blk.but hB7 (fun z => (H5.out.far b z).1 rfl)).cell, ← HV.out]; rfl))
        go_roundg (m - (j + 1))
        case measure => omega
        case rel =>
          have hN7 : ∀ k, o6 = some k → po = some k ∨ wr.heap.size ≤ k := fun k hk => by
            rcases hN6 k hk with z | z
            · exact .inl z
            · simp [World.setCell] at z; exact .inr (by omega)
          have hR7 : Row w6 3 1 (.slice a6 (F.p.length + 1) cap6) o6 (F.p ++ [(q : Int)]).length (ints (F.p ++ [(q : Int)])) := by simpa [ints] using hR6
          have hbs := hB.size
          refine ⟨j + 1, bg, bi, _, o6, by omega, (by have := HQ.out; exact congrArg (Value.int .i64) (by omega)), (by
            have e := H5.out.newP (F.p ++ [(q : Int)]) _ o6 hlen2 hR7 hB7 (by rw [HSZ.out]; exact hN7)
            rw [beginTo_next s hlt HQ.out]
            rw [HFe.out] at e ⊢
            exact e), ?_, ?_⟩
          · rintro k (rfl | rfl | rfl | e)
            · exact hbl
            · exact HLj.out k (.inr (.inl rfl))
            · exact HLj.out k (.inr (.inr (.inl rfl)))
            · rcases hN7 k e with z | z
              · exact HLj.out k (.inr (.inr (.inr z)))
              · omega
          · exact (HG5.out.trans' hB7 (fun k hk => .inr (HLj.out k (.inr (.inr (.inr hk)))))).setCell (by exact .inr hbl) _
      · obtain rfl : j = m := by omega
        go_wp2_with fail
        go_ret
        exact ⟨b, _, rfl, ⟨bg, bi, pv, po, HFj.out, rfl⟩, G2.out.trans hB, fun k hk => by have := HLj.out k hk; have := G2.out.size; omega⟩

end Free
end Go.Proofs.Ytngbhhcicakolaa
