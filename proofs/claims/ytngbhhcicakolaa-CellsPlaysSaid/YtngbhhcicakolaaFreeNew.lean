/- New of package free, walked. -/
import Derived.Test.YtngbhhcicakolaaFreeWalks
import Derived.Laws.MakeOwn
import Derived.Laws.OwnMore
set_option linter.unusedVariables false
set_option linter.unusedSimpArgs false
namespace Go.Proofs.Ytngbhhcicakolaa
open Go.RowKit

namespace Free

theorem far3 {w : World} {b i : Nat} {v : Value} {o1 o2 o3 : Obj} (h : w.cell? ⟨b, i, none⟩ = some v) : (((w.alloc o1).alloc o2).alloc o3).drew.cell? ⟨b, i, none⟩ = some v := by
  have hb := World.block_lt_of_cell? w _ h
  have e := ((((But.refl (fun _ => False) w).alloc o1).alloc o2).alloc o3).drew
  rw [← h]; exact World.cell?_of_block (w := w) (e.block b hb (fun q => q))

theorem infoBool : (Try.prog.info? 4).map (fun i => (i.zero, i.size, i.bytes)) = some (some (.bool false), 1, 1) := by kernel_rfl
theorem made_ints (n : Nat) : madeCells #[.int .i64 0] n = (ints (List.replicate n 0)).toArray := by
  apply Array.ext'; rw [toList_madeCells_one]; unfold ints; simp
theorem made_bools (n : Nat) : madeCells #[.bool false] n = (bools (List.replicate n false)).toArray := by
  apply Array.ext'; rw [toList_madeCells_one]; unfold bools; simp
theorem mk_ints (n : Nat) (hn : n ≤ 65536) (w : World) : (Instr.makeSlice 51 (.int .i64 n) (.int .i64 n)).run Try.prog w = .ok (.slice (some ⟨w.heap.size, 0, none⟩) n n) (w.alloc (.cells (ints (List.replicate n 0)).toArray 3)) := by
  obtain ⟨i0, hi, hz0, hz1, hz2⟩ := info_parts infoInt
  have h := run_make w 51 3 i0 (.int .i64 0) Try.underlying51 hi hz0 .i64 .i64 n n (by omega) (Int.le_refl _) (by rw [hz2]; omega) (by omega)
  rw [h, hz1]
  simp only [Int.toNat_natCast, Nat.mul_one]
  rw [show (Value.int .i64 0).cells = #[.int .i64 0] from rfl, made_ints]
theorem mk_bools (n : Nat) (hn : n ≤ 65536) (w : World) : (Instr.makeSlice 104 (.int .i64 n) (.int .i64 n)).run Try.prog w = .ok (.slice (some ⟨w.heap.size, 0, none⟩) n n) (w.alloc (.cells (bools (List.replicate n false)).toArray 4)) := by
  obtain ⟨i0, hi, hz0, hz1, hz2⟩ := info_parts infoBool
  have h := run_make w 104 4 i0 (.bool false) Try.underlying104 hi hz0 .i64 .i64 n n (by omega) (Int.le_refl _) (by rw [hz2]; omega) (by omega)
  rw [h, hz1]
  simp only [Int.toNat_natCast, Nat.mul_one]
  rw [show (Value.bool false).cells = #[.bool false] from rfl, made_bools]

/-- The share alone, in a slice that was made for it. -/
theorem shs_one {w : World} {s : Conf.Sh} {b : Nat} {T : TypeId} (h : Blk w b (Conf.sh s) T) : Conf.Shs w (some ⟨b, 0, none⟩) 1 [s] := by
  refine ⟨rfl, fun i hi => ?_⟩
  obtain rfl : i = 0 := by omega
  exact ⟨b, 0, s, rfl, h.lt, rfl, fun j hj => by rw [h.cell]; simp⟩
theorem right_one (s : Conf.Sh) : Conf.right [s] = Conf.ok s := by unfold Conf.right; simp

/-- The list, when its last k cells are laid. -/
def initTo (s : Conf.Sh) (m k : Nat) : Fr where
  s := s
  p := fun c => ((List.range k).map (fun (i : Nat) => (m : Int) - 1 - (i : Int))).filter (fun x => decide ((Conf.find s x).1 = c))
  r := fun _ => 0
  g := List.replicate (m - k) 0 ++ List.replicate k s.st
  t := List.replicate m false
theorem initTo_n (s : Conf.Sh) {m k : Nat} (h : k ≤ m) : n (initTo s m k) = m := by unfold n initTo; simp; omega
theorem initTo_succ (s : Conf.Sh) {m k : Nat} (h : k < m) {c : Nat} (hc : (Conf.find s ((m : Int) - 1 - k)).1 = c) :
    initTo s m (k + 1) = { initTo s m k with g := (initTo s m k).g.set (m - 1 - k) s.st, p := upd (initTo s m k).p c ((initTo s m k).p c ++ [(m : Int) - 1 - k]) } := by
  unfold initTo
  congr 1
  · funext d
    rw [List.range_succ, List.map_append, List.filter_append]
    unfold upd
    split
    · rename_i e; subst e; simp [hc]
    · rename_i e
      have : ¬ c = d := fun q => e q.symm
      simp only [List.map_cons, List.map_nil, List.filter_cons, hc, List.filter_nil]
      rw [if_neg (by simp; omega)]; simp
  · rw [List.set_append_left _ _ (by simp; omega)]
    have e : (List.replicate (m - k) (0 : Int)).set (m - 1 - k) s.st = List.replicate (m - (k + 1)) 0 ++ [s.st] := by
      rw [show m - k = (m - (k + 1)) + 1 by omega, List.replicate_succ', List.set_append_right _ _ (by simp; omega)]
      rw [show m - 1 - k - (List.replicate (m - (k + 1)) (0 : Int)).length = 0 by simp; omega]; rfl
    rw [e, List.append_assoc]; rfl

def headC (s : Conf.Sh) (m bg bt : Nat) : Array Value := #[.int .i64 s.c0, .int .i64 s.c1, .int .i64 s.c2, .int .i64 s.q, .int .i64 s.st, .slice none 0 0, .slice none 0 0, .slice none 0 0, .int .i64 0, .int .i64 0, .int .i64 0, .slice (some ⟨bg, 0, none⟩) m m, .slice (some ⟨bt, 0, none⟩) m m]
theorem fo_new {w : World} {b bg bt : Nat} (s : Conf.Sh) (m : Nat) (h1 : Blk w b (headC s m bg bt) 107) (h2 : Blk w bg (ints (List.replicate m 0)).toArray 3) (h3 : Blk w bt (bools (List.replicate m false)).toArray 4) (hne : b ≠ bg ∧ b ≠ bt ∧ bg ≠ bt) :
    Fo w b bg bt (fun _ => .slice none 0 0) (fun _ => none) (initTo s m 0) := by
  have hn : n (initTo s m 0) = m := initTo_n s (Nat.zero_le _)
  refine ⟨?_, ?_, h3, fun c hc => Row.nil _ _ _, hne, (fun c hc k hk => by cases hk), (fun c d hc hd hcd k hk => by cases hk)⟩
  · rw [hn]; exact h1
  · unfold initTo; simpa using h2
theorem fo_new1 (w : World) (s : Conf.Sh) (m : Nat) : Fo (((w.alloc (.cells (ints (List.replicate m 0)).toArray 3)).alloc (.cells (bools (List.replicate m false)).toArray 4)).alloc (.cells (headC s m w.heap.size (w.heap.size + 1)) 107)).drew
    (w.heap.size + 1 + 1) w.heap.size (w.heap.size + 1) (fun _ => .slice none 0 0) (fun _ => none) (initTo s m 0) := by
  refine (fo_new s m ?_ ?_ ?_ (by omega)).drew
  · simpa using Blk.new ((w.alloc (.cells (ints (List.replicate m 0)).toArray 3)).alloc (.cells (bools (List.replicate m false)).toArray 4)) (headC s m w.heap.size (w.heap.size + 1)) 107
  · exact ((Blk.new w _ _).alloc _).alloc _
  · exact (by simpa using Blk.new (w.alloc (.cells (ints (List.replicate m 0)).toArray 3)) (bools (List.replicate m false)).toArray 4 : Blk _ _ _ _).alloc _
theorem fo_new2 (w : World) (s : Conf.Sh) (m : Nat) : Fo (((w.alloc (.cells (bools (List.replicate m false)).toArray 4)).alloc (.cells (ints (List.replicate m 0)).toArray 3)).alloc (.cells (headC s m (w.heap.size + 1) w.heap.size) 107)).drew
    (w.heap.size + 1 + 1) (w.heap.size + 1) w.heap.size (fun _ => .slice none 0 0) (fun _ => none) (initTo s m 0) := by
  refine (fo_new s m ?_ ?_ ?_ (by omega)).drew
  · simpa using Blk.new ((w.alloc (.cells (bools (List.replicate m false)).toArray 4)).alloc (.cells (ints (List.replicate m 0)).toArray 3)) (headC s m (w.heap.size + 1) w.heap.size) 107
  · exact (by simpa using Blk.new (w.alloc (.cells (bools (List.replicate m false)).toArray 4)) (ints (List.replicate m 0)).toArray 3 : Blk _ _ _ _).alloc _
  · exact ((Blk.new w _ _).alloc _).alloc _
theorem but3 (w : World) (o1 o2 o3 : Obj) : But (fun _ => False) w (((w.alloc o1).alloc o2).alloc o3).drew := ((((But.refl _ w).alloc o1).alloc o2).alloc o3).drew
/-- One generation is laid. -/
theorem Fo.setg {w : World} {b bg bt : Nat} {pv : Nat → Value} {po : Nat → Option Nat} {f : Fr} (h : Fo w b bg bt pv po f) (x : Nat) (y : Int) : Fo (w.setCell ⟨bg, x, none⟩ (.int .i64 y)) b bg bt pv po { f with g := f.g.set x y } := by
  have hne := h.ne
  have hn : n { f with g := f.g.set x y } = n f := by unfold n; simp
  refine ⟨?_, ints_set h.gs x y, h.ts.far (fun e => hne.2.2 e.symm) _, fun d hd => (h.rows d hd).far (p := ⟨bg, x, none⟩) (fun e => (h.far d hd bg e).2.1 rfl) _, hne, h.far, h.apart⟩
  rw [hn]; exact h.blk.far hne.1 _

theorem initTo_next (s : Conf.Sh) {m k q : Nat} (h : k < m) (hq : (m : Int) - 1 - k = q) {c : Nat} (hc : (Conf.find s (q : Int)).1 = c) {F : Fr} (hF : F = { initTo s m k with g := (initTo s m k).g.set q s.st }) :
    initTo s m (k + 1) = { F with p := upd F.p c (F.p c ++ [(q : Int)]) } := by
  have e : m - 1 - k = q := by omega
  subst hF
  rw [initTo_succ s h (by rw [hq]; exact hc), e, hq]
theorem cls_of {s : Conf.Sh} (h : Conf.ok s = true) {m q : Nat} (hm : Conf.count s = m) (hq : q < m) : ∃ c : Nat, c < 3 ∧ (Conf.find s (q : Int)).1 = c := by
  have hok := (Conf.ok_iff s).1 h
  unfold Conf.count at hm
  rw [if_pos h] at hm
  unfold Conf.find
  rw [if_pos ⟨h, by omega⟩]
  by_cases h1 : (q : Int) < s.c0
  · rw [if_pos h1]; exact ⟨0, by omega, rfl⟩
  · rw [if_neg h1]
    by_cases h2 : (q : Int) - s.c0 < s.c1
    · rw [if_pos h2]; exact ⟨1, by omega, rfl⟩
    · rw [if_neg h2, if_pos (by omega)]; exact ⟨2, by omega, rfl⟩
theorem initTo_len (s : Conf.Sh) (m k c : Nat) : ((initTo s m k).p c).length ≤ k := by
  unfold initTo; exact Nat.le_trans (List.length_filter_le _ _) (by simp)

set_option maxHeartbeats 4000000 in
set_option maxRecDepth 100000 in
theorem new_no (s : Conf.Sh) (w : World) (h : Conf.ok s = false) : Calls Try.prog 31 #[.agg (Conf.sh s)] w fun e w' => e = .returned (.tuple #[.pointer none, .int .i64 1]) ∧ But (fun _ => False) w w' := by
  have HO := Lib.hid h
  clear h
  have hsh : ∀ (w : World) T, Conf.Shs ((w.alloc (.cells (Conf.sh s) T)).alloc (.cells (Conf.sh s) T)) (some ⟨w.heap.size + 1, 0, none⟩) 1 [s] := fun w T => shs_one (T := T) (by simpa using Blk.new (w.alloc (.cells (Conf.sh s) T)) (Conf.sh s) T)
  unfold Conf.sh at hsh ⊢
  have HS := Lib.hid hsh
  clear hsh
  go_enter Try.func31, Try.ntmps31
  go_wp2_with fail
  refine (Conf.right_any (some ⟨w.heap.size + 1, 0, none⟩) 1 1 [s] _ (HS.out _ _) (by omega)).mono ?_
  rintro e w1 ⟨rfl, g1⟩
  rw [right_one, HO.out]
  go_wp2_with fail
  go_ret2
  exact ⟨rfl, (((But.refl _ w).alloc _).alloc _).trans g1⟩

set_option maxHeartbeats 16000000 in
set_option maxRecDepth 100000 in
theorem new_yes (s : Conf.Sh) (w : World) (h : Conf.ok s = true) : Calls Try.prog 31 #[.agg (Conf.sh s)] w fun e w' => ∃ b S, e = .returned (.tuple #[.pointer (some ⟨b, 0, none⟩), .int .i64 0]) ∧ Fob b (initTo s (Conf.count s).toNat (Conf.count s).toNat) w' S ∧ But (fun _ => False) w w' ∧ ∀ k, S k → w.heap.size ≤ k := by
  obtain ⟨i0, hi, hz0, hz1, hz2⟩ := info_parts infoInt
  have HO := Lib.hid h
  have hcb := Conf.count_bd s
  obtain ⟨m, hm⟩ : ∃ m : Nat, Conf.count s = m := ⟨(Conf.count s).toNat, by omega⟩
  have hm2 : m ≤ 192 := by omega
  rw [hm, Int.toNat_natCast]
  have HM := Lib.hid hm
  clear h hcb hm
  have hsh : ∀ (w : World) T, Conf.Shs ((w.alloc (.cells (Conf.sh s) T)).alloc (.cells (Conf.sh s) T)) (some ⟨w.heap.size + 1, 0, none⟩) 1 [s] := fun w T => shs_one (T := T) (by simpa using Blk.new (w.alloc (.cells (Conf.sh s) T)) (Conf.sh s) T)
  have hbx : ∀ (w : World) T, Blk ((w.alloc (.cells (Conf.sh s) T)).alloc (.cells (Conf.sh s) T)) w.heap.size (Conf.sh s) T := fun w T => (Blk.new w _ T).alloc _
  have hct := fun w => Conf.count_any s w
  have hcc := fun (q : Nat) (hq : q ≤ 200) w => Conf.class_any s q w (by omega)
  unfold Conf.sh at hsh hbx hct hcc ⊢
  have HS := Lib.hid hsh
  have HB := Lib.hid hbx
  have HCt := Lib.hid hct
  have HCc := Lib.hid hcc
  have hmk1 := mk_ints m (by omega)
  have hmk2 := mk_bools m (by omega)
  clear hsh hbx hct hcc
  go_enter Try.func31, Try.ntmps31
  go_wp2_with fail
  refine (Conf.right_any (some ⟨w.heap.size + 1, 0, none⟩) 1 1 [s] _ (HS.out _ _) (by omega)).mono ?_
  rintro e w1 ⟨rfl, g1⟩
  rw [right_one, HO.out]
  have X1 := Lib.hid ((HB.out w 24).but g1 (fun q => q))
  have G1 := Lib.hid ((((But.refl (fun _ => False) w).alloc _).alloc _).trans g1)
  clear g1
  have k0 : w1.cell? ⟨w.heap.size, 0, none⟩ = some (.int .i64 s.c0) := X1.out.cell 0
  have k1 : w1.cell? ⟨w.heap.size, 1, none⟩ = some (.int .i64 s.c1) := X1.out.cell 1
  have k2 : w1.cell? ⟨w.heap.size, 2, none⟩ = some (.int .i64 s.c2) := X1.out.cell 2
  have k3 : w1.cell? ⟨w.heap.size, 3, none⟩ = some (.int .i64 s.q) := X1.out.cell 3
  have k4 : w1.cell? ⟨w.heap.size, 4, none⟩ = some (.int .i64 s.st) := X1.out.cell 4
  go_wp2_with fail
  refine (HCt.out _).mono ?_
  rintro e w2 ⟨rfl, g2⟩
  rw [HM.out]
  have X2 := Lib.hid (X1.out.but g2 (fun q => q))
  have G2 := Lib.hid (G1.out.trans g2)
  clear g2 k0 k1 k2 k3 k4
  have k0 : w2.cell? ⟨w.heap.size, 0, none⟩ = some (.int .i64 s.c0) := X2.out.cell 0
  have k1 : w2.cell? ⟨w.heap.size, 1, none⟩ = some (.int .i64 s.c1) := X2.out.cell 1
  have k2 : w2.cell? ⟨w.heap.size, 2, none⟩ = some (.int .i64 s.c2) := X2.out.cell 2
  have k3 : w2.cell? ⟨w.heap.size, 3, none⟩ = some (.int .i64 s.q) := X2.out.cell 3
  have k4 : w2.cell? ⟨w.heap.size, 4, none⟩ = some (.int .i64 s.st) := X2.out.cell 4
  obtain ⟨bx, hbx⟩ : ∃ bx, bx = w.heap.size := ⟨_, rfl⟩
  rw [← hbx] at k0 k1 k2 k3 k4 X2 ⊢
  have HBX := Lib.hid hbx
  clear hbx
  have hx2 : bx < w2.heap.size := X2.out.lt
  have hx3 : bx < w2.heap.size + 1 := by omega
  have hx4 : bx < w2.heap.size + 1 + 1 := by omega
  go_wp2_with fail
  go_region_held3 (fun w' => w'.cell? ⟨bx, 0, none⟩ = some (.int .i64 s.c0) ∧ w'.cell? ⟨bx, 1, none⟩ = some (.int .i64 s.c1) ∧ w'.cell? ⟨bx, 2, none⟩ = some (.int .i64 s.c2) ∧ w'.cell? ⟨bx, 3, none⟩ = some (.int .i64 s.q) ∧ w'.cell? ⟨bx, 4, none⟩ = some (.int .i64 s.st)) (first | (exact ⟨far3 k0, far3 k1, far3 k2, far3 k3, far3 k4⟩) | go_keep) (fail)
  · have hF := fo_new1 w2 s m
    obtain ⟨w3, hw3⟩ : ∃ w3, w3 = (((w2.alloc (.cells (ints (List.replicate m 0)).toArray 3)).alloc (.cells (bools (List.replicate m false)).toArray 4)).alloc (.cells (headC s m w2.heap.size (w2.heap.size + 1)) 107)).drew := ⟨_, rfl⟩
    have g3 : But (fun _ => False) w2 w3 := by rw [hw3]; exact but3 _ _ _ _
    rw [← hw3] at hF
    change Exit.then _ _ _ _ (((w2.alloc (.cells (ints (List.replicate m 0)).toArray 3)).alloc (.cells (bools (List.replicate m false)).toArray 4)).alloc (.cells (headC s m w2.heap.size (w2.heap.size + 1)) 107)).drew
    rw [← hw3]
    obtain ⟨b, hb⟩ : ∃ b, b = w2.heap.size + 1 + 1 := ⟨_, rfl⟩
    rw [← hb] at hF
    have HF := Lib.hid hF
    have HG3 := Lib.hid g3
    have hbl : w2.heap.size ≤ b := by omega
    have eb : w2.heap.size + 1 + 1 = b := hb.symm
    try rw [eb]
    have hlow : ∀ k, foot b w2.heap.size (w2.heap.size + 1) (fun _ => none) k → w2.heap.size ≤ k := by
      rintro k (rfl | rfl | rfl | ⟨c, hc, e⟩)
      · omega
      · omega
      · omega
      · cases e
    have HL := Lib.hid hlow
    clear hlow hF g3 hw3 hb eb k0 k1 k2 k3 k4 hx3 hx4
    go_wp2_with fail
    go_loopg [23] m (fun k i1 wr => ∃ (j bg bt : Nat) (pv : Nat → Value) (po : Nat → Option Nat), j + k = m ∧ i1 = .int .i64 j ∧ Fo wr b bg bt pv po (initTo s m j) ∧ (∀ k, foot b bg bt po k → w2.heap.size ≤ k) ∧ But (fun _ => False) w2 wr)
    case atStart => exact ⟨0, _, _, _, _, by omega, rfl, HF.out, HL.out, HG3.out⟩
    case round =>
      obtain ⟨j, bg, bt, pv, po, hj, rfl, hF, hL, hB⟩ := hrel
      have HFj := Lib.hid hF
      have HLj := Lib.hid hL
      clear hF hL
      clear HF HL HG3
      have HNN := Lib.hid (initTo_n s (m := m) (k := j) (by omega))
      by_cases hlt : j < m
      · obtain ⟨q, hq⟩ : ∃ q : Nat, (m : Int) - 1 - j = q := ⟨m - 1 - j, by omega⟩
        have hqm : q < m := by omega
        have hq2 : (q : Int) < m := by omega
        have HQ := Lib.hid hq
        obtain ⟨c, hc3, hcl⟩ := cls_of HO.out HM.out hqm
        have HCL := Lib.hid hcl
        have Xr := Lib.hid (X2.out.but hB (fun z => z))
        have hbg := HLj.out bg (.inr (.inl rfl))
        have hxg1 : ¬ bx = bg := by omega
        have hxg2 : ¬ bg = bx := by omega
        have k0 : wr.cell? ⟨bx, 0, none⟩ = some (.int .i64 s.c0) := Xr.out.cell 0
        have k1 : wr.cell? ⟨bx, 1, none⟩ = some (.int .i64 s.c1) := Xr.out.cell 1
        have k2 : wr.cell? ⟨bx, 2, none⟩ = some (.int .i64 s.c2) := Xr.out.cell 2
        have k3 : wr.cell? ⟨bx, 3, none⟩ = some (.int .i64 s.q) := Xr.out.cell 3
        have k4 : wr.cell? ⟨bx, 4, none⟩ = some (.int .i64 s.st) := Xr.out.cell 4
        have c11 := HFj.out.cellG
        have cg := HFj.out.gen (x := q) (by rw [HNN.out]; exact hqm)
        have fg := HFj.out.gs.frozen q
        rw [HNN.out] at c11
        clear hq hcl
        go_wp2_with fail
        rw [HQ.out]
        go_still_tail 8, (by kernel_rfl)
        change wpList _ _ _ _ _ wr.drew
        go_wp2_with fail
        refine (HCc.out q (by omega) _).mono ?_
        rintro e w5 ⟨rfl, g5⟩
        rw [HCL.out]
        obtain ⟨F, hFe⟩ : ∃ F, F = { initTo s m j with g := (initTo s m j).g.set q s.st } := ⟨_, rfl⟩
        have h5 := ((HFj.out.setg q s.st).drew).but g5 (fun _ z _ => z)
        rw [← hFe] at h5
        have hlen : (F.p c).length ≤ 192 := by rw [hFe]; exact Nat.le_trans (initTo_len s m j c) (by omega)
        have HFe := Lib.hid hFe
        have H5 := Lib.hid h5
        have HG5 := Lib.hid (((hB.setCell (by exact .inr hbg) _).drew).trans g5)
        obtain ⟨a', cap', hv', hcap1', hcap2', cp⟩ := h5.cellP hc3
        have HV := Lib.hid hv'
        have hcI : (c : Int) < 3 := by omega
        have hcI0 : (0 : Int) ≤ c := by omega
        have fp := h5.blk.frozen (5 + c)
        have hbw : b < w5.heap.size := h5.blk.lt
        have hrow : Row (w5.alloc (.cells #[.int .i64 q] 3)).drew 3 1 (.slice a' (F.p c).length cap') (po c) (F.p c).length (ints (F.p c)) := by
          rw [← HV.out]; exact ((H5.out.rows c hc3).alloc _).drew
        have hcp6 : ∀ w6, But (fun k => po c = some k) w5 w6 → w6.cell? ⟨b, 5 + c, none⟩ = some (.slice a' (F.p c).length cap') := fun w6 hB => by
          rw [(H5.out.blk.but hB (fun z => (H5.out.far c hc3 b z).1 rfl)).cell, ← H5.out.blk.cell]; exact cp
        clear k0 k1 k2 k3 k4 c11 cg fg g5 h5 hFe hv'
        go_wp2_with fail
        refine wp_region_any (by kernel_rfl) ?_
        change wpAny _ _ _ _ _ _ _ (World.drew _)
        refine wpAny_take (i := 0) (oi := ⟨some 41, _, _, _, _, _⟩) (v := ?_) rfl (by kernel_rfl) (by kernel_rfl) (by kernel_rfl) (fun _ _ _ h => h) (Or.inl ⟨by rfl, ?_⟩) ?_
        rotate_left
        · intro w
          go_simp
          try with_reducible rfl
        simp only [Act.put, List.setIfInBounds_toArray, List.set_cons_zero, List.set_cons_succ]
        refine wpAny_take (i := 1) (oi := ⟨some 42, _, _, _, _, _⟩) (v := ?_) rfl (by kernel_rfl) (by kernel_rfl) (by kernel_rfl) (fun _ _ _ h => h) (Or.inl ⟨by rfl, ?_⟩) ?_
        rotate_left
        · intro w
          go_simp
          try with_reducible rfl
        simp only [Act.put, List.setIfInBounds_toArray, List.set_cons_zero, List.set_cons_succ]
        refine wpAny_take (i := 2) (oi := ⟨some 43, _, _, _, _, _⟩) (v := ?_) rfl (by kernel_rfl) (by kernel_rfl) (by kernel_rfl) (fun _ _ _ h => h) (Or.inl ⟨by rfl, ?_⟩) ?_
        rotate_left
        · intro w
          go_simp
          try with_reducible rfl
        simp only [Act.put, List.setIfInBounds_toArray, List.set_cons_zero, List.set_cons_succ]
        refine wpAny_take (i := 3) (oi := ⟨some 44, _, _, _, _, _⟩) (v := ?_) rfl (by kernel_rfl) (by kernel_rfl) (by kernel_rfl) (fun _ _ _ h => h) (Or.inl ⟨by rfl, ?_⟩) ?_
        rotate_left
        · intro w
          go_simp
          try with_reducible rfl
        simp only [Act.put, List.setIfInBounds_toArray, List.set_cons_zero, List.set_cons_succ]
        refine wpAny_take (i := 4) (oi := ⟨some 45, _, _, _, _, _⟩) (v := ?_) rfl (by kernel_rfl) (by kernel_rfl) (by kernel_rfl) (fun _ _ _ h => h) (Or.inl ⟨by rfl, ?_⟩) ?_
        rotate_left
        · intro w
          go_simp
          try with_reducible rfl
        simp only [Act.put, List.setIfInBounds_toArray, List.set_cons_zero, List.set_cons_succ]
        refine wpAny_take (i := 5) (oi := ⟨some 46, _, _, _, _, _⟩) (v := ?_) rfl (by kernel_rfl) (by kernel_rfl) (by kernel_rfl) (fun _ _ _ h => h) (Or.inl ⟨by rfl, ?_⟩) ?_
        rotate_left
        · intro w
          go_simp
          try with_reducible rfl
        simp only [Act.put, List.setIfInBounds_toArray, List.set_cons_zero, List.set_cons_succ]
        refine wpAny_take (i := 6) (oi := ⟨some 47, _, _, _, _, _⟩) (v := ?_) rfl (by kernel_rfl) (by kernel_rfl) (by kernel_rfl) (fun _ _ _ h => h) (Or.inl ⟨by rfl, ?_⟩) ?_
        rotate_left
        · intro w
          go_simp
          try with_reducible rfl
        simp only [Act.put, List.setIfInBounds_toArray, List.set_cons_zero, List.set_cons_succ]
        refine wpAny_take (i := 8) (oi := ⟨some 49, _, _, _, _, _⟩) (v := ?_) rfl (by kernel_rfl) (by kernel_rfl) (by kernel_rfl) (fun _ _ _ h => h) (Or.inl ⟨by rfl, ?_⟩) ?_
        rotate_left
        · intro w
          go_simp
          try with_reducible rfl
        simp only [Act.put, List.setIfInBounds_toArray, List.set_cons_zero, List.set_cons_succ]
        refine wpAny_take (i := 11) (oi := ⟨some 52, _, _, _, _, _⟩) (v := ?_) rfl (by kernel_rfl) (by kernel_rfl) (by kernel_rfl) (fun _ _ _ h => h) (Or.inl ⟨by rfl, ?_⟩) ?_
        rotate_left
        · intro w
          go_simp
          try with_reducible rfl
        simp only [Act.put, List.setIfInBounds_toArray, List.set_cons_zero, List.set_cons_succ]
        refine wpAny_take (i := 12) (oi := ⟨some 53, _, _, _, _, _⟩) (v := ?_) rfl (by kernel_rfl) (by kernel_rfl) (by kernel_rfl) (fun _ _ _ h => h) (Or.inl ⟨by rfl, ?_⟩) ?_
        rotate_left
        · intro w
          go_simp
          try with_reducible rfl
        simp only [Act.put, List.setIfInBounds_toArray, List.set_cons_zero, List.set_cons_succ]
        refine wpAny_ready (rs := [7, 9]) (by kernel_rfl) (by simp) ?_
        refine AllReady.cons rfl (fun K hK => ?_) (AllReady.cons rfl (fun K hK => ?_) AllReady.nil)
        · go_simp
          refine hK _ _ ?_
          clear hK K
          refine wpAny_ready (rs := [9]) (by kernel_rfl) (by simp) ?_
          refine AllReady.cons rfl (fun K hK => ?_) AllReady.nil
          go_simp
          refine hK _ _ ?_
          clear hK K
          refine wpAny_ready (rs := [10]) (by kernel_rfl) (by simp) ?_
          refine AllReady.cons rfl (fun K hK => ?_) AllReady.nil
          refine step_append_row (o := ⟨some 51, _, _, _, _, _⟩) (by rfl) _ _ _ rfl 3 i0 (.int .i64 0) 1 8 Try.underlying51 hi hz0 hz1 hz2 rfl (by decide) (.slice a' (F.p c).length cap') (po c) (F.p c).length (ints (F.p c)) hrow rfl ⟨w5.heap.size, 0, none⟩ 1 1 [.int .i64 q] rfl rfl (new_src _ _ _) (by simp [Value.oneCell']) (by unfold maxLen; omega) (by omega) ?_
          intro v6 w6 o6 hR6 hB6 hN6
          obtain ⟨a6, cap6, rfl, h61, h62⟩ := hR6.val
          refine hK _ _ ?_
          clear hK K
          simp only [Act.put, List.setIfInBounds_toArray, List.set_cons_zero, List.set_cons_succ]
          refine wpAny_take (i := 13) (oi := ⟨some 54, _, _, _, _, _⟩) (v := ?_) rfl (by kernel_rfl) (by kernel_rfl) (by kernel_rfl) (fun _ _ _ h => h) (Or.inl ⟨by rfl, ?_⟩) ?_
          rotate_left
          · intro w
            go_simp
            try with_reducible rfl
          simp only [Act.put, List.setIfInBounds_toArray, List.set_cons_zero, List.set_cons_succ]
          have hB7 : But (fun k => po c = some k) w5 w6 := ((But.refl _ _).alloc _).drew.trans hB6
          have fp6 : w6.frozen? ⟨b, 5 + c, none⟩ = false := (H5.out.blk.but hB7 (fun z => (H5.out.far c hc3 b z).1 rfl)).frozen _
          have cp6 := hcp6 w6 hB7
          refine wpAny_ready (rs := [14]) (by kernel_rfl) (by simp) ?_
          refine AllReady.cons rfl (fun K hK => ?_) AllReady.nil
          go_simp
          refine hK _ _ ?_
          clear hK K
          refine wpAny_done (by kernel_rfl) ?_ _
          go_wp2_with fail
          go_roundg (m - (j + 1))
          case measure => omega
          case rel =>
            have hN7 : ∀ k, o6 = some k → po c = some k ∨ w5.heap.size ≤ k := fun k hk => by
              rcases hN6 k hk with z | z
              · exact .inl z
              · simp at z; exact .inr (by omega)
            have hR7 : Row w6 3 1 (.slice a6 ((F.p c).length + 1) cap6) o6 ((F.p c).length + 1) (ints (F.p c ++ [(q : Int)])) := by simpa [ints] using hR6
            have g5s := HG5.out.size
            refine ⟨j + 1, bg, bt, _, upd po c o6, by omega, by go_num, (by rw [initTo_next s hlt HQ.out HCL.out HFe.out]; exact H5.out.pushed hc3 (q : Int) _ o6 hR7 hB7 hN7), ?_, ?_⟩
            · rintro k (rfl | rfl | rfl | ⟨d, hd, e⟩)
              · exact hbl
              · exact HLj.out k (.inr (.inl rfl))
              · exact HLj.out k (.inr (.inr (.inl rfl)))
              · by_cases z : d = c
                · subst z
                  rw [upd_same] at e
                  rcases hN7 k e with z | z
                  · exact HLj.out k (.inr (.inr (.inr ⟨d, hd, z⟩)))
                  · omega
                · rw [upd_other _ _ z] at e
                  exact HLj.out k (.inr (.inr (.inr ⟨d, hd, e⟩)))
            · exact (HG5.out.trans' hB7 (fun k hk => .inr (HLj.out k (.inr (.inr (.inr ⟨c, hc3, hk⟩)))))).setCell (by exact .inr hbl) _
        · go_simp
          refine hK _ _ ?_
          clear hK K
          refine wpAny_ready (rs := [7]) (by kernel_rfl) (by simp) ?_
          refine AllReady.cons rfl (fun K hK => ?_) AllReady.nil
          go_simp
          refine hK _ _ ?_
          clear hK K
          refine wpAny_ready (rs := [10]) (by kernel_rfl) (by simp) ?_
          refine AllReady.cons rfl (fun K hK => ?_) AllReady.nil
          refine step_append_row (o := ⟨some 51, _, _, _, _, _⟩) (by rfl) _ _ _ rfl 3 i0 (.int .i64 0) 1 8 Try.underlying51 hi hz0 hz1 hz2 rfl (by decide) (.slice a' (F.p c).length cap') (po c) (F.p c).length (ints (F.p c)) hrow rfl ⟨w5.heap.size, 0, none⟩ 1 1 [.int .i64 q] rfl rfl (new_src _ _ _) (by simp [Value.oneCell']) (by unfold maxLen; omega) (by omega) ?_
          intro v6 w6 o6 hR6 hB6 hN6
          obtain ⟨a6, cap6, rfl, h61, h62⟩ := hR6.val
          refine hK _ _ ?_
          clear hK K
          simp only [Act.put, List.setIfInBounds_toArray, List.set_cons_zero, List.set_cons_succ]
          refine wpAny_take (i := 13) (oi := ⟨some 54, _, _, _, _, _⟩) (v := ?_) rfl (by kernel_rfl) (by kernel_rfl) (by kernel_rfl) (fun _ _ _ h => h) (Or.inl ⟨by rfl, ?_⟩) ?_
          rotate_left
          · intro w
            go_simp
            try with_reducible rfl
          simp only [Act.put, List.setIfInBounds_toArray, List.set_cons_zero, List.set_cons_succ]
          have hB7 : But (fun k => po c = some k) w5 w6 := ((But.refl _ _).alloc _).drew.trans hB6
          have fp6 : w6.frozen? ⟨b, 5 + c, none⟩ = false := (H5.out.blk.but hB7 (fun z => (H5.out.far c hc3 b z).1 rfl)).frozen _
          have cp6 := hcp6 w6 hB7
          refine wpAny_ready (rs := [14]) (by kernel_rfl) (by simp) ?_
          refine AllReady.cons rfl (fun K hK => ?_) AllReady.nil
          go_simp
          refine hK _ _ ?_
          clear hK K
          refine wpAny_done (by kernel_rfl) ?_ _
          go_wp2_with fail
          go_roundg (m - (j + 1))
          case measure => omega
          case rel =>
            have hN7 : ∀ k, o6 = some k → po c = some k ∨ w5.heap.size ≤ k := fun k hk => by
              rcases hN6 k hk with z | z
              · exact .inl z
              · simp at z; exact .inr (by omega)
            have hR7 : Row w6 3 1 (.slice a6 ((F.p c).length + 1) cap6) o6 ((F.p c).length + 1) (ints (F.p c ++ [(q : Int)])) := by simpa [ints] using hR6
            have g5s := HG5.out.size
            refine ⟨j + 1, bg, bt, _, upd po c o6, by omega, by go_num, (by rw [initTo_next s hlt HQ.out HCL.out HFe.out]; exact H5.out.pushed hc3 (q : Int) _ o6 hR7 hB7 hN7), ?_, ?_⟩
            · rintro k (rfl | rfl | rfl | ⟨d, hd, e⟩)
              · exact hbl
              · exact HLj.out k (.inr (.inl rfl))
              · exact HLj.out k (.inr (.inr (.inl rfl)))
              · by_cases z : d = c
                · subst z
                  rw [upd_same] at e
                  rcases hN7 k e with z | z
                  · exact HLj.out k (.inr (.inr (.inr ⟨d, hd, z⟩)))
                  · omega
                · rw [upd_other _ _ z] at e
                  exact HLj.out k (.inr (.inr (.inr ⟨d, hd, e⟩)))
            · exact (HG5.out.trans' hB7 (fun k hk => .inr (HLj.out k (.inr (.inr (.inr ⟨c, hc3, hk⟩)))))).setCell (by exact .inr hbl) _
      · obtain rfl : j = m := by omega
        go_wp2_with fail
        go_ret2
        exact ⟨b, _, rfl, ⟨bg, bt, pv, po, HFj.out, rfl⟩, G2.out.trans hB, fun k hk => by have := HLj.out k hk; have := G2.out.size; omega⟩
  · have hF := fo_new2 w2 s m
    obtain ⟨w3, hw3⟩ : ∃ w3, w3 = (((w2.alloc (.cells (bools (List.replicate m false)).toArray 4)).alloc (.cells (ints (List.replicate m 0)).toArray 3)).alloc (.cells (headC s m (w2.heap.size + 1) w2.heap.size) 107)).drew := ⟨_, rfl⟩
    have g3 : But (fun _ => False) w2 w3 := by rw [hw3]; exact but3 _ _ _ _
    rw [← hw3] at hF
    change Exit.then _ _ _ _ (((w2.alloc (.cells (bools (List.replicate m false)).toArray 4)).alloc (.cells (ints (List.replicate m 0)).toArray 3)).alloc (.cells (headC s m (w2.heap.size + 1) w2.heap.size) 107)).drew
    rw [← hw3]
    obtain ⟨b, hb⟩ : ∃ b, b = w2.heap.size + 1 + 1 := ⟨_, rfl⟩
    rw [← hb] at hF
    have HF := Lib.hid hF
    have HG3 := Lib.hid g3
    have hbl : w2.heap.size ≤ b := by omega
    have eb : w2.heap.size + 1 + 1 = b := hb.symm
    try rw [eb]
    have hlow : ∀ k, foot b (w2.heap.size + 1) w2.heap.size (fun _ => none) k → w2.heap.size ≤ k := by
      rintro k (rfl | rfl | rfl | ⟨c, hc, e⟩)
      · omega
      · omega
      · omega
      · cases e
    have HL := Lib.hid hlow
    clear hlow hF g3 hw3 hb eb k0 k1 k2 k3 k4 hx3 hx4
    go_wp2_with fail
    go_loopg [23] m (fun k i1 wr => ∃ (j bg bt : Nat) (pv : Nat → Value) (po : Nat → Option Nat), j + k = m ∧ i1 = .int .i64 j ∧ Fo wr b bg bt pv po (initTo s m j) ∧ (∀ k, foot b bg bt po k → w2.heap.size ≤ k) ∧ But (fun _ => False) w2 wr)
    case atStart => exact ⟨0, _, _, _, _, by omega, rfl, HF.out, HL.out, HG3.out⟩
    case round =>
      obtain ⟨j, bg, bt, pv, po, hj, rfl, hF, hL, hB⟩ := hrel
      have HFj := Lib.hid hF
      have HLj := Lib.hid hL
      clear hF hL
      clear HF HL HG3
      have HNN := Lib.hid (initTo_n s (m := m) (k := j) (by omega))
      by_cases hlt : j < m
      · obtain ⟨q, hq⟩ : ∃ q : Nat, (m : Int) - 1 - j = q := ⟨m - 1 - j, by omega⟩
        have hqm : q < m := by omega
        have hq2 : (q : Int) < m := by omega
        have HQ := Lib.hid hq
        obtain ⟨c, hc3, hcl⟩ := cls_of HO.out HM.out hqm
        have HCL := Lib.hid hcl
        have Xr := Lib.hid (X2.out.but hB (fun z => z))
        have hbg := HLj.out bg (.inr (.inl rfl))
        have hxg1 : ¬ bx = bg := by omega
        have hxg2 : ¬ bg = bx := by omega
        have k0 : wr.cell? ⟨bx, 0, none⟩ = some (.int .i64 s.c0) := Xr.out.cell 0
        have k1 : wr.cell? ⟨bx, 1, none⟩ = some (.int .i64 s.c1) := Xr.out.cell 1
        have k2 : wr.cell? ⟨bx, 2, none⟩ = some (.int .i64 s.c2) := Xr.out.cell 2
        have k3 : wr.cell? ⟨bx, 3, none⟩ = some (.int .i64 s.q) := Xr.out.cell 3
        have k4 : wr.cell? ⟨bx, 4, none⟩ = some (.int .i64 s.st) := Xr.out.cell 4
        have c11 := HFj.out.cellG
        have cg := HFj.out.gen (x := q) (by rw [HNN.out]; exact hqm)
        have fg := HFj.out.gs.frozen q
        rw [HNN.out] at c11
        clear hq hcl
        go_wp2_with fail
        rw [HQ.out]
        go_still_tail 8, (by kernel_rfl)
        change wpList _ _ _ _ _ wr.drew
        go_wp2_with fail
        refine (HCc.out q (by omega) _).mono ?_
        rintro e w5 ⟨rfl, g5⟩
        rw [HCL.out]
        obtain ⟨F, hFe⟩ : ∃ F, F = { initTo s m j with g := (initTo s m j).g.set q s.st } := ⟨_, rfl⟩
        have h5 := ((HFj.out.setg q s.st).drew).but g5 (fun _ z _ => z)
        rw [← hFe] at h5
        have hlen : (F.p c).length ≤ 192 := by rw [hFe]; exact Nat.le_trans (initTo_len s m j c) (by omega)
        have HFe := Lib.hid hFe
        have H5 := Lib.hid h5
        have HG5 := Lib.hid (((hB.setCell (by exact .inr hbg) _).drew).trans g5)
        obtain ⟨a', cap', hv', hcap1', hcap2', cp⟩ := h5.cellP hc3
        have HV := Lib.hid hv'
        have hcI : (c : Int) < 3 := by omega
        have hcI0 : (0 : Int) ≤ c := by omega
        have fp := h5.blk.frozen (5 + c)
        have hbw : b < w5.heap.size := h5.blk.lt
        have hrow : Row (w5.alloc (.cells #[.int .i64 q] 3)).drew 3 1 (.slice a' (F.p c).length cap') (po c) (F.p c).length (ints (F.p c)) := by
          rw [← HV.out]; exact ((H5.out.rows c hc3).alloc _).drew
        have hcp6 : ∀ w6, But (fun k => po c = some k) w5 w6 → w6.cell? ⟨b, 5 + c, none⟩ = some (.slice a' (F.p c).length cap') := fun w6 hB => by
          rw [(H5.out.blk.but hB (fun z => (H5.out.far c hc3 b z).1 rfl)).cell, ← H5.out.blk.cell]; exact cp
        clear k0 k1 k2 k3 k4 c11 cg fg g5 h5 hFe hv'
        go_wp2_with fail
        refine wp_region_any (by kernel_rfl) ?_
        change wpAny _ _ _ _ _ _ _ (World.drew _)
        refine wpAny_take (i := 0) (oi := ⟨some 41, _, _, _, _, _⟩) (v := ?_) rfl (by kernel_rfl) (by kernel_rfl) (by kernel_rfl) (fun _ _ _ h => h) (Or.inl ⟨by rfl, ?_⟩) ?_
        rotate_left
        · intro w
          go_simp
          try with_reducible rfl
        simp only [Act.put, List.setIfInBounds_toArray, List.set_cons_zero, List.set_cons_succ]
        refine wpAny_take (i := 1) (oi := ⟨some 42, _, _, _, _, _⟩) (v := ?_) rfl (by kernel_rfl) (by kernel_rfl) (by kernel_rfl) (fun _ _ _ h => h) (Or.inl ⟨by rfl, ?_⟩) ?_
        rotate_left
        · intro w
          go_simp
          try with_reducible rfl
        simp only [Act.put, List.setIfInBounds_toArray, List.set_cons_zero, List.set_cons_succ]
        refine wpAny_take (i := 2) (oi := ⟨some 43, _, _, _, _, _⟩) (v := ?_) rfl (by kernel_rfl) (by kernel_rfl) (by kernel_rfl) (fun _ _ _ h => h) (Or.inl ⟨by rfl, ?_⟩) ?_
        rotate_left
        · intro w
          go_simp
          try with_reducible rfl
        simp only [Act.put, List.setIfInBounds_toArray, List.set_cons_zero, List.set_cons_succ]
        refine wpAny_take (i := 3) (oi := ⟨some 44, _, _, _, _, _⟩) (v := ?_) rfl (by kernel_rfl) (by kernel_rfl) (by kernel_rfl) (fun _ _ _ h => h) (Or.inl ⟨by rfl, ?_⟩) ?_
        rotate_left
        · intro w
          go_simp
          try with_reducible rfl
        simp only [Act.put, List.setIfInBounds_toArray, List.set_cons_zero, List.set_cons_succ]
        refine wpAny_take (i := 4) (oi := ⟨some 45, _, _, _, _, _⟩) (v := ?_) rfl (by kernel_rfl) (by kernel_rfl) (by kernel_rfl) (fun _ _ _ h => h) (Or.inl ⟨by rfl, ?_⟩) ?_
        rotate_left
        · intro w
          go_simp
          try with_reducible rfl
        simp only [Act.put, List.setIfInBounds_toArray, List.set_cons_zero, List.set_cons_succ]
        refine wpAny_take (i := 5) (oi := ⟨some 46, _, _, _, _, _⟩) (v := ?_) rfl (by kernel_rfl) (by kernel_rfl) (by kernel_rfl) (fun _ _ _ h => h) (Or.inl ⟨by rfl, ?_⟩) ?_
        rotate_left
        · intro w
          go_simp
          try with_reducible rfl
        simp only [Act.put, List.setIfInBounds_toArray, List.set_cons_zero, List.set_cons_succ]
        refine wpAny_take (i := 6) (oi := ⟨some 47, _, _, _, _, _⟩) (v := ?_) rfl (by kernel_rfl) (by kernel_rfl) (by kernel_rfl) (fun _ _ _ h => h) (Or.inl ⟨by rfl, ?_⟩) ?_
        rotate_left
        · intro w
          go_simp
          try with_reducible rfl
        simp only [Act.put, List.setIfInBounds_toArray, List.set_cons_zero, List.set_cons_succ]
        refine wpAny_take (i := 8) (oi := ⟨some 49, _, _, _, _, _⟩) (v := ?_) rfl (by kernel_rfl) (by kernel_rfl) (by kernel_rfl) (fun _ _ _ h => h) (Or.inl ⟨by rfl, ?_⟩) ?_
        rotate_left
        · intro w
          go_simp
          try with_reducible rfl
        simp only [Act.put, List.setIfInBounds_toArray, List.set_cons_zero, List.set_cons_succ]
        refine wpAny_take (i := 11) (oi := ⟨some 52, _, _, _, _, _⟩) (v := ?_) rfl (by kernel_rfl) (by kernel_rfl) (by kernel_rfl) (fun _ _ _ h => h) (Or.inl ⟨by rfl, ?_⟩) ?_
        rotate_left
        · intro w
          go_simp
          try with_reducible rfl
        simp only [Act.put, List.setIfInBounds_toArray, List.set_cons_zero, List.set_cons_succ]
        refine wpAny_take (i := 12) (oi := ⟨some 53, _, _, _, _, _⟩) (v := ?_) rfl (by kernel_rfl) (by kernel_rfl) (by kernel_rfl) (fun _ _ _ h => h) (Or.inl ⟨by rfl, ?_⟩) ?_
        rotate_left
        · intro w
          go_simp
          try with_reducible rfl
        simp only [Act.put, List.setIfInBounds_toArray, List.set_cons_zero, List.set_cons_succ]
        refine wpAny_ready (rs := [7, 9]) (by kernel_rfl) (by simp) ?_
        refine AllReady.cons rfl (fun K hK => ?_) (AllReady.cons rfl (fun K hK => ?_) AllReady.nil)
        · go_simp
          refine hK _ _ ?_
          clear hK K
          refine wpAny_ready (rs := [9]) (by kernel_rfl) (by simp) ?_
          refine AllReady.cons rfl (fun K hK => ?_) AllReady.nil
          go_simp
          refine hK _ _ ?_
          clear hK K
          refine wpAny_ready (rs := [10]) (by kernel_rfl) (by simp) ?_
          refine AllReady.cons rfl (fun K hK => ?_) AllReady.nil
          refine step_append_row (o := ⟨some 51, _, _, _, _, _⟩) (by rfl) _ _ _ rfl 3 i0 (.int .i64 0) 1 8 Try.underlying51 hi hz0 hz1 hz2 rfl (by decide) (.slice a' (F.p c).length cap') (po c) (F.p c).length (ints (F.p c)) hrow rfl ⟨w5.heap.size, 0, none⟩ 1 1 [.int .i64 q] rfl rfl (new_src _ _ _) (by simp [Value.oneCell']) (by unfold maxLen; omega) (by omega) ?_
          intro v6 w6 o6 hR6 hB6 hN6
          obtain ⟨a6, cap6, rfl, h61, h62⟩ := hR6.val
          refine hK _ _ ?_
          clear hK K
          simp only [Act.put, List.setIfInBounds_toArray, List.set_cons_zero, List.set_cons_succ]
          refine wpAny_take (i := 13) (oi := ⟨some 54, _, _, _, _, _⟩) (v := ?_) rfl (by kernel_rfl) (by kernel_rfl) (by kernel_rfl) (fun _ _ _ h => h) (Or.inl ⟨by rfl, ?_⟩) ?_
          rotate_left
          · intro w
            go_simp
            try with_reducible rfl
          simp only [Act.put, List.setIfInBounds_toArray, List.set_cons_zero, List.set_cons_succ]
          have hB7 : But (fun k => po c = some k) w5 w6 := ((But.refl _ _).alloc _).drew.trans hB6
          have fp6 : w6.frozen? ⟨b, 5 + c, none⟩ = false := (H5.out.blk.but hB7 (fun z => (H5.out.far c hc3 b z).1 rfl)).frozen _
          have cp6 := hcp6 w6 hB7
          refine wpAny_ready (rs := [14]) (by kernel_rfl) (by simp) ?_
          refine AllReady.cons rfl (fun K hK => ?_) AllReady.nil
          go_simp
          refine hK _ _ ?_
          clear hK K
          refine wpAny_done (by kernel_rfl) ?_ _
          go_wp2_with fail
          go_roundg (m - (j + 1))
          case measure => omega
          case rel =>
            have hN7 : ∀ k, o6 = some k → po c = some k ∨ w5.heap.size ≤ k := fun k hk => by
              rcases hN6 k hk with z | z
              · exact .inl z
              · simp at z; exact .inr (by omega)
            have hR7 : Row w6 3 1 (.slice a6 ((F.p c).length + 1) cap6) o6 ((F.p c).length + 1) (ints (F.p c ++ [(q : Int)])) := by simpa [ints] using hR6
            have g5s := HG5.out.size
            refine ⟨j + 1, bg, bt, _, upd po c o6, by omega, by go_num, (by rw [initTo_next s hlt HQ.out HCL.out HFe.out]; exact H5.out.pushed hc3 (q : Int) _ o6 hR7 hB7 hN7), ?_, ?_⟩
            · rintro k (rfl | rfl | rfl | ⟨d, hd, e⟩)
              · exact hbl
              · exact HLj.out k (.inr (.inl rfl))
              · exact HLj.out k (.inr (.inr (.inl rfl)))
              · by_cases z : d = c
                · subst z
                  rw [upd_same] at e
                  rcases hN7 k e with z | z
                  · exact HLj.out k (.inr (.inr (.inr ⟨d, hd, z⟩)))
                  · omega
                · rw [upd_other _ _ z] at e
                  exact HLj.out k (.inr (.inr (.inr ⟨d, hd, e⟩)))
            · exact (HG5.out.trans' hB7 (fun k hk => .inr (HLj.out k (.inr (.inr (.inr ⟨c, hc3, hk⟩)))))).setCell (by exact .inr hbl) _
        · go_simp
          refine hK _ _ ?_
          clear hK K
          refine wpAny_ready (rs := [7]) (by kernel_rfl) (by simp) ?_
          refine AllReady.cons rfl (fun K hK => ?_) AllReady.nil
          go_simp
          refine hK _ _ ?_
          clear hK K
          refine wpAny_ready (rs := [10]) (by kernel_rfl) (by simp) ?_
          refine AllReady.cons rfl (fun K hK => ?_) AllReady.nil
          refine step_append_row (o := ⟨some 51, _, _, _, _, _⟩) (by rfl) _ _ _ rfl 3 i0 (.int .i64 0) 1 8 Try.underlying51 hi hz0 hz1 hz2 rfl (by decide) (.slice a' (F.p c).length cap') (po c) (F.p c).length (ints (F.p c)) hrow rfl ⟨w5.heap.size, 0, none⟩ 1 1 [.int .i64 q] rfl rfl (new_src _ _ _) (by simp [Value.oneCell']) (by unfold maxLen; omega) (by omega) ?_
          intro v6 w6 o6 hR6 hB6 hN6
          obtain ⟨a6, cap6, rfl, h61, h62⟩ := hR6.val
          refine hK _ _ ?_
          clear hK K
          simp only [Act.put, List.setIfInBounds_toArray, List.set_cons_zero, List.set_cons_succ]
          refine wpAny_take (i := 13) (oi := ⟨some 54, _, _, _, _, _⟩) (v := ?_) rfl (by kernel_rfl) (by kernel_rfl) (by kernel_rfl) (fun _ _ _ h => h) (Or.inl ⟨by rfl, ?_⟩) ?_
          rotate_left
          · intro w
            go_simp
            try with_reducible rfl
          simp only [Act.put, List.setIfInBounds_toArray, List.set_cons_zero, List.set_cons_succ]
          have hB7 : But (fun k => po c = some k) w5 w6 := ((But.refl _ _).alloc _).drew.trans hB6
          have fp6 : w6.frozen? ⟨b, 5 + c, none⟩ = false := (H5.out.blk.but hB7 (fun z => (H5.out.far c hc3 b z).1 rfl)).frozen _
          have cp6 := hcp6 w6 hB7
          refine wpAny_ready (rs := [14]) (by kernel_rfl) (by simp) ?_
          refine AllReady.cons rfl (fun K hK => ?_) AllReady.nil
          go_simp
          refine hK _ _ ?_
          clear hK K
          refine wpAny_done (by kernel_rfl) ?_ _
          go_wp2_with fail
          go_roundg (m - (j + 1))
          case measure => omega
          case rel =>
            have hN7 : ∀ k, o6 = some k → po c = some k ∨ w5.heap.size ≤ k := fun k hk => by
              rcases hN6 k hk with z | z
              · exact .inl z
              · simp at z; exact .inr (by omega)
            have hR7 : Row w6 3 1 (.slice a6 ((F.p c).length + 1) cap6) o6 ((F.p c).length + 1) (ints (F.p c ++ [(q : Int)])) := by simpa [ints] using hR6
            have g5s := HG5.out.size
            refine ⟨j + 1, bg, bt, _, upd po c o6, by omega, by go_num, (by rw [initTo_next s hlt HQ.out HCL.out HFe.out]; exact H5.out.pushed hc3 (q : Int) _ o6 hR7 hB7 hN7), ?_, ?_⟩
            · rintro k (rfl | rfl | rfl | ⟨d, hd, e⟩)
              · exact hbl
              · exact HLj.out k (.inr (.inl rfl))
              · exact HLj.out k (.inr (.inr (.inl rfl)))
              · by_cases z : d = c
                · subst z
                  rw [upd_same] at e
                  rcases hN7 k e with z | z
                  · exact HLj.out k (.inr (.inr (.inr ⟨d, hd, z⟩)))
                  · omega
                · rw [upd_other _ _ z] at e
                  exact HLj.out k (.inr (.inr (.inr ⟨d, hd, e⟩)))
            · exact (HG5.out.trans' hB7 (fun k hk => .inr (HLj.out k (.inr (.inr (.inr ⟨c, hc3, hk⟩)))))).setCell (by exact .inr hbl) _
      · obtain rfl : j = m := by omega
        go_wp2_with fail
        go_ret2
        exact ⟨b, _, rfl, ⟨bg, bt, pv, po, HFj.out, rfl⟩, G2.out.trans hB, fun k hk => by have := HLj.out k hk; have := G2.out.size; omega⟩

end Free
end Go.Proofs.Ytngbhhcicakolaa
