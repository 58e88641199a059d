/- New of package cells, walked. -/
import Derived.Test.YtngbhhcicakolaaCellsWrites
import Derived.Test.YtngbhhcicakolaaCellsBegin
set_option linter.unusedVariables false
set_option linter.unusedSimpArgs false
namespace Go.Proofs.Ytngbhhcicakolaa
open Go.RowKit Go.Deep

namespace Cells
open Free (Fr genAt takenAt)
open Arena (nth zeroed)

theorem sh_blk {w : World} {b : Nat} {s : Conf.Sh} (h : Blk w b (Conf.sh s) 24) : w.cell? ⟨b, 0, none⟩ = some (.int .i64 s.c0) ∧ w.cell? ⟨b, 1, none⟩ = some (.int .i64 s.c1) ∧ w.cell? ⟨b, 2, none⟩ = some (.int .i64 s.c2) ∧ w.cell? ⟨b, 3, none⟩ = some (.int .i64 s.q) ∧ w.cell? ⟨b, 4, none⟩ = some (.int .i64 s.st) :=
  ⟨h.cell 0, h.cell 1, h.cell 2, h.cell 3, h.cell 4⟩

set_option maxHeartbeats 8000000 in
set_option maxRecDepth 100000 in
theorem new_yes (ab ca base : Nat) (l : List Int) (t : Int) (s : Conf.Sh) (w : World) (ha : Arena.Ar 77 w ab ca l t) (hok : Conf.ok s = true) (hroom : (base : Int) + Conf.words s ≤ l.length) (ht : t ≤ 800000000000) :
    Calls Try.prog 7 #[.pointer (some ⟨ab, 0, none⟩), .int .i64 base, .agg (Conf.sh s)] w fun e w' => ∃ b fb S l' t', e = .returned (.tuple #[.pointer (some ⟨b, 0, none⟩), .int .i64 0]) ∧ Cel b fb ab ca base l (begin_ s (Conf.count s).toNat) l' t' w' S ∧
      t ≤ t' ∧ t' ≤ t + 1200 ∧ w.heap.size ≤ b ∧ (∀ k, S k → w.heap.size ≤ k) ∧ But (fun k => k = ab ∨ k = ca) w w' := by
  obtain ⟨m, hm⟩ : ∃ m : Nat, Conf.count s = m := ⟨(Conf.count s).toNat, by have := Conf.count_bd s; omega⟩
  have hm192 : m ≤ 192 := by have := Conf.count_bd s; omega
  have hlen := ha.len
  have hwb := Conf.words_bd s
  have hbase : base ≤ 65536 := by omega
  have hinv := begin_inv hok hm
  have HINV := Lib.hid hinv
  have hny := fun w => Free.new_yes s w hok
  have hcn := fun w => Conf.count_any s w
  have hwo := fun w => Conf.words_any s w
  have hbx : ∀ (w : World) T, Blk (w.alloc (.cells (Conf.sh s) T)) w.heap.size (Conf.sh s) T := fun w T => Blk.new w _ T
  rw [hm] at hcn hny
  rw [hm, Int.toNat_natCast]
  rw [Int.toNat_natCast] at hny
  have HA := Lib.hid ha
  have HR := Lib.hid hroom
  have HM := Lib.hid hm
  have hw1 : Conf.words s ≤ (l.length : Int) - base := by omega
  have hw2 : (base : Int) ≤ l.length := by omega
  have halt := ha.blk.lt
  have hclt := ha.row.lt
  obtain ⟨ws, hws⟩ : ∃ ws, Conf.words s = ws := ⟨_, rfl⟩
  have HWS := Lib.hid hws
  rw [hws] at hwo hw1 hwb
  unfold Conf.sh at hny hcn hwo hbx ⊢
  have HNY := Lib.hid hny
  have HCN := Lib.hid hcn
  have HWO := Lib.hid hwo
  have HBX := Lib.hid hbx
  clear hny hcn hwo hbx hinv hroom ha hm hws
  go_enter Try.func7, Try.ntmps7
  go_wp2_with fail
  refine (HNY.out _).mono ?_
  rintro r w1 ⟨fb, S, rfl, hf1, g1, n1⟩
  have X1 := (HBX.out w 24).but g1 (fun q => q)
  have G1 := Lib.hid (((But.refl (fun _ => False) w).alloc _).trans g1)
  have N1 := Lib.hid (show ∀ k, S k → w.heap.size ≤ k from fun k hk => by have := n1 k hk; simp at this; omega)
  obtain ⟨sb, hsb⟩ : ∃ sb, sb = w.heap.size := ⟨_, rfl⟩
  rw [← hsb] at X1 ⊢
  have HSB := Lib.hid hsb
  have A1 := Lib.hid (HA.out.but G1.out (fun q => q) (fun q => q))
  have F1 := Lib.hid hf1
  clear g1 n1 hf1 hsb
  have XX1 := Lib.hid X1
  obtain ⟨k0, k1, k2, k3, k4⟩ := sh_blk X1
  clear X1
  go_wp2_with fail
  refine (Arena.len_any ab ca l t _ A1.out).mono ?_
  rintro r wz ⟨rfl, rfl⟩
  go_wp2_with fail
  refine (HWO.out _).mono ?_
  rintro r w2 ⟨rfl, g2⟩
  have A2 := Lib.hid (A1.out.but g2 (fun q => q) (fun q => q))
  have F2 := Lib.hid (F1.out.but g2 (fun _ q _ => q))
  have XX2 := Lib.hid (XX1.out.but g2 (fun q => q))
  have G2 := Lib.hid (G1.out.trans g2)
  clear g2 k0 k1 k2 k3 k4 A1 F1 XX1
  obtain ⟨k0, k1, k2, k3, k4⟩ := sh_blk XX2.out
  go_wp2_with fail
  refine (Arena.len_any ab ca l t _ A2.out).mono ?_
  rintro r wz ⟨rfl, rfl⟩
  have hsl := XX2.out.lt
  go_wp2_with fail
  refine (HCN.out _).mono ?_
  rintro r w4 ⟨rfl, g4⟩
  have gz := ((But.refl (fun _ => False) w2).alloc (.cells (hdr fb ab base s) 85)).trans g4
  have B4 := (Blk.new w2 (hdr fb ab base s) 85).but g4 (fun q => q)
  have hs2 := G2.out.size
  have R4 := Lib.hid (show Raw w2.heap.size fb ab ca base s (begin_ s m).f l t w4 S from
    ⟨B4, F2.out.but gz (fun _ q _ => q), A2.out.but gz (fun q => q) (fun q => q), fun q => by have := Free.Fob.lt F2.out _ q; omega, fun q => by have := N1.out _ q; omega, fun q => by have := N1.out _ q; omega, by omega⟩)
  have G4 := Lib.hid (G2.out.trans gz)
  obtain ⟨b, hb⟩ : ∃ b, b = w2.heap.size := ⟨_, rfl⟩
  rw [← hb] at R4 ⊢
  have HBN := Lib.hid (show w.heap.size ≤ b by omega)
  clear hb gz g4 B4 hs2 k0 k1 k2 k3 k4 hsl A2 F2 G2 XX2
  go_wp2_with fail
  go_loopg [51] m (fun k i1 wr => ∃ (j : Nat) (l' : List Int) (t' : Int), j + k = m ∧ i1 = .int .i64 j ∧ t ≤ t' ∧ t' ≤ t + 6 * (j : Int) ∧ Raw b fb ab ca base s (begin_ s m).f l' t' wr S ∧ LayTo base l (begin_ s m) j l' ∧ But (fun k => k = ab ∨ k = ca) w wr)
  case atStart => exact ⟨0, l, t, by omega, rfl, by omega, by omega, R4.out, ⟨rfl, HR.out, fun x _ h => by omega, fun x k _ h => by omega, fun i _ => rfl⟩, G4.out.mono (fun k q => q.elim)⟩
  case round =>
    clear R4 G4
    obtain ⟨j, l', t', hj, rfl, ht1, ht2, hR, hL, hG⟩ := hrel
    have HRW := Lib.hid hR
    have HLT := Lib.hid hL
    have HG := Lib.hid hG
    clear hR hL hG
    by_cases hlt : j < m
    · have hjm : (j : Int) < m := by omega
      have hjn : j < n (begin_ s m) := by rw [begin_n]; exact hlt
      obtain ⟨p, q, e1, e2, q1, q4, ew⟩ := HINV.out.place hjn
      have hstep := LayTo.step HLT.out HINV.out hjn (begin_taken s m j) e1 e2
      have hlr := HLT.out.room
      have hgb := HINV.out.f.gen_bd (x := j) hjn
      have hge : Free.gen (begin_ s m).f (j : Int) = genAt (begin_ s m).f j := by
        unfold Free.gen
        rw [if_pos ((Free.cellB_iff _ _).2 ⟨by omega, by have : j < Free.n (begin_ s m).f := hjn; omega⟩)]
      have hrt : Head.right (genAt (begin_ s m).f j) 0 = true := (Head.right_iff _ _).2 ⟨⟨by omega, by omega⟩, by omega, by omega⟩
      have hww : Conf.words (begin_ s m).f.s = ws := HWS.out
      rw [hww] at ew hlr
      have HST := Lib.hid hstep
      have HP := Lib.hid (show place s j = p from e1)
      have HQ := Lib.hid (show slots s j = q from e2)
      have HGE := Lib.hid hge
      have HRT := Lib.hid hrt
      have hrm : base + p + q + 1 ≤ l'.length := by omega
      have hp1 : p ≤ 1000 := by omega
      clear e1 e2 hstep hge hrt hww hgb ew hlr
      go_wp2_with fail
      refine (wipe_any b fb ab ca base p q s (begin_ s m).f l' t' (j : Int) _ _ S HRW.out (by omega) (by omega) HP.out hp1 HQ.out q4 hrm HINV.out.f HGE.out HRT.out (by omega)).mono ?_
      rintro r w5 ⟨rfl, h5, g5⟩
      go_wp2_with fail
      go_roundg (m - (j + 1))
      case measure => omega
      case rel => exact ⟨j + 1, _, _, by omega, by go_num, by omega, by omega, h5, HST.out, HG.out.trans g5⟩
    · have hje : j = m := by omega
      have hnj : ¬ (j : Int) < m := by omega
      have HFIN := Lib.hid (show Cel b fb ab ca base l (begin_ s m) l' t' wr S by
        have r := HRW.out
        have hl := HLT.out
        rw [hje, ← begin_n s m] at hl
        have e : (begin_ s (n (begin_ s m))) = begin_ s m := by rw [begin_n]
        rw [e] at hl
        exact ⟨r.blk, r.fob, r.ar, hl.all, HINV.out, r.n1, r.n2, r.n3, r.n4⟩)
      clear hje
      go_wp2_with fail
      go_ret2
      refine ⟨b, rfl, fb, S, l', t', HFIN.out, by omega, by omega, HBN.out, N1.out, HG.out⟩

/-- What the law hands New that is none: no arena, or a share that may not be. -/
theorem new_nil (base : Int) (s : Conf.Sh) (w : World) : Calls Try.prog 7 #[.pointer none, .int .i64 base, .agg (Conf.sh s)] w fun e w' => e = .returned (.tuple #[.pointer none, .int .i64 1]) ∧ But (fun _ => False) w w' := by
  have hnn := fun w h => Free.new_no s w h
  have hny := fun w h => Free.new_yes s w h
  unfold Conf.sh at hnn hny ⊢
  have HNN := Lib.hid hnn
  have HNY := Lib.hid hny
  clear hnn hny
  cases hok : Conf.ok s with
  | false =>
    have HO := Lib.hid hok
    clear hok
    go_enter Try.func7, Try.ntmps7
    go_wp2_with fail
    refine (HNN.out _ HO.out).mono ?_
    rintro r w1 ⟨rfl, g1⟩
    go_wp2_with fail
    go_ret2
    exact ⟨rfl, ((But.refl _ w).alloc _).trans g1⟩
  | true =>
    have HO := Lib.hid hok
    clear hok
    go_enter Try.func7, Try.ntmps7
    go_wp2_with fail
    refine (HNY.out _ HO.out).mono ?_
    rintro r w1 ⟨fb, S, rfl, hf, g1, hl⟩
    go_wp2_with fail
    go_ret2
    exact ⟨rfl, ((But.refl _ w).alloc _).trans g1⟩

set_option maxHeartbeats 8000000 in
set_option maxRecDepth 100000 in
theorem new_no (ab ca : Nat) (base : Int) (l : List Int) (t : Int) (s : Conf.Sh) (w : World) (ha : Arena.Ar 77 w ab ca l t) (hbd : -9223372036854775808 ≤ base ∧ base ≤ 9223372036854775807) (hno : Conf.ok s = false ∨ base < 0 ∨ (l.length : Int) < base ∨ (l.length : Int) - base < Conf.words s) :
    Calls Try.prog 7 #[.pointer (some ⟨ab, 0, none⟩), .int .i64 base, .agg (Conf.sh s)] w fun e w' => e = .returned (.tuple #[.pointer none, .int .i64 1]) ∧ But (fun _ => False) w w' := by
  have hnn := fun w h => Free.new_no s w h
  have hny := fun w h => Free.new_yes s w h
  have hwo := fun w => Conf.words_any s w
  have hwb := Conf.words_bd s
  have hlen := ha.len
  have hbx : ∀ (w : World) T, Blk (w.alloc (.cells (Conf.sh s) T)) w.heap.size (Conf.sh s) T := fun w T => Blk.new w _ T
  obtain ⟨ws, hws⟩ : ∃ ws, Conf.words s = ws := ⟨_, rfl⟩
  rw [hws] at hwo hwb hno
  unfold Conf.sh at hnn hny hwo hbx ⊢
  have HNN := Lib.hid hnn
  have HNY := Lib.hid hny
  have HWO := Lib.hid hwo
  have HBX := Lib.hid hbx
  have HA := Lib.hid ha
  clear hnn hny hwo hbx hws ha
  cases hok : Conf.ok s with
  | false =>
    have HO := Lib.hid hok
    clear hok hno
    go_enter Try.func7, Try.ntmps7
    go_wp2_with fail
    refine (HNN.out _ HO.out).mono ?_
    rintro r w1 ⟨rfl, g1⟩
    go_wp2_with fail
    go_ret2
    exact ⟨rfl, ((But.refl _ w).alloc _).trans g1⟩
  | true =>
    have HO := Lib.hid hok
    have hno2 : base < 0 ∨ (l.length : Int) < base ∨ (l.length : Int) - base < ws := by
      rcases hno with q | q
      · rw [hok] at q; cases q
      · exact q
    clear hok hno
    by_cases h0 : base < 0
    · clear hno2
      go_enter Try.func7, Try.ntmps7
      go_wp2_with fail
      refine (HNY.out _ HO.out).mono ?_
      rintro r w1 ⟨fb, S, rfl, hf, g1, hl⟩
      go_wp2_with fail
      go_ret2
      exact ⟨rfl, ((But.refl _ w).alloc _).trans g1⟩
    by_cases h1 : (l.length : Int) < base
    · clear hno2
      go_enter Try.func7, Try.ntmps7
      go_wp2_with fail
      refine (HNY.out _ HO.out).mono ?_
      rintro r w1 ⟨fb, S, rfl, hf, g1, hl⟩
      have G1 := Lib.hid (((But.refl (fun _ => False) w).alloc _).trans g1)
      clear hf hl
      go_wp2_with fail
      refine (Arena.len_any ab ca l t _ (HA.out.but G1.out (fun q => q) (fun q => q))).mono ?_
      rintro r wz ⟨rfl, rfl⟩
      go_wp2_with fail
      go_ret2
      exact ⟨rfl, G1.out⟩
    have h2 : (l.length : Int) - base < ws := by omega
    have h3 : base ≤ (l.length : Int) := by omega
    clear hno2
    go_enter Try.func7, Try.ntmps7
    go_wp2_with fail
    refine (HNY.out _ HO.out).mono ?_
    rintro r w1 ⟨fb, S, rfl, hf, g1, hl⟩
    have X1 := (HBX.out w 24).but g1 (fun q => q)
    have G1 := Lib.hid (((But.refl (fun _ => False) w).alloc _).trans g1)
    obtain ⟨k0, k1, k2, k3, k4⟩ := sh_blk X1
    clear hf hl g1 X1
    go_wp2_with fail
    refine (Arena.len_any ab ca l t _ (HA.out.but G1.out (fun q => q) (fun q => q))).mono ?_
    rintro r wz ⟨rfl, rfl⟩
    go_wp2_with fail
    refine (HWO.out _).mono ?_
    rintro r w2 ⟨rfl, g2⟩
    go_wp2_with fail
    refine (Arena.len_any ab ca l t _ (HA.out.but (G1.out.trans g2) (fun q => q) (fun q => q))).mono ?_
    rintro r wz ⟨rfl, rfl⟩
    go_wp2_with fail
    go_ret2
    exact ⟨rfl, G1.out.trans g2⟩

end Cells
end Go.Proofs.Ytngbhhcicakolaa
