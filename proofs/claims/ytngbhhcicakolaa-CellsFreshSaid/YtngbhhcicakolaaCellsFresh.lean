/- The law CellsFresh of layer 7, walked: it answers true. -/
import Derived.Test.YtngbhhcicakolaaCellsEmpty
set_option linter.unusedVariables false
set_option linter.unusedSimpArgs false
namespace Go.Proofs.Ytngbhhcicakolaa
open Go.RowKit Go.Deep Go.ChangeShapes Go.WideShapes

namespace Cells
open Free (Fr genAt takenAt)
open Arena (nth zeroed)

theorem wri_in {l : List Int} {i : Nat} (x : Int) (h : i < l.length) : Arena.wri l i x = (0, l.set i x) := by
  unfold Arena.wri
  rw [there_in (by omega), if_pos rfl, Int.toNat_natCast]
theorem by1_in {l : List Int} {i : Nat} (t : Int) (h : i < l.length) : Arena.by1 l i t = t + 1 := by
  unfold Arena.by1
  rw [there_in (by omega), if_pos rfl]

set_option maxHeartbeats 8000000 in
set_option maxRecDepth 100000 in
theorem fresh_any (s : Conf.Sh) (a : Option Addr) (len cap : Nat) (V : Nat → Nat → Value) (K C N D X : Nat → Int) (o : Nat) (w : World) (hE : Els w a len 5 V) (hlen : len ≤ 1000000000000000) (ho : o ≤ 255)
    (hK : ∀ i, i < len → V i 0 = .int .u8 (K i) ∧ 0 ≤ K i ∧ K i ≤ 255) (hC : ∀ i, i < len → V i 1 = .int .i64 (C i) ∧ -9223372036854775808 ≤ C i ∧ C i ≤ 9223372036854775807)
    (hN : ∀ i, i < len → V i 2 = .int .i64 (N i) ∧ -9223372036854775808 ≤ N i ∧ N i ≤ 9223372036854775807) (hD : ∀ i, i < len → V i 3 = .int .i64 (D i) ∧ -9223372036854775808 ≤ D i ∧ D i ≤ 9223372036854775807)
    (hX : ∀ i, i < len → V i 4 = .int .u64 (X i) ∧ 0 ≤ X i ∧ X i ≤ 18446744073709551615) :
    Calls Try.prog 4 #[.agg (Conf.sh s), .slice a len cap, .int .u8 o] w fun e w' => e = .returned (.bool true) ∧ But (fun _ => False) w w' := by
  have hsh := fun w => Conf.ref_share s w
  have hwo := fun w => Conf.ref_words s w
  have hny := fun ab ca l t w ha h1 h2 h3 => new_yes ab ca 1 l t s w ha h1 h2 h3
  have hbx : ∀ (w : World) T, Blk (w.alloc (.cells (Conf.sh s) T)) w.heap.size (Conf.sh s) T := fun w T => Blk.new w _ T
  unfold Conf.sh at hsh hwo hny hbx ⊢
  have HSH := Lib.hid hsh
  have HWO := Lib.hid hwo
  have HNY := Lib.hid hny
  have HBX := Lib.hid hbx
  clear hsh hwo hny hbx
  by_cases hgo : Conf.ok s = false ∨ 100 < len
  · go_enter Try.func4, Try.ntmps4
    go_wp2_with fail
    refine (HSH.out _).mono ?_
    rintro e w1 ⟨rfl, g1⟩
    rcases hgo with hok | hbig
    · rw [hok]
      go_wp2_with fail
      refine (alive_any _).mono ?_
      rintro e w2 ⟨rfl, g2⟩
      go_wp2_with fail
      go_ret
      exact ⟨rfl, (((But.refl _ w).alloc _).trans g1).trans g2⟩
    · cases hok : Conf.ok s <;> (
        go_wp2_with fail
        refine (alive_any _).mono ?_
        rintro e w2 ⟨rfl, g2⟩
        go_wp2_with fail
        go_ret
        exact ⟨rfl, (((But.refl _ w).alloc _).trans g1).trans g2⟩)
  have hok : Conf.ok s = true := by cases h : Conf.ok s with | true => rfl | false => exact absurd (.inl h) hgo
  have hl : len ≤ 100 := by omega
  have HO := Lib.hid hok
  clear hok hgo
  obtain ⟨m, hm⟩ : ∃ m : Nat, Conf.words s = m := ⟨(Conf.words s).toNat, by have := Conf.words_bd s; omega⟩
  have hmb : m ≤ 640 := by have := Conf.words_bd s; omega
  rw [hm] at HWO
  have HM := Lib.hid hm
  clear hm
  go_enter Try.func4, Try.ntmps4
  go_wp2_with fail
  refine (HSH.out _).mono ?_
  rintro e w1 ⟨rfl, g1⟩
  rw [HO.out]
  have X1 := (HBX.out w 24).but g1 (fun q => q)
  have G1 := Lib.hid (((But.refl (fun _ => False) w).alloc (.cells #[.int .i64 s.c0, .int .i64 s.c1, .int .i64 s.c2, .int .i64 s.q, .int .i64 s.st] 24)).trans g1)
  have k0 : w1.cell? ⟨w.heap.size, 0, none⟩ = some (.int .i64 s.c0) := X1.cell 0
  have k1 : w1.cell? ⟨w.heap.size, 1, none⟩ = some (.int .i64 s.c1) := X1.cell 1
  have k2 : w1.cell? ⟨w.heap.size, 2, none⟩ = some (.int .i64 s.c2) := X1.cell 2
  have k3 : w1.cell? ⟨w.heap.size, 3, none⟩ = some (.int .i64 s.q) := X1.cell 3
  have k4 : w1.cell? ⟨w.heap.size, 4, none⟩ = some (.int .i64 s.st) := X1.cell 4
  have X1 := Lib.hid X1
  clear g1
  go_wp2_with fail
  refine (HWO.out _).mono ?_
  rintro e w2 ⟨rfl, g2⟩
  have X2 := Lib.hid (X1.out.but g2 (fun q => q))
  have G2 := Lib.hid (G1.out.trans g2)
  clear k0 k1 k2 k3 k4 g2 X1 G1
  go_wp2_with fail
  have hn := Arena.new_any (m + 2) w2 (by omega)
  rw [show ((m + 2 : Nat) : Int) = (m : Int) + 2 by omega] at hn
  refine hn.mono ?_
  clear hn
  rintro r w3 ⟨rfl, ha, g3⟩
  have z2 := X2.out.lt
  obtain ⟨ab, hab⟩ : ∃ ab, ab = w2.heap.size + 1 := ⟨_, rfl⟩
  obtain ⟨ca, hca⟩ : ∃ ca, ca = w2.heap.size := ⟨_, rfl⟩
  rw [← hab, ← hca] at ha
  rw [← hab]
  have z3 := G2.out.size
  have AB := Lib.hid (show w.heap.size < ab ∧ w.heap.size < ca by omega)
  have X3 := Lib.hid (X2.out.but g3 (fun q => q))
  have G3 := Lib.hid (G2.out.trans g3)
  have HA := Lib.hid ha
  clear hab hca ha X2 G2 g3 z2 z3
  go_wp2_with fail
  have hn := Arena.write_any ab ca _ 0 0 7 w3 HA.out (by omega)
  have e1 := wri_in (l := List.replicate (m + 2) (0 : Int)) (i := 0) 7 (by simp)
  have e2 := by1_in (l := List.replicate (m + 2) (0 : Int)) (i := 0) 0 (by simp)
  change Arena.wri _ 0 7 = _ at e1
  change Arena.by1 _ 0 0 = _ at e2
  rw [e1, e2] at hn
  refine hn.mono ?_
  obtain ⟨l1, hl1⟩ : ∃ l1, l1 = (List.replicate (m + 2) (0 : Int)).set 0 7 := ⟨_, rfl⟩
  have L1 := Lib.hid (show l1.length = m + 2 ∧ nth l1 0 = 7 by rw [hl1]; exact ⟨by simp, by rw [nth_set]; simp⟩)
  rintro r w4 ⟨rfl, ha, g4⟩
  rw [← hl1] at ha
  clear hn e1 e2 hl1 HA
  have HA := Lib.hid ha
  have X4 := Lib.hid (X3.out.but g4 (fun q => by have := AB.out; omega))
  have G4 := Lib.hid (G3.out.trans' g4 (fun k hk => .inr (by have := AB.out; omega)))
  clear ha X3 G3 g4
  go_wp2_with fail
  have hn := Arena.write_any ab ca l1 (0 + 1) ((m + 1 : Nat) : Int) 7 w4 HA.out (by omega)
  have e1 := wri_in (l := l1) (i := m + 1) 7 (by have := L1.out; omega)
  rw [e1, by1_in (l := l1) (i := m + 1) _ (by have := L1.out; omega), show ((m + 1 : Nat) : Int) = (m : Int) + 1 by omega] at hn
  refine hn.mono ?_
  obtain ⟨l0, hl0⟩ : ∃ l0, l0 = l1.set (m + 1) 7 := ⟨_, rfl⟩
  have L0 := Lib.hid (show l0.length = m + 2 ∧ nth l0 0 = 7 ∧ nth l0 (m + 1) = 7 by
    have := L1.out
    rw [hl0]
    refine ⟨by rw [List.length_set]; omega, by rw [nth_set, if_neg (by omega)]; exact this.2, by rw [nth_set, if_pos ⟨rfl, by omega⟩]⟩)
  rintro r w5 ⟨rfl, ha, g5⟩
  rw [← hl0] at ha
  clear hn e1 hl0 HA L1
  have HA := Lib.hid ha
  have X5 := X4.out.but g5 (fun q => by have := AB.out; omega)
  have G5 := Lib.hid (G4.out.trans' g5 (fun k hk => .inr (by have := AB.out; omega)))
  have k0 : w5.cell? ⟨w.heap.size, 0, none⟩ = some (.int .i64 s.c0) := X5.cell 0
  have k1 : w5.cell? ⟨w.heap.size, 1, none⟩ = some (.int .i64 s.c1) := X5.cell 1
  have k2 : w5.cell? ⟨w.heap.size, 2, none⟩ = some (.int .i64 s.c2) := X5.cell 2
  have k3 : w5.cell? ⟨w.heap.size, 3, none⟩ = some (.int .i64 s.q) := X5.cell 3
  have k4 : w5.cell? ⟨w.heap.size, 4, none⟩ = some (.int .i64 s.st) := X5.cell 4
  clear ha X4 G4 g5 X5
  go_wp2_with fail
  have hn := HNY.out ab ca l0 _ w5 HA.out HO.out (by have := L0.out; rw [HM.out]; omega) (by omega)
  change Calls Try.prog 7 #[.pointer (some ⟨ab, 0, none⟩), .int .i64 1, .agg #[.int .i64 s.c0, .int .i64 s.c1, .int .i64 s.c2, .int .i64 s.q, .int .i64 s.st]] w5 _ at hn
  refine hn.mono ?_
  clear hn
  rintro r w6 ⟨b, fb, S, l', t', rfl, hc, ht1, ht2, hb, hS, g6⟩
  obtain ⟨c0, hc0⟩ : ∃ c0, c0 = begin_ s (Conf.count s).toNat := ⟨_, rfl⟩
  rw [← hc0] at hc
  have hcs : c0.f.s = s := by rw [hc0]; rfl
  have O0 := Lib.hid (one_new (w0 := w) (t0 := 2000) hc (by omega) (by have := G5.out.size; omega) (fun k hk => by have := hS k hk; have := G5.out.size; omega) (by have := AB.out; omega) G5.out g6)
  clear hc ht1 ht2 hb hS g6 hc0 k0 k1 k2 k3 k4 HA G5
  go_wp2_with fail
  go_loopg [14] len (fun k iv wr => ∃ (j : Nat) (c : Cs), j + k = len ∧ iv = .int .i64 j ∧ One [] b fb ab ca 1 l0 c (2000 + 20 * j) w wr ∧ c.f.s = s)
  case atStart => exact ⟨0, c0, by omega, rfl, O0.out.up (by omega), hcs⟩
  case round =>
    obtain ⟨j, c, hj, rfl, hO, hcf⟩ := hrel
    clear O0 hcs
    have HCF := Lib.hid hcf
    clear hcf
    by_cases hlt : j < len
    · obtain ⟨xb, xoff, rfl, hxb, hxc⟩ := hE.at_ j hlt
      have HC := Lib.hid (show ∀ w', But (fun _ => False) w w' → (w'.cell? ⟨xb, xoff + (j * 5), none⟩ = some (.int .u8 (K j)) ∧ w'.cell? ⟨xb, xoff + (j * 5) + 1, none⟩ = some (.int .i64 (C j)) ∧ w'.cell? ⟨xb, xoff + (j * 5) + 2, none⟩ = some (.int .i64 (N j)) ∧
          w'.cell? ⟨xb, xoff + (j * 5) + 3, none⟩ = some (.int .i64 (D j)) ∧ w'.cell? ⟨xb, xoff + (j * 5) + 3 + 1, none⟩ = some (.int .u64 (X j))) from fun w' h => by
        have cc : ∀ i, w'.cell? ⟨xb, i, none⟩ = w.cell? ⟨xb, i, none⟩ := fun i => World.cell?_of_block (w := w) (h.block xb hxb (fun q => q))
        refine ⟨?_, ?_, ?_, ?_, ?_⟩
        · rw [cc, ← (hK j hlt).1, ← hxc 0 (by omega)]; rfl
        · rw [cc, ← (hC j hlt).1, ← hxc 1 (by omega)]; rfl
        · rw [cc, ← (hN j hlt).1, ← hxc 2 (by omega)]; rfl
        · rw [cc, ← (hD j hlt).1, ← hxc 3 (by omega)]; rfl
        · rw [cc, ← (hX j hlt).1, ← hxc 4 (by omega)]; rfl)
      have bk := (hK j hlt).2
      have bc := (hC j hlt).2
      have bn := (hN j hlt).2
      have bx := (hX j hlt).2
      clear hxc
      have HI := Lib.hid hO.inv
      obtain ⟨g1, m1, u1, f1, hh⟩ : ∃ g m u f, header c o = ((g, m, u), f) := ⟨_, _, _, _, rfl⟩
      obtain ⟨k1, n1, f2, hg⟩ : ∃ k n f, get c o 0 = ((k, n), f) := ⟨_, _, _, rfl⟩
      have HH := Lib.hid hh
      have HGG := Lib.hid hg
      clear hh hg
      go_wp2_with fail
      refine (o_header hO (by decide) (by omega) (by omega) HH.out).mono ?_
      rintro r w7 ⟨rfl, O7⟩
      have P7 := O7.addBlk #[.int .i64 g1, .int .i64 m1, .bool u1] 47
      clear O7 hO
      go_wp2_with fail
      obtain ⟨hb1, hhb1⟩ : ∃ hb1, hb1 = w7.heap.size := ⟨_, rfl⟩
      rw [← hhb1] at P7 ⊢
      clear hhb1
      refine (o_get P7 (by decide) (by omega) (by omega) HGG.out).mono ?_
      rintro r w8 ⟨rfl, O8⟩
      have P8 := O8.addBlk #[.int .i64 k1, .int .u64 n1] 43
      clear O8 P7
      obtain ⟨q0, q1, q2, q3, q4⟩ := HC.out _ P8.but
      by_cases hk1 : K j % 7 < 2
      · have hy1 : decide (K j % 7 < 2) = true := decide_eq_true hk1
        obtain ⟨c', x, f, hal⟩ : ∃ c' x f, alloc c (N j) = (c', x, f) := ⟨_, _, _, rfl⟩
        have HAL := Lib.hid hal
        clear hal
        go_wp2_with fail
        obtain ⟨vb1, hvb1⟩ : ∃ vb1, vb1 = w8.heap.size := ⟨_, rfl⟩
        rw [← hvb1] at P8 ⊢
        clear hvb1
        clear q0 q1 q2 q3 q4
        refine (o_alloc P8 (by decide) (by omega) HAL.out).mono ?_
        rintro r w9 ⟨rfl, O9⟩
        clear P8
        have HCF' := Lib.hid (show c'.f.s = s by have := (alloc_s c (N j) HI.out).1; rw [HAL.out] at this; exact this.trans HCF.out)
        by_cases hf : f = 0
        · subst hf
          obtain ⟨y, hy, hem⟩ := alloc_empty HI.out (k := N j) (by rw [HAL.out])
          rw [HAL.out] at hy hem
          replace hy : x = y := hy
          subst hy
          replace hem : Empty c' y := hem
          have HEM := Lib.hid hem
          clear hem
          go_wp2_with fail
          refine (empty_any O9 (by decide) (by omega) HEM.out).mono ?_
          rintro r w10 ⟨rfl, O10⟩
          clear O9
          by_cases hno : (y : Int) = o
          · go_wp2_with fail
            obtain ⟨g2, m2, u2, f3, hh2⟩ : ∃ g m u f, header (c') o = ((g, m, u), f) := ⟨_, _, _, _, rfl⟩
            obtain ⟨k2, n2, f4, hg2⟩ : ∃ k n f, get (c') o 0 = ((k, n), f) := ⟨_, _, _, rfl⟩
            have HH2 := Lib.hid hh2
            have HG2 := Lib.hid hg2
            clear hh2 hg2
            refine (o_header O10 (by decide) (by omega) (by omega) HH2.out).mono ?_
            rintro r wh ⟨rfl, Oh⟩
            have Ph := Oh.addBlk #[.int .i64 g2, .int .i64 m2, .bool u2] 47
            clear Oh
            go_wp2_with fail
            obtain ⟨hb2, hhb2⟩ : ∃ hb2, hb2 = wh.heap.size := ⟨_, rfl⟩
            rw [← hhb2] at Ph ⊢
            clear hhb2
            refine (o_get Ph (by decide) (by omega) (by omega) HG2.out).mono ?_
            rintro r wg ⟨rfl, Og⟩
            have Pg := Og.addBlk #[.int .i64 k2, .int .u64 n2] 43
            clear Og Ph
            go_wp2_with fail
            go_roundg (len - (j + 1))
            case measure => omega
            case rel => exact ⟨j + 1, _, by omega, by go_num, Pg.drop.drop.drop.drop.up (by omega), HCF'.out⟩
          · go_wp2_with fail
            have HS2 := Lib.hid (show Same c c' o by have := alloc_same HI.out (k := N j) (o := o) (fun _ => by rw [HAL.out]; exact fun q => hno q.symm); rw [HAL.out] at this; exact this)
            have hh2 := HS2.out.1.trans HH.out
            have hg2 := HS2.out.2.trans HGG.out
            have HH2 := Lib.hid hh2
            have HG2 := Lib.hid hg2
            clear hh2 hg2
            refine (o_header O10 (by decide) (by omega) (by omega) HH2.out).mono ?_
            rintro r wh ⟨rfl, Oh⟩
            have Ph := Oh.addBlk #[.int .i64 g1, .int .i64 m1, .bool u1] 47
            clear Oh
            go_wp2_with fail
            obtain ⟨hb2, hhb2⟩ : ∃ hb2, hb2 = wh.heap.size := ⟨_, rfl⟩
            rw [← hhb2] at Ph ⊢
            clear hhb2
            refine (o_get Ph (by decide) (by omega) (by omega) HG2.out).mono ?_
            rintro r wg ⟨rfl, Og⟩
            have Pg := Og.addBlk #[.int .i64 k1, .int .u64 n1] 43
            clear Og Ph
            obtain ⟨Sg, Wg⟩ := Pg.ex
            have Ba : Blk (wg.alloc (.cells #[.int .i64 k1, .int .u64 n1] 43)) wg.heap.size #[.int .i64 k1, .int .u64 n1] 43 := Wg.get 1 rfl
            have za0 : (wg.alloc (.cells #[.int .i64 k1, .int .u64 n1] 43)).cell? ⟨wg.heap.size, 0, none⟩ = some (.int .i64 k1) := Ba.cell 0
            have za1 : (wg.alloc (.cells #[.int .i64 k1, .int .u64 n1] 43)).cell? ⟨wg.heap.size, 1, none⟩ = some (.int .u64 n1) := Ba.cell 1
            have Bb : Blk (wg.alloc (.cells #[.int .i64 k1, .int .u64 n1] 43)) hb2 #[.int .i64 g1, .int .i64 m1, .bool u1] 47 := Wg.get 2 rfl
            have zb0 : (wg.alloc (.cells #[.int .i64 k1, .int .u64 n1] 43)).cell? ⟨hb2, 0, none⟩ = some (.int .i64 g1) := Bb.cell 0
            have zb1 : (wg.alloc (.cells #[.int .i64 k1, .int .u64 n1] 43)).cell? ⟨hb2, 1, none⟩ = some (.int .i64 m1) := Bb.cell 1
            have zb2 : (wg.alloc (.cells #[.int .i64 k1, .int .u64 n1] 43)).cell? ⟨hb2, 2, none⟩ = some (.bool u1) := Bb.cell 2
            have Bd : Blk (wg.alloc (.cells #[.int .i64 k1, .int .u64 n1] 43)) vb1 #[.int .i64 k1, .int .u64 n1] 43 := Wg.get 3 rfl
            have zd0 : (wg.alloc (.cells #[.int .i64 k1, .int .u64 n1] 43)).cell? ⟨vb1, 0, none⟩ = some (.int .i64 k1) := Bd.cell 0
            have zd1 : (wg.alloc (.cells #[.int .i64 k1, .int .u64 n1] 43)).cell? ⟨vb1, 1, none⟩ = some (.int .u64 n1) := Bd.cell 1
            have Be : Blk (wg.alloc (.cells #[.int .i64 k1, .int .u64 n1] 43)) hb1 #[.int .i64 g1, .int .i64 m1, .bool u1] 47 := Wg.get 4 rfl
            have ze0 : (wg.alloc (.cells #[.int .i64 k1, .int .u64 n1] 43)).cell? ⟨hb1, 0, none⟩ = some (.int .i64 g1) := Be.cell 0
            have ze1 : (wg.alloc (.cells #[.int .i64 k1, .int .u64 n1] 43)).cell? ⟨hb1, 1, none⟩ = some (.int .i64 m1) := Be.cell 1
            have ze2 : (wg.alloc (.cells #[.int .i64 k1, .int .u64 n1] 43)).cell? ⟨hb1, 2, none⟩ = some (.bool u1) := Be.cell 2
            clear Ba Bb Bd Be Wg
            go_wp2_with fail
            go_roundg (len - (j + 1))
            case measure => omega
            case rel => exact ⟨j + 1, _, by omega, by go_num, Pg.drop.drop.drop.drop.up (by omega), HCF'.out⟩
        · go_wp2_with fail
          have HS2 := Lib.hid (show Same c c' o by have := alloc_same HI.out (k := N j) (o := o) (fun q => by rw [HAL.out] at q; exact absurd q hf); rw [HAL.out] at this; exact this)
          have hh2 := HS2.out.1.trans HH.out
          have hg2 := HS2.out.2.trans HGG.out
          have HH2 := Lib.hid hh2
          have HG2 := Lib.hid hg2
          clear hh2 hg2
          refine (o_header O9 (by decide) (by omega) (by omega) HH2.out).mono ?_
          rintro r wh ⟨rfl, Oh⟩
          have Ph := Oh.addBlk #[.int .i64 g1, .int .i64 m1, .bool u1] 47
          clear Oh
          go_wp2_with fail
          obtain ⟨hb2, hhb2⟩ : ∃ hb2, hb2 = wh.heap.size := ⟨_, rfl⟩
          rw [← hhb2] at Ph ⊢
          clear hhb2
          refine (o_get Ph (by decide) (by omega) (by omega) HG2.out).mono ?_
          rintro r wg ⟨rfl, Og⟩
          have Pg := Og.addBlk #[.int .i64 k1, .int .u64 n1] 43
          clear Og Ph
          obtain ⟨Sg, Wg⟩ := Pg.ex
          have Ba : Blk (wg.alloc (.cells #[.int .i64 k1, .int .u64 n1] 43)) wg.heap.size #[.int .i64 k1, .int .u64 n1] 43 := Wg.get 1 rfl
          have za0 : (wg.alloc (.cells #[.int .i64 k1, .int .u64 n1] 43)).cell? ⟨wg.heap.size, 0, none⟩ = some (.int .i64 k1) := Ba.cell 0
          have za1 : (wg.alloc (.cells #[.int .i64 k1, .int .u64 n1] 43)).cell? ⟨wg.heap.size, 1, none⟩ = some (.int .u64 n1) := Ba.cell 1
          have Bb : Blk (wg.alloc (.cells #[.int .i64 k1, .int .u64 n1] 43)) hb2 #[.int .i64 g1, .int .i64 m1, .bool u1] 47 := Wg.get 2 rfl
          have zb0 : (wg.alloc (.cells #[.int .i64 k1, .int .u64 n1] 43)).cell? ⟨hb2, 0, none⟩ = some (.int .i64 g1) := Bb.cell 0
          have zb1 : (wg.alloc (.cells #[.int .i64 k1, .int .u64 n1] 43)).cell? ⟨hb2, 1, none⟩ = some (.int .i64 m1) := Bb.cell 1
          have zb2 : (wg.alloc (.cells #[.int .i64 k1, .int .u64 n1] 43)).cell? ⟨hb2, 2, none⟩ = some (.bool u1) := Bb.cell 2
          have Bd : Blk (wg.alloc (.cells #[.int .i64 k1, .int .u64 n1] 43)) vb1 #[.int .i64 k1, .int .u64 n1] 43 := Wg.get 3 rfl
          have zd0 : (wg.alloc (.cells #[.int .i64 k1, .int .u64 n1] 43)).cell? ⟨vb1, 0, none⟩ = some (.int .i64 k1) := Bd.cell 0
          have zd1 : (wg.alloc (.cells #[.int .i64 k1, .int .u64 n1] 43)).cell? ⟨vb1, 1, none⟩ = some (.int .u64 n1) := Bd.cell 1
          have Be : Blk (wg.alloc (.cells #[.int .i64 k1, .int .u64 n1] 43)) hb1 #[.int .i64 g1, .int .i64 m1, .bool u1] 47 := Wg.get 4 rfl
          have ze0 : (wg.alloc (.cells #[.int .i64 k1, .int .u64 n1] 43)).cell? ⟨hb1, 0, none⟩ = some (.int .i64 g1) := Be.cell 0
          have ze1 : (wg.alloc (.cells #[.int .i64 k1, .int .u64 n1] 43)).cell? ⟨hb1, 1, none⟩ = some (.int .i64 m1) := Be.cell 1
          have ze2 : (wg.alloc (.cells #[.int .i64 k1, .int .u64 n1] 43)).cell? ⟨hb1, 2, none⟩ = some (.bool u1) := Be.cell 2
          clear Ba Bb Bd Be Wg
          go_wp2_with fail
          go_roundg (len - (j + 1))
          case measure => omega
          case rel => exact ⟨j + 1, _, by omega, by go_num, Pg.drop.drop.drop.drop.up (by omega), HCF'.out⟩
      by_cases hk2 : K j % 7 = 2
      · obtain ⟨c', x, f, hal⟩ : ∃ c' x f, free c (C j) = (c', x, f) := ⟨_, _, _, rfl⟩
        have HAL := Lib.hid hal
        have HCF' := Lib.hid (show c'.f.s = s by have := (free_s c (C j) HI.out).1; rw [hal] at this; exact this.trans HCF.out)
        clear hal
        go_wp2_with fail
        obtain ⟨vb1, hvb1⟩ : ∃ vb1, vb1 = w8.heap.size := ⟨_, rfl⟩
        rw [← hvb1] at P8 ⊢
        clear hvb1
        refine (o_free P8 (by decide) (by omega) bc HAL.out).mono ?_
        rintro r w9 ⟨rfl, O9⟩
        clear P8 q0 q1 q2 q3 q4
        by_cases hno : C j = o
        · go_wp2_with fail
          obtain ⟨g2, m2, u2, f3, hh2⟩ : ∃ g m u f, header (c') o = ((g, m, u), f) := ⟨_, _, _, _, rfl⟩
          obtain ⟨k2, n2, f4, hg2⟩ : ∃ k n f, get (c') o 0 = ((k, n), f) := ⟨_, _, _, rfl⟩
          have HH2 := Lib.hid hh2
          have HG2 := Lib.hid hg2
          clear hh2 hg2
          refine (o_header O9 (by decide) (by omega) (by omega) HH2.out).mono ?_
          rintro r wh ⟨rfl, Oh⟩
          have Ph := Oh.addBlk #[.int .i64 g2, .int .i64 m2, .bool u2] 47
          clear Oh
          go_wp2_with fail
          obtain ⟨hb2, hhb2⟩ : ∃ hb2, hb2 = wh.heap.size := ⟨_, rfl⟩
          rw [← hhb2] at Ph ⊢
          clear hhb2
          refine (o_get Ph (by decide) (by omega) (by omega) HG2.out).mono ?_
          rintro r wg ⟨rfl, Og⟩
          have Pg := Og.addBlk #[.int .i64 k2, .int .u64 n2] 43
          clear Og Ph
          go_wp2_with fail
          go_roundg (len - (j + 1))
          case measure => omega
          case rel => exact ⟨j + 1, _, by omega, by go_num, Pg.drop.drop.drop.drop.up (by omega), HCF'.out⟩
        · go_wp2_with fail
          have HS2 := Lib.hid (show Same c c' o by have := free_same HI.out (x := C j) (o := o) (fun q => hno q.symm); rw [HAL.out] at this; exact this)
          have hh2 := HS2.out.1.trans HH.out
          have hg2 := HS2.out.2.trans HGG.out
          have HH2 := Lib.hid hh2
          have HG2 := Lib.hid hg2
          clear hh2 hg2
          refine (o_header O9 (by decide) (by omega) (by omega) HH2.out).mono ?_
          rintro r wh ⟨rfl, Oh⟩
          have Ph := Oh.addBlk #[.int .i64 g1, .int .i64 m1, .bool u1] 47
          clear Oh
          go_wp2_with fail
          obtain ⟨hb2, hhb2⟩ : ∃ hb2, hb2 = wh.heap.size := ⟨_, rfl⟩
          rw [← hhb2] at Ph ⊢
          clear hhb2
          refine (o_get Ph (by decide) (by omega) (by omega) HG2.out).mono ?_
          rintro r wg ⟨rfl, Og⟩
          have Pg := Og.addBlk #[.int .i64 k1, .int .u64 n1] 43
          clear Og Ph
          obtain ⟨Sg, Wg⟩ := Pg.ex
          have Ba : Blk (wg.alloc (.cells #[.int .i64 k1, .int .u64 n1] 43)) wg.heap.size #[.int .i64 k1, .int .u64 n1] 43 := Wg.get 1 rfl
          have za0 : (wg.alloc (.cells #[.int .i64 k1, .int .u64 n1] 43)).cell? ⟨wg.heap.size, 0, none⟩ = some (.int .i64 k1) := Ba.cell 0
          have za1 : (wg.alloc (.cells #[.int .i64 k1, .int .u64 n1] 43)).cell? ⟨wg.heap.size, 1, none⟩ = some (.int .u64 n1) := Ba.cell 1
          have Bb : Blk (wg.alloc (.cells #[.int .i64 k1, .int .u64 n1] 43)) hb2 #[.int .i64 g1, .int .i64 m1, .bool u1] 47 := Wg.get 2 rfl
          have zb0 : (wg.alloc (.cells #[.int .i64 k1, .int .u64 n1] 43)).cell? ⟨hb2, 0, none⟩ = some (.int .i64 g1) := Bb.cell 0
          have zb1 : (wg.alloc (.cells #[.int .i64 k1, .int .u64 n1] 43)).cell? ⟨hb2, 1, none⟩ = some (.int .i64 m1) := Bb.cell 1
          have zb2 : (wg.alloc (.cells #[.int .i64 k1, .int .u64 n1] 43)).cell? ⟨hb2, 2, none⟩ = some (.bool u1) := Bb.cell 2
          have Bd : Blk (wg.alloc (.cells #[.int .i64 k1, .int .u64 n1] 43)) vb1 #[.int .i64 k1, .int .u64 n1] 43 := Wg.get 3 rfl
          have zd0 : (wg.alloc (.cells #[.int .i64 k1, .int .u64 n1] 43)).cell? ⟨vb1, 0, none⟩ = some (.int .i64 k1) := Bd.cell 0
          have zd1 : (wg.alloc (.cells #[.int .i64 k1, .int .u64 n1] 43)).cell? ⟨vb1, 1, none⟩ = some (.int .u64 n1) := Bd.cell 1
          have Be : Blk (wg.alloc (.cells #[.int .i64 k1, .int .u64 n1] 43)) hb1 #[.int .i64 g1, .int .i64 m1, .bool u1] 47 := Wg.get 4 rfl
          have ze0 : (wg.alloc (.cells #[.int .i64 k1, .int .u64 n1] 43)).cell? ⟨hb1, 0, none⟩ = some (.int .i64 g1) := Be.cell 0
          have ze1 : (wg.alloc (.cells #[.int .i64 k1, .int .u64 n1] 43)).cell? ⟨hb1, 1, none⟩ = some (.int .i64 m1) := Be.cell 1
          have ze2 : (wg.alloc (.cells #[.int .i64 k1, .int .u64 n1] 43)).cell? ⟨hb1, 2, none⟩ = some (.bool u1) := Be.cell 2
          clear Ba Bb Bd Be Wg
          go_wp2_with fail
          go_roundg (len - (j + 1))
          case measure => omega
          case rel => exact ⟨j + 1, _, by omega, by go_num, Pg.drop.drop.drop.drop.up (by omega), HCF'.out⟩
      by_cases hk3 : K j % 7 = 3
      · obtain ⟨c', f, hal⟩ : ∃ c' f, setCount c (C j) (N j) = (c', f) := ⟨_, _, rfl⟩
        have HAL := Lib.hid hal
        have HCF' := Lib.hid (show c'.f.s = s by have := setCount_s c (C j) (N j); rw [hal] at this; rw [show c'.f = c.f from this]; exact HCF.out)
        clear hal
        go_wp2_with fail
        obtain ⟨vb1, hvb1⟩ : ∃ vb1, vb1 = w8.heap.size := ⟨_, rfl⟩
        rw [← hvb1] at P8 ⊢
        clear hvb1
        refine (o_setCount P8 (by decide) (by omega) bc HAL.out).mono ?_
        rintro r w9 ⟨rfl, O9⟩
        clear P8 q0 q1 q2 q3 q4
        by_cases hno : C j = o
        · go_wp2_with fail
          obtain ⟨g2, m2, u2, f3, hh2⟩ : ∃ g m u f, header (c') o = ((g, m, u), f) := ⟨_, _, _, _, rfl⟩
          obtain ⟨k2, n2, f4, hg2⟩ : ∃ k n f, get (c') o 0 = ((k, n), f) := ⟨_, _, _, rfl⟩
          have HH2 := Lib.hid hh2
          have HG2 := Lib.hid hg2
          clear hh2 hg2
          refine (o_header O9 (by decide) (by omega) (by omega) HH2.out).mono ?_
          rintro r wh ⟨rfl, Oh⟩
          have Ph := Oh.addBlk #[.int .i64 g2, .int .i64 m2, .bool u2] 47
          clear Oh
          go_wp2_with fail
          obtain ⟨hb2, hhb2⟩ : ∃ hb2, hb2 = wh.heap.size := ⟨_, rfl⟩
          rw [← hhb2] at Ph ⊢
          clear hhb2
          refine (o_get Ph (by decide) (by omega) (by omega) HG2.out).mono ?_
          rintro r wg ⟨rfl, Og⟩
          have Pg := Og.addBlk #[.int .i64 k2, .int .u64 n2] 43
          clear Og Ph
          go_wp2_with fail
          go_roundg (len - (j + 1))
          case measure => omega
          case rel => exact ⟨j + 1, _, by omega, by go_num, Pg.drop.drop.drop.drop.up (by omega), HCF'.out⟩
        · go_wp2_with fail
          have HS2 := Lib.hid (show Same c c' o by have := setCount_same HI.out (x := C j) (m := N j) (o := o) (fun q => hno q.symm); rw [HAL.out] at this; exact this)
          have hh2 := HS2.out.1.trans HH.out
          have hg2 := HS2.out.2.trans HGG.out
          have HH2 := Lib.hid hh2
          have HG2 := Lib.hid hg2
          clear hh2 hg2
          refine (o_header O9 (by decide) (by omega) (by omega) HH2.out).mono ?_
          rintro r wh ⟨rfl, Oh⟩
          have Ph := Oh.addBlk #[.int .i64 g1, .int .i64 m1, .bool u1] 47
          clear Oh
          go_wp2_with fail
          obtain ⟨hb2, hhb2⟩ : ∃ hb2, hb2 = wh.heap.size := ⟨_, rfl⟩
          rw [← hhb2] at Ph ⊢
          clear hhb2
          refine (o_get Ph (by decide) (by omega) (by omega) HG2.out).mono ?_
          rintro r wg ⟨rfl, Og⟩
          have Pg := Og.addBlk #[.int .i64 k1, .int .u64 n1] 43
          clear Og Ph
          obtain ⟨Sg, Wg⟩ := Pg.ex
          have Ba : Blk (wg.alloc (.cells #[.int .i64 k1, .int .u64 n1] 43)) wg.heap.size #[.int .i64 k1, .int .u64 n1] 43 := Wg.get 1 rfl
          have za0 : (wg.alloc (.cells #[.int .i64 k1, .int .u64 n1] 43)).cell? ⟨wg.heap.size, 0, none⟩ = some (.int .i64 k1) := Ba.cell 0
          have za1 : (wg.alloc (.cells #[.int .i64 k1, .int .u64 n1] 43)).cell? ⟨wg.heap.size, 1, none⟩ = some (.int .u64 n1) := Ba.cell 1
          have Bb : Blk (wg.alloc (.cells #[.int .i64 k1, .int .u64 n1] 43)) hb2 #[.int .i64 g1, .int .i64 m1, .bool u1] 47 := Wg.get 2 rfl
          have zb0 : (wg.alloc (.cells #[.int .i64 k1, .int .u64 n1] 43)).cell? ⟨hb2, 0, none⟩ = some (.int .i64 g1) := Bb.cell 0
          have zb1 : (wg.alloc (.cells #[.int .i64 k1, .int .u64 n1] 43)).cell? ⟨hb2, 1, none⟩ = some (.int .i64 m1) := Bb.cell 1
          have zb2 : (wg.alloc (.cells #[.int .i64 k1, .int .u64 n1] 43)).cell? ⟨hb2, 2, none⟩ = some (.bool u1) := Bb.cell 2
          have Bd : Blk (wg.alloc (.cells #[.int .i64 k1, .int .u64 n1] 43)) vb1 #[.int .i64 k1, .int .u64 n1] 43 := Wg.get 3 rfl
          have zd0 : (wg.alloc (.cells #[.int .i64 k1, .int .u64 n1] 43)).cell? ⟨vb1, 0, none⟩ = some (.int .i64 k1) := Bd.cell 0
          have zd1 : (wg.alloc (.cells #[.int .i64 k1, .int .u64 n1] 43)).cell? ⟨vb1, 1, none⟩ = some (.int .u64 n1) := Bd.cell 1
          have Be : Blk (wg.alloc (.cells #[.int .i64 k1, .int .u64 n1] 43)) hb1 #[.int .i64 g1, .int .i64 m1, .bool u1] 47 := Wg.get 4 rfl
          have ze0 : (wg.alloc (.cells #[.int .i64 k1, .int .u64 n1] 43)).cell? ⟨hb1, 0, none⟩ = some (.int .i64 g1) := Be.cell 0
          have ze1 : (wg.alloc (.cells #[.int .i64 k1, .int .u64 n1] 43)).cell? ⟨hb1, 1, none⟩ = some (.int .i64 m1) := Be.cell 1
          have ze2 : (wg.alloc (.cells #[.int .i64 k1, .int .u64 n1] 43)).cell? ⟨hb1, 2, none⟩ = some (.bool u1) := Be.cell 2
          clear Ba Bb Bd Be Wg
          go_wp2_with fail
          go_roundg (len - (j + 1))
          case measure => omega
          case rel => exact ⟨j + 1, _, by omega, by go_num, Pg.drop.drop.drop.drop.up (by omega), HCF'.out⟩
      obtain ⟨c', f, hal⟩ : ∃ c' f, set c (C j) (N j) (D j, X j) = (c', f) := ⟨_, _, rfl⟩
      have HAL := Lib.hid hal
      have HCF' := Lib.hid (show c'.f.s = s by have := set_s c (C j) (N j) (D j, X j); rw [hal] at this; rw [show c'.f = c.f from this]; exact HCF.out)
      clear hal
      go_wp2_with fail
      obtain ⟨vb1, hvb1⟩ : ∃ vb1, vb1 = w8.heap.size := ⟨_, rfl⟩
      rw [← hvb1] at P8 ⊢
      clear hvb1
      obtain ⟨wx, hwx⟩ : ∃ wx, wx = w8.alloc (.cells #[.int .i64 k1, .int .u64 n1] 43) := ⟨_, rfl⟩
      rw [← hwx] at P8 q0 q1 q2 q3 q4 ⊢
      clear hwx
      go_still_tail 12, (by kernel_rfl)
      change wpList _ _ _ _ _ wx.drew
      have P8 := P8.same ((But.refl _ _).drew)
      obtain ⟨wd, hwd⟩ : ∃ wd, wd = wx.drew := ⟨_, rfl⟩
      rw [← hwd] at P8 ⊢
      clear hwd q0 q1 q2 q3 q4
      obtain ⟨q0, q1, q2, q3, q4⟩ := HC.out _ P8.but
      go_wp2_with fail
      refine (o_set P8 (by decide) (by omega) bc bx HAL.out).mono ?_
      rintro r w9 ⟨rfl, O9⟩
      clear P8 q0 q1 q2 q3 q4
      by_cases hno : C j = o
      · go_wp2_with fail
        obtain ⟨g2, m2, u2, f3, hh2⟩ : ∃ g m u f, header (c') o = ((g, m, u), f) := ⟨_, _, _, _, rfl⟩
        obtain ⟨k2, n2, f4, hg2⟩ : ∃ k n f, get (c') o 0 = ((k, n), f) := ⟨_, _, _, rfl⟩
        have HH2 := Lib.hid hh2
        have HG2 := Lib.hid hg2
        clear hh2 hg2
        refine (o_header O9 (by decide) (by omega) (by omega) HH2.out).mono ?_
        rintro r wh ⟨rfl, Oh⟩
        have Ph := Oh.addBlk #[.int .i64 g2, .int .i64 m2, .bool u2] 47
        clear Oh
        go_wp2_with fail
        obtain ⟨hb2, hhb2⟩ : ∃ hb2, hb2 = wh.heap.size := ⟨_, rfl⟩
        rw [← hhb2] at Ph ⊢
        clear hhb2
        refine (o_get Ph (by decide) (by omega) (by omega) HG2.out).mono ?_
        rintro r wg ⟨rfl, Og⟩
        have Pg := Og.addBlk #[.int .i64 k2, .int .u64 n2] 43
        clear Og Ph
        go_wp2_with fail
        go_roundg (len - (j + 1))
        case measure => omega
        case rel => exact ⟨j + 1, _, by omega, by go_num, Pg.drop.drop.drop.drop.up (by omega), HCF'.out⟩
      · go_wp2_with fail
        have HS2 := Lib.hid (show Same c c' o by have := set_same HI.out (x := C j) (k := N j) (p := (D j, X j)) (o := o) (fun q => hno q.symm); rw [HAL.out] at this; exact this)
        have hh2 := HS2.out.1.trans HH.out
        have hg2 := HS2.out.2.trans HGG.out
        have HH2 := Lib.hid hh2
        have HG2 := Lib.hid hg2
        clear hh2 hg2
        refine (o_header O9 (by decide) (by omega) (by omega) HH2.out).mono ?_
        rintro r wh ⟨rfl, Oh⟩
        have Ph := Oh.addBlk #[.int .i64 g1, .int .i64 m1, .bool u1] 47
        clear Oh
        go_wp2_with fail
        obtain ⟨hb2, hhb2⟩ : ∃ hb2, hb2 = wh.heap.size := ⟨_, rfl⟩
        rw [← hhb2] at Ph ⊢
        clear hhb2
        refine (o_get Ph (by decide) (by omega) (by omega) HG2.out).mono ?_
        rintro r wg ⟨rfl, Og⟩
        have Pg := Og.addBlk #[.int .i64 k1, .int .u64 n1] 43
        clear Og Ph
        obtain ⟨Sg, Wg⟩ := Pg.ex
        have Ba : Blk (wg.alloc (.cells #[.int .i64 k1, .int .u64 n1] 43)) wg.heap.size #[.int .i64 k1, .int .u64 n1] 43 := Wg.get 1 rfl
        have za0 : (wg.alloc (.cells #[.int .i64 k1, .int .u64 n1] 43)).cell? ⟨wg.heap.size, 0, none⟩ = some (.int .i64 k1) := Ba.cell 0
        have za1 : (wg.alloc (.cells #[.int .i64 k1, .int .u64 n1] 43)).cell? ⟨wg.heap.size, 1, none⟩ = some (.int .u64 n1) := Ba.cell 1
        have Bb : Blk (wg.alloc (.cells #[.int .i64 k1, .int .u64 n1] 43)) hb2 #[.int .i64 g1, .int .i64 m1, .bool u1] 47 := Wg.get 2 rfl
        have zb0 : (wg.alloc (.cells #[.int .i64 k1, .int .u64 n1] 43)).cell? ⟨hb2, 0, none⟩ = some (.int .i64 g1) := Bb.cell 0
        have zb1 : (wg.alloc (.cells #[.int .i64 k1, .int .u64 n1] 43)).cell? ⟨hb2, 1, none⟩ = some (.int .i64 m1) := Bb.cell 1
        have zb2 : (wg.alloc (.cells #[.int .i64 k1, .int .u64 n1] 43)).cell? ⟨hb2, 2, none⟩ = some (.bool u1) := Bb.cell 2
        have Bd : Blk (wg.alloc (.cells #[.int .i64 k1, .int .u64 n1] 43)) vb1 #[.int .i64 k1, .int .u64 n1] 43 := Wg.get 3 rfl
        have zd0 : (wg.alloc (.cells #[.int .i64 k1, .int .u64 n1] 43)).cell? ⟨vb1, 0, none⟩ = some (.int .i64 k1) := Bd.cell 0
        have zd1 : (wg.alloc (.cells #[.int .i64 k1, .int .u64 n1] 43)).cell? ⟨vb1, 1, none⟩ = some (.int .u64 n1) := Bd.cell 1
        have Be : Blk (wg.alloc (.cells #[.int .i64 k1, .int .u64 n1] 43)) hb1 #[.int .i64 g1, .int .i64 m1, .bool u1] 47 := Wg.get 4 rfl
        have ze0 : (wg.alloc (.cells #[.int .i64 k1, .int .u64 n1] 43)).cell? ⟨hb1, 0, none⟩ = some (.int .i64 g1) := Be.cell 0
        have ze1 : (wg.alloc (.cells #[.int .i64 k1, .int .u64 n1] 43)).cell? ⟨hb1, 1, none⟩ = some (.int .i64 m1) := Be.cell 1
        have ze2 : (wg.alloc (.cells #[.int .i64 k1, .int .u64 n1] 43)).cell? ⟨hb1, 2, none⟩ = some (.bool u1) := Be.cell 2
        clear Ba Bb Bd Be Wg
        go_wp2_with fail
        go_roundg (len - (j + 1))
        case measure => omega
        case rel => exact ⟨j + 1, _, by omega, by go_num, Pg.drop.drop.drop.drop.up (by omega), HCF'.out⟩
    · go_wp2_with fail
      refine (o_word (i := 0) (x := 7) hO (by omega) (by have := L0.out; omega) (fun l h => (h.out 0 (.inl (by decide))).trans L0.out.2.1)).mono ?_
      rintro r w7 ⟨rfl, O7⟩
      clear hO
      go_wp2_with fail
      have hn := o_word (i := m + 1) (x := 7) O7 (by omega) (by have := L0.out; omega) (fun l h => (h.out (m + 1) (.inr (by rw [HCF.out, HM.out]; omega))).trans L0.out.2.2)
      rw [show ((m + 1 : Nat) : Int) = (m : Int) + 1 by omega] at hn
      refine hn.mono ?_
      clear hn
      rintro r w8 ⟨rfl, O8⟩
      clear O7
      go_wp2_with fail
      refine (alive_any _).mono ?_
      rintro r w9 ⟨rfl, g9⟩
      go_wp2_with fail
      go_ret
      exact ⟨rfl, O8.but.trans g9⟩

theorem fresh_law (W : World) (cs : Array Value) (w0 : All2 [.i .i64, .i .i64, .i .i64, .i .i64, .i .i64] cs.toList) (a : Option Addr) (len cap : Nat) (V : Nat → Nat → Value) (hE : Els W a len 5 V)
    (hf : ∀ i, i < len → All2 [.i .u8, .i .i64, .i .i64, .i .i64, .i .u64] ((List.range 5).map (V i))) (hz : len * 40 ≤ 140737488351232) (hm : len ≤ cap ∧ cap ≤ maxLen) (x : Int) (hx : (Lit.int .u8 x).wf = true) :
    Calls Try.prog 4 #[.agg cs, .slice a len cap, .int .u8 x] W fun e w' => e = .returned (.bool true) ∧ But (fun _ => False) W w' := by
  obtain ⟨x0, l0, e0, h0, g0⟩ := all2_cons w0
  obtain ⟨x1, l1, e1, h1, g1⟩ := all2_cons g0
  obtain ⟨x2, l2, e2, h2, g2⟩ := all2_cons g1
  obtain ⟨x3, l3, e3, h3, g3⟩ := all2_cons g2
  obtain ⟨x4, l4, e4, h4, g4⟩ := all2_cons g3
  have e5 := all2_nil g4
  obtain ⟨n0, rfl, -⟩ := h0
  obtain ⟨n1, rfl, -⟩ := h1
  obtain ⟨n2, rfl, -⟩ := h2
  obtain ⟨n3, rfl, -⟩ := h3
  obtain ⟨n4, rfl, -⟩ := h4
  obtain rfl : cs = Conf.sh ⟨n0, n1, n2, n3, n4⟩ := Array.ext' (by rw [e0, e1, e2, e3, e4, e5]; rfl)
  have bx := bounds_u8 hx
  obtain ⟨o, rfl⟩ : ∃ o : Nat, x = o := ⟨x.toNat, by omega⟩
  refine fresh_any _ a len cap V (fun i => intOf (V i 0)) (fun i => intOf (V i 1)) (fun i => intOf (V i 2)) (fun i => intOf (V i 3)) (fun i => intOf (V i 4)) o W hE (by omega) (by omega) (fun i hi => ?_) (fun i hi => ?_) (fun i hi => ?_) (fun i hi => ?_) (fun i hi => ?_)
  all_goals obtain ⟨f1, f2, f3, f4, f5, -⟩ := hf i hi
  · exact ⟨(CK.fits_i f1).1, bounds_u8 (CK.fits_i f1).2⟩
  · exact ⟨(CK.fits_i f2).1, bounds_i64 (CK.fits_i f2).2⟩
  · exact ⟨(CK.fits_i f3).1, bounds_i64 (CK.fits_i f3).2⟩
  · exact ⟨(CK.fits_i f4).1, bounds_i64 (CK.fits_i f4).2⟩
  · exact ⟨(CK.fits_i f5).1, bounds_u64 (CK.fits_i f5).2⟩

end Cells
end Go.Proofs.Ytngbhhcicakolaa
