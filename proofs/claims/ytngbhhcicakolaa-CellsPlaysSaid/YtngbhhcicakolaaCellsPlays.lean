/- The law CellsPlays of layer 7, walked: it answers true. -/
import Derived.Test.YtngbhhcicakolaaCellsBoth
import Derived.Deep.RegionHeld3
set_option linter.unusedVariables false
set_option linter.unusedSimpArgs false
namespace Go.Proofs.Ytngbhhcicakolaa
open Go.RowKit Go.Deep Go.ChangeShapes Go.WideShapes

namespace Cells
open Free (Fr genAt takenAt)
open Arena (nth zeroed)

theorem act_s {c : Cs} (hI : Inv c) (K C N D Y : Int) : (act c K C N D Y).f.s = c.f.s := by
  unfold act
  split
  · exact (free_s c C hI).1
  split
  · rw [setCount_s]
  split
  · rw [set_s]
  split
  · rfl
  · exact (alloc_s c N hI).1
theorem live_len (c : Cs) (hI : Inv c) : (live c).length ≤ 192 := by
  have h1 : (live c).length ≤ n c := liveTo_len c (n c)
  have h2 : n c ≤ 192 := hI.f.small
  omega
theorem ints_one (v v' : Value) (o o' : Option Nat) (n n' : Nat) (xs : List Int) (w : World) (hR : Row w 3 1 v o n (ints xs)) (hR' : Row w 3 1 v' o' n' (ints xs)) (hx : xs.length ≤ 1000000000) :
    Calls Try.prog 14 #[v, v'] w fun e w' => e = .returned (.bool true) ∧ But (fun _ => False) w w' := by
  refine (ints_any v v' o o' n n' xs xs w hR hR' (by rw [← hR.ints_len]; exact hx) (by rw [← hR'.ints_len]; exact hx)).mono ?_
  rintro e w' ⟨rfl, m, rfl⟩
  exact ⟨by rw [decide_eq_true rfl], (But.refl _ _).drewN _⟩

set_option maxHeartbeats 8000000 in
set_option maxRecDepth 100000 in
theorem plays_any (s : Conf.Sh) (Z B : Int) (a : Option Addr) (len cap : Nat) (V : Nat → Nat → Value) (K C N D X : Nat → Int) (w : World) (hE : Els w a len 5 V) (hlen : len ≤ 1000000000000000)
    (bz : -9223372036854775808 ≤ Z ∧ Z ≤ 9223372036854775807) (bb : -9223372036854775808 ≤ B ∧ B ≤ 9223372036854775807)
    (hK : ∀ i, i < len → V i 0 = .int .u8 (K i) ∧ 0 ≤ K i ∧ K i ≤ 255) (hC : ∀ i, i < len → V i 1 = .int .i64 (C i) ∧ -9223372036854775808 ≤ C i ∧ C i ≤ 9223372036854775807)
    (hN : ∀ i, i < len → V i 2 = .int .i64 (N i) ∧ -9223372036854775808 ≤ N i ∧ N i ≤ 9223372036854775807) (hD : ∀ i, i < len → V i 3 = .int .i64 (D i) ∧ -9223372036854775808 ≤ D i ∧ D i ≤ 9223372036854775807)
    (hX : ∀ i, i < len → V i 4 = .int .u64 (X i) ∧ 0 ≤ X i ∧ X i ≤ 18446744073709551615) :
    Calls Try.prog 3 #[.agg (Conf.sh s), .agg #[.int .i64 Z, .int .i64 B], .slice a len cap] w fun e w' => e = .returned (.bool true) ∧ But (fun _ => False) w w' := by
  have hsh := fun w => Conf.ref_share s w
  have hwo := fun w => Conf.ref_words s w
  have hny := fun base ab ca l t w ha h1 h2 h3 => new_yes ab ca base l t s w ha h1 h2 h3
  have hnn := fun base ab ca l t w ha h1 h2 => new_no ab ca base l t s w ha h1 h2
  have hnl := fun base w => new_nil base s w
  have hbg := fun w hok (m : Nat) hm => begin_doc s w hok (m := m) hm
  have hbx : ∀ (w : World) T, Blk (w.alloc (.cells (Conf.sh s) T)) w.heap.size (Conf.sh s) T := fun w T => Blk.new w _ T
  have hwd := fun X b fb ab ca base l0 c t0 d w0 w (h : Two X b fb ab ca base l0 c t0 d c w0 w) h1 h2 (h3 : c.f.s = s) => words_any h h1 h2 h3
  unfold Conf.sh at hsh hwo hny hnn hnl hbg hbx hwd ⊢
  have HSH := Lib.hid hsh
  have HWO := Lib.hid hwo
  have HNY := Lib.hid hny
  have HNN := Lib.hid hnn
  have HNL := Lib.hid hnl
  have HBG := Lib.hid hbg
  have HBX := Lib.hid hbx
  have HWDS := Lib.hid hwd
  clear hsh hwo hny hnn hnl hbg hbx hwd
  have G0 := (((But.refl (fun _ => False) w).alloc (.cells #[.int .i64 s.c0, .int .i64 s.c1, .int .i64 s.c2, .int .i64 s.q, .int .i64 s.st] 24)).alloc (.cells #[.int .i64 Z, .int .i64 B] 25))
  by_cases hbig : 100 < len ∨ Z < 0 ∨ 2000 < Z
  · by_cases h1 : 100 < len
    · go_enter Try.func3, Try.ntmps3
      go_wp2_with fail
      refine (alive_any _).mono ?_
      rintro e w1 ⟨rfl, g1⟩
      go_wp2_with fail
      go_ret
      exact ⟨rfl, G0.trans g1⟩
    by_cases h2 : Z < 0
    · clear hbig
      go_enter Try.func3, Try.ntmps3
      go_wp2_with fail
      refine (alive_any _).mono ?_
      rintro e w1 ⟨rfl, g1⟩
      go_wp2_with fail
      go_ret
      exact ⟨rfl, G0.trans g1⟩
    have h3 : 2000 < Z := by omega
    clear hbig
    go_enter Try.func3, Try.ntmps3
    go_wp2_with fail
    refine (alive_any _).mono ?_
    rintro e w1 ⟨rfl, g1⟩
    go_wp2_with fail
    go_ret
    exact ⟨rfl, G0.trans g1⟩
  have hl : len ≤ 100 := by omega
  have hz0 : 0 ≤ Z := by omega
  have hz1 : Z ≤ 2000 := by omega
  clear hbig bz
  obtain ⟨sz, rfl⟩ : ∃ k : Nat, Z = k := ⟨Z.toNat, by omega⟩
  obtain ⟨ws, hws⟩ : ∃ ws, Conf.words s = ws := ⟨_, rfl⟩
  have hwb := Conf.words_bd s
  rw [hws] at HWO hwb
  have HWS := Lib.hid hws
  clear hws
  obtain ⟨w2, hw2⟩ : ∃ w2, w2 = (w.alloc (.cells #[.int .i64 s.c0, .int .i64 s.c1, .int .i64 s.c2, .int .i64 s.q, .int .i64 s.st] 24)).alloc (.cells #[.int .i64 sz, .int .i64 B] 25) := ⟨_, rfl⟩
  have B1 : Blk w2 w.heap.size #[.int .i64 s.c0, .int .i64 s.c1, .int .i64 s.c2, .int .i64 s.q, .int .i64 s.st] 24 := by rw [hw2]; exact (Blk.new w _ _).alloc _
  have HSB := Lib.hid (show ∀ w', But (fun _ => False) w2 w' → (w'.cell? ⟨w.heap.size, 0, none⟩ = some (.int .i64 s.c0) ∧ w'.cell? ⟨w.heap.size, 1, none⟩ = some (.int .i64 s.c1) ∧ w'.cell? ⟨w.heap.size, 2, none⟩ = some (.int .i64 s.c2) ∧ w'.cell? ⟨w.heap.size, 3, none⟩ = some (.int .i64 s.q) ∧ w'.cell? ⟨w.heap.size, 4, none⟩ = some (.int .i64 s.st)) from
    fun w' g => by have b := B1.but g (fun q => q); exact ⟨b.cell 0, b.cell 1, b.cell 2, b.cell 3, b.cell 4⟩)
  have HW2 := Lib.hid hw2
  rw [← hw2] at G0
  have HG0 := Lib.hid G0
  clear hw2 B1 G0
  by_cases hno : Conf.ok s = false ∨ B < 0 ∨ (sz : Int) < B ∨ (sz : Int) - B < ws
  · cases hok : Conf.ok s with
    | false =>
      have HO := Lib.hid hok
      clear hok hno
      go_enter Try.func3, Try.ntmps3
      go_wp2_with fail
      rw [← HW2.out]
      refine (Arena.new_any sz w2 (by omega)).mono ?_
      rintro e w3 ⟨rfl, ha, g3⟩
      obtain ⟨ab, hab⟩ : ∃ ab, ab = w2.heap.size + 1 := ⟨_, rfl⟩
      obtain ⟨ca, hca⟩ : ∃ ca, ca = w2.heap.size := ⟨_, rfl⟩
      rw [← hab, ← hca] at ha
      rw [← hab]
      have HAB := Lib.hid (And.intro hab hca)
      have HA := Lib.hid ha
      have HG3 := Lib.hid g3
      clear hab hca ha g3
      obtain ⟨k0, k1, k2, k3, k4⟩ := HSB.out _ HG3.out
      go_wp2_with fail
      have hn := HNN.out B ab ca _ _ w3 HA.out bb (.inl HO.out)
      refine hn.mono ?_
      clear hn
      rintro e w4 ⟨rfl, g4⟩
      have HG4 := Lib.hid (HG3.out.trans g4)
      clear k0 k1 k2 k3 k4 g4
      obtain ⟨k0, k1, k2, k3, k4⟩ := HSB.out _ HG4.out
      go_wp2_with fail
      refine (HSH.out _).mono ?_
      rintro e w5 ⟨rfl, g5⟩
      rw [HO.out]
      have HG5 := Lib.hid (HG4.out.trans g5)
      clear k0 k1 k2 k3 k4 g5
      obtain ⟨k0, k1, k2, k3, k4⟩ := HSB.out _ HG5.out
      go_wp2_with fail
      refine (alive_any _).mono ?_
      rintro e w7 ⟨rfl, g7⟩
      go_wp2_with fail
      go_ret
      exact ⟨rfl, (HG0.out.trans HG5.out).trans g7⟩
    | true =>
      have HO := Lib.hid hok
      have hno : B < 0 ∨ (sz : Int) < B ∨ (sz : Int) - B < ws := by
        rcases hno with q | q
        · rw [hok] at q; cases q
        · exact q
      clear hok
      by_cases hb0 : B < 0
      · clear hno
        go_enter Try.func3, Try.ntmps3
        go_wp2_with fail
        rw [← HW2.out]
        refine (Arena.new_any sz w2 (by omega)).mono ?_
        rintro e w3 ⟨rfl, ha, g3⟩
        obtain ⟨ab, hab⟩ : ∃ ab, ab = w2.heap.size + 1 := ⟨_, rfl⟩
        obtain ⟨ca, hca⟩ : ∃ ca, ca = w2.heap.size := ⟨_, rfl⟩
        rw [← hab, ← hca] at ha
        rw [← hab]
        have HAB := Lib.hid (And.intro hab hca)
        have HA := Lib.hid ha
        have HG3 := Lib.hid g3
        clear hab hca ha g3
        obtain ⟨k0, k1, k2, k3, k4⟩ := HSB.out _ HG3.out
        go_wp2_with fail
        have hn := HNN.out B ab ca _ _ w3 HA.out bb (.inr (.inl hb0))
        refine hn.mono ?_
        clear hn
        rintro e w4 ⟨rfl, g4⟩
        have HG4 := Lib.hid (HG3.out.trans g4)
        clear k0 k1 k2 k3 k4 g4
        obtain ⟨k0, k1, k2, k3, k4⟩ := HSB.out _ HG4.out
        go_wp2_with fail
        refine (HSH.out _).mono ?_
        rintro e w5 ⟨rfl, g5⟩
        rw [HO.out]
        have HG5 := Lib.hid (HG4.out.trans g5)
        clear k0 k1 k2 k3 k4 g5
        obtain ⟨k0, k1, k2, k3, k4⟩ := HSB.out _ HG5.out
        go_wp2_with fail
        refine (alive_any _).mono ?_
        rintro e w7 ⟨rfl, g7⟩
        go_wp2_with fail
        go_ret
        exact ⟨rfl, (HG0.out.trans HG5.out).trans g7⟩
      by_cases hb1 : (sz : Int) < B
      · clear hno
        go_enter Try.func3, Try.ntmps3
        go_wp2_with fail
        rw [← HW2.out]
        refine (Arena.new_any sz w2 (by omega)).mono ?_
        rintro e w3 ⟨rfl, ha, g3⟩
        obtain ⟨ab, hab⟩ : ∃ ab, ab = w2.heap.size + 1 := ⟨_, rfl⟩
        obtain ⟨ca, hca⟩ : ∃ ca, ca = w2.heap.size := ⟨_, rfl⟩
        rw [← hab, ← hca] at ha
        rw [← hab]
        have HAB := Lib.hid (And.intro hab hca)
        have HA := Lib.hid ha
        have HG3 := Lib.hid g3
        clear hab hca ha g3
        obtain ⟨k0, k1, k2, k3, k4⟩ := HSB.out _ HG3.out
        go_wp2_with fail
        have hn := HNN.out B ab ca _ _ w3 HA.out bb (.inr (.inr (.inl (by simpa using hb1))))
        refine hn.mono ?_
        clear hn
        rintro e w4 ⟨rfl, g4⟩
        have HG4 := Lib.hid (HG3.out.trans g4)
        clear k0 k1 k2 k3 k4 g4
        obtain ⟨k0, k1, k2, k3, k4⟩ := HSB.out _ HG4.out
        go_wp2_with fail
        refine (HSH.out _).mono ?_
        rintro e w5 ⟨rfl, g5⟩
        rw [HO.out]
        have HG5 := Lib.hid (HG4.out.trans g5)
        clear k0 k1 k2 k3 k4 g5
        obtain ⟨k0, k1, k2, k3, k4⟩ := HSB.out _ HG5.out
        go_wp2_with fail
        refine (alive_any _).mono ?_
        rintro e w7 ⟨rfl, g7⟩
        go_wp2_with fail
        go_ret
        exact ⟨rfl, (HG0.out.trans HG5.out).trans g7⟩
      have hb2 : (sz : Int) - B < ws := by omega
      clear hno
      go_enter Try.func3, Try.ntmps3
      go_wp2_with fail
      rw [← HW2.out]
      refine (Arena.new_any sz w2 (by omega)).mono ?_
      rintro e w3 ⟨rfl, ha, g3⟩
      obtain ⟨ab, hab⟩ : ∃ ab, ab = w2.heap.size + 1 := ⟨_, rfl⟩
      obtain ⟨ca, hca⟩ : ∃ ca, ca = w2.heap.size := ⟨_, rfl⟩
      rw [← hab, ← hca] at ha
      rw [← hab]
      have HAB := Lib.hid (And.intro hab hca)
      have HA := Lib.hid ha
      have HG3 := Lib.hid g3
      clear hab hca ha g3
      obtain ⟨k0, k1, k2, k3, k4⟩ := HSB.out _ HG3.out
      go_wp2_with fail
      have hn := HNN.out B ab ca _ _ w3 HA.out bb (.inr (.inr (.inr (by rw [HWS.out]; simpa using hb2))))
      refine hn.mono ?_
      clear hn
      rintro e w4 ⟨rfl, g4⟩
      have HG4 := Lib.hid (HG3.out.trans g4)
      clear k0 k1 k2 k3 k4 g4
      obtain ⟨k0, k1, k2, k3, k4⟩ := HSB.out _ HG4.out
      go_wp2_with fail
      refine (HSH.out _).mono ?_
      rintro e w5 ⟨rfl, g5⟩
      rw [HO.out]
      have HG5 := Lib.hid (HG4.out.trans g5)
      clear k0 k1 k2 k3 k4 g5
      obtain ⟨k0, k1, k2, k3, k4⟩ := HSB.out _ HG5.out
      go_wp2_with fail
      refine (HWO.out _).mono ?_
      rintro e w6 ⟨rfl, g6⟩
      have HG5 := Lib.hid (HG5.out.trans g6)
      clear k0 k1 k2 k3 k4 g6
      go_wp2_with fail
      refine (alive_any _).mono ?_
      rintro e w7 ⟨rfl, g7⟩
      go_wp2_with fail
      go_ret
      exact ⟨rfl, (HG0.out.trans HG5.out).trans g7⟩
  have hok : Conf.ok s = true := by cases h : Conf.ok s with | true => rfl | false => exact absurd (.inl h) hno
  have hb0 : 0 ≤ B := by omega
  have hb1 : B ≤ (sz : Int) := by omega
  have hb2 : ws ≤ (sz : Int) - B := by omega
  have HO := Lib.hid hok
  clear hok hno bb
  obtain ⟨base, rfl⟩ : ∃ k : Nat, B = k := ⟨B.toNat, by omega⟩
  obtain ⟨m, hm⟩ : ∃ m : Nat, Conf.count s = m := ⟨(Conf.count s).toNat, by have := Conf.count_bd s; omega⟩
  have HM := Lib.hid hm
  have HI0 := Lib.hid (begin_inv HO.out hm)
  clear hm
  go_enter Try.func3, Try.ntmps3
  go_wp2_with fail
  rw [← HW2.out]
  refine (Arena.new_any sz w2 (by omega)).mono ?_
  rintro e w3 ⟨rfl, ha, g3⟩
  obtain ⟨ab, hab⟩ : ∃ ab, ab = w2.heap.size + 1 := ⟨_, rfl⟩
  obtain ⟨ca, hca⟩ : ∃ ca, ca = w2.heap.size := ⟨_, rfl⟩
  rw [← hab, ← hca] at ha
  rw [← hab]
  have HAB := Lib.hid (And.intro hab hca)
  have HA := Lib.hid ha
  have HG3 := Lib.hid g3
  clear hab hca ha g3
  obtain ⟨k0, k1, k2, k3, k4⟩ := HSB.out _ HG3.out
  go_wp2_with fail
  have hn := HNY.out base ab ca _ _ w3 HA.out HO.out (by rw [HWS.out]; simp; omega) (by omega)
  refine hn.mono ?_
  clear hn
  rintro e w4 ⟨b, fb, S, l', t', rfl, hc, ht1, ht2, hbb, hSS, g4⟩
  obtain ⟨hab, hca⟩ := HAB.out
  rw [HM.out, Int.toNat_natCast] at hc
  obtain ⟨l0, hl0⟩ : ∃ l0, l0 = List.replicate sz (0 : Int) := ⟨_, rfl⟩
  rw [← hl0] at hc
  have O4 := one_new (w0 := w2) (t0 := 2000) hc (by omega) (by have := HG3.out.size; omega) (fun k hk => by have := hSS k hk; have := HG3.out.size; omega) (by omega) HG3.out g4
  have hcs : (begin_ s m).f.s = s := rfl
  have HO4 := Lib.hid O4
  have HC0 := Lib.hid hcs
  clear hc ht1 ht2 hbb hSS g4 hl0 k0 k1 k2 k3 k4 hab hca O4 hcs
  obtain ⟨k0, k1, k2, k3, k4⟩ := HSB.out _ HO4.out.but
  go_wp2_with fail
  refine (HSH.out _).mono ?_
  rintro e w5 ⟨rfl, g5⟩
  rw [HO.out]
  have HO5 := Lib.hid (HO4.out.same g5)
  clear k0 k1 k2 k3 k4 g5 HO4
  obtain ⟨k0, k1, k2, k3, k4⟩ := HSB.out _ HO5.out.but
  go_wp2_with fail
  refine (HWO.out _).mono ?_
  rintro e w6 ⟨rfl, g6⟩
  have HO6 := Lib.hid (HO5.out.same g6)
  clear k0 k1 k2 k3 k4 g6 HO5
  obtain ⟨k0, k1, k2, k3, k4⟩ := HSB.out _ HO6.out.but
  go_wp2_with fail
  refine (HBG.out _ HO.out m HM.out).mono ?_
  rintro e w7 ⟨d, rb, r, Sr, vs, v1, v2, o1, o2, P, rfl, W7, hv7, hr7⟩
  have T7 := two_begin (c := begin_ s m) HO6.out W7 hv7 hr7 HI0.out
  obtain ⟨c0, hc0⟩ : ∃ c0, c0 = begin_ s m := ⟨_, rfl⟩
  rw [← hc0] at T7 HC0
  have HT7 := Lib.hid T7
  clear W7 hv7 hr7 T7 hc0 HI0 HO6 k0 k1 k2 k3 k4
  go_wp2_with fail
  have hbase : base ≤ 1000000000 := by omega
  go_loopg [15] len (fun k iv wr => ∃ (j : Nat) (c : Cs), j + k = len ∧ iv = .int .i64 j ∧ Two Pc.none' b fb ab ca base l0 c (2000 + 20 * j) d c w2 wr ∧ c.f.s = s)
  case atStart => exact ⟨0, c0, by omega, rfl, HT7.out.up (by omega), HC0.out⟩
  case round =>
    obtain ⟨j, c, hj, rfl, hO, hcf⟩ := hrel
    clear HT7 HC0
    have HCF := Lib.hid hcf
    clear hcf
    by_cases hlt : j < len
    · obtain ⟨xb, xoff, rfl, hxb, hxc⟩ := hE.at_ j hlt
      have HC := Lib.hid (show ∀ w', But (fun _ => False) w2 w' → (w'.cell? ⟨xb, xoff + (j * 5), none⟩ = some (.int .u8 (K j)) ∧ w'.cell? ⟨xb, xoff + (j * 5) + 1, none⟩ = some (.int .i64 (C j)) ∧ w'.cell? ⟨xb, xoff + (j * 5) + 2, none⟩ = some (.int .i64 (N j)) ∧
          w'.cell? ⟨xb, xoff + (j * 5) + 3, none⟩ = some (.int .i64 (D j)) ∧ w'.cell? ⟨xb, xoff + (j * 5) + 4, none⟩ = some (.int .u64 (X j))) from fun w' h' => by
        have h := HG0.out.trans h'
        have cc : ∀ i, w'.cell? ⟨xb, i, none⟩ = w.cell? ⟨xb, i, none⟩ := fun i => World.cell?_of_block (w := w) (h.block xb hxb (fun q => q))
        refine ⟨?_, ?_, ?_, ?_, ?_⟩
        · rw [cc, ← (hK j hlt).1, ← hxc 0 (by omega)]; rfl
        · rw [cc, ← (hC j hlt).1, ← hxc 1 (by omega)]; rfl
        · rw [cc, ← (hN j hlt).1, ← hxc 2 (by omega)]; rfl
        · rw [cc, ← (hD j hlt).1, ← hxc 3 (by omega)]; rfl
        · rw [cc, ← (hX j hlt).1, ← hxc 4 (by omega)]; rfl)
      have bk := (hK j hlt).2
      have bc := (hC j hlt).2
      have bn := (hN j hlt).2
      have bx := (hX j hlt).2
      clear hxc
      obtain ⟨c', hc'⟩ : ∃ c', c' = act c (K j) (C j) (N j) (D j) (X j) := ⟨_, rfl⟩
      have HCF' := Lib.hid (show c'.f.s = s by rw [hc', act_s hO.inv]; exact HCF.out)
      have hst := step_any hO hbase (by omega) (K j) (C j) (N j) (D j) (X j) bk bc bn bx
      rw [← hc'] at hst
      clear hc'
      obtain ⟨q0, q1, q2, q3, q4⟩ := HC.out _ hO.but
      go_wp2_with fail
      refine hst.mono ?_
      rintro e wa ⟨rfl, Ta⟩
      clear hst hO q0 q1 q2 q3 q4
      obtain ⟨g1, m1, u1, f1, hh⟩ : ∃ g m u f, header c' (C j) = ((g, m, u), f) := ⟨_, _, _, _, rfl⟩
      have HH := Lib.hid hh
      clear hh
      obtain ⟨q0, q1, q2, q3, q4⟩ := HC.out _ Ta.but
      go_wp2_with fail
      refine (Ta.lift (fun L O => o_header O hbase (by omega) bc HH.out)).mono ?_
      rintro e wb ⟨rfl, Tb⟩
      have Tc := Tb.addBlk #[.int .i64 g1, .int .i64 m1, .bool u1] 47
      clear Tb Ta q0 q1 q2 q3 q4
      obtain ⟨q0, q1, q2, q3, q4⟩ := HC.out _ Tc.but
      go_wp2_with fail
      obtain ⟨hb1, hhb1⟩ : ∃ hb1, hb1 = wb.heap.size := ⟨_, rfl⟩
      rw [← hhb1] at Tc ⊢
      clear hhb1
      refine (td_header Tc HH.out).mono ?_
      rintro e wc ⟨rfl, Td⟩
      have Te := Td.addBlk #[.int .i64 g1, .int .i64 m1, .bool u1] 47
      clear Tc Td q0 q1 q2 q3 q4
      go_wp2_with fail
      obtain ⟨hb2, hhb2⟩ : ∃ hb2, hb2 = wc.heap.size := ⟨_, rfl⟩
      rw [← hhb2] at Te ⊢
      clear hhb2
      refine (t_live Te).mono ?_
      rintro e wd ⟨v1, o1, rfl, R1, g1', Tf⟩
      clear Te g1'
      go_wp2_with fail
      refine (td_live Tf).mono ?_
      rintro e we ⟨v2, o2, rfl, R2, g2', Tg⟩
      have R1' := R1.but g2' (fun k _ q => q)
      clear Tf R1 g2'
      go_wp2_with fail
      refine (ints_one v1 v2 o1 o2 _ _ (live c') _ R1' R2 (by have := live_len c' Tg.inv; omega)).mono ?_
      rintro e wf ⟨rfl, g3'⟩
      have Th := Tg.same g3'
      clear Tg R1' R2 g3'
      obtain ⟨q0, q1, q2, q3, q4⟩ := HC.out _ Th.but
      go_wp2_with fail
      refine (t_room Th (N j)).mono ?_
      rintro e wg ⟨rfl, Ti⟩
      clear Th q0 q1 q2 q3 q4
      obtain ⟨q0, q1, q2, q3, q4⟩ := HC.out _ Ti.but
      obtain ⟨rbl, k0, hFr, hRt⟩ := td_list Ti
      have B2 := Ti.blk
      have B1 := Ti.drop.blk
      have HTI := Lib.hid Ti
      have KEEP := Lib.hid (show ∀ w', But (fun _ => False) wg w' → (But (fun _ => False) wg w' ∧ w'.cell? ⟨d, 0, none⟩ = some (.pointer (some ⟨rbl, 0, none⟩)) ∧ w'.cell? ⟨xb, xoff + (j * 5) + 1, none⟩ = some (.int .i64 (C j)) ∧ w'.cell? ⟨xb, xoff + (j * 5) + 2, none⟩ = some (.int .i64 (N j)) ∧
          w'.cell? ⟨hb1, 0, none⟩ = some (.int .i64 g1) ∧ w'.cell? ⟨hb1, 1, none⟩ = some (.int .i64 m1) ∧ w'.cell? ⟨hb1, 2, none⟩ = some (.bool u1) ∧ w'.cell? ⟨hb2, 0, none⟩ = some (.int .i64 g1) ∧ w'.cell? ⟨hb2, 1, none⟩ = some (.int .i64 m1) ∧ w'.cell? ⟨hb2, 2, none⟩ = some (.bool u1)) from fun w' g => by
        obtain ⟨-, e1, e2, -, -⟩ := HC.out _ (HTI.out.but.trans g)
        have b1 := B1.but g (fun q => q)
        have b2 := B2.but g (fun q => q)
        obtain ⟨rb', z0, -, -⟩ := td_list (HTI.out.same g)
        have hkk : w'.cell? ⟨d, 0, none⟩ = some (.pointer (some ⟨rbl, 0, none⟩)) := by
          have hd : d < wg.heap.size := by
            rcases Nat.lt_or_ge d wg.heap.size with q | q
            · exact q
            · rw [World.cell?] at k0
              rw [Array.getElem?_eq_none (by simpa using q)] at k0
              cases k0
          rw [World.cell?_of_block (w := wg) (g.block d hd (fun q => q))]
          exact k0
        exact ⟨g, hkk, e1, e2, b1.cell 0, b1.cell 1, b1.cell 2, b2.cell 0, b2.cell 1, b2.cell 2⟩)
      have SL1 := Lib.hid (show ∀ w', But (fun _ => False) wg w' → Calls Try.prog 18 #[.pointer (some ⟨b, 0, none⟩), .int .i64 (C j)] w' fun r w'' => r = .returned (.int .i64 (slots c'.f.s (C j))) ∧ But (fun _ => False) w' w'' from fun w' g => t_slots (HTI.out.same g) bc)
      have SL2 := Lib.hid (show ∀ w', But (fun _ => False) wg w' → Calls Try.prog 19 #[.pointer (some ⟨d, 0, none⟩), .int .i64 (C j)] w' fun r w'' => r = .returned (.int .i64 (slots c'.f.s (C j))) ∧ But (fun _ => False) w' w'' from fun w' g => (td_slots (HTI.out.same g) (C j)).mono fun r w'' ⟨a, e⟩ => ⟨a, e ▸ But.refl _ _⟩)
      have HFR := Lib.hid hFr
      have HRT := Lib.hid hRt
      obtain ⟨sl, hsl⟩ : ∃ sl, slots c'.f.s (C j) = sl := ⟨_, rfl⟩
      obtain ⟨fr, hfr⟩ : ∃ fr, Free.free c'.f (N j) = fr := ⟨_, rfl⟩
      obtain ⟨rt, hrt⟩ : ∃ rt, Free.retired c'.f (N j) = rt := ⟨_, rfl⟩
      have HFR := Lib.hid (show ∀ w', But (fun _ => False) wg w' → Calls Try.prog 20 #[.pointer (some ⟨rbl, 0, none⟩), .int .i64 (N j)] w' fun e w'' => e = .returned (.int .i64 fr) ∧ But (fun _ => False) w' w'' from fun w' g => by rw [← hfr]; exact HFR.out _ _ g)
      have HRT := Lib.hid (show ∀ w', But (fun _ => False) wg w' → Calls Try.prog 21 #[.pointer (some ⟨rbl, 0, none⟩), .int .i64 (N j)] w' fun e w'' => e = .returned (.int .i64 rt) ∧ But (fun _ => False) w' w'' from fun w' g => by rw [← hrt]; exact HRT.out _ _ g)
      rw [hsl] at SL1 SL2
      rw [hfr, hrt]
      clear hFr hRt B1 B2 k0 hsl hfr hrt q0 q3 q4 Ti
      go_wp2_with fail
      go_region_held3 (fun w' => But (fun _ => False) wg w' ∧ w'.cell? ⟨d, 0, none⟩ = some (.pointer (some ⟨rbl, 0, none⟩)) ∧ w'.cell? ⟨xb, xoff + (j * 5) + 1, none⟩ = some (.int .i64 (C j)) ∧ w'.cell? ⟨xb, xoff + (j * 5) + 2, none⟩ = some (.int .i64 (N j)) ∧
          w'.cell? ⟨hb1, 0, none⟩ = some (.int .i64 g1) ∧ w'.cell? ⟨hb1, 1, none⟩ = some (.int .i64 m1) ∧ w'.cell? ⟨hb1, 2, none⟩ = some (.bool u1) ∧ w'.cell? ⟨hb2, 0, none⟩ = some (.int .i64 g1) ∧ w'.cell? ⟨hb2, 1, none⟩ = some (.int .i64 m1) ∧ w'.cell? ⟨hb2, 2, none⟩ = some (.bool u1))
        (first | assumption | (refine KEEP.out _ ?_; first | exact (But.refl _ _).drew | exact (And.left ‹But (fun _ => False) wg _ ∧ _›).drew | exact (And.left ‹But (fun _ => False) wg _ ∧ _›).trans (by assumption)))
        (first | (go_at_call 18; refine (SL1.out _ (And.left ‹But (fun _ => False) wg _ ∧ _›)).mono ?_; rintro e w9 ⟨rfl, g9⟩) | (go_at_call 19; refine (SL2.out _ (And.left ‹But (fun _ => False) wg _ ∧ _›)).mono ?_; rintro e w9 ⟨rfl, g9⟩) | (go_at_call 20; refine (HFR.out _ (And.left ‹But (fun _ => False) wg _ ∧ _›)).mono ?_; rintro e w9 ⟨rfl, g9⟩) | (go_at_call 21; refine (HRT.out _ (And.left ‹But (fun _ => False) wg _ ∧ _›)).mono ?_; rintro e w9 ⟨rfl, g9⟩))
      go_wp2_with fail
      go_roundg (len - (j + 1))
      case measure => omega
      case rel => exact ⟨j + 1, c', by omega, by go_num, ((HTI.out.same (And.left ‹But (fun _ => False) wg _ ∧ _›)).drop.drop).up (by omega), HCF'.out⟩
    · obtain ⟨k0, k1, k2, k3, k4⟩ := HSB.out _ hO.but
      go_wp2_with fail
      refine (HWDS.out _ _ _ _ _ _ _ _ _ _ _ _ hO hbase (by omega) HCF.out).mono ?_
      rintro e wa ⟨rfl, Ta⟩
      have HTA := Lib.hid Ta
      clear Ta hO k0 k1 k2 k3 k4
      go_wp2_with fail
      refine (alloc_nil 0 _).mono ?_
      rintro e wb ⟨rfl, rfl⟩
      go_wp2_with fail
      refine (free_nil 0 _).mono ?_
      rintro e wb ⟨rfl, rfl⟩
      go_wp2_with fail
      refine (header_nil 0 _).mono ?_
      rintro e wb ⟨rfl, gb⟩
      have HTB := Lib.hid (HTA.out.same gb)
      clear gb
      go_wp2_with fail
      refine (get_nil 0 _).mono ?_
      rintro e wc ⟨rfl, gc⟩
      have HTC := Lib.hid ((HTB.out.same ((But.refl (fun _ => False) _).alloc (.cells #[.int .i64 0, .int .i64 0, .bool false] 47))).same gc)
      clear gc
      have HTD := Lib.hid (HTC.out.same ((But.refl (fun _ => False) _).alloc (.cells #[.int .i64 0, .int .u64 0] 43)))
      obtain ⟨k0, k1, k2, k3, k4⟩ := HSB.out _ HTD.out.but
      go_wp2_with fail
      refine (HNL.out 0 _).mono ?_
      rintro e we ⟨rfl, ge⟩
      have HTE := Lib.hid (HTD.out.same ge)
      clear ge k0 k1 k2 k3 k4
      go_wp2_with fail
      refine (alive_any _).mono ?_
      rintro e wf ⟨rfl, gf⟩
      have HTF := Lib.hid (HTE.out.same gf)
      clear gf
      go_wp2_with fail
      refine (set_nil 0 _).mono ?_
      rintro e wg ⟨rfl, gg⟩
      have HTG := Lib.hid (HTF.out.same gg)
      clear gg
      go_wp2_with fail
      refine (setCount_nil 0 1 _).mono ?_
      rintro e wh ⟨rfl, gh⟩
      have HTH := Lib.hid (HTG.out.same gh)
      clear gh
      go_wp2_with fail
      refine (slots_nil 0 _).mono ?_
      rintro e wi ⟨rfl, rfl⟩
      go_wp2_with fail
      refine (live_nil _).mono ?_
      rintro e wi ⟨rfl, rfl⟩
      go_wp2_with fail
      go_ret
      exact ⟨rfl, HG0.out.trans HTH.out.but⟩

theorem plays_law (W : World) (cs : Array Value) (w0 : All2 [.i .i64, .i .i64, .i .i64, .i .i64, .i .i64] cs.toList) (cs2 : Array Value) (w2 : All2 [.i .i64, .i .i64] cs2.toList) (a : Option Addr) (len cap : Nat) (V : Nat → Nat → Value) (hE : Els W a len 5 V)
    (hf : ∀ i, i < len → All2 [.i .u8, .i .i64, .i .i64, .i .i64, .i .u64] ((List.range 5).map (V i))) (hz : len * 40 ≤ 140737488351232) (hm : len ≤ cap ∧ cap ≤ maxLen) :
    Calls Try.prog 3 #[.agg cs, .agg cs2, .slice a len cap] W fun e w' => e = .returned (.bool true) ∧ But (fun _ => False) W w' := by
  obtain ⟨x0, l0, e0, h0, g0⟩ := all2_cons w0
  obtain ⟨x1, l1, e1, h1, g1⟩ := all2_cons g0
  obtain ⟨x2, l2, e2, h2, g2⟩ := all2_cons g1
  obtain ⟨x3, l3, e3, h3, g3⟩ := all2_cons g2
  obtain ⟨x4, l4, e4, h4, g4⟩ := all2_cons g3
  have e5 := all2_nil g4
  obtain ⟨n0, rfl, -⟩ := h0
  obtain ⟨n1, rfl, -⟩ := h1
  obtain ⟨n2, rfl, -⟩ := h2
  obtain ⟨n3, rfl, -⟩ := h3
  obtain ⟨n4, rfl, -⟩ := h4
  obtain rfl : cs = Conf.sh ⟨n0, n1, n2, n3, n4⟩ := Array.ext' (by rw [e0, e1, e2, e3, e4, e5]; rfl)
  obtain ⟨y0, m0, d0, i0, j0⟩ := all2_cons w2
  obtain ⟨y1, m1, d1, i1, j1⟩ := all2_cons j0
  have d2 := all2_nil j1
  obtain ⟨Z, rfl, z0⟩ := i0
  obtain ⟨B, rfl, z1⟩ := i1
  obtain rfl : cs2 = #[.int .i64 Z, .int .i64 B] := Array.ext' (by rw [d0, d1, d2])
  refine plays_any _ Z B a len cap V (fun i => intOf (V i 0)) (fun i => intOf (V i 1)) (fun i => intOf (V i 2)) (fun i => intOf (V i 3)) (fun i => intOf (V i 4)) W hE (by omega) (bounds_i64 z0) (bounds_i64 z1) (fun i hi => ?_) (fun i hi => ?_) (fun i hi => ?_) (fun i hi => ?_) (fun i hi => ?_)
  all_goals obtain ⟨f1, f2, f3, f4, f5, -⟩ := hf i hi
  · exact ⟨(CK.fits_i f1).1, bounds_u8 (CK.fits_i f1).2⟩
  · exact ⟨(CK.fits_i f2).1, bounds_i64 (CK.fits_i f2).2⟩
  · exact ⟨(CK.fits_i f3).1, bounds_i64 (CK.fits_i f3).2⟩
  · exact ⟨(CK.fits_i f4).1, bounds_i64 (CK.fits_i f4).2⟩
  · exact ⟨(CK.fits_i f5).1, bounds_u64 (CK.fits_i f5).2⟩

end Cells
end Go.Proofs.Ytngbhhcicakolaa
