/- The law APART of layer 1 (conf), walked: it answers true. -/
import Derived.Test.YtboajbbnnbnpaaaConfLaws
set_option linter.unusedVariables false
set_option linter.unusedSimpArgs false
namespace Go.Proofs.Ytboajbbnnbnpaaa
open Go.RowKit

namespace Conf

/-- Where the cell c begins: by the list of the classes. -/
def plc (s : Sh) (c : Nat) : Int := sizes ((cl s).take c)

theorem plc_zero (s : Sh) : plc s 0 = 0 := rfl
theorem plc_succ {s : Sh} (h : ok s = true) {c : Nat} (hc : (c : Int) < count s) :
    (find s c).2 = plc s c ∧ size (find s c).1 = plc s (c + 1) - plc s c ∧ plc s c < plc s (c + 1) := by
  have hL := cl_length h
  have hl : c < (cl s).length := by omega
  obtain ⟨e2, e1⟩ := cl_at h hl
  have hm : (cl s).getD c 0 = 0 ∨ (cl s).getD c 0 = 1 ∨ (cl s).getD c 0 = 2 := by
    have : (cl s).getD c 0 ∈ cl s := by rw [List.getD_eq_getElem?_getD, List.getElem?_eq_getElem hl]; exact List.getElem_mem hl
    exact cl_mem s _ this
  have hs := sizes_succ hl
  unfold plc
  rw [hs, e1, e2]
  refine ⟨rfl, by omega, ?_⟩
  rcases hm with e | e | e <;> rw [e] <;> simp [size] <;> omega
theorem plc_mono {s : Sh} (h : ok s = true) {a : Nat} : ∀ (d : Nat), ((a + d : Nat) : Int) ≤ count s → plc s a ≤ plc s (a + d)
  | 0, _ => Int.le_refl _
  | d + 1, hd => by
    have := plc_mono h (a := a) d (by omega)
    have h2 := (plc_succ h (c := a + d) (by omega)).2.2
    rw [show a + (d + 1) = a + d + 1 by omega]; omega
theorem plc_le {s : Sh} (h : ok s = true) {a b : Nat} (hab : a ≤ b) (hb : (b : Int) ≤ count s) : plc s a ≤ plc s b := by
  obtain ⟨d, rfl⟩ : ∃ d, b = a + d := ⟨b - a, by omega⟩
  exact plc_mono h d hb
theorem plc_all {s : Sh} (h : ok s = true) {n : Nat} (hn : (n : Int) = count s) : plc s n = words s := by
  unfold plc
  have hL := cl_length h
  rw [List.take_of_length_le (by omega)]
  exact cl_words h
/-- A word is in one cell: which one has begun. -/
def seen (s : Sh) (word : Int) (c : Nat) : Int := if word < plc s c then 1 else 0
theorem seen_zero {s : Sh} {word : Int} (h : 0 ≤ word) : seen s word 0 = 0 := by
  unfold seen; rw [plc_zero, if_neg (by omega)]
theorem seen_yes {s : Sh} {word : Int} {c : Nat} (h1 : plc s c ≤ word) (h2 : word < plc s (c + 1)) : seen s word (c + 1) = seen s word c + 1 := by
  unfold seen; rw [if_pos h2, if_neg (by omega)]; rfl
theorem seen_no {s : Sh} {word : Int} {c : Nat} (h : plc s c < plc s (c + 1)) (h1 : word < plc s c ∨ plc s (c + 1) ≤ word) : seen s word (c + 1) = seen s word c := by
  unfold seen
  rcases h1 with h1 | h1
  · rw [if_pos (by omega), if_pos h1]
  · rw [if_neg (by omega), if_neg (by omega)]
theorem seen_bd (s : Sh) (word : Int) (c : Nat) : 0 ≤ seen s word c ∧ seen s word c ≤ 1 := by unfold seen; split <;> omega

set_option maxHeartbeats 8000000 in
set_option maxRecDepth 100000 in
theorem apart_any (a : Option Addr) (len cap : Nat) (l : List Sh) (x y z : Int) (w : World) (hl : Shs w a len l) (hlen : len ≤ 1000000000000000) (hcap : len ≤ cap) (hcap2 : cap ≤ maxLen)
    (hx : 0 ≤ x ∧ x ≤ 255) (hy : 0 ≤ y ∧ y ≤ 255) (hz : 0 ≤ z ∧ z ≤ 255) :
    Calls Try.prog 12 #[.slice a len cap, .agg #[.int .u8 x, .int .u8 y, .int .u8 z]] w fun e w' => e = .returned (.bool true) ∧ But (fun _ => False) w w' := by
  have G0 := ((But.refl (fun _ => False) w).alloc (.cells #[.int .u8 x, .int .u8 y, .int .u8 z] 91))
  obtain ⟨w2, hw2⟩ : ∃ w2, w2 = (w.alloc (.cells #[.int .u8 x, .int .u8 y, .int .u8 z] 91)) := ⟨_, rfl⟩
  have B1 : Blk w2 w.heap.size #[.int .u8 x, .int .u8 y, .int .u8 z] 91 := by rw [hw2]; exact Blk.new w _ _
  have HW := Lib.hid hw2
  rw [← hw2] at G0
  have hl2 : Shs w2 a len l := hl.but G0 (fun _ _ q => q)
  clear hw2
  go_enter Try.func12, Try.ntmps12
  go_wp2_with fail
  rw [← HW.out]
  refine (ref_right a len cap l _ hl2 hlen).mono ?_
  rintro e w3 ⟨rfl, g3⟩
  cases hr : right l with
  | false =>
    have R := Lib.hid hr
    clear hr
    go_wp2_with fail
    refine (alive_any _).mono ?_
    rintro e w4 ⟨rfl, g4⟩
    go_wp2_with fail
    refine (right_any a len cap l _ (hl2.but (g3.trans g4) (fun _ _ q => q)) hlen).mono ?_
    rintro e w5 ⟨rfl, g5⟩
    rw [R.out]
    go_wp2_with fail
    go_ret
    exact ⟨rfl, ((G0.trans g3).trans g4).trans g5⟩
  | true =>
  have hL := hl.size
  have h16 : 1 ≤ len ∧ len ≤ 16 := by
    unfold right at hr; simp at hr; omega
  have hokl : ∀ s ∈ l, ok s = true := by
    unfold right at hr; simp at hr; exact hr.1.1
  obtain ⟨m, hm, hmx⟩ : ∃ m : Nat, x % (len : Int) = m ∧ m < len := ⟨(x % (len : Int)).toNat, by have := Int.emod_nonneg x (b := len) (by omega); omega, by have := Int.emod_lt_of_pos x (b := len) (by omega); omega⟩
  have hl3 := hl2.but g3 (fun _ _ q => q)
  have B3 := B1.but g3 (fun q => q)
  obtain ⟨b, off, s, rfl, hbs, hg, hc⟩ := hl3.at_ m hmx
  have hok := hokl s (List.mem_of_getElem? hg)
  have c0 : w3.cell? ⟨b, off + (m * 5), none⟩ = some (.int .i64 s.c0) := hc 0 (by omega)
  have c1 : w3.cell? ⟨b, off + (m * 5) + 1, none⟩ = some (.int .i64 s.c1) := hc 1 (by omega)
  have c2 : w3.cell? ⟨b, off + (m * 5) + 2, none⟩ = some (.int .i64 s.c2) := hc 2 (by omega)
  have c3 : w3.cell? ⟨b, off + (m * 5) + 3, none⟩ = some (.int .i64 s.q) := hc 3 (by omega)
  have c4 : w3.cell? ⟨b, off + (m * 5) + 4, none⟩ = some (.int .i64 s.st) := hc 4 (by omega)
  have x0 : w3.cell? ⟨w.heap.size, 0, none⟩ = some (.int .u8 x) := B3.cell 0
  have EB := Lib.hid (base_yes (l := l) (m := m) hr (by omega))
  have ES := Lib.hid (sum_succ hg)
  have EN : m + 1 < len → base l ((m : Int) + 1 + 1) = sumTo l (m + 1) := fun h => by
    have := base_yes (l := l) (m := m + 1) hr (by omega)
    simpa using this
  have HN := Lib.hid EN
  have hsb := sumTo_bd l m
  have hwb := words_bd s
  have hnb := count_bd s
  clear hc EN
  have R := Lib.hid hr
  clear hr
  go_wp2_with fail
  have B7 := Blk.new w3 (sh s) 83
  have G7 := (g3.alloc (.cells (sh s) 83))
  obtain ⟨w4, hw4⟩ : ∃ w4, w4 = w3.alloc (.cells (sh s) 83) := ⟨_, rfl⟩
  have HW4 := Lib.hid hw4
  rw [← hw4] at B7 G7
  have HP := Lib.hid (show ∀ w', But (fun _ => False) w4 w' → (w'.cell? ⟨w3.heap.size, 0, none⟩ = some (.int .i64 s.c0) ∧ w'.cell? ⟨w3.heap.size, 1, none⟩ = some (.int .i64 s.c1) ∧ w'.cell? ⟨w3.heap.size, 2, none⟩ = some (.int .i64 s.c2) ∧ w'.cell? ⟨w3.heap.size, 3, none⟩ = some (.int .i64 s.q) ∧ w'.cell? ⟨w3.heap.size, 4, none⟩ = some (.int .i64 s.st) ∧ w'.cell? ⟨w.heap.size, 1, none⟩ = some (.int .u8 y) ∧ w'.cell? ⟨w.heap.size, 2, none⟩ = some (.int .u8 z)) from fun w' h => ⟨(B7.but h (fun q => q)).cell 0, (B7.but h (fun q => q)).cell 1, (B7.but h (fun q => q)).cell 2, (B7.but h (fun q => q)).cell 3, (B7.but h (fun q => q)).cell 4, (B1.but (G7.trans h) (fun q => q)).cell 1, (B1.but (G7.trans h) (fun q => q)).cell 2⟩)
  have HL4 := Lib.hid (hl2.but G7 (fun _ _ q => q))
  have HS4 := Lib.hid (fun w' (h : But (fun _ => False) w4 w') => HL4.out.but h (fun _ _ q => q))
  have HG4 := Lib.hid (G0.trans G7)
  clear hw4 c0 c1 c2 c3 c4 x0 B7 G7 B3 B1 hl3 hl2 g3 hbs hg hokl
  have HO := Lib.hid hok
  obtain ⟨N, hN⟩ : ∃ N : Nat, count s = N := ⟨(count s).toNat, by omega⟩
  have HC := Lib.hid hN
  have P0 := plc_zero s
  have PN := plc_all hok (n := N) hN.symm
  have F1 : ∀ c : Nat, c < N → (find s c).2 = plc s c ∧ size (find s c).1 = plc s (c + 1) - plc s c ∧ plc s c < plc s (c + 1) := fun c h => plc_succ hok (by omega)
  have F2 : ∀ a b : Nat, a ≤ b → b ≤ N → plc s a ≤ plc s b := fun a b h h' => plc_le hok h (by omega)
  have HF1 := Lib.hid F1
  have HF2 := Lib.hid F2
  have hN192 : N ≤ 192 := by omega
  clear F1 F2 hok hN hnb
  refine (count_any s _).mono ?_
  rintro e w5 ⟨rfl, g5⟩
  rw [HC.out]
  have g5 : But (fun _ => False) w4 w5 := by rw [HW4.out]; exact g5
  obtain ⟨k0, k1, k2, k3, k4, k5, k6⟩ := HP.out _ g5
  go_wp2_with fail
  refine (base_any _ len cap l _ _ (HS4.out _ g5) hlen hcap hcap2).mono ?_
  rintro e w6 ⟨rfl, g6⟩
  rw [EB.out]
  have g6 := g5.trans g6
  clear k0 k1 k2 k3 k4 k5 k6 g5
  obtain ⟨k0, k1, k2, k3, k4, k5, k6⟩ := HP.out _ g6
  go_wp2_with fail
  refine (words_any s _).mono ?_
  rintro e w7 ⟨rfl, g7⟩
  have g7 := g6.trans g7
  clear k0 k1 k2 k3 k4 k5 k6 g6
  obtain ⟨k0, k1, k2, k3, k4, k5, k6⟩ := HP.out _ g7
  by_cases hlast : m + 1 < len
  · go_wp2_with fail
    refine (base_any _ len cap l _ _ (HS4.out _ g7) hlen hcap hcap2).mono ?_
    rintro e w8 ⟨rfl, g8⟩
    rw [HN.out hlast, ES.out]
    have GX := g7.trans g8
    clear k0 k1 k2 k3 k4 k5 k6 g7
    obtain ⟨k0, k1, k2, k3, k4, k5, k6⟩ := HP.out _ GX
    by_cases hz0 : N = 0
    · have hw0 : words s = 0 := by rw [← PN, hz0]; exact P0
      have HZ := Lib.hid hw0
      subst hz0
      rw [HZ.out]
      clear hwb hw0 PN
      go_wp2_with fail
      refine (alive_any _).mono ?_
      rintro e w9 ⟨rfl, g9⟩
      go_wp2_with fail
      go_ret
      exact ⟨rfl, (HG4.out.trans GX).trans g9⟩
    have f1 := HF1.out 0 (by omega)
    have f2 := HF2.out (0 + 1) N (by omega) (by omega)
    have hwp : 0 < words s := by omega
    have hz1 : ¬ ((N : Int) = 0) := by omega
    have hw1 : ¬ (words s = 0) := by omega
    have hz2 : ((N : Int) == 0) = false := by simp; omega
    have hw2 : (words s == 0) = false := by simp; omega
    clear f1 f2
    obtain ⟨p, hp, hpN⟩ : ∃ p : Nat, y % (N : Int) = p ∧ p < N := ⟨(y % (N : Int)).toNat, by have := Int.emod_nonneg y (b := N) (by omega); omega, by have := Int.emod_lt_of_pos y (b := N) (by omega); omega⟩
    obtain ⟨q, hq, hqN⟩ : ∃ q : Nat, z % (N : Int) = q ∧ q < N := ⟨(z % (N : Int)).toNat, by have := Int.emod_nonneg z (b := N) (by omega); omega, by have := Int.emod_lt_of_pos z (b := N) (by omega); omega⟩
    obtain ⟨v, hv, hv0, hvN⟩ : ∃ v : Int, y % (words s) = v ∧ 0 ≤ v ∧ v < words s := ⟨_, rfl, Int.emod_nonneg y (by omega), Int.emod_lt_of_pos y (by omega)⟩
    obtain ⟨fp1, fp2, fp3⟩ := HF1.out p hpN
    obtain ⟨fq1, fq2, fq3⟩ := HF1.out q hqN
    have FP1 := Lib.hid fp1
    have FP2 := Lib.hid fp2
    have FQ1 := Lib.hid fq1
    have FQ2 := Lib.hid fq2
    have bp0 := HF2.out 0 p (by omega) (by omega)
    have bp1 := HF2.out (p + 1) N (by omega) (by omega)
    have bq0 := HF2.out 0 q (by omega) (by omega)
    have bq1 := HF2.out (q + 1) N (by omega) (by omega)
    clear fp1 fp2 fq1 fq2
    go_wp2_with fail
    refine (at_any s p _ (by omega)).mono ?_
    rintro e w9 ⟨rfl, g9⟩
    rw [FP1.out]
    have g9 := GX.trans g9
    clear k0 k1 k2 k3 k4 k5 k6 GX
    obtain ⟨k0, k1, k2, k3, k4, k5, k6⟩ := HP.out _ g9
    go_wp2_with fail
    refine (at_any s q _ (by omega)).mono ?_
    rintro e w10 ⟨rfl, g10⟩
    rw [FQ1.out]
    have g10 := g9.trans g10
    clear k0 k1 k2 k3 k4 k5 k6 g9
    obtain ⟨k0, k1, k2, k3, k4, k5, k6⟩ := HP.out _ g10
    go_wp2_with fail
    refine (class_any s p _ (by omega)).mono ?_
    rintro e w11 ⟨rfl, g11⟩
    have g11 := g10.trans g11
    clear k0 k1 k2 k3 k4 k5 k6 g10
    obtain ⟨k0, k1, k2, k3, k4, k5, k6⟩ := HP.out _ g11
    go_wp2_with fail
    refine (size_is _ _ FP2.out _).mono ?_
    rintro e w12 ⟨rfl, rfl⟩
    go_wp2_with fail
    refine (class_any s q _ (by omega)).mono ?_
    rintro e w13 ⟨rfl, g13⟩
    have g13 := g11.trans g13
    clear k0 k1 k2 k3 k4 k5 k6 g11
    obtain ⟨k0, k1, k2, k3, k4, k5, k6⟩ := HP.out _ g13
    go_wp2_with fail
    refine (size_is _ _ FQ2.out _).mono ?_
    rintro e w14 ⟨rfl, rfl⟩
    obtain ⟨wn, hwn⟩ : ∃ wn, wn = words s := ⟨_, rfl⟩
    rcases Nat.lt_trichotomy p q with hpq | hpq | hpq
    · have o1 := HF2.out (p + 1) q (by omega) (by omega)
      go_wp2_with fail
      try rw [hv]
      go_loopg [18, 19, 20] N (fun k f c u wr => ∃ (j : Nat), j + k = N ∧ f = .int .i64 (seen s v j) ∧ c = .int .i64 j ∧ But (fun _ => False) w4 wr)
      case atStart => exact ⟨0, by omega, by rw [seen_zero hv0], rfl, g13⟩
      case round =>
        obtain ⟨j, hj, rfl, rfl, hB⟩ := hrel
        clear k0 k1 k2 k3 k4 k5 k6
        obtain ⟨k0, k1, k2, k3, k4, k5, k6⟩ := HP.out _ hB
        have hsn := seen_bd s v j
        by_cases hlt : j < N
        · obtain ⟨fj1, fj2, fj3⟩ := HF1.out j hlt
          have FJ1 := Lib.hid fj1
          have FJ2 := Lib.hid fj2
          have bj0 := HF2.out 0 j (by omega) (by omega)
          have bj1 := HF2.out (j + 1) N (by omega) (by omega)
          clear fj1 fj2
          by_cases hc1 : v < plc s j
          · have HSN := Lib.hid (seen_no fj3 (.inl hc1))
            go_wp2_with fail
            refine (at_any s j _ (by omega)).mono ?_
            rintro e wa ⟨rfl, ga⟩
            rw [FJ1.out]
            go_wp2_with fail
            go_roundg (N - (j + 1))
            case measure => omega
            case rel => exact ⟨j + 1, by omega, by rw [HSN.out], by go_num, hB.trans ga⟩
          · by_cases hc2 : v < plc s (j + 1)
            · have HSN := Lib.hid (seen_yes (s := s) (word := v) (c := j) (by omega) hc2)
              have hsn2 := seen_bd s v (j + 1)
              go_wp2_with fail
              refine (at_any s j _ (by omega)).mono ?_
              rintro e wa ⟨rfl, ga⟩
              rw [FJ1.out]
              have ga := hB.trans ga
              clear k0 k1 k2 k3 k4 k5 k6
              obtain ⟨k0, k1, k2, k3, k4, k5, k6⟩ := HP.out _ ga
              go_wp2_with fail
              refine (class_any s j _ (by omega)).mono ?_
              rintro e wb ⟨rfl, gb⟩
              go_wp2_with fail
              refine (size_is _ _ FJ2.out _).mono ?_
              rintro e wc ⟨rfl, rfl⟩
              go_wp2_with fail
              go_roundg (N - (j + 1))
              case measure => omega
              case rel => exact ⟨j + 1, by omega, by rw [HSN.out], by go_num, ga.trans gb⟩
            · have HSN := Lib.hid (seen_no (word := v) fj3 (.inr (by omega)))
              go_wp2_with fail
              refine (at_any s j _ (by omega)).mono ?_
              rintro e wa ⟨rfl, ga⟩
              rw [FJ1.out]
              have ga := hB.trans ga
              clear k0 k1 k2 k3 k4 k5 k6
              obtain ⟨k0, k1, k2, k3, k4, k5, k6⟩ := HP.out _ ga
              go_wp2_with fail
              refine (class_any s j _ (by omega)).mono ?_
              rintro e wb ⟨rfl, gb⟩
              go_wp2_with fail
              refine (size_is _ _ FJ2.out _).mono ?_
              rintro e wc ⟨rfl, rfl⟩
              go_wp2_with fail
              go_roundg (N - (j + 1))
              case measure => omega
              case rel => exact ⟨j + 1, by omega, by rw [HSN.out], by go_num, ga.trans gb⟩
        · obtain rfl : j = N := by omega
          have HSN := Lib.hid (show seen s v j = 1 by unfold seen; rw [if_pos (by omega)])
          rw [HSN.out]
          go_wp2_with fail
          refine (alive_any _).mono ?_
          rintro e wa ⟨rfl, ga⟩
          go_wp2_with fail
          go_ret
          exact ⟨rfl, (HG4.out.trans hB).trans ga⟩
    · subst hpq
      go_wp2_with fail
      try rw [hv]
      go_loopg [18, 19, 20] N (fun k f c u wr => ∃ (j : Nat), j + k = N ∧ f = .int .i64 (seen s v j) ∧ c = .int .i64 j ∧ But (fun _ => False) w4 wr)
      case atStart => exact ⟨0, by omega, by rw [seen_zero hv0], rfl, g13⟩
      case round =>
        obtain ⟨j, hj, rfl, rfl, hB⟩ := hrel
        clear k0 k1 k2 k3 k4 k5 k6
        obtain ⟨k0, k1, k2, k3, k4, k5, k6⟩ := HP.out _ hB
        have hsn := seen_bd s v j
        by_cases hlt : j < N
        · obtain ⟨fj1, fj2, fj3⟩ := HF1.out j hlt
          have FJ1 := Lib.hid fj1
          have FJ2 := Lib.hid fj2
          have bj0 := HF2.out 0 j (by omega) (by omega)
          have bj1 := HF2.out (j + 1) N (by omega) (by omega)
          clear fj1 fj2
          by_cases hc1 : v < plc s j
          · have HSN := Lib.hid (seen_no fj3 (.inl hc1))
            go_wp2_with fail
            refine (at_any s j _ (by omega)).mono ?_
            rintro e wa ⟨rfl, ga⟩
            rw [FJ1.out]
            go_wp2_with fail
            go_roundg (N - (j + 1))
            case measure => omega
            case rel => exact ⟨j + 1, by omega, by rw [HSN.out], by go_num, hB.trans ga⟩
          · by_cases hc2 : v < plc s (j + 1)
            · have HSN := Lib.hid (seen_yes (s := s) (word := v) (c := j) (by omega) hc2)
              have hsn2 := seen_bd s v (j + 1)
              go_wp2_with fail
              refine (at_any s j _ (by omega)).mono ?_
              rintro e wa ⟨rfl, ga⟩
              rw [FJ1.out]
              have ga := hB.trans ga
              clear k0 k1 k2 k3 k4 k5 k6
              obtain ⟨k0, k1, k2, k3, k4, k5, k6⟩ := HP.out _ ga
              go_wp2_with fail
              refine (class_any s j _ (by omega)).mono ?_
              rintro e wb ⟨rfl, gb⟩
              go_wp2_with fail
              refine (size_is _ _ FJ2.out _).mono ?_
              rintro e wc ⟨rfl, rfl⟩
              go_wp2_with fail
              go_roundg (N - (j + 1))
              case measure => omega
              case rel => exact ⟨j + 1, by omega, by rw [HSN.out], by go_num, ga.trans gb⟩
            · have HSN := Lib.hid (seen_no (word := v) fj3 (.inr (by omega)))
              go_wp2_with fail
              refine (at_any s j _ (by omega)).mono ?_
              rintro e wa ⟨rfl, ga⟩
              rw [FJ1.out]
              have ga := hB.trans ga
              clear k0 k1 k2 k3 k4 k5 k6
              obtain ⟨k0, k1, k2, k3, k4, k5, k6⟩ := HP.out _ ga
              go_wp2_with fail
              refine (class_any s j _ (by omega)).mono ?_
              rintro e wb ⟨rfl, gb⟩
              go_wp2_with fail
              refine (size_is _ _ FJ2.out _).mono ?_
              rintro e wc ⟨rfl, rfl⟩
              go_wp2_with fail
              go_roundg (N - (j + 1))
              case measure => omega
              case rel => exact ⟨j + 1, by omega, by rw [HSN.out], by go_num, ga.trans gb⟩
        · obtain rfl : j = N := by omega
          have HSN := Lib.hid (show seen s v j = 1 by unfold seen; rw [if_pos (by omega)])
          rw [HSN.out]
          go_wp2_with fail
          refine (alive_any _).mono ?_
          rintro e wa ⟨rfl, ga⟩
          go_wp2_with fail
          go_ret
          exact ⟨rfl, (HG4.out.trans hB).trans ga⟩
    · have o1 := HF2.out (q + 1) p (by omega) (by omega)
      go_wp2_with fail
      try rw [hv]
      go_loopg [18, 19, 20] N (fun k f c u wr => ∃ (j : Nat), j + k = N ∧ f = .int .i64 (seen s v j) ∧ c = .int .i64 j ∧ But (fun _ => False) w4 wr)
      case atStart => exact ⟨0, by omega, by rw [seen_zero hv0], rfl, g13⟩
      case round =>
        obtain ⟨j, hj, rfl, rfl, hB⟩ := hrel
        clear k0 k1 k2 k3 k4 k5 k6
        obtain ⟨k0, k1, k2, k3, k4, k5, k6⟩ := HP.out _ hB
        have hsn := seen_bd s v j
        by_cases hlt : j < N
        · obtain ⟨fj1, fj2, fj3⟩ := HF1.out j hlt
          have FJ1 := Lib.hid fj1
          have FJ2 := Lib.hid fj2
          have bj0 := HF2.out 0 j (by omega) (by omega)
          have bj1 := HF2.out (j + 1) N (by omega) (by omega)
          clear fj1 fj2
          by_cases hc1 : v < plc s j
          · have HSN := Lib.hid (seen_no fj3 (.inl hc1))
            go_wp2_with fail
            refine (at_any s j _ (by omega)).mono ?_
            rintro e wa ⟨rfl, ga⟩
            rw [FJ1.out]
            go_wp2_with fail
            go_roundg (N - (j + 1))
            case measure => omega
            case rel => exact ⟨j + 1, by omega, by rw [HSN.out], by go_num, hB.trans ga⟩
          · by_cases hc2 : v < plc s (j + 1)
            · have HSN := Lib.hid (seen_yes (s := s) (word := v) (c := j) (by omega) hc2)
              have hsn2 := seen_bd s v (j + 1)
              go_wp2_with fail
              refine (at_any s j _ (by omega)).mono ?_
              rintro e wa ⟨rfl, ga⟩
              rw [FJ1.out]
              have ga := hB.trans ga
              clear k0 k1 k2 k3 k4 k5 k6
              obtain ⟨k0, k1, k2, k3, k4, k5, k6⟩ := HP.out _ ga
              go_wp2_with fail
              refine (class_any s j _ (by omega)).mono ?_
              rintro e wb ⟨rfl, gb⟩
              go_wp2_with fail
              refine (size_is _ _ FJ2.out _).mono ?_
              rintro e wc ⟨rfl, rfl⟩
              go_wp2_with fail
              go_roundg (N - (j + 1))
              case measure => omega
              case rel => exact ⟨j + 1, by omega, by rw [HSN.out], by go_num, ga.trans gb⟩
            · have HSN := Lib.hid (seen_no (word := v) fj3 (.inr (by omega)))
              go_wp2_with fail
              refine (at_any s j _ (by omega)).mono ?_
              rintro e wa ⟨rfl, ga⟩
              rw [FJ1.out]
              have ga := hB.trans ga
              clear k0 k1 k2 k3 k4 k5 k6
              obtain ⟨k0, k1, k2, k3, k4, k5, k6⟩ := HP.out _ ga
              go_wp2_with fail
              refine (class_any s j _ (by omega)).mono ?_
              rintro e wb ⟨rfl, gb⟩
              go_wp2_with fail
              refine (size_is _ _ FJ2.out _).mono ?_
              rintro e wc ⟨rfl, rfl⟩
              go_wp2_with fail
              go_roundg (N - (j + 1))
              case measure => omega
              case rel => exact ⟨j + 1, by omega, by rw [HSN.out], by go_num, ga.trans gb⟩
        · obtain rfl : j = N := by omega
          have HSN := Lib.hid (show seen s v j = 1 by unfold seen; rw [if_pos (by omega)])
          rw [HSN.out]
          go_wp2_with fail
          refine (alive_any _).mono ?_
          rintro e wa ⟨rfl, ga⟩
          go_wp2_with fail
          go_ret
          exact ⟨rfl, (HG4.out.trans hB).trans ga⟩
  · have GX := g7
    clear g7
    by_cases hz0 : N = 0
    · have hw0 : words s = 0 := by rw [← PN, hz0]; exact P0
      have HZ := Lib.hid hw0
      subst hz0
      rw [HZ.out]
      clear hwb hw0 PN
      go_wp2_with fail
      refine (alive_any _).mono ?_
      rintro e w9 ⟨rfl, g9⟩
      go_wp2_with fail
      go_ret
      exact ⟨rfl, (HG4.out.trans GX).trans g9⟩
    have f1 := HF1.out 0 (by omega)
    have f2 := HF2.out (0 + 1) N (by omega) (by omega)
    have hwp : 0 < words s := by omega
    have hz1 : ¬ ((N : Int) = 0) := by omega
    have hw1 : ¬ (words s = 0) := by omega
    have hz2 : ((N : Int) == 0) = false := by simp; omega
    have hw2 : (words s == 0) = false := by simp; omega
    clear f1 f2
    obtain ⟨p, hp, hpN⟩ : ∃ p : Nat, y % (N : Int) = p ∧ p < N := ⟨(y % (N : Int)).toNat, by have := Int.emod_nonneg y (b := N) (by omega); omega, by have := Int.emod_lt_of_pos y (b := N) (by omega); omega⟩
    obtain ⟨q, hq, hqN⟩ : ∃ q : Nat, z % (N : Int) = q ∧ q < N := ⟨(z % (N : Int)).toNat, by have := Int.emod_nonneg z (b := N) (by omega); omega, by have := Int.emod_lt_of_pos z (b := N) (by omega); omega⟩
    obtain ⟨v, hv, hv0, hvN⟩ : ∃ v : Int, y % (words s) = v ∧ 0 ≤ v ∧ v < words s := ⟨_, rfl, Int.emod_nonneg y (by omega), Int.emod_lt_of_pos y (by omega)⟩
    obtain ⟨fp1, fp2, fp3⟩ := HF1.out p hpN
    obtain ⟨fq1, fq2, fq3⟩ := HF1.out q hqN
    have FP1 := Lib.hid fp1
    have FP2 := Lib.hid fp2
    have FQ1 := Lib.hid fq1
    have FQ2 := Lib.hid fq2
    have bp0 := HF2.out 0 p (by omega) (by omega)
    have bp1 := HF2.out (p + 1) N (by omega) (by omega)
    have bq0 := HF2.out 0 q (by omega) (by omega)
    have bq1 := HF2.out (q + 1) N (by omega) (by omega)
    clear fp1 fp2 fq1 fq2
    go_wp2_with fail
    refine (at_any s p _ (by omega)).mono ?_
    rintro e w9 ⟨rfl, g9⟩
    rw [FP1.out]
    have g9 := GX.trans g9
    clear k0 k1 k2 k3 k4 k5 k6 GX
    obtain ⟨k0, k1, k2, k3, k4, k5, k6⟩ := HP.out _ g9
    go_wp2_with fail
    refine (at_any s q _ (by omega)).mono ?_
    rintro e w10 ⟨rfl, g10⟩
    rw [FQ1.out]
    have g10 := g9.trans g10
    clear k0 k1 k2 k3 k4 k5 k6 g9
    obtain ⟨k0, k1, k2, k3, k4, k5, k6⟩ := HP.out _ g10
    go_wp2_with fail
    refine (class_any s p _ (by omega)).mono ?_
    rintro e w11 ⟨rfl, g11⟩
    have g11 := g10.trans g11
    clear k0 k1 k2 k3 k4 k5 k6 g10
    obtain ⟨k0, k1, k2, k3, k4, k5, k6⟩ := HP.out _ g11
    go_wp2_with fail
    refine (size_is _ _ FP2.out _).mono ?_
    rintro e w12 ⟨rfl, rfl⟩
    go_wp2_with fail
    refine (class_any s q _ (by omega)).mono ?_
    rintro e w13 ⟨rfl, g13⟩
    have g13 := g11.trans g13
    clear k0 k1 k2 k3 k4 k5 k6 g11
    obtain ⟨k0, k1, k2, k3, k4, k5, k6⟩ := HP.out _ g13
    go_wp2_with fail
    refine (size_is _ _ FQ2.out _).mono ?_
    rintro e w14 ⟨rfl, rfl⟩
    obtain ⟨wn, hwn⟩ : ∃ wn, wn = words s := ⟨_, rfl⟩
    rcases Nat.lt_trichotomy p q with hpq | hpq | hpq
    · have o1 := HF2.out (p + 1) q (by omega) (by omega)
      go_wp2_with fail
      try rw [hv]
      go_loopg [18, 19, 20] N (fun k f c u wr => ∃ (j : Nat), j + k = N ∧ f = .int .i64 (seen s v j) ∧ c = .int .i64 j ∧ But (fun _ => False) w4 wr)
      case atStart => exact ⟨0, by omega, by rw [seen_zero hv0], rfl, g13⟩
      case round =>
        obtain ⟨j, hj, rfl, rfl, hB⟩ := hrel
        clear k0 k1 k2 k3 k4 k5 k6
        obtain ⟨k0, k1, k2, k3, k4, k5, k6⟩ := HP.out _ hB
        have hsn := seen_bd s v j
        by_cases hlt : j < N
        · obtain ⟨fj1, fj2, fj3⟩ := HF1.out j hlt
          have FJ1 := Lib.hid fj1
          have FJ2 := Lib.hid fj2
          have bj0 := HF2.out 0 j (by omega) (by omega)
          have bj1 := HF2.out (j + 1) N (by omega) (by omega)
          clear fj1 fj2
          by_cases hc1 : v < plc s j
          · have HSN := Lib.hid (seen_no fj3 (.inl hc1))
            go_wp2_with fail
            refine (at_any s j _ (by omega)).mono ?_
            rintro e wa ⟨rfl, ga⟩
            rw [FJ1.out]
            go_wp2_with fail
            go_roundg (N - (j + 1))
            case measure => omega
            case rel => exact ⟨j + 1, by omega, by rw [HSN.out], by go_num, hB.trans ga⟩
          · by_cases hc2 : v < plc s (j + 1)
            · have HSN := Lib.hid (seen_yes (s := s) (word := v) (c := j) (by omega) hc2)
              have hsn2 := seen_bd s v (j + 1)
              go_wp2_with fail
              refine (at_any s j _ (by omega)).mono ?_
              rintro e wa ⟨rfl, ga⟩
              rw [FJ1.out]
              have ga := hB.trans ga
              clear k0 k1 k2 k3 k4 k5 k6
              obtain ⟨k0, k1, k2, k3, k4, k5, k6⟩ := HP.out _ ga
              go_wp2_with fail
              refine (class_any s j _ (by omega)).mono ?_
              rintro e wb ⟨rfl, gb⟩
              go_wp2_with fail
              refine (size_is _ _ FJ2.out _).mono ?_
              rintro e wc ⟨rfl, rfl⟩
              go_wp2_with fail
              go_roundg (N - (j + 1))
              case measure => omega
              case rel => exact ⟨j + 1, by omega, by rw [HSN.out], by go_num, ga.trans gb⟩
            · have HSN := Lib.hid (seen_no (word := v) fj3 (.inr (by omega)))
              go_wp2_with fail
              refine (at_any s j _ (by omega)).mono ?_
              rintro e wa ⟨rfl, ga⟩
              rw [FJ1.out]
              have ga := hB.trans ga
              clear k0 k1 k2 k3 k4 k5 k6
              obtain ⟨k0, k1, k2, k3, k4, k5, k6⟩ := HP.out _ ga
              go_wp2_with fail
              refine (class_any s j _ (by omega)).mono ?_
              rintro e wb ⟨rfl, gb⟩
              go_wp2_with fail
              refine (size_is _ _ FJ2.out _).mono ?_
              rintro e wc ⟨rfl, rfl⟩
              go_wp2_with fail
              go_roundg (N - (j + 1))
              case measure => omega
              case rel => exact ⟨j + 1, by omega, by rw [HSN.out], by go_num, ga.trans gb⟩
        · obtain rfl : j = N := by omega
          have HSN := Lib.hid (show seen s v j = 1 by unfold seen; rw [if_pos (by omega)])
          rw [HSN.out]
          go_wp2_with fail
          refine (alive_any _).mono ?_
          rintro e wa ⟨rfl, ga⟩
          go_wp2_with fail
          go_ret
          exact ⟨rfl, (HG4.out.trans hB).trans ga⟩
    · subst hpq
      go_wp2_with fail
      try rw [hv]
      go_loopg [18, 19, 20] N (fun k f c u wr => ∃ (j : Nat), j + k = N ∧ f = .int .i64 (seen s v j) ∧ c = .int .i64 j ∧ But (fun _ => False) w4 wr)
      case atStart => exact ⟨0, by omega, by rw [seen_zero hv0], rfl, g13⟩
      case round =>
        obtain ⟨j, hj, rfl, rfl, hB⟩ := hrel
        clear k0 k1 k2 k3 k4 k5 k6
        obtain ⟨k0, k1, k2, k3, k4, k5, k6⟩ := HP.out _ hB
        have hsn := seen_bd s v j
        by_cases hlt : j < N
        · obtain ⟨fj1, fj2, fj3⟩ := HF1.out j hlt
          have FJ1 := Lib.hid fj1
          have FJ2 := Lib.hid fj2
          have bj0 := HF2.out 0 j (by omega) (by omega)
          have bj1 := HF2.out (j + 1) N (by omega) (by omega)
          clear fj1 fj2
          by_cases hc1 : v < plc s j
          · have HSN := Lib.hid (seen_no fj3 (.inl hc1))
            go_wp2_with fail
            refine (at_any s j _ (by omega)).mono ?_
            rintro e wa ⟨rfl, ga⟩
            rw [FJ1.out]
            go_wp2_with fail
            go_roundg (N - (j + 1))
            case measure => omega
            case rel => exact ⟨j + 1, by omega, by rw [HSN.out], by go_num, hB.trans ga⟩
          · by_cases hc2 : v < plc s (j + 1)
            · have HSN := Lib.hid (seen_yes (s := s) (word := v) (c := j) (by omega) hc2)
              have hsn2 := seen_bd s v (j + 1)
              go_wp2_with fail
              refine (at_any s j _ (by omega)).mono ?_
              rintro e wa ⟨rfl, ga⟩
              rw [FJ1.out]
              have ga := hB.trans ga
              clear k0 k1 k2 k3 k4 k5 k6
              obtain ⟨k0, k1, k2, k3, k4, k5, k6⟩ := HP.out _ ga
              go_wp2_with fail
              refine (class_any s j _ (by omega)).mono ?_
              rintro e wb ⟨rfl, gb⟩
              go_wp2_with fail
              refine (size_is _ _ FJ2.out _).mono ?_
              rintro e wc ⟨rfl, rfl⟩
              go_wp2_with fail
              go_roundg (N - (j + 1))
              case measure => omega
              case rel => exact ⟨j + 1, by omega, by rw [HSN.out], by go_num, ga.trans gb⟩
            · have HSN := Lib.hid (seen_no (word := v) fj3 (.inr (by omega)))
              go_wp2_with fail
              refine (at_any s j _ (by omega)).mono ?_
              rintro e wa ⟨rfl, ga⟩
              rw [FJ1.out]
              have ga := hB.trans ga
              clear k0 k1 k2 k3 k4 k5 k6
              obtain ⟨k0, k1, k2, k3, k4, k5, k6⟩ := HP.out _ ga
              go_wp2_with fail
              refine (class_any s j _ (by omega)).mono ?_
              rintro e wb ⟨rfl, gb⟩
              go_wp2_with fail
              refine (size_is _ _ FJ2.out _).mono ?_
              rintro e wc ⟨rfl, rfl⟩
              go_wp2_with fail
              go_roundg (N - (j + 1))
              case measure => omega
              case rel => exact ⟨j + 1, by omega, by rw [HSN.out], by go_num, ga.trans gb⟩
        · obtain rfl : j = N := by omega
          have HSN := Lib.hid (show seen s v j = 1 by unfold seen; rw [if_pos (by omega)])
          rw [HSN.out]
          go_wp2_with fail
          refine (alive_any _).mono ?_
          rintro e wa ⟨rfl, ga⟩
          go_wp2_with fail
          go_ret
          exact ⟨rfl, (HG4.out.trans hB).trans ga⟩
    · have o1 := HF2.out (q + 1) p (by omega) (by omega)
      go_wp2_with fail
      try rw [hv]
      go_loopg [18, 19, 20] N (fun k f c u wr => ∃ (j : Nat), j + k = N ∧ f = .int .i64 (seen s v j) ∧ c = .int .i64 j ∧ But (fun _ => False) w4 wr)
      case atStart => exact ⟨0, by omega, by rw [seen_zero hv0], rfl, g13⟩
      case round =>
        obtain ⟨j, hj, rfl, rfl, hB⟩ := hrel
        clear k0 k1 k2 k3 k4 k5 k6
        obtain ⟨k0, k1, k2, k3, k4, k5, k6⟩ := HP.out _ hB
        have hsn := seen_bd s v j
        by_cases hlt : j < N
        · obtain ⟨fj1, fj2, fj3⟩ := HF1.out j hlt
          have FJ1 := Lib.hid fj1
          have FJ2 := Lib.hid fj2
          have bj0 := HF2.out 0 j (by omega) (by omega)
          have bj1 := HF2.out (j + 1) N (by omega) (by omega)
          clear fj1 fj2
          by_cases hc1 : v < plc s j
          · have HSN := Lib.hid (seen_no fj3 (.inl hc1))
            go_wp2_with fail
            refine (at_any s j _ (by omega)).mono ?_
            rintro e wa ⟨rfl, ga⟩
            rw [FJ1.out]
            go_wp2_with fail
            go_roundg (N - (j + 1))
            case measure => omega
            case rel => exact ⟨j + 1, by omega, by rw [HSN.out], by go_num, hB.trans ga⟩
          · by_cases hc2 : v < plc s (j + 1)
            · have HSN := Lib.hid (seen_yes (s := s) (word := v) (c := j) (by omega) hc2)
              have hsn2 := seen_bd s v (j + 1)
              go_wp2_with fail
              refine (at_any s j _ (by omega)).mono ?_
              rintro e wa ⟨rfl, ga⟩
              rw [FJ1.out]
              have ga := hB.trans ga
              clear k0 k1 k2 k3 k4 k5 k6
              obtain ⟨k0, k1, k2, k3, k4, k5, k6⟩ := HP.out _ ga
              go_wp2_with fail
              refine (class_any s j _ (by omega)).mono ?_
              rintro e wb ⟨rfl, gb⟩
              go_wp2_with fail
              refine (size_is _ _ FJ2.out _).mono ?_
              rintro e wc ⟨rfl, rfl⟩
              go_wp2_with fail
              go_roundg (N - (j + 1))
              case measure => omega
              case rel => exact ⟨j + 1, by omega, by rw [HSN.out], by go_num, ga.trans gb⟩
            · have HSN := Lib.hid (seen_no (word := v) fj3 (.inr (by omega)))
              go_wp2_with fail
              refine (at_any s j _ (by omega)).mono ?_
              rintro e wa ⟨rfl, ga⟩
              rw [FJ1.out]
              have ga := hB.trans ga
              clear k0 k1 k2 k3 k4 k5 k6
              obtain ⟨k0, k1, k2, k3, k4, k5, k6⟩ := HP.out _ ga
              go_wp2_with fail
              refine (class_any s j _ (by omega)).mono ?_
              rintro e wb ⟨rfl, gb⟩
              go_wp2_with fail
              refine (size_is _ _ FJ2.out _).mono ?_
              rintro e wc ⟨rfl, rfl⟩
              go_wp2_with fail
              go_roundg (N - (j + 1))
              case measure => omega
              case rel => exact ⟨j + 1, by omega, by rw [HSN.out], by go_num, ga.trans gb⟩
        · obtain rfl : j = N := by omega
          have HSN := Lib.hid (show seen s v j = 1 by unfold seen; rw [if_pos (by omega)])
          rw [HSN.out]
          go_wp2_with fail
          refine (alive_any _).mono ?_
          rintro e wa ⟨rfl, ga⟩
          go_wp2_with fail
          go_ret
          exact ⟨rfl, (HG4.out.trans hB).trans ga⟩

theorem all2_u8s : ∀ (k : Nat) (l : List Value), All2 (List.replicate k (.i .u8)) l → ∃ xs : List Int, xs.length = k ∧ l = xs.map (Value.int .u8) ∧ ∀ x ∈ xs, (Lit.int .u8 x).wf = true
  | 0, l, h => ⟨[], rfl, all2_nil h, fun x hx => by cases hx⟩
  | k + 1, l, h => by
    obtain ⟨v, vs, rfl, ⟨n, rfl, wf⟩, h'⟩ := all2_cons h
    obtain ⟨xs, h1, rfl, h2⟩ := all2_u8s k vs h'
    exact ⟨n :: xs, by simp [h1], rfl, fun x hx => by rcases List.mem_cons.1 hx with rfl | hx; exact wf; exact h2 x hx⟩

theorem apart_law (w : World) (a : Option Addr) (len cap : Nat) (V : Nat → Nat → Value) (hE : Els w a len 5 V)
    (hf : ∀ i, i < len → All2 [.i .i64, .i .i64, .i .i64, .i .i64, .i .i64] ((List.range 5).map (V i))) (hz : len * 40 ≤ 140737488351232) (hm : len ≤ cap ∧ cap ≤ maxLen)
    (cs2 : Array Value) (w2 : All2 [.i .u8, .i .u8, .i .u8] cs2.toList) :
    Calls Try.prog 12 #[.slice a len cap, .agg cs2] w fun e w' => e = .returned (.bool true) ∧ But (fun _ => False) w w' := by
  obtain ⟨xs, h1, e2, h2⟩ := all2_u8s 3 _ w2
  obtain ⟨l, hl⟩ := shs_of hE hf
  match xs, h1 with
  | [x, y, z], _ =>
    obtain rfl : cs2 = #[.int .u8 x, .int .u8 y, .int .u8 z] := Array.ext' e2
    exact apart_any a len cap l x y z w hl (by omega) hm.1 hm.2 (bounds_u8 (h2 x (by simp))) (bounds_u8 (h2 y (by simp))) (bounds_u8 (h2 z (by simp)))

end Conf
end Go.Proofs.Ytboajbbnnbnpaaa
