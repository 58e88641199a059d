/- The law ArenaKept of layer 2, walked: it answers true. -/
import Derived.Test.YtboajbbnnbnpaaaArenaPlays
set_option linter.unusedVariables false
set_option linter.unusedSimpArgs false
namespace Go.Proofs.Ytboajbbnnbnpaaa
open Go.RowKit Go.ChangeShapes Go.WideShapes

namespace Arena

theorem nth_set (l : List Int) (i p : Nat) (x : Int) (h : p < l.length) : nth (l.set i x) p = if i = p then x else nth l p := by
  unfold nth; simp only [List.getD_eq_getElem?_getD, List.getElem?_set]; split
  · rename_i e; subst e; simp [h]
  · rfl
theorem nth_zeroed (l : List Int) (i n p : Nat) (h : i + n ≤ l.length) (hp : p < l.length) : nth (zeroed l i n) p = if i ≤ p ∧ p < i + n then 0 else nth l p := by
  unfold nth zeroed
  simp only [List.getD_eq_getElem?_getD, List.getElem?_append, List.getElem?_replicate, List.getElem?_take, List.getElem?_drop, List.length_append, List.length_replicate, List.length_drop, List.length_take]
  repeat' split
  all_goals first | rfl | (exfalso; omega) | (congr 2; omega) | (simp; omega)
theorem nth_rep (n p : Nat) (h : p < n) : nth (List.replicate n 0) p = 0 := by unfold nth; simp [h]

set_option maxHeartbeats 8000000 in
set_option maxRecDepth 100000 in
theorem kept_any (u q : Int) (a : Option Addr) (len cap : Nat) (V : Nat → Nat → Value) (K A N W : Nat → Int) (w : World) (hE : Els w a len 4 V) (hlen : len ≤ 1000000000000000)
    (hu : 0 ≤ u ∧ u ≤ 65535) (hq : 0 ≤ q ∧ q ≤ 65535)
    (hK : ∀ i, i < len → V i 0 = .int .u8 (K i) ∧ 0 ≤ K i ∧ K i ≤ 255) (hA : ∀ i, i < len → V i 1 = .int .i64 (A i) ∧ -9223372036854775808 ≤ A i ∧ A i ≤ 9223372036854775807)
    (hN : ∀ i, i < len → V i 2 = .int .i64 (N i) ∧ -9223372036854775808 ≤ N i ∧ N i ≤ 9223372036854775807) (hW : ∀ i, i < len → V i 3 = .int .u64 (W i) ∧ 0 ≤ W i ∧ W i ≤ 18446744073709551615) :
    Calls Try.prog 10 #[.int .u16 u, .slice a len cap, .int .u16 q] w fun e w' => e = .returned (.bool true) ∧ But (fun _ => False) w w' := by
  by_cases hbig : 100 < len
  · go_enter Try.func10, Try.ntmps10
    go_wp2_with fail
    refine (alive_any _).mono ?_
    rintro e w1 ⟨rfl, g1⟩
    go_wp2_with fail
    go_ret
    exact ⟨rfl, g1⟩
  obtain ⟨u, rfl⟩ : ∃ m : Nat, u = m := ⟨u.toNat, by omega⟩
  obtain ⟨q, rfl⟩ : ∃ m : Nat, q = m := ⟨q.toNat, by omega⟩
  obtain ⟨n, hn⟩ : ∃ n : Nat, n = u % 2000 + 1 := ⟨_, rfl⟩
  have hn1 : 1 ≤ n ∧ n ≤ 2000 := by omega
  have hni : ((u : Int) % 2000 + 1) = n := by omega
  obtain ⟨p, hp⟩ : ∃ p : Nat, p = q % n := ⟨_, rfl⟩
  have hp1 : p < n := by rw [hp]; exact Nat.mod_lt _ (by omega)
  have hpi : ((q : Int) % (n : Int)) = p := by rw [hp]; omega
  clear hn hp
  have HN := Lib.hid hni
  have HP := Lib.hid hpi
  clear hni hpi
  go_enter Try.func10, Try.ntmps10
  go_wp2_with fail
  rw [HN.out]
  refine (new_any n _ (by omega)).mono ?_
  rintro e w1 ⟨rfl, h1, g1⟩
  obtain ⟨b1, hb1⟩ : ∃ b1, b1 = w.heap.size + 1 := ⟨_, rfl⟩
  obtain ⟨c1, hc1⟩ : ∃ c1, c1 = w.heap.size := ⟨_, rfl⟩
  rw [← hb1, ← hc1] at h1
  have HA1 := Lib.hid h1
  have HG := Lib.hid g1
  have HD := Lib.hid (show w.heap.size ≤ b1 ∧ w.heap.size ≤ c1 from by omega)
  rw [← hb1]
  clear h1 g1 hb1 hc1
  go_wp2_with fail
  rw [HP.out]
  go_loopg [11, 12, 13, 14, 15] len (fun k x1 i1 x2 x3 x4 wr => ∃ (j : Nat) (l : List Int) (t : Int), j + k = len ∧ i1 = .int .i64 j ∧ x1 = .int .u64 (nth l p) ∧ Ar 122 wr b1 c1 l t ∧ l.length = n ∧ t ≤ 2000 * j ∧ But (fun _ => False) w wr)
  case atStart => exact ⟨0, List.replicate n 0, 0, by omega, rfl, by rw [nth_rep n p hp1], HA1.out, by simp, by omega, HG.out⟩
  case round =>
    obtain ⟨j, l, t, hj, rfl, rfl, hX, hln, htj, hB⟩ := hrel
    have ht0 := hX.t0
    have HX := Lib.hid hX
    clear hX
    by_cases hlt : j < len
    · obtain ⟨xb, xoff, rfl, hxb, hxc⟩ := hE.at_ j hlt
      have HC := Lib.hid (show ∀ w', But (fun _ => False) w w' → (w'.cell? ⟨xb, xoff + (j * 4), none⟩ = some (.int .u8 (K j)) ∧ w'.cell? ⟨xb, xoff + (j * 4) + 1, none⟩ = some (.int .i64 (A j)) ∧ w'.cell? ⟨xb, xoff + (j * 4) + 2, none⟩ = some (.int .i64 (N j)) ∧ w'.cell? ⟨xb, xoff + (j * 4) + 3, none⟩ = some (.int .u64 (W j))) from fun w' h => by
        have cc : ∀ i, w'.cell? ⟨xb, i, none⟩ = w.cell? ⟨xb, i, none⟩ := fun i => World.cell?_of_block (w := w) (h.block xb hxb (fun q => q))
        refine ⟨?_, ?_, ?_, ?_⟩
        · rw [cc, ← (hK j hlt).1, ← hxc 0 (by omega)]; rfl
        · rw [cc, ← (hA j hlt).1, ← hxc 1 (by omega)]; rfl
        · rw [cc, ← (hN j hlt).1, ← hxc 2 (by omega)]; rfl
        · rw [cc, ← (hW j hlt).1, ← hxc 3 (by omega)]; rfl)
      obtain ⟨k0, k1, k2, k3⟩ := HC.out _ hB
      have bk := (hK j hlt).2
      have ba := (hA j hlt).2
      have bn := (hN j hlt).2
      have bw := (hW j hlt).2
      clear hxc
      go_wp2_with fail
      refine (touched_any b1 c1 l t _ HX.out).mono ?_
      rintro e w3 ⟨rfl, rfl⟩
      by_cases hk0 : K j % 4 = 0
      · cases hr : there l (A j) 1 with
        | false =>
          have E := Lib.hid (show rd l (A j) = (0, 1) by unfold rd; rw [hr]; rfl)
          have E2 := Lib.hid (show by1 l (A j) t = t by unfold by1; rw [hr]; rfl)
          clear hr
          go_wp2_with fail
          refine (read_any b1 c1 l t (A j) _ HX.out (by omega)).mono ?_
          rintro e w3 ⟨rfl, h3, g3⟩
          rw [E2.out] at h3
          rw [E.out]
          have B3 := hB.trans' g3 (fun k hk => .inr (by have := HD.out; omega))
          have X3 := Lib.hid h3
          clear k0 k1 k2 k3 h3 g3
          go_wp2_with fail
          refine (touched_any b1 c1 _ _ _ (X3.out)).mono ?_
          rintro e w4 ⟨rfl, rfl⟩
          go_wp2_with fail
          go_roundg (len - (j + 1))
          case measure => omega
          case rel => exact ⟨j + 1, l, t, by omega, by go_num, rfl, X3.out, by exact hln, by omega, B3⟩
        | true =>
          have E := Lib.hid (show rd l (A j) = (nth l (A j).toNat, 0) by unfold rd; rw [hr]; rfl)
          have E2 := Lib.hid (show by1 l (A j) t = t + 1 by unfold by1; rw [hr]; rfl)
          clear hr
          go_wp2_with fail
          refine (read_any b1 c1 l t (A j) _ HX.out (by omega)).mono ?_
          rintro e w3 ⟨rfl, h3, g3⟩
          rw [E2.out] at h3
          rw [E.out]
          have B3 := hB.trans' g3 (fun k hk => .inr (by have := HD.out; omega))
          have X3 := Lib.hid h3
          clear k0 k1 k2 k3 h3 g3
          go_wp2_with fail
          refine (touched_any b1 c1 _ _ _ (X3.out)).mono ?_
          rintro e w4 ⟨rfl, rfl⟩
          go_wp2_with fail
          go_roundg (len - (j + 1))
          case measure => omega
          case rel => exact ⟨j + 1, l, (t + 1), by omega, by go_num, rfl, X3.out, by exact hln, by omega, B3⟩
      by_cases hk3 : K j % 4 = 3
      · cases hr : there l (A j) (N j) with
        | false =>
          have E := Lib.hid (show zr l (A j) (N j) = (1, l) by unfold zr; rw [hr]; rfl)
          have E2 := Lib.hid (show byn l (A j) (N j) t = t by unfold byn; rw [hr]; rfl)
          clear hr
          go_wp2_with fail
          go_still_tail 11, (by kernel_rfl)
          change wpList _ _ _ _ _ wr.drew
          obtain ⟨wd, hwd⟩ : ∃ wd, wd = wr.drew := ⟨_, rfl⟩
          have X2 := Lib.hid (show Ar 122 wd b1 c1 l t by rw [hwd]; exact HX.out.drewN 1)
          have B2 : But (fun _ => False) w wd := by rw [hwd]; exact hB.drew
          rw [← hwd]
          clear k0 k1 k2 k3 hwd
          obtain ⟨k0, k1, k2, k3⟩ := HC.out _ B2
          go_wp2_with fail
          refine (zero_any b1 c1 l t (A j) (N j) _ X2.out (by omega)).mono ?_
          rintro e w3 ⟨rfl, h3, g3⟩
          rw [E2.out, E.out] at h3
          rw [E.out]
          replace g3 := g3
          have B3 := B2.trans' g3 (fun k hk => .inr (by have := HD.out; omega))
          have X3 := Lib.hid h3
          clear k0 k1 k2 k3 h3 g3
          obtain ⟨k0, k1, k2, k3⟩ := HC.out _ B3
          go_wp2_with fail
          go_quiet (fail)
          go_wp2_with fail
          refine (touched_any b1 c1 _ _ _ (X3.out.drewN _)).mono ?_
          rintro e w4 ⟨rfl, rfl⟩
          go_wp2_with fail
          go_roundg (len - (j + 1))
          case measure => omega
          case rel => exact ⟨j + 1, l, t, by omega, by go_num, rfl, X3.out.drewN _, by exact hln, by omega, B3.drewN _⟩
        | true =>
          have E := Lib.hid (show zr l (A j) (N j) = (0, zeroed l (A j).toNat (N j).toNat) by unfold zr; rw [hr]; rfl)
          have E2 := Lib.hid (show byn l (A j) (N j) t = t + N j by unfold byn; rw [hr]; rfl)
          rw [there_iff] at hr
          have hl2 : (zeroed l (A j).toNat (N j).toNat).length = n := by rw [zeroed_length (by omega)]; exact hln
          have HL := Lib.hid hl2
          clear hl2
          by_cases hp0 : A j ≤ p
          · by_cases hp2 : (p : Int) - A j < N j
            ·
              go_wp2_with fail
              go_still_tail 11, (by kernel_rfl)
              change wpList _ _ _ _ _ wr.drew
              obtain ⟨wd, hwd⟩ : ∃ wd, wd = wr.drew := ⟨_, rfl⟩
              have X2 := Lib.hid (show Ar 122 wd b1 c1 l t by rw [hwd]; exact HX.out.drewN 1)
              have B2 : But (fun _ => False) w wd := by rw [hwd]; exact hB.drew
              rw [← hwd]
              clear k0 k1 k2 k3 hwd
              obtain ⟨k0, k1, k2, k3⟩ := HC.out _ B2
              go_wp2_with fail
              refine (zero_any b1 c1 l t (A j) (N j) _ X2.out (by omega)).mono ?_
              rintro e w3 ⟨rfl, h3, g3⟩
              rw [E2.out, E.out] at h3
              rw [E.out]
              have B3 := B2.trans' g3 (fun k hk => .inr (by have := HD.out; omega))
              have X3 := Lib.hid h3
              clear k0 k1 k2 k3 h3 g3
              obtain ⟨k0, k1, k2, k3⟩ := HC.out _ B3
              go_wp2_with fail
              have hwp : IntKind.i64.wrap ((p : Int) - A j) = (p : Int) - A j := IntWalk.i64_in _ (by omega)
              go_quiet (fail)
              clear hwp
              go_wp2_with fail
              refine (touched_any b1 c1 _ _ _ (X3.out.drewN _)).mono ?_
              rintro e w4 ⟨rfl, rfl⟩
              go_wp2_with fail
              go_roundg (len - (j + 1))
              case measure => omega
              case rel => exact ⟨j + 1, (zeroed l (A j).toNat (N j).toNat), (t + N j), by omega, by go_num, by rw [nth_zeroed _ _ _ _ (by omega) (by omega), if_pos (by omega)], X3.out.drewN _, by exact HL.out, by omega, B3.drewN _⟩
            · have hd2 : decide ((p : Int) - A j < N j) = false := by simpa using hp2
              replace hp2 : N j ≤ (p : Int) - A j := by omega
              go_wp2_with fail
              go_still_tail 11, (by kernel_rfl)
              change wpList _ _ _ _ _ wr.drew
              obtain ⟨wd, hwd⟩ : ∃ wd, wd = wr.drew := ⟨_, rfl⟩
              have X2 := Lib.hid (show Ar 122 wd b1 c1 l t by rw [hwd]; exact HX.out.drewN 1)
              have B2 : But (fun _ => False) w wd := by rw [hwd]; exact hB.drew
              rw [← hwd]
              clear k0 k1 k2 k3 hwd
              obtain ⟨k0, k1, k2, k3⟩ := HC.out _ B2
              go_wp2_with fail
              refine (zero_any b1 c1 l t (A j) (N j) _ X2.out (by omega)).mono ?_
              rintro e w3 ⟨rfl, h3, g3⟩
              rw [E2.out, E.out] at h3
              rw [E.out]
              have B3 := B2.trans' g3 (fun k hk => .inr (by have := HD.out; omega))
              have X3 := Lib.hid h3
              clear k0 k1 k2 k3 h3 g3
              obtain ⟨k0, k1, k2, k3⟩ := HC.out _ B3
              go_wp2_with fail
              have hwp : IntKind.i64.wrap ((p : Int) - A j) = (p : Int) - A j := IntWalk.i64_in _ (by omega)
              go_quiet (fail)
              clear hwp
              go_wp2_with fail
              refine (touched_any b1 c1 _ _ _ (X3.out.drewN _)).mono ?_
              rintro e w4 ⟨rfl, rfl⟩
              go_wp2_with fail
              go_roundg (len - (j + 1))
              case measure => omega
              case rel => exact ⟨j + 1, (zeroed l (A j).toNat (N j).toNat), (t + N j), by omega, by go_num, by rw [nth_zeroed _ _ _ _ (by omega) (by omega), if_neg (by omega)], X3.out.drewN _, by exact HL.out, by omega, B3.drewN _⟩
          · have hd2 : decide (A j ≤ (p : Int)) = false := by simpa using hp0
            replace hp0 : (p : Int) < A j := by omega
            go_wp2_with fail
            go_still_tail 11, (by kernel_rfl)
            change wpList _ _ _ _ _ wr.drew
            obtain ⟨wd, hwd⟩ : ∃ wd, wd = wr.drew := ⟨_, rfl⟩
            have X2 := Lib.hid (show Ar 122 wd b1 c1 l t by rw [hwd]; exact HX.out.drewN 1)
            have B2 : But (fun _ => False) w wd := by rw [hwd]; exact hB.drew
            rw [← hwd]
            clear k0 k1 k2 k3 hwd
            obtain ⟨k0, k1, k2, k3⟩ := HC.out _ B2
            go_wp2_with fail
            refine (zero_any b1 c1 l t (A j) (N j) _ X2.out (by omega)).mono ?_
            rintro e w3 ⟨rfl, h3, g3⟩
            rw [E2.out, E.out] at h3
            rw [E.out]
            have B3 := B2.trans' g3 (fun k hk => .inr (by have := HD.out; omega))
            have X3 := Lib.hid h3
            clear k0 k1 k2 k3 h3 g3
            obtain ⟨k0, k1, k2, k3⟩ := HC.out _ B3
            go_wp2_with fail
            go_quiet (fail)
            go_wp2_with fail
            refine (touched_any b1 c1 _ _ _ (X3.out.drewN _)).mono ?_
            rintro e w4 ⟨rfl, rfl⟩
            go_wp2_with fail
            go_roundg (len - (j + 1))
            case measure => omega
            case rel => exact ⟨j + 1, (zeroed l (A j).toNat (N j).toNat), (t + N j), by omega, by go_num, by rw [nth_zeroed _ _ _ _ (by omega) (by omega), if_neg (by omega)], X3.out.drewN _, by exact HL.out, by omega, B3.drewN _⟩
      · cases hr : there l (A j) 1 with
        | false =>
          have E := Lib.hid (show wri l (A j) (W j) = (1, l) by unfold wri; rw [hr]; rfl)
          have E2 := Lib.hid (show by1 l (A j) t = t by unfold by1; rw [hr]; rfl)
          clear hr
          go_wp2_with fail
          go_still_tail 11, (by kernel_rfl)
          change wpList _ _ _ _ _ wr.drew
          obtain ⟨wd, hwd⟩ : ∃ wd, wd = wr.drew := ⟨_, rfl⟩
          have X2 := Lib.hid (show Ar 122 wd b1 c1 l t by rw [hwd]; exact HX.out.drewN 1)
          have B2 : But (fun _ => False) w wd := by rw [hwd]; exact hB.drew
          rw [← hwd]
          clear k0 k1 k2 k3 hwd
          obtain ⟨k0, k1, k2, k3⟩ := HC.out _ B2
          go_wp2_with fail
          refine (write_any b1 c1 l t (A j) (W j) _ X2.out (by omega)).mono ?_
          rintro e w3 ⟨rfl, h3, g3⟩
          rw [E2.out, E.out] at h3
          rw [E.out]
          replace g3 := g3
          have B3 := B2.trans' g3 (fun k hk => .inr (by have := HD.out; omega))
          have X3 := Lib.hid h3
          clear k0 k1 k2 k3 h3 g3
          obtain ⟨k0, k1, k2, k3⟩ := HC.out _ B3
          go_wp2_with fail
          refine (touched_any b1 c1 _ _ _ (X3.out)).mono ?_
          rintro e w4 ⟨rfl, rfl⟩
          go_wp2_with fail
          go_roundg (len - (j + 1))
          case measure => omega
          case rel => exact ⟨j + 1, l, t, by omega, by go_num, rfl, X3.out, by exact hln, by omega, B3⟩
        | true =>
          have E := Lib.hid (show wri l (A j) (W j) = (0, l.set (A j).toNat (W j)) by unfold wri; rw [hr]; rfl)
          have E2 := Lib.hid (show by1 l (A j) t = t + 1 by unfold by1; rw [hr]; rfl)
          rw [there_iff] at hr
          have hl2 : (l.set (A j).toNat (W j)).length = n := by simpa using hln
          have HL := Lib.hid hl2
          clear hl2
          by_cases hp0 : A j = p
          · have hp3 : (A j == (p : Int)) = true := by simpa using hp0
            clear hp0
            have hp0 : A j ≤ p ∧ (p : Int) ≤ A j := by simp at hp3; omega
            go_wp2_with fail
            go_still_tail 11, (by kernel_rfl)
            change wpList _ _ _ _ _ wr.drew
            obtain ⟨wd, hwd⟩ : ∃ wd, wd = wr.drew := ⟨_, rfl⟩
            have X2 := Lib.hid (show Ar 122 wd b1 c1 l t by rw [hwd]; exact HX.out.drewN 1)
            have B2 : But (fun _ => False) w wd := by rw [hwd]; exact hB.drew
            rw [← hwd]
            clear k0 k1 k2 k3 hwd
            obtain ⟨k0, k1, k2, k3⟩ := HC.out _ B2
            go_wp2_with fail
            refine (write_any b1 c1 l t (A j) (W j) _ X2.out (by omega)).mono ?_
            rintro e w3 ⟨rfl, h3, g3⟩
            rw [E2.out, E.out] at h3
            rw [E.out]
            have B3 := B2.trans' g3 (fun k hk => .inr (by have := HD.out; omega))
            have X3 := Lib.hid h3
            clear k0 k1 k2 k3 h3 g3
            obtain ⟨k0, k1, k2, k3⟩ := HC.out _ B3
            go_wp2_with fail
            refine (touched_any b1 c1 _ _ _ (X3.out)).mono ?_
            rintro e w4 ⟨rfl, rfl⟩
            go_wp2_with fail
            go_roundg (len - (j + 1))
            case measure => omega
            case rel => exact ⟨j + 1, (l.set (A j).toNat (W j)), (t + 1), by omega, by go_num, by rw [nth_set _ _ _ _ (by omega), if_pos (by omega)], X3.out, by exact HL.out, by omega, B3⟩
          · have hp3 : (A j == (p : Int)) = false := by simpa using hp0
            go_wp2_with fail
            go_still_tail 11, (by kernel_rfl)
            change wpList _ _ _ _ _ wr.drew
            obtain ⟨wd, hwd⟩ : ∃ wd, wd = wr.drew := ⟨_, rfl⟩
            have X2 := Lib.hid (show Ar 122 wd b1 c1 l t by rw [hwd]; exact HX.out.drewN 1)
            have B2 : But (fun _ => False) w wd := by rw [hwd]; exact hB.drew
            rw [← hwd]
            clear k0 k1 k2 k3 hwd
            obtain ⟨k0, k1, k2, k3⟩ := HC.out _ B2
            go_wp2_with fail
            refine (write_any b1 c1 l t (A j) (W j) _ X2.out (by omega)).mono ?_
            rintro e w3 ⟨rfl, h3, g3⟩
            rw [E2.out, E.out] at h3
            rw [E.out]
            have B3 := B2.trans' g3 (fun k hk => .inr (by have := HD.out; omega))
            have X3 := Lib.hid h3
            clear k0 k1 k2 k3 h3 g3
            obtain ⟨k0, k1, k2, k3⟩ := HC.out _ B3
            go_wp2_with fail
            refine (touched_any b1 c1 _ _ _ (X3.out)).mono ?_
            rintro e w4 ⟨rfl, rfl⟩
            go_wp2_with fail
            go_roundg (len - (j + 1))
            case measure => omega
            case rel => exact ⟨j + 1, (l.set (A j).toNat (W j)), (t + 1), by omega, by go_num, by rw [nth_set _ _ _ _ (by omega), if_neg (by omega)], X3.out, by exact HL.out, by omega, B3⟩
    · obtain rfl : j = len := by omega
      go_wp2_with fail
      refine (read_any b1 c1 l t p _ HX.out (by omega)).mono ?_
      rintro e w3 ⟨rfl, h3, g3⟩
      have hr : there l (p : Int) 1 = true := by rw [there_iff]; omega
      rw [show rd l (p : Int) = (nth l p, 0) by unfold rd; rw [hr]; rfl]
      have B3 := hB.trans' g3 (fun k hk => .inr (by have := HD.out; omega))
      clear h3 g3 hr
      go_wp2_with fail
      refine (alive_any _).mono ?_
      rintro e w4 ⟨rfl, g4⟩
      have B4 := B3.trans g4
      go_wp2_with fail
      go_ret
      exact ⟨rfl, B4⟩

theorem kept_law (W : World) (a0 : Int) (w0 : (Lit.int .u16 a0).wf = true) (a : Option Addr) (len cap : Nat) (V : Nat → Nat → Value) (hE : Els W a len 4 V)
    (hf : ∀ i, i < len → All2 [.i .u8, .i .i64, .i .i64, .i .u64] ((List.range 4).map (V i))) (hz : len * 32 ≤ 140737488351232) (hm : len ≤ cap ∧ cap ≤ maxLen) (a2 : Int) (w2 : (Lit.int .u16 a2).wf = true) :
    Calls Try.prog 10 #[.int .u16 a0, .slice a len cap, .int .u16 a2] W fun e w' => e = .returned (.bool true) ∧ But (fun _ => False) W w' := by
  refine kept_any a0 a2 a len cap V (fun i => intOf (V i 0)) (fun i => intOf (V i 1)) (fun i => intOf (V i 2)) (fun i => intOf (V i 3)) W hE (by omega) (bounds_u16 w0) (bounds_u16 w2) (fun i hi => ?_) (fun i hi => ?_) (fun i hi => ?_) (fun i hi => ?_)
  all_goals obtain ⟨f1, f2, f3, f4, -⟩ := hf i hi
  · exact ⟨(CK.fits_i f1).1, bounds_u8 (CK.fits_i f1).2⟩
  · exact ⟨(CK.fits_i f2).1, bounds_i64 (CK.fits_i f2).2⟩
  · exact ⟨(CK.fits_i f3).1, bounds_i64 (CK.fits_i f3).2⟩
  · exact ⟨(CK.fits_i f4).1, bounds_u64 (CK.fits_i f4).2⟩

end Arena
end Go.Proofs.Ytboajbbnnbnpaaa
