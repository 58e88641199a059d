/- The law ArenaPlays of layer 2, walked: it answers true. -/
import Derived.Test.YtboajbbnnbnpaaaArenaLaws
import Derived.StillTailTactics
set_option linter.unusedVariables false
set_option linter.unusedSimpArgs false
namespace Go.Proofs.Ytboajbbnnbnpaaa
open Go.RowKit Go.ChangeShapes Go.WideShapes

namespace Arena

theorem Ar.drewN {T : TypeId} {w : World} {b c : Nat} {l : List Int} {t : Int} (h : Ar T w b c l t) (k : Nat) : Ar T (w.drewN k) b c l t := ⟨h.blk.drewN k, h.row.drewN k, h.ne, h.len, h.t0⟩

theorem len_is (b c : Nat) (l : List Int) (n : Nat) (t : Int) (w : World) (h : Ar 122 w b c l t) (hn : l.length = n) : Calls Try.prog 51 #[.pointer (some ⟨b, 0, none⟩)] w fun e w' => e = .returned (.int .i64 n) ∧ w = w' := by
  subst hn; exact len_any b c l t w h
theorem zr_length (l : List Int) (i n : Int) : (zr l i n).2.length = l.length := by
  unfold zr; split
  · rename_i h; rw [there_iff] at h; exact zeroed_length (by omega)
  · rfl
theorem wr_length (l : List Int) (i x : Int) : (wri l i x).2.length = l.length := by
  unfold wri; split <;> simp
theorem by1_le (l : List Int) (i t : Int) : by1 l i t ≤ t + 1 := by unfold by1; split <;> omega
theorem byn_le (l : List Int) (i n t : Int) : byn l i n t ≤ t + l.length := by
  unfold byn; split
  · rename_i h; rw [there_iff] at h; omega
  · omega

set_option maxHeartbeats 8000000 in
set_option maxRecDepth 100000 in
theorem plays_any (n : Int) (a : Option Addr) (len cap : Nat) (V : Nat → Nat → Value) (K A N W : Nat → Int) (w : World) (hE : Els w a len 4 V) (hlen : len ≤ 1000000000000000)
    (hn : -9223372036854775808 ≤ n ∧ n ≤ 9223372036854775807)
    (hK : ∀ i, i < len → V i 0 = .int .u8 (K i) ∧ 0 ≤ K i ∧ K i ≤ 255) (hA : ∀ i, i < len → V i 1 = .int .i64 (A i) ∧ -9223372036854775808 ≤ A i ∧ A i ≤ 9223372036854775807)
    (hN : ∀ i, i < len → V i 2 = .int .i64 (N i) ∧ -9223372036854775808 ≤ N i ∧ N i ≤ 9223372036854775807) (hW : ∀ i, i < len → V i 3 = .int .u64 (W i) ∧ 0 ≤ W i ∧ W i ≤ 18446744073709551615) :
    Calls Try.prog 9 #[.int .i64 n, .slice a len cap] w fun e w' => e = .returned (.bool true) ∧ But (fun _ => False) w w' := by
  by_cases hbig : 100 < len
  · go_enter Try.func9, Try.ntmps9
    go_wp2_with fail
    refine (alive_any _).mono ?_
    rintro e w1 ⟨rfl, g1⟩
    go_wp2_with fail
    go_ret
    exact ⟨rfl, g1⟩
  by_cases hw1 : n < 0
  · go_enter Try.func9, Try.ntmps9
    go_wp2_with fail
    refine (new_no n _ (.inl hw1)).mono ?_
    rintro e w1 ⟨rfl, rfl⟩
    go_wp2_with fail
    refine (alive_any _).mono ?_
    rintro e w1 ⟨rfl, g1⟩
    go_wp2_with fail
    go_ret
    exact ⟨rfl, g1⟩
  by_cases hw2 : 65536 < n
  · go_enter Try.func9, Try.ntmps9
    go_wp2_with fail
    refine (new_no n _ (.inr hw2)).mono ?_
    rintro e w1 ⟨rfl, rfl⟩
    go_wp2_with fail
    refine (alive_any _).mono ?_
    rintro e w1 ⟨rfl, g1⟩
    go_wp2_with fail
    go_ret
    exact ⟨rfl, g1⟩
  by_cases hw3 : 2000 < n
  · go_enter Try.func9, Try.ntmps9
    go_wp2_with fail
    refine (alive_any _).mono ?_
    rintro e w1 ⟨rfl, g1⟩
    go_wp2_with fail
    go_ret
    exact ⟨rfl, g1⟩
  obtain ⟨n, rfl⟩ : ∃ m : Nat, n = m := ⟨n.toNat, by omega⟩
  go_enter Try.func9, Try.ntmps9
  go_wp2_with fail
  refine (new_any n _ (by omega)).mono ?_
  rintro e w1 ⟨rfl, h1, g1⟩
  have H1 := Lib.hid h1
  clear h1
  go_wp2_with fail
  refine (begin_any n _ (by omega)).mono ?_
  rintro e w2 ⟨rfl, h2, g2⟩
  have hs2 := g2.size
  obtain ⟨b1, hb1⟩ : ∃ b1, b1 = w.heap.size + 1 := ⟨_, rfl⟩
  obtain ⟨c1, hc1⟩ : ∃ c1, c1 = w.heap.size := ⟨_, rfl⟩
  obtain ⟨b2, hb2⟩ : ∃ b2, b2 = w1.heap.size + 1 := ⟨_, rfl⟩
  obtain ⟨c2, hc2⟩ : ∃ c2, c2 = w1.heap.size := ⟨_, rfl⟩
  have hs1 : w.heap.size + 1 < w1.heap.size := H1.out.blk.lt
  have hA1 := H1.out.but g2 (fun q => q) (fun q => q)
  rw [← hb1, ← hc1] at hA1
  rw [← hb2, ← hc2] at h2
  have HA1 := Lib.hid hA1
  have HA2 := Lib.hid h2
  have HG := Lib.hid (g1.trans g2)
  have HD := Lib.hid (show (b1 ≠ b2 ∧ b1 ≠ c2 ∧ c1 ≠ b2 ∧ c1 ≠ c2) ∧ w.heap.size ≤ b1 ∧ w.heap.size ≤ c1 ∧ w.heap.size ≤ b2 ∧ w.heap.size ≤ c2 from by omega)
  rw [← hb1, ← hb2]
  clear hA1 h2 g1 g2 H1 hs1 hs2 hb1 hc1 hb2 hc2
  go_wp2_with fail
  go_loopg [8, 9, 10, 11, 12] len (fun k i1 x1 x2 x3 x4 wr => ∃ (j : Nat) (l : List Int) (t : Int), j + k = len ∧ i1 = .int .i64 j ∧ Ar 122 wr b1 c1 l t ∧ Ar 78 wr b2 c2 l t ∧ l.length = n ∧ t ≤ 2000 * j ∧ But (fun _ => False) w wr)
  case atStart => exact ⟨0, List.replicate n 0, 0, by omega, rfl, HA1.out, HA2.out, by simp, by omega, HG.out⟩
  case round =>
    obtain ⟨j, l, t, hj, rfl, hX, hY, hln, htj, hB⟩ := hrel
    have HX := Lib.hid hX
    have HY := Lib.hid hY
    clear hX hY
    by_cases hlt : j < len
    · obtain ⟨xb, xoff, rfl, hxb, hxc⟩ := hE.at_ j hlt
      have HC := Lib.hid (show ∀ w', But (fun _ => False) w w' → (w'.cell? ⟨xb, xoff + (j * 4), none⟩ = some (.int .u8 (K j)) ∧ w'.cell? ⟨xb, xoff + (j * 4) + 1, none⟩ = some (.int .i64 (A j)) ∧ w'.cell? ⟨xb, xoff + (j * 4) + 2, none⟩ = some (.int .i64 (N j)) ∧ w'.cell? ⟨xb, xoff + (j * 4) + 3, none⟩ = some (.int .u64 (W j))) from fun w' h => by
        have cc : ∀ i, w'.cell? ⟨xb, i, none⟩ = w.cell? ⟨xb, i, none⟩ := fun i => World.cell?_of_block (w := w) (h.block xb hxb (fun q => q))
        refine ⟨?_, ?_, ?_, ?_⟩
        · rw [cc, ← (hK j hlt).1, ← hxc 0 (by omega)]; rfl
        · rw [cc, ← (hA j hlt).1, ← hxc 1 (by omega)]; rfl
        · rw [cc, ← (hN j hlt).1, ← hxc 2 (by omega)]; rfl
        · rw [cc, ← (hW j hlt).1, ← hxc 3 (by omega)]; rfl)
      obtain ⟨k0, k1, k2, k3⟩ := HC.out _ hB
      have bk := (hK j hlt).2
      have ba := (hA j hlt).2
      have bn := (hN j hlt).2
      have bw := (hW j hlt).2
      clear hxc
      by_cases hk0 : K j % 4 = 0
      · have hby := by1_le l (A j) t
        go_wp2_with fail
        refine (read_any b1 c1 l t (A j) _ HX.out (by omega)).mono ?_
        rintro e w3 ⟨rfl, h3, g3⟩
        have B3 := hB.trans' g3 (fun k hk => .inr (by have := HD.out; omega))
        have y3 := HY.out.but g3 (by have := HD.out; omega) (by have := HD.out; omega)
        have X3 := Lib.hid h3
        have Y3 := Lib.hid y3
        clear k0 k1 k2 k3 h3 y3 g3
        obtain ⟨k0, k1, k2, k3⟩ := HC.out _ B3
        go_wp2_with fail
        refine (ref_read b2 c2 l t (A j) _ Y3.out (by omega)).mono ?_
        rintro e w4 ⟨rfl, h4, g4⟩
        have B4 := B3.trans' g4 (fun k hk => .inr (by have := HD.out; omega))
        have x4 := X3.out.but g4 (by have := HD.out; omega) (by have := HD.out; omega)
        have X4 := Lib.hid x4
        have Y4 := Lib.hid h4
        have d1 : w4.cell? ⟨b2, 1, none⟩ = some (.int .i64 (by1 l (A j) t)) := h4.blk.cell 1
        clear k0 k1 k2 k3 h4 x4 g4
        go_wp2_with fail
        go_quiet ((first | (go_at_call 50; exact quiet_same (touched_any b1 c1 _ _ _ (X4.out.drewN _))) | (go_at_call 51; exact quiet_same (len_is b1 c1 _ n _ _ (X4.out.drewN _) hln))))
        go_wp2_with fail
        go_roundg (len - (j + 1))
        case measure => omega
        case rel => exact ⟨j + 1, l, by1 l (A j) t, by omega, by go_num, X4.out.drewN _, Y4.out.drewN _, hln, by omega, B4.drewN _⟩
      by_cases hk3 : K j % 4 = 3
      · have hbn := byn_le l (A j) (N j) t
        have hzl := zr_length l (A j) (N j)
        go_wp2_with fail
        go_still_tail 11, (by kernel_rfl)
        change wpList _ _ _ _ _ wr.drew
        obtain ⟨wd, hwd⟩ : ∃ wd, wd = wr.drew := ⟨_, rfl⟩
        have X2 := Lib.hid (show Ar 122 wd b1 c1 l t by rw [hwd]; exact HX.out.drewN 1)
        have Y2 := Lib.hid (show Ar 78 wd b2 c2 l t by rw [hwd]; exact HY.out.drewN 1)
        have B2 : But (fun _ => False) w wd := by rw [hwd]; exact hB.drew
        rw [← hwd]
        clear k0 k1 k2 k3 hwd
        obtain ⟨k0, k1, k2, k3⟩ := HC.out _ B2
        go_wp2_with fail
        refine (zero_any b1 c1 l t (A j) (N j) _ X2.out (by omega)).mono ?_
        rintro e w3 ⟨rfl, h3, g3⟩
        have B3 := B2.trans' g3 (fun k hk => .inr (by have := HD.out; omega))
        have y3 := Y2.out.but g3 (by have := HD.out; omega) (by have := HD.out; omega)
        have X3 := Lib.hid h3
        have Y3 := Lib.hid y3
        clear k0 k1 k2 k3 h3 y3 g3
        obtain ⟨k0, k1, k2, k3⟩ := HC.out _ B3
        go_wp2_with fail
        go_still_tail 11, (by kernel_rfl)
        change wpList _ _ _ _ _ w3.drew
        obtain ⟨we, hwe⟩ : ∃ we, we = w3.drew := ⟨_, rfl⟩
        have X5 := Lib.hid (show Ar 122 we b1 c1 (zr l (A j) (N j)).2 (byn l (A j) (N j) t) by rw [hwe]; exact X3.out.drewN 1)
        have Y5 := Lib.hid (show Ar 78 we b2 c2 l t by rw [hwe]; exact Y3.out.drewN 1)
        have B5 : But (fun _ => False) w we := by rw [hwe]; exact B3.drew
        rw [← hwe]
        clear k0 k1 k2 k3 hwe
        obtain ⟨k0, k1, k2, k3⟩ := HC.out _ B5
        go_wp2_with fail
        refine (ref_zero b2 c2 l t (A j) (N j) _ Y5.out (by omega)).mono ?_
        rintro e w4 ⟨rfl, h4, g4⟩
        have B4 := B5.trans' g4 (fun k hk => .inr (by have := HD.out; omega))
        have x4 := X5.out.but g4 (by have := HD.out; omega) (by have := HD.out; omega)
        have X4 := Lib.hid x4
        have Y4 := Lib.hid h4
        have d1 : w4.cell? ⟨b2, 1, none⟩ = some (.int .i64 (byn l (A j) (N j) t)) := h4.blk.cell 1
        clear k0 k1 k2 k3 h4 x4 g4
        have hzl2 : (zr l (A j) (N j)).2.length = n := by omega
        have HZ := Lib.hid hzl2
        clear hzl hzl2
        go_wp2_with fail
        go_quiet ((first | (go_at_call 50; exact quiet_same (touched_any b1 c1 _ _ _ (X4.out.drewN _))) | (go_at_call 51; exact quiet_same (len_is b1 c1 _ n _ _ (X4.out.drewN _) HZ.out))))
        go_wp2_with fail
        go_roundg (len - (j + 1))
        case measure => omega
        case rel => exact ⟨j + 1, (zr l (A j) (N j)).2, (byn l (A j) (N j) t), by omega, by go_num, X4.out.drewN _, Y4.out.drewN _, HZ.out, by omega, B4.drewN _⟩
      · have hby := by1_le l (A j) t
        have hzl := wr_length l (A j) (W j)
        go_wp2_with fail
        go_still_tail 11, (by kernel_rfl)
        change wpList _ _ _ _ _ wr.drew
        obtain ⟨wd, hwd⟩ : ∃ wd, wd = wr.drew := ⟨_, rfl⟩
        have X2 := Lib.hid (show Ar 122 wd b1 c1 l t by rw [hwd]; exact HX.out.drewN 1)
        have Y2 := Lib.hid (show Ar 78 wd b2 c2 l t by rw [hwd]; exact HY.out.drewN 1)
        have B2 : But (fun _ => False) w wd := by rw [hwd]; exact hB.drew
        rw [← hwd]
        clear k0 k1 k2 k3 hwd
        obtain ⟨k0, k1, k2, k3⟩ := HC.out _ B2
        go_wp2_with fail
        refine (write_any b1 c1 l t (A j) (W j) _ X2.out (by omega)).mono ?_
        rintro e w3 ⟨rfl, h3, g3⟩
        have B3 := B2.trans' g3 (fun k hk => .inr (by have := HD.out; omega))
        have y3 := Y2.out.but g3 (by have := HD.out; omega) (by have := HD.out; omega)
        have X3 := Lib.hid h3
        have Y3 := Lib.hid y3
        clear k0 k1 k2 k3 h3 y3 g3
        obtain ⟨k0, k1, k2, k3⟩ := HC.out _ B3
        go_wp2_with fail
        go_still_tail 11, (by kernel_rfl)
        change wpList _ _ _ _ _ w3.drew
        obtain ⟨we, hwe⟩ : ∃ we, we = w3.drew := ⟨_, rfl⟩
        have X5 := Lib.hid (show Ar 122 we b1 c1 (wri l (A j) (W j)).2 (by1 l (A j) t) by rw [hwe]; exact X3.out.drewN 1)
        have Y5 := Lib.hid (show Ar 78 we b2 c2 l t by rw [hwe]; exact Y3.out.drewN 1)
        have B5 : But (fun _ => False) w we := by rw [hwe]; exact B3.drew
        rw [← hwe]
        clear k0 k1 k2 k3 hwe
        obtain ⟨k0, k1, k2, k3⟩ := HC.out _ B5
        go_wp2_with fail
        refine (ref_write b2 c2 l t (A j) (W j) _ Y5.out (by omega)).mono ?_
        rintro e w4 ⟨rfl, h4, g4⟩
        have B4 := B5.trans' g4 (fun k hk => .inr (by have := HD.out; omega))
        have x4 := X5.out.but g4 (by have := HD.out; omega) (by have := HD.out; omega)
        have X4 := Lib.hid x4
        have Y4 := Lib.hid h4
        have d1 : w4.cell? ⟨b2, 1, none⟩ = some (.int .i64 (by1 l (A j) t)) := h4.blk.cell 1
        clear k0 k1 k2 k3 h4 x4 g4
        have hzl2 : (wri l (A j) (W j)).2.length = n := by omega
        have HZ := Lib.hid hzl2
        clear hzl hzl2
        go_wp2_with fail
        go_quiet ((first | (go_at_call 50; exact quiet_same (touched_any b1 c1 _ _ _ (X4.out.drewN _))) | (go_at_call 51; exact quiet_same (len_is b1 c1 _ n _ _ (X4.out.drewN _) HZ.out))))
        go_wp2_with fail
        go_roundg (len - (j + 1))
        case measure => omega
        case rel => exact ⟨j + 1, (wri l (A j) (W j)).2, (by1 l (A j) t), by omega, by go_num, X4.out.drewN _, Y4.out.drewN _, HZ.out, by omega, B4.drewN _⟩
    · obtain rfl : j = len := by omega
      go_wp2_with fail
      refine (read_nil 0 0 _).mono ?_
      rintro e w3 ⟨rfl, rfl⟩
      go_wp2_with fail
      refine (alive_any _).mono ?_
      rintro e w4 ⟨rfl, g4⟩
      have B4 := hB.trans g4
      go_wp2_with fail
      refine (write_nil 0 1 _).mono ?_
      rintro e w5 ⟨rfl, rfl⟩
      go_wp2_with fail
      refine (zero_nil 0 0 _).mono ?_
      rintro e w5 ⟨rfl, rfl⟩
      go_wp2_with fail
      first
        | (refine (len_nil _).mono ?_
           rintro e w5 ⟨rfl, rfl⟩
           go_wp2_with fail
           refine (touched_nil _).mono ?_
           rintro e w5 ⟨rfl, rfl⟩
           go_wp2_with fail
           go_ret
           exact ⟨rfl, B4⟩)
        | (go_quiet ((first | (go_at_call 51; exact quiet_same (len_nil _)) | (go_at_call 50; exact quiet_same (touched_nil _))))
           go_wp2_with fail
           go_ret
           exact ⟨rfl, B4.drewN _⟩)

theorem plays_law (W : World) (a0 : Int) (w0 : (Lit.int .i64 a0).wf = true) (a : Option Addr) (len cap : Nat) (V : Nat → Nat → Value) (hE : Els W a len 4 V)
    (hf : ∀ i, i < len → All2 [.i .u8, .i .i64, .i .i64, .i .u64] ((List.range 4).map (V i))) (hz : len * 32 ≤ 140737488351232) (hm : len ≤ cap ∧ cap ≤ maxLen) :
    Calls Try.prog 9 #[.int .i64 a0, .slice a len cap] W fun e w' => e = .returned (.bool true) ∧ But (fun _ => False) W w' := by
  refine plays_any a0 a len cap V (fun i => intOf (V i 0)) (fun i => intOf (V i 1)) (fun i => intOf (V i 2)) (fun i => intOf (V i 3)) W hE (by omega) (bounds_i64 w0) (fun i hi => ?_) (fun i hi => ?_) (fun i hi => ?_) (fun i hi => ?_)
  all_goals obtain ⟨f1, f2, f3, f4, -⟩ := hf i hi
  · exact ⟨(CK.fits_i f1).1, bounds_u8 (CK.fits_i f1).2⟩
  · exact ⟨(CK.fits_i f2).1, bounds_i64 (CK.fits_i f2).2⟩
  · exact ⟨(CK.fits_i f3).1, bounds_i64 (CK.fits_i f3).2⟩
  · exact ⟨(CK.fits_i f4).1, bounds_u64 (CK.fits_i f4).2⟩

end Arena
end Go.Proofs.Ytboajbbnnbnpaaa
