/- The law ProxyPlays of layer 15, walked: it answers true. -/
import Derived.Test.YtboajbbnnbnpaaaProxyActs
import Derived.Test.YtboajbbnnbnpaaaReads
set_option linter.unusedVariables false
set_option linter.unusedSimpArgs false
namespace Go.Proofs.Ytboajbbnnbnpaaa
open Go.RowKit Go.ChangeShapes Go.WideShapes

namespace Proxy

theorem said_is (b : Nat) (l l2 : List En) (k x y p q r : Int) (w : World) (h : Tb w b l) (hI : Inv l) (hk : 0 ≤ k ∧ k ≤ 255) (hS : saidP l k x y = (l2, p, q, r)) :
    Calls Try.prog 72 #[.pointer (some ⟨b, 0, none⟩), .agg #[.int .u8 k, .int .i64 x, .int .i64 y]] w fun e w' =>
      e = .returned (.agg #[.int .i64 p, .int .i64 q, .int .i64 r]) ∧ Tb w' b l2 ∧ But (fun k => k = b) w w' := by
  have := said_any b l k x y w h hI hk
  rw [hS] at this
  exact this
theorem want_is (c off cap : Nat) (l l2 : List En) (k x y p q r : Int) (w : World) (h : Rw w c off cap (l.map norm)) (hI : Inv l) (hk : 0 ≤ k ∧ k ≤ 255) (hS : saidP l k x y = (l2, p, q, r)) :
    Calls Try.prog 73 #[.slice (some ⟨c, off, none⟩) 8 cap, .agg #[.int .u8 k, .int .i64 x, .int .i64 y]] w (Got (l2.map norm) c (fun v => .tuple #[v, .agg #[.int .i64 p, .int .i64 q, .int .i64 r]]) w) := by
  have := want_any c off cap (l.map norm) k x y w h hI.norm_wide hI.norm_low hk
  rw [want_norm hI, hS] at this
  exact this
theorem ref_gen_is (c off cap : Nat) (l : List En) (i : Int) (w : World) (h : Rw w c off cap (l.map norm)) : Calls Try.prog 75 #[.slice (some ⟨c, off, none⟩) 8 cap, .int .i64 i] w fun e w' => e = .returned (.int .i64 (gen l i)) ∧ w = w' := by
  have := ref_gen c off cap (l.map norm) i w h
  rw [gen_norm] at this
  exact this
theorem ref_look_is (c off cap : Nat) (l : List En) (i g : Int) (w : World) (h : Rw w c off cap (l.map norm)) : Calls Try.prog 77 #[.slice (some ⟨c, off, none⟩) 8 cap, .int .i64 i, .int .i64 g] w fun e w' =>
    e = .returned (.tuple #[.int .i64 (look l i g).1, .int .i64 (look l i g).2.1, .int .i64 (look l i g).2.2]) ∧ Rw w' c off cap (l.map norm) ∧ But (fun _ => False) w w' := by
  have := ref_look_but c off cap (l.map norm) i g w h
  rw [look_norm] at this
  exact this
theorem look_still (b : Nat) (l : List En) (i g : Int) (w : World) (h : Tb w b l) : Calls Try.prog 76 #[.pointer (some ⟨b, 0, none⟩), .int .i64 i, .int .i64 g] w fun e w' =>
    e = .returned (.tuple #[.int .i64 (look l i g).1, .int .i64 (look l i g).2.1, .int .i64 (look l i g).2.2]) ∧ Tb w' b l ∧ But (fun _ => False) w w' :=
  (look_any b l i g w h).mono fun e w' ⟨he, m, hm⟩ => by subst hm; exact ⟨he, h.drewN m, (But.refl _ _).drewN m⟩

theorem said_nil_is (k : Int) (w : World) (hk : 0 ≤ k ∧ k < 6) : Calls Try.prog 72 #[.pointer none, .agg #[.int .u8 k, .int .i64 1, .int .i64 1]] w fun e w' =>
      e = .returned (.agg #[.int .i64 0, .int .i64 0, .int .i64 1]) ∧ But (fun _ => False) w w' := said_nil k w hk

set_option maxHeartbeats 8000000 in
set_option maxRecDepth 100000 in
theorem plays_any (a : Option Addr) (len cap : Nat) (V : Nat → Nat → Value) (K A B : Nat → Int) (w : World) (hE : Els w a len 3 V) (hlen : len ≤ 1000000000000000)
    (hK : ∀ i, i < len → V i 0 = .int .u8 (K i) ∧ 0 ≤ K i ∧ K i ≤ 255) (hA : ∀ i, i < len → V i 1 = .int .i64 (A i) ∧ -9223372036854775808 ≤ A i ∧ A i ≤ 9223372036854775807)
    (hB : ∀ i, i < len → V i 2 = .int .i64 (B i) ∧ -9223372036854775808 ≤ B i ∧ B i ≤ 9223372036854775807) :
    Calls Try.prog 13 #[.slice a len cap] w fun e w' => e = .returned (.bool true) ∧ But (fun _ => False) w w' := by
  by_cases hbig : 100 < len
  · go_enter Try.func13, Try.ntmps13
    go_wp2_with fail
    refine (alive_any _).mono ?_
    rintro e w1 ⟨rfl, g1⟩
    go_wp2_with fail
    go_ret
    exact ⟨rfl, g1⟩
  go_enter Try.func13, Try.ntmps13
  go_wp2_with fail
  refine (new_any _).mono ?_
  rintro e w1 ⟨rfl, h1, g1⟩
  have H1 := Lib.hid h1
  clear h1
  go_wp2_with fail
  refine (begin_any _).mono ?_
  rintro e w2 ⟨c, off, rcap, rfl, h2, g2, hc2⟩
  have hs1 := H1.out.lt
  obtain ⟨b, hb⟩ : ∃ b, b = w.heap.size := ⟨_, rfl⟩
  have hT := H1.out.but g2 (fun q => q)
  rw [← hb] at hT ⊢
  have HT := Lib.hid hT
  have HR := Lib.hid (show Rw w2 c off rcap (news.map norm) from by rw [show news.map norm = news by unfold news; rw [List.map_replicate, norm_fresh]]; exact h2)
  have HG := Lib.hid (g1.trans g2)
  have HD := Lib.hid (show w.heap.size ≤ b ∧ w.heap.size ≤ c ∧ c ≠ b from by omega)
  clear hT h2 g1 g2 H1 hs1 hc2 hb
  go_wp2_with fail
  go_loopg [4, 5] len (fun k m1 i1 wr => ∃ (j : Nat) (l : List En) (c off cp : Nat), j + k = len ∧ i1 = .int .i64 j ∧ m1 = .slice (some ⟨c, off, none⟩) 8 cp ∧ Tb wr b l ∧ Inv l ∧ Rw wr c off cp (l.map norm) ∧ w.heap.size ≤ c ∧ c ≠ b ∧ But (fun _ => False) w wr)
  case atStart => exact ⟨0, news, c, off, rcap, by omega, rfl, rfl, HT.out, inv_rep ⟨by omega, by omega⟩, HR.out, by have := HD.out; omega, by have := HD.out; omega, HG.out⟩
  case round =>
    clear HT HR HG
    have hbw := HD.out.1
    clear HD
    obtain ⟨j, l, c, off, cp, hj, rfl, rfl, hT, hI, hR, hc, hcb, hW⟩ := hrel
    have HT := Lib.hid hT
    have HI := Lib.hid hI
    have HR := Lib.hid hR
    clear hT hI hR
    by_cases hlt : j < len
    · obtain ⟨xb, xoff, rfl, hxb, hxc⟩ := hE.at_ j hlt
      have HC := Lib.hid (show ∀ w', But (fun _ => False) w w' → (w'.cell? ⟨xb, xoff + (j * 3), none⟩ = some (.int .u8 (K j)) ∧ w'.cell? ⟨xb, xoff + (j * 3) + 1, none⟩ = some (.int .i64 (A j)) ∧ w'.cell? ⟨xb, xoff + (j * 3) + 2, none⟩ = some (.int .i64 (B j))) from fun w' h => by
        have cc : ∀ i, w'.cell? ⟨xb, i, none⟩ = w.cell? ⟨xb, i, none⟩ := fun i => World.cell?_of_block (w := w) (h.block xb hxb (fun q => q))
        refine ⟨?_, ?_, ?_⟩
        · rw [cc, ← (hK j hlt).1, ← hxc 0 (by omega)]; rfl
        · rw [cc, ← (hA j hlt).1, ← hxc 1 (by omega)]; rfl
        · rw [cc, ← (hB j hlt).1, ← hxc 2 (by omega)]; rfl)
      obtain ⟨k0, k1, k2⟩ := HC.out _ hW
      have bk := (hK j hlt).2
      have ba := (hA j hlt).2
      have bb := (hB j hlt).2
      clear hxc
      obtain ⟨l2, p, q, r, hS⟩ : ∃ l2 p q r, saidP l (K j) (A j) (B j) = (l2, p, q, r) := ⟨_, _, _, _, rfl⟩
      have hI2 := inv_said HI.out (K j) (A j) (B j)
      rw [hS] at hI2
      have HS := Lib.hid hS
      have HI2 := Lib.hid hI2
      clear hS hI2
      go_wp2_with fail
      refine (said_is b l l2 (K j) (A j) (B j) p q r _ HT.out HI.out bk HS.out).mono ?_
      rintro e w3 ⟨rfl, h3, g3⟩
      have W3 := hW.trans' g3 (fun k hk => .inr (by omega))
      have R3 := Lib.hid (HR.out.but g3 (by omega))
      have T3 := Lib.hid h3
      clear k0 k1 k2 h3 g3
      obtain ⟨k0, k1, k2⟩ := HC.out _ W3
      have hx3 : xb < w3.heap.size := by have := W3.size; omega
      go_wp2_with fail
      have R4 := R3.out.but ((But.refl (fun _ => False) w3).alloc (.cells #[.int .i64 p, .int .i64 q, .int .i64 r] 99)) (fun q => q)
      have T4 := T3.out.but ((But.refl (fun _ => False) w3).alloc (.cells #[.int .i64 p, .int .i64 q, .int .i64 r] 99)) (fun q => q)
      have A4 := Blk.new w3 #[.int .i64 p, .int .i64 q, .int .i64 r] 99
      refine (want_is c off cp l l2 (K j) (A j) (B j) p q r _ R4 HI.out bk HS.out).mono ?_
      rintro e w4 ⟨c2, off2, cp2, rfl, hR4, g4, hn4⟩
      have hn : c2 = c ∨ w3.heap.size + 1 ≤ c2 := by simpa using hn4
      have s3 := W3.size
      have blt := T3.out.lt
      have W4 := (W3.alloc (.cells #[.int .i64 p, .int .i64 q, .int .i64 r] 99)).trans g4
      have T5 := Lib.hid (T4.but g4 (fun q => q))
      have A5 := Lib.hid (A4.but g4 (fun q => q))
      have R5 := Lib.hid hR4
      clear k0 k1 k2 hx3 hR4 g4 R4 T4 A4 hn4
      obtain ⟨k0, k1, k2⟩ := HC.out _ W4
      have hx4 : xb < w4.heap.size := by have := W4.size; omega
      have a0 := A5.out.cell 0
      have a1 := A5.out.cell 1
      have a2 := A5.out.cell 2
      have hx5 := A5.out.lt
      go_wp2_with fail
      obtain ⟨s4, hs4⟩ : ∃ s4, s4 = w4.heap.size := ⟨_, rfl⟩
      obtain ⟨w5, hw5⟩ : ∃ w5, w5 = w4.alloc (.cells #[.int .i64 p, .int .i64 q, .int .i64 r] 99) := ⟨_, rfl⟩
      have g5 : But (fun _ => False) w4 w5 := by rw [hw5]; exact (But.refl _ _).alloc _
      have B5 : Blk w5 s4 #[.int .i64 p, .int .i64 q, .int .i64 r] 99 := by rw [hw5, hs4]; exact Blk.new _ _ _
      rw [← hw5, ← hs4]
      have W5 := W4.trans g5
      have T6 := Lib.hid (T5.out.but g5 (fun q => q))
      have R6 := Lib.hid (R5.out.but g5 (fun q => q))
      have A6 := A5.out.but g5 (fun q => q)
      clear a0 a1 a2 k0 k1 k2 hx4 hx5 hs4 hw5 g5
      obtain ⟨k0, k1, k2⟩ := HC.out _ W5
      have a0 := A6.cell 0
      have a1 := A6.cell 1
      have a2 := A6.cell 2
      have b0 := B5.cell 0
      have b1 := B5.cell 1
      have b2 := B5.cell 2
      clear A6 B5
      go_quiet ((first | (go_at_call 74; exact quiet_same (gen_any b l2 _ _ (T6.out.drewN _))) | (go_at_call 75; exact quiet_same (ref_gen_is c2 off2 cp2 l2 _ _ (R6.out.drewN _)))))
      go_wp2_with fail
      have T7 := Lib.hid (T6.out.drewN nq)
      have R7 := Lib.hid (R6.out.drewN nq)
      have W7 := Lib.hid (W5.drewN nq)
      clear k0 k1 k2 a0 a1 a2 b0 b1 b2
      go_loopg [9] 8 (fun k n1 ws => ∃ (m : Nat), m + k = 8 ∧ n1 = .int .i64 m ∧ Tb ws b l2 ∧ Rw ws c2 off2 cp2 (l2.map norm) ∧ But (fun _ => False) w ws)
      case atStart => exact ⟨0, by omega, rfl, T7.out, R7.out, W7.out⟩
      case round =>
        obtain ⟨m, hm, rfl, hT8, hR8, hW8⟩ := hrel
        have T8 := Lib.hid hT8
        have R8 := Lib.hid hR8
        have W8 := Lib.hid hW8
        clear hT8 hR8 hW8
        by_cases hm8 : m < 8
        · go_wp2_with fail
          refine (ref_gen_is c2 off2 cp2 l2 m _ R8.out).mono ?_
          rintro e wa ⟨rfl, rfl⟩
          go_wp2_with fail
          refine (look_still b l2 m (gen l2 m) _ T8.out).mono ?_
          rintro e w9 ⟨rfl, h9, g9⟩
          have T9 := Lib.hid h9
          have R9 := Lib.hid (R8.out.but g9 (fun q => q))
          have W9 := Lib.hid (W8.out.trans g9)
          clear h9 g9
          go_wp2_with fail
          refine (ref_gen_is c2 off2 cp2 l2 m _ R9.out).mono ?_
          rintro e wa ⟨rfl, rfl⟩
          go_wp2_with fail
          refine (ref_look_is c2 off2 cp2 l2 m (gen l2 m) _ R9.out).mono ?_
          rintro e wx ⟨rfl, hx, gx⟩
          have Rx := Lib.hid hx
          have Tx := Lib.hid (T9.out.but gx (fun q => q))
          have Wx := Lib.hid (W9.out.trans gx)
          clear hx gx
          go_wp2_with fail
          go_roundg (8 - (m + 1))
          case measure => omega
          case rel => exact ⟨m + 1, by omega, by go_num, Tx.out, Rx.out, Wx.out⟩
        · go_wp2_with fail
          go_roundg (len - (j + 1))
          case measure => omega
          case rel => exact ⟨j + 1, l2, c2, off2, cp2, by omega, by go_num, rfl, T8.out, HI2.out, R8.out, by omega, by omega, W8.out⟩
    · go_wp2_with fail
      go_loopg [17] 6 (fun k n1 ws => ∃ (m : Nat), m + k = 6 ∧ n1 = .int .i64 m ∧ But (fun _ => False) w ws)
      case atStart => exact ⟨0, by omega, rfl, hW⟩
      case round =>
        obtain ⟨m, hm, rfl, hW8⟩ := hrel
        have W8 := Lib.hid hW8
        clear hW8
        by_cases hm8 : m < 6
        · go_wp2_with fail
          refine (said_nil_is m _ (by omega)).mono ?_
          rintro e w9 ⟨rfl, g9⟩
          have W9 := Lib.hid (W8.out.trans g9)
          clear g9
          go_wp2_with fail
          go_roundg (6 - (m + 1))
          case measure => omega
          case rel => exact ⟨m + 1, by omega, by go_num, W9.out.alloc _⟩
        · go_wp2_with fail
          refine (alive_any _).mono ?_
          rintro e w9 ⟨rfl, g9⟩
          go_wp2_with fail
          refine (gen_nil 0 _).mono ?_
          rintro e wa ⟨rfl, rfl⟩
          go_wp2_with fail
          go_ret
          exact ⟨rfl, W8.out.trans g9⟩

theorem plays_law (W : World) (a : Option Addr) (len cap : Nat) (V : Nat → Nat → Value) (hE : Els W a len 3 V)
    (hf : ∀ i, i < len → All2 [.i .u8, .i .i64, .i .i64] ((List.range 3).map (V i))) (hz : len * 24 ≤ 140737488351232) (hm : len ≤ cap ∧ cap ≤ maxLen) :
    Calls Try.prog 13 #[.slice a len cap] W fun e w' => e = .returned (.bool true) ∧ But (fun _ => False) W w' := by
  refine plays_any a len cap V (fun i => intOf (V i 0)) (fun i => intOf (V i 1)) (fun i => intOf (V i 2)) W hE (by omega) (fun i hi => ?_) (fun i hi => ?_) (fun i hi => ?_)
  all_goals obtain ⟨f1, f2, f3, -⟩ := hf i hi
  · exact ⟨(CK.fits_i f1).1, bounds_u8 (CK.fits_i f1).2⟩
  · exact ⟨(CK.fits_i f2).1, bounds_i64 (CK.fits_i f2).2⟩
  · exact ⟨(CK.fits_i f3).1, bounds_i64 (CK.fits_i f3).2⟩

end Proxy
end Go.Proofs.Ytboajbbnnbnpaaa
