/- The laws of layer 12 (quota), walked: they answer true. -/
import Derived.Test.YtboajbbnnbnpaaaQuotaWalks
import Derived.Test.YtboajbbnnbnpaaaReads
set_option linter.unusedVariables false
set_option linter.unusedSimpArgs false
namespace Go.Proofs.Ytboajbbnnbnpaaa
open Go.RowKit

namespace Quota

set_option maxHeartbeats 400000 in
theorem ref_charge (n limit k : Int) (w : World) (hn : 0 ≤ n ∧ n ≤ limit) (hl : limit ≤ 65536) (hk : -9223372036854775808 ≤ k ∧ k ≤ 9223372036854775807) :
    Calls Try.prog 27 #[.int .i64 n, .int .i64 limit, .int .i64 k] w fun e w' =>
      e = .returned (.tuple #[.int .i64 (charge n limit k).2, .int .i64 (charge n limit k).1]) ∧ w = w' := by
  by_cases h1 : k < 0
  · have E : charge n limit k = (1, n) := by unfold charge; rw [if_pos h1]
    rw [E]; clear E
    go_enter Try.func27, Try.ntmps27
    go_wp2
    go_ret2
    exact ⟨rfl, rfl⟩
  · by_cases h2 : k ≤ limit - n
    · have E : charge n limit k = (0, n + k) := by unfold charge; rw [if_neg h1, if_pos h2]
      rw [E]; clear E
      go_enter Try.func27, Try.ntmps27
      go_wp2
      go_ret2
      exact ⟨rfl, rfl⟩
    · have E : charge n limit k = (7, n) := by unfold charge; rw [if_neg h1, if_neg h2]
      rw [E]; clear E
      go_enter Try.func27, Try.ntmps27
      go_wp2
      go_ret2
      exact ⟨rfl, rfl⟩

set_option maxHeartbeats 400000 in
theorem ref_refund (n k : Int) (w : World) (hn : 0 ≤ n ∧ n ≤ 65536) (hk : -9223372036854775808 ≤ k ∧ k ≤ 9223372036854775807) :
    Calls Try.prog 25 #[.int .i64 n, .int .i64 k] w fun e w' =>
      e = .returned (.tuple #[.int .i64 (refund n k).2, .int .i64 (refund n k).1]) ∧ w = w' := by
  by_cases h1 : k < 0
  · have E : refund n k = (1, n) := by unfold refund; rw [if_pos h1]
    rw [E]; clear E
    go_enter Try.func25, Try.ntmps25
    go_wp2
    go_ret2
    exact ⟨rfl, rfl⟩
  · by_cases h2 : k ≤ n
    · have E : refund n k = (0, n - k) := by unfold refund; rw [if_neg h1, if_pos h2]
      rw [E]; clear E
      go_enter Try.func25, Try.ntmps25
      go_wp2
      go_ret2
      exact ⟨rfl, rfl⟩
    · have E : refund n k = (1, n) := by unfold refund; rw [if_neg h1, if_neg h2]
      rw [E]; clear E
      go_enter Try.func25, Try.ntmps25
      go_wp2
      go_ret2
      exact ⟨rfl, rfl⟩

theorem charge_to (b : Nat) (n limit k c m : Int) (w : World) (ha : Acc w b n limit) (hk : -9223372036854775808 ≤ k ∧ k ≤ 9223372036854775807) (h : charge n limit k = (c, m)) :
    Calls Try.prog 26 #[.pointer (some ⟨b, 0, none⟩), .int .i64 k] w fun e w' =>
      e = .returned (.int .i64 c) ∧ Acc w' b m limit ∧ But (· = b) w w' := by
  have := charge_any b n limit k w ha hk
  rw [h] at this; exact this
theorem refund_to (b : Nat) (n limit k c m : Int) (w : World) (ha : Acc w b n limit) (hk : -9223372036854775808 ≤ k ∧ k ≤ 9223372036854775807) (h : refund n k = (c, m)) :
    Calls Try.prog 24 #[.pointer (some ⟨b, 0, none⟩), .int .i64 k] w fun e w' =>
      e = .returned (.int .i64 c) ∧ Acc w' b m limit ∧ But (· = b) w w' := by
  have := refund_any b n limit k w ha hk
  rw [h] at this; exact this

set_option maxHeartbeats 1000000 in
theorem alive_any (w : World) :
    Calls Try.prog 22 #[] w fun e w' => e = .returned (.bool true) ∧ But (fun _ => False) w w' := by
  go_enter Try.func22, Try.ntmps22
  go_wp2_with fail
  refine (new_yes 10 _ (by omega) (by omega)).mono ?_
  rintro e w1 ⟨b, rfl, a1, hb, g1⟩
  go_wp2_with fail
  refine (charge_to b 0 10 7 0 7 _ a1 (by omega) (by decide)).mono ?_
  rintro e w2 ⟨rfl, a2, g2⟩
  go_wp2_with fail
  refine (charge_to b 7 10 4 7 7 _ a2 (by omega) (by decide)).mono ?_
  rintro e w3 ⟨rfl, a3, g3⟩
  go_wp2_with fail
  refine (charge_to b 7 10 3 0 10 _ a3 (by omega) (by decide)).mono ?_
  rintro e w4 ⟨rfl, a4, g4⟩
  go_wp2_with fail
  refine (refund_to b 10 10 11 1 10 _ a4 (by omega) (by decide)).mono ?_
  rintro e w5 ⟨rfl, a5, g5⟩
  go_wp2_with fail
  refine (refund_to b 10 10 6 0 4 _ a5 (by omega) (by decide)).mono ?_
  rintro e w6 ⟨rfl, a6, g6⟩
  go_wp2_with fail
  refine (new_no 65537 _ (by omega)).mono ?_
  rintro e w7 ⟨rfl, rfl⟩
  go_wp2_with fail
  refine (used_any b 4 10 _ a6).mono ?_
  rintro e w7 ⟨rfl, rfl⟩
  go_wp2_with fail
  refine (limit_any b 4 10 _ a6).mono ?_
  rintro e w7 ⟨rfl, rfl⟩
  go_wp2_with fail
  refine (charge_to b 4 10 (-1) 1 4 _ a6 (by omega) (by decide)).mono ?_
  rintro e w7 ⟨rfl, a7, g7⟩
  go_wp2_with fail
  go_ret
  have hS : ∀ i, i = b → False ∨ w.heap.size ≤ i := fun i hi => .inr (hi ▸ hb)
  exact ⟨rfl, g1.trans' ((((((g2.trans g3).trans g4).trans g5).trans g6).trans g7)) hS⟩

set_option maxHeartbeats 2000000 in
set_option maxRecDepth 100000 in
theorem plays_any (a : Option Addr) (len cap : Nat) (V : Nat → Nat → Value) (K N : Nat → Int) (limit : Int) (w : World)
    (hw : -9223372036854775808 ≤ limit ∧ limit ≤ 9223372036854775807) (hlen : len ≤ 9223372036854775807) (hE : Els w a len 2 V)
    (h0 : ∀ i, i < len → V i 0 = .int .u8 (K i) ∧ 0 ≤ K i ∧ K i ≤ 255) (h1 : ∀ i, i < len → V i 1 = .int .i64 (N i) ∧ -9223372036854775808 ≤ N i ∧ N i ≤ 9223372036854775807) :
    Calls Try.prog 5 #[.int .i64 limit, .slice a len cap] w fun e w' => e = .returned (.bool true) ∧ But (fun _ => False) w w' := by
  by_cases hbig : 200 < len
  · go_enter Try.func5, Try.ntmps5
    go_wp2_with fail
    refine (alive_any _).mono ?_
    rintro e w1 ⟨rfl, g1⟩
    go_wp2_with fail
    go_ret
    exact ⟨rfl, g1⟩
  by_cases hno : limit < 0 ∨ 65536 < limit
  · go_enter Try.func5, Try.ntmps5
    go_wp2_with fail
    refine (new_no limit _ hno).mono ?_
    rintro e w1 ⟨rfl, rfl⟩
    rcases hno with hno | hno
    · go_wp2_with fail
      refine (alive_any _).mono ?_
      rintro e w1 ⟨rfl, g1⟩
      go_wp2_with fail
      go_ret
      exact ⟨rfl, g1⟩
    · have h' : ¬ limit < 0 := by omega
      go_wp2_with fail
      refine (alive_any _).mono ?_
      rintro e w1 ⟨rfl, g1⟩
      go_wp2_with fail
      go_ret
      exact ⟨rfl, g1⟩
  have hyes : 0 ≤ limit := by omega
  have hyes' : limit ≤ 65536 := by omega
  clear hno
  go_enter Try.func5, Try.ntmps5
  go_wp2_with fail
  refine (new_yes limit _ hyes hyes').mono ?_
  rintro e w1 ⟨b, rfl, a1, hb, g1⟩
  go_wp2_with fail
  go_loopg [7, 8] len (fun k u i wr => ∃ n : Int, ∃ j : Nat, j + k = len ∧ u = .int .i64 n ∧ i = .int .i64 j ∧ Acc wr b n limit ∧ But (fun _ => False) w wr)
  case atStart => exact ⟨0, 0, by omega, rfl, rfl, a1, g1⟩
  case round =>
    obtain ⟨n, j, hj, rfl, rfl, hA, hB⟩ := hrel
    have hA' := hA.used
    have hB' := hA.lim
    by_cases hlt : j < len
    · obtain ⟨ab, off, rfl, hab, hc⟩ := hE.at_ j hlt
      have hck : wr.cell? ⟨ab, off + (j * 2), none⟩ = some (.int .u8 (K j)) := by
        have := hc 0 (by omega)
        rw [(h0 j hlt).1] at this
        rw [← this]; exact World.cell?_of_block (w := w) (hB.block ab hab (fun q => q))
      have hcn : wr.cell? ⟨ab, off + (j * 2) + 1, none⟩ = some (.int .i64 (N j)) := by
        have := hc 1 (by omega)
        rw [(h1 j hlt).1] at this
        rw [← this]; exact World.cell?_of_block (w := w) (hB.block ab hab (fun q => q))
      have hK := (h0 j hlt).2
      have hN := (h1 j hlt).2
      clear hc hE h0 h1
      have hbd := refund_bd (k := N j) hA'
      have hbd2 := charge_bd (k := N j) hA'
      by_cases h2 : K j % 3 = 2
      · have t2 : (K j % 3 == 2) = true := by simp [h2]
        clear h2
        go_wp2_with fail
        refine (refund_any b n limit (N j) _ hA hN).mono ?_
        rintro e w2 ⟨rfl, a2, g2⟩
        have hcn' : w2.cell? ⟨ab, off + (j * 2) + 1, none⟩ = some (.int .i64 (N j)) := by
          rw [← hcn]; exact World.cell?_of_block (w := wr) (g2.block ab (by have := hB.size; omega) (fun q => by omega))
        go_wp2_with fail
        refine (ref_refund n (N j) _ (by omega) hN).mono ?_
        rintro e w3 ⟨rfl, rfl⟩
        go_wp2_with fail
        refine (used_any b _ limit _ a2).mono ?_
        rintro e w3 ⟨rfl, rfl⟩
        go_wp2_with fail
        refine (limit_any b _ limit _ a2).mono ?_
        rintro e w3 ⟨rfl, rfl⟩
        go_wp2_with fail
        go_roundg (len - (j + 1))
        case measure => omega
        case rel => exact ⟨_, j + 1, by omega, rfl, by go_num, a2, hB.trans' g2 (fun i hi => .inr (hi ▸ hb))⟩
      · have t2 : (K j % 3 == 2) = false := by simp [h2]
        clear h2
        go_wp2_with fail
        refine (charge_any b n limit (N j) _ hA hN).mono ?_
        rintro e w2 ⟨rfl, a2, g2⟩
        have hcn' : w2.cell? ⟨ab, off + (j * 2) + 1, none⟩ = some (.int .i64 (N j)) := by
          rw [← hcn]; exact World.cell?_of_block (w := wr) (g2.block ab (by have := hB.size; omega) (fun q => by omega))
        go_wp2_with fail
        refine (ref_charge n limit (N j) _ hA' hB' hN).mono ?_
        rintro e w3 ⟨rfl, rfl⟩
        go_wp2_with fail
        refine (used_any b _ limit _ a2).mono ?_
        rintro e w3 ⟨rfl, rfl⟩
        go_wp2_with fail
        refine (limit_any b _ limit _ a2).mono ?_
        rintro e w3 ⟨rfl, rfl⟩
        go_wp2_with fail
        go_roundg (len - (j + 1))
        case measure => omega
        case rel => exact ⟨_, j + 1, by omega, rfl, by go_num, a2, hB.trans' g2 (fun i hi => .inr (hi ▸ hb))⟩
    · go_wp2_with fail
      refine (alive_any _).mono ?_
      rintro e w2 ⟨rfl, g2⟩
      go_wp2_with fail
      refine (charge_nil 0 _).mono ?_
      rintro e w3 ⟨rfl, rfl⟩
      go_wp2_with fail
      refine (refund_nil 0 _).mono ?_
      rintro e w3 ⟨rfl, m, rfl⟩
      go_wp2_with fail
      refine (used_nil _).mono ?_
      rintro e w3 ⟨rfl, rfl⟩
      go_wp2_with fail
      refine (limit_nil _).mono ?_
      rintro e w3 ⟨rfl, rfl⟩
      go_wp2_with fail
      go_ret
      exact ⟨rfl, (hB.trans g2).drewN _⟩

set_option maxHeartbeats 2000000 in
set_option maxRecDepth 100000 in
theorem within_any (a : Option Addr) (len cap : Nat) (V : Nat → Nat → Value) (K N : Nat → Int) (limit : Int) (w : World)
    (hw : 0 ≤ limit ∧ limit ≤ 65535) (hlen : len ≤ 9223372036854775807) (hE : Els w a len 2 V)
    (h0 : ∀ i, i < len → V i 0 = .int .u8 (K i) ∧ 0 ≤ K i ∧ K i ≤ 255) (h1 : ∀ i, i < len → V i 1 = .int .i64 (N i) ∧ -9223372036854775808 ≤ N i ∧ N i ≤ 9223372036854775807) :
    Calls Try.prog 6 #[.int .u16 limit, .slice a len cap] w fun e w' => e = .returned (.bool true) ∧ But (fun _ => False) w w' := by
  by_cases hbig : 200 < len
  · go_enter Try.func6, Try.ntmps6
    go_wp2_with fail
    refine (alive_any _).mono ?_
    rintro e w1 ⟨rfl, g1⟩
    go_wp2_with fail
    go_ret
    exact ⟨rfl, g1⟩
  go_enter Try.func6, Try.ntmps6
  go_wp2_with fail
  refine (new_yes limit _ (by omega) (by omega)).mono ?_
  rintro e w1 ⟨b, rfl, a1, hb, g1⟩
  go_wp2_with fail
  go_loopg [7, 8] len (fun k u i wr => ∃ n : Int, ∃ j : Nat, j + k = len ∧ u = .int .i64 n ∧ i = .int .i64 j ∧ Acc wr b n limit ∧ But (fun _ => False) w wr)
  case atStart => exact ⟨0, 0, by omega, rfl, rfl, a1, g1⟩
  case round =>
    obtain ⟨n, j, hj, rfl, rfl, hA, hB⟩ := hrel
    have hA' := hA.used
    have hB' := hA.lim
    by_cases hlt : j < len
    · obtain ⟨ab, off, rfl, hab, hc⟩ := hE.at_ j hlt
      have hck : wr.cell? ⟨ab, off + (j * 2), none⟩ = some (.int .u8 (K j)) := by
        have := hc 0 (by omega)
        rw [(h0 j hlt).1] at this
        rw [← this]; exact World.cell?_of_block (w := w) (hB.block ab hab (fun q => q))
      have hcn : wr.cell? ⟨ab, off + (j * 2) + 1, none⟩ = some (.int .i64 (N j)) := by
        have := hc 1 (by omega)
        rw [(h1 j hlt).1] at this
        rw [← this]; exact World.cell?_of_block (w := w) (hB.block ab hab (fun q => q))
      have hK := (h0 j hlt).2
      have hN := (h1 j hlt).2
      clear hc hE h0 h1
      by_cases h2 : K j % 3 = 2
      · have t2 : (K j % 3 == 2) = true := by simp [h2]
        clear h2
        go_wp2_with fail
        by_cases h3 : 0 ≤ N j ∧ N j ≤ n
        · refine (refund_to b n limit (N j) 0 (n - N j) _ hA hN (by unfold refund; rw [if_neg (by omega), if_pos h3.2])).mono ?_
          rintro e w2 ⟨rfl, a2, g2⟩
          go_wp2_with fail
          go_roundg (len - (j + 1))
          case measure => omega
          case rel => exact ⟨n - N j, j + 1, by omega, by go_num, by go_num, a2, hB.trans' g2 (fun i hi => .inr (hi ▸ hb))⟩
        · refine (refund_to b n limit (N j) 1 n _ hA hN (by unfold refund; split <;> (try split) <;> (try rfl); omega)).mono ?_
          rintro e w2 ⟨rfl, a2, g2⟩
          go_wp2_with fail
          go_roundg (len - (j + 1))
          case measure => omega
          case rel => exact ⟨n, j + 1, by omega, rfl, by go_num, a2, hB.trans' g2 (fun i hi => .inr (hi ▸ hb))⟩
      · have t2 : (K j % 3 == 2) = false := by simp [h2]
        clear h2
        go_wp2_with fail
        by_cases h3 : N j < 0
        · refine (charge_to b n limit (N j) 1 n _ hA hN (by unfold charge; rw [if_pos h3])).mono ?_
          rintro e w2 ⟨rfl, a2, g2⟩
          go_wp2_with fail
          go_roundg (len - (j + 1))
          case measure => omega
          case rel => exact ⟨n, j + 1, by omega, rfl, by go_num, a2, hB.trans' g2 (fun i hi => .inr (hi ▸ hb))⟩
        by_cases h4 : N j ≤ limit - n
        · refine (charge_to b n limit (N j) 0 (n + N j) _ hA hN (by unfold charge; rw [if_neg h3, if_pos h4])).mono ?_
          rintro e w2 ⟨rfl, a2, g2⟩
          have h5 : ¬ limit < N j := by omega
          have h6 : ¬ limit < n + N j := by omega
          go_wp2_with fail
          go_roundg (len - (j + 1))
          case measure => omega
          case rel => exact ⟨n + N j, j + 1, by omega, by go_num, by go_num, a2, hB.trans' g2 (fun i hi => .inr (hi ▸ hb))⟩
        · refine (charge_to b n limit (N j) 7 n _ hA hN (by unfold charge; rw [if_neg h3, if_neg h4])).mono ?_
          rintro e w2 ⟨rfl, a2, g2⟩
          by_cases h5 : limit < N j
          · go_wp2_with fail
            go_roundg (len - (j + 1))
            case measure => omega
            case rel => exact ⟨n, j + 1, by omega, rfl, by go_num, a2, hB.trans' g2 (fun i hi => .inr (hi ▸ hb))⟩
          · have h6 : limit < n + N j := by omega
            go_wp2_with fail
            go_roundg (len - (j + 1))
            case measure => omega
            case rel => exact ⟨n, j + 1, by omega, rfl, by go_num, a2, hB.trans' g2 (fun i hi => .inr (hi ▸ hb))⟩
    · go_wp2_with fail
      refine (alive_any _).mono ?_
      rintro e w2 ⟨rfl, g2⟩
      go_wp2_with fail
      refine (used_any b n limit _ (hA.but g2 (fun q => q))).mono ?_
      rintro e w3 ⟨rfl, rfl⟩
      go_wp2_with fail
      go_ret
      exact ⟨rfl, (hB.trans g2)⟩

theorem within_law (w : World) (limit : Int) (w0 : (Lit.int .u16 limit).wf = true) (a : Option Addr) (len cap : Nat) (V : Nat → Nat → Value) (hE : Els w a len 2 V)
    (hf : ∀ i, i < len → All2 [.i .u8, .i .i64] ((List.range 2).map (V i))) (hz : len * 16 ≤ 140737488351232) :
    Calls Try.prog 6 #[.int .u16 limit, .slice a len cap] w fun e w' => e = .returned (.bool true) ∧ But (fun _ => False) w w' := by
  refine within_any a len cap V (fun i => intOf (V i 0)) (fun i => intOf (V i 1)) limit w (bounds_u16 w0) (by omega) hE (fun i hi => ?_) (fun i hi => ?_)
  · obtain ⟨h0, _⟩ := hf i hi
    obtain ⟨e, wf⟩ := CK.fits_i h0
    exact ⟨e, bounds_u8 wf⟩
  · obtain ⟨_, h1, _⟩ := hf i hi
    obtain ⟨e, wf⟩ := CK.fits_i h1
    exact ⟨e, bounds_i64 wf⟩

theorem plays_law (w : World) (limit : Int) (w0 : (Lit.int .i64 limit).wf = true) (a : Option Addr) (len cap : Nat) (V : Nat → Nat → Value) (hE : Els w a len 2 V)
    (hf : ∀ i, i < len → All2 [.i .u8, .i .i64] ((List.range 2).map (V i))) (hz : len * 16 ≤ 140737488351232) :
    Calls Try.prog 5 #[.int .i64 limit, .slice a len cap] w fun e w' => e = .returned (.bool true) ∧ But (fun _ => False) w w' := by
  refine plays_any a len cap V (fun i => intOf (V i 0)) (fun i => intOf (V i 1)) limit w (bounds_i64 w0) (by omega) hE (fun i hi => ?_) (fun i hi => ?_)
  · obtain ⟨h0, _⟩ := hf i hi
    obtain ⟨e, wf⟩ := CK.fits_i h0
    exact ⟨e, bounds_u8 wf⟩
  · obtain ⟨_, h1, _⟩ := hf i hi
    obtain ⟨e, wf⟩ := CK.fits_i h1
    exact ⟨e, bounds_i64 wf⟩

end Quota
end Go.Proofs.Ytboajbbnnbnpaaa
