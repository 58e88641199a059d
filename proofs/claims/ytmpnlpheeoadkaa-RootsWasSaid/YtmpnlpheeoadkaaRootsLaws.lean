/- The law RootsPlays of layer 8, walked: it answers true. -/
import Derived.Test.YtmpnlpheeoadkaaRootsBoth
import Derived.Test.YtmpnlpheeoadkaaReads
set_option linter.unusedVariables false
set_option linter.unusedSimpArgs false
namespace Go.Proofs.Ytmpnlpheeoadkaa
open Go.RowKit Go.ChangeShapes Go.WideShapes

namespace Roots

theorem one_new {b : Nat} {S : Nat → Prop} {w w1 : World} (h : Set_ b [] w1 S) (h2 : ∀ k, S k → w.heap.size ≤ k) (g : But (fun _ => False) w w1) : One [] b [] w w1 :=
  ⟨S, (Own.nil (But.refl _ w)).add (q := Pc.set b [] S) h g h2⟩
theorem two_new {b : Nat} {w w1 : World} (h : One [] b [] w w1) : Two b [] [] none 0 w w1 := by
  obtain ⟨S, h⟩ := h.ex
  have h1 : Own w w1 [Pc.row 3 1 (.slice none 0 0) none 0 [], Pc.set b [] S] := h.add (q := Pc.row 3 1 (.slice none 0 0) none 0 []) (Row.nil w1 3 1) (But.refl _ _) (fun k hk => by cases hk)
  refine ⟨S, none, ⟨fun i hi => ?_, fun i j hi hj ne => ?_, fun i hi => ?_, h1.but⟩⟩
  · match i, hi with
    | 0, _ => exact h1.is 1 (by simp)
    | 1, _ => exact h1.is 0 (by simp)
  · match i, j, hi, hj with
    | 0, 0, _, _ => exact absurd rfl ne
    | 0, 1, _, _ => exact h1.apart 1 0 (by simp) (by simp) (by decide)
    | 1, 0, _, _ => exact h1.apart 0 1 (by simp) (by simp) (by decide)
    | 1, 1, _, _ => exact absurd rfl ne
  · match i, hi with
    | 0, _ => exact h1.new 1 (by simp)
    | 1, _ => exact h1.new 0 (by simp)

theorem rel49 : Rel [9, 4] [4, 9] := ⟨by decide, by unfold Rise; decide, by decide, by decide⟩

set_option maxHeartbeats 8000000 in
set_option maxRecDepth 100000 in
theorem alive_any (w : World) : Calls Try.prog 35 #[] w fun e w' => e = .returned (.bool true) ∧ But (fun _ => False) w w' := by
  go_enter Try.func35, Try.ntmps35
  go_wp2_with fail
  refine (new_any _).mono ?_
  rintro e w1 ⟨b, S1, rfl, q1, n1, g1⟩
  have O1 := one_new q1 n1 g1
  clear q1 n1 g1
  go_wp2_with fail
  refine (o_add O1 (by decide) (show addT [] 9 = (true, 0) by decide) (show addTo [] 9 = [9] by decide)).mono ?_
  rintro e w2 ⟨rfl, O2⟩
  go_wp2_with fail
  refine (o_add O2 (by decide) (show addT [9] 4 = (true, 0) by decide) (show addTo [9] 4 = [9, 4] by decide)).mono ?_
  rintro e w3 ⟨rfl, O3⟩
  go_wp2_with fail
  refine (o_add O3 (by decide) (show addT [9, 4] 9 = (false, 0) by decide) (show addTo [9, 4] 9 = [9, 4] by decide)).mono ?_
  rintro e w4 ⟨rfl, O4⟩
  go_wp2_with fail
  refine (o_add O4 (by decide) (show addT [9, 4] 192 = (false, 1) by decide) (show addTo [9, 4] 192 = [9, 4] by decide)).mono ?_
  rintro e w5 ⟨rfl, O5⟩
  go_wp2_with fail
  refine (o_all O5 rel49).mono ?_
  rintro e w6 ⟨a6, cap6, o6, rfl, r6, n6, O6, g6⟩
  have P6 : One [Pc.row 3 1 (.slice a6 2 cap6) o6 2 (ints [4, 9])] b [9, 4] w w6 := by
    obtain ⟨S, h⟩ := O5.ex
    have h1 := h.add (q := Pc.row 3 1 (.slice a6 2 cap6) o6 2 (ints [4, 9])) r6 g6 n6
    exact ⟨S, h1.swap⟩
  clear O6 r6 n6 g6 O5
  go_wp2_with fail
  refine (o_drop P6 (show dropT [9, 4] 9 = 0 by decide) (show dropTo [9, 4] 9 = [4] by decide)).mono ?_
  rintro e w7 ⟨rfl, P7⟩
  go_wp2_with fail
  refine (o_drop P7 (show dropT [4] 9 = 9 by decide) (show dropTo [4] 9 = [4] by decide)).mono ?_
  rintro e w8 ⟨rfl, P8⟩
  have r8 : Row w8 3 1 (.slice a6 2 cap6) o6 2 (ints [4, 9]) := by
    obtain ⟨S, h⟩ := P8.ex
    exact h.get 1 rfl
  have R8 := Lib.hid r8
  clear r8
  go_wp2_with fail
  refine (ints_any (.slice a6 2 cap6) (.slice (some ⟨w8.heap.size, 0, none⟩) 2 2) o6 (some w8.heap.size) 2 2 [4, 9] [4, 9] _ (R8.out.alloc _) (Row.new w8 3 1 2 [.int .i64 4, .int .i64 9] rfl (by decide)) (by decide) (by decide)).mono ?_
  rintro e w9 ⟨rfl, m9, hw9⟩
  rw [decide_eq_true rfl]
  have P9 : One [Pc.row 3 1 (.slice a6 2 cap6) o6 2 (ints [4, 9])] b [4] w w9 := by
    rw [hw9]
    exact P8.same (((But.refl _ _).alloc _).drewN _)
  clear hw9 R8
  go_wp2_with fail
  refine (o_drop P9 (show dropT [4] (-1) = 1 by decide) (show dropTo [4] (-1) = [4] by decide)).mono ?_
  rintro e w10 ⟨rfl, P10⟩
  go_wp2_with fail
  refine (o_has P10 (show has [4] 4 = true by decide)).mono ?_
  rintro e w11 ⟨rfl, rfl⟩
  go_wp2_with fail
  refine (o_has P10 (show has [4] 9 = false by decide)).mono ?_
  rintro e w11 ⟨rfl, rfl⟩
  go_wp2_with fail
  refine (o_len P10 (show [(4 : Int)].length = 1 from rfl)).mono ?_
  rintro e w11 ⟨rfl, rfl⟩
  go_wp2_with fail
  go_ret
  exact ⟨rfl, P10.but⟩

set_option maxHeartbeats 8000000 in
set_option maxRecDepth 100000 in
theorem plays_any (a : Option Addr) (len cap : Nat) (V : Nat → Nat → Value) (K N : Nat → Int) (w : World) (hE : Els w a len 2 V) (hlen : len ≤ 1000000000000000)
    (hK : ∀ i, i < len → V i 0 = .int .u8 (K i) ∧ 0 ≤ K i ∧ K i ≤ 255) (hN : ∀ i, i < len → V i 1 = .int .i64 (N i)) :
    Calls Try.prog 5 #[.slice a len cap] w fun e w' => e = .returned (.bool true) ∧ But (fun _ => False) w w' := by
  by_cases hbig : 200 < len
  · go_enter Try.func5, Try.ntmps5
    go_wp2_with fail
    refine (alive_any _).mono ?_
    rintro e w1 ⟨rfl, g1⟩
    go_wp2_with fail
    go_ret
    exact ⟨rfl, g1⟩
  go_enter Try.func5, Try.ntmps5
  go_wp2_with fail
  refine (new_any _).mono ?_
  rintro e w1 ⟨b, S1, rfl, q1, n1, g1⟩
  have T1 := Lib.hid (two_new (one_new q1 n1 g1))
  clear q1 n1 g1
  go_wp2_with fail
  go_loopg [4, 5] len (fun k u i1 wr => ∃ (j : Nat) (ks m : List Int) (ma : Option Addr) (mc : Nat), j + k = len ∧ i1 = .int .i64 j ∧ u = .slice ma m.length mc ∧ Two b ks m ma mc w wr ∧ Rel ks m)
  case atStart => exact ⟨0, _, _, _, _, by omega, rfl, rfl, T1.out, Rel.nil⟩
  case round =>
    obtain ⟨j, ks, m, ma, mc, hj, rfl, rfl, hB, hr⟩ := hrel
    clear T1
    have HR := Lib.hid hr
    have HB := Lib.hid hB
    have hs := hr.small
    have hl := hr.len
    have hml : m.length ≤ 192 := by omega
    have hk6 : ks.length ≤ 1000000 := by omega
    clear hB hr hs hl
    by_cases hlt : j < len
    · obtain ⟨xb, xoff, rfl, hxb, hxc⟩ := hE.at_ j hlt
      have HC := Lib.hid (show ∀ w', But (fun _ => False) w w' → (w'.cell? ⟨xb, xoff + (j * 2), none⟩ = some (.int .u8 (K j)) ∧ w'.cell? ⟨xb, xoff + (j * 2) + 1, none⟩ = some (.int .i64 (N j))) from fun w' h => by
        have cc : ∀ i, w'.cell? ⟨xb, i, none⟩ = w.cell? ⟨xb, i, none⟩ := fun i => World.cell?_of_block (w := w) (h.block xb hxb (fun q => q))
        refine ⟨?_, ?_⟩
        · rw [cc, ← (hK j hlt).1, ← hxc 0 (by omega)]; rfl
        · rw [cc, ← hN j hlt, ← hxc 1 (by omega)]; rfl)
      obtain ⟨k0, k1⟩ := HC.out _ HB.out.but
      have bk := (hK j hlt).2
      clear hxc
      by_cases hk : K j % 3 = 2
      · go_wp2_with fail
        refine (t_drop HB.out).mono ?_
        rintro e w4 ⟨rfl, h4⟩
        have B4 := Lib.hid h4
        obtain ⟨k2, k3⟩ := HC.out _ h4.but
        clear h4
        go_wp2_with fail
        refine (t_rdrop B4.out HR.out).mono ?_
        rintro e w5 ⟨a5, c5, rfl, h5⟩
        have R5 := Lib.hid (rel_drop HR.out (N j))
        have B5 := Lib.hid h5
        clear h5
        have hsm := R5.out.small
        have hln := R5.out.len
        have hml2 : (rdropTo m (N j)).length ≤ 192 := by omega
        clear hsm hln
        generalize dropTo ks (N j) = ks2 at *
        generalize rdropTo m (N j) = m2 at *
        generalize dropT ks (N j) = er at *
        go_wp2_with fail
        refine (t_all B5.out R5.out).mono ?_
        rintro e w6 ⟨a6, c6, rfl, r6, h6⟩
        have B6 := Lib.hid h6
        have R6 := Lib.hid r6
        clear h6 r6
        go_wp2_with fail
        refine (t_ints B6.out R5.out R6.out).mono ?_
        rintro e w7 ⟨rfl, h7⟩
        have B7 := Lib.hid h7
        obtain ⟨k4, k5⟩ := HC.out _ h7.but
        clear h7
        go_wp2_with fail
        go_quiet ((first | (go_at_call 42; exact quiet_same (t_len (B7.out.same ((But.refl _ _).drewN _)) R5.out)) | (go_at_call 43; exact quiet_same (t_has (B7.out.same ((But.refl _ _).drewN _)))) | (go_at_call 44; exact quiet_same (t_rhas (B7.out.same ((But.refl _ _).drewN _)) R5.out))))
        go_wp2_with fail
        go_roundg (len - (j + 1))
        case measure => omega
        case rel => exact ⟨j + 1, _, _, _, _, by omega, by go_num, rfl, B7.out.same ((But.refl _ _).drewN _), R5.out⟩
      · go_wp2_with fail
        refine (t_add HB.out hk6).mono ?_
        rintro e w4 ⟨rfl, h4⟩
        have B4 := Lib.hid h4
        obtain ⟨k2, k3⟩ := HC.out _ h4.but
        clear h4
        go_wp2_with fail
        refine (t_radd B4.out HR.out).mono ?_
        rintro e w5 ⟨a5, c5, rfl, h5⟩
        have R5 := Lib.hid (rel_add HR.out (N j))
        have B5 := Lib.hid h5
        clear h5
        have hsm := R5.out.small
        have hln := R5.out.len
        have hml2 : (raddTo m (N j)).length ≤ 192 := by omega
        clear hsm hln
        generalize addTo ks (N j) = ks2 at *
        generalize raddTo m (N j) = m2 at *
        generalize addT ks (N j) = er at *
        obtain ⟨ep, eq⟩ := er
        go_wp2_with fail
        refine (t_all B5.out R5.out).mono ?_
        rintro e w6 ⟨a6, c6, rfl, r6, h6⟩
        have B6 := Lib.hid h6
        have R6 := Lib.hid r6
        clear h6 r6
        go_wp2_with fail
        refine (t_ints B6.out R5.out R6.out).mono ?_
        rintro e w7 ⟨rfl, h7⟩
        have B7 := Lib.hid h7
        obtain ⟨k4, k5⟩ := HC.out _ h7.but
        clear h7
        go_wp2_with fail
        go_quiet ((first | (go_at_call 42; exact quiet_same (t_len (B7.out.same ((But.refl _ _).drewN _)) R5.out)) | (go_at_call 43; exact quiet_same (t_has (B7.out.same ((But.refl _ _).drewN _)))) | (go_at_call 44; exact quiet_same (t_rhas (B7.out.same ((But.refl _ _).drewN _)) R5.out))))
        go_wp2_with fail
        go_roundg (len - (j + 1))
        case measure => omega
        case rel => exact ⟨j + 1, _, _, _, _, by omega, by go_num, rfl, B7.out.same ((But.refl _ _).drewN _), R5.out⟩
    · go_wp2_with fail
      refine (add_nil 1 _).mono ?_
      rintro e wa ⟨rfl, rfl⟩
      go_wp2_with fail
      refine (alive_any _).mono ?_
      rintro e wb ⟨rfl, gb⟩
      go_wp2_with fail
      refine (drop_nil 1 _).mono ?_
      rintro e wa ⟨rfl, rfl⟩
      go_wp2_with fail
      refine (has_nil 1 _).mono ?_
      rintro e wa ⟨rfl, rfl⟩
      go_wp2_with fail
      refine (all_nil _).mono ?_
      rintro e wa ⟨rfl, rfl⟩
      go_wp2_with fail
      refine (len_nil _).mono ?_
      rintro e wa ⟨rfl, rfl⟩
      go_wp2_with fail
      go_ret
      exact ⟨rfl, HB.out.but.trans gb⟩

theorem plays_law (W : World) (a : Option Addr) (len cap : Nat) (V : Nat → Nat → Value) (hE : Els W a len 2 V)
    (hf : ∀ i, i < len → All2 [.i .u8, .i .i64] ((List.range 2).map (V i))) (hz : len * 16 ≤ 140737488351232) (hm : len ≤ cap ∧ cap ≤ maxLen) :
    Calls Try.prog 5 #[.slice a len cap] W fun e w' => e = .returned (.bool true) ∧ But (fun _ => False) W w' := by
  refine plays_any a len cap V (fun i => intOf (V i 0)) (fun i => intOf (V i 1)) W hE (by omega) (fun i hi => ?_) (fun i hi => ?_)
  all_goals obtain ⟨f1, f2, -⟩ := hf i hi
  · exact ⟨(CK.fits_i f1).1, bounds_u8 (CK.fits_i f1).2⟩
  · exact (CK.fits_i f2).1

end Roots
end Go.Proofs.Ytmpnlpheeoadkaa
