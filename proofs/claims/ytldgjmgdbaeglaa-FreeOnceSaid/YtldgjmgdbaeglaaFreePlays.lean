/- The law FreePlays of layer 6, walked: it answers true. -/
import Derived.Test.YtldgjmgdbaeglaaFreeBoth
set_option linter.unusedVariables false
set_option linter.unusedSimpArgs false
namespace Go.Proofs.Ytldgjmgdbaeglaa
open Go.RowKit Go.ChangeShapes Go.WideShapes

namespace Free

/-- The list alone, in memory since w0. -/
structure One (b : Nat) (f : Fr) (w0 w : World) : Prop where
  out : ∃ S, Fob b f w S ∧ (∀ k, S k → w0.heap.size ≤ k)
  but : But (fun _ => False) w0 w
  inv : Inv f ∧ ∃ r, Rel f r
theorem o_take {b : Nat} {f f' : Fr} {w0 w : World} {x p q : Int} (h : One b f w0 w) (e1 : take f x = (f', p, q)) : Calls Try.prog 17 #[.pointer (some ⟨b, 0, none⟩), .int .i64 x] w fun e w' => e = .returned (.tuple #[.int .i64 p, .int .i64 q]) ∧ One b f' w0 w' := by
  obtain ⟨S, h1, h4⟩ := h.out
  obtain ⟨hI, r, hr⟩ := h.inv
  have hz := h.but.size
  have e2 := rel_take hr hI x
  rw [e1] at e2
  refine (take_any b f x w S h1 hI).mono fun e w' ⟨he, S', a1, a2, a3⟩ => ?_
  rw [e1] at he a1
  exact ⟨he, ⟨S', a1, fun k hk => by rcases a3 k hk with q | q; exact h4 k q; omega⟩, h.but.trans' a2 (fun k hk => .inr (h4 k hk)), e2.2.2, _, e2.2.1⟩
theorem o_give {b : Nat} {f f' : Fr} {w0 w : World} {x q : Int} {p : Bool} (h : One b f w0 w) (hx : -9223372036854775808 ≤ x ∧ x ≤ 9223372036854775807) (e1 : give f x = (f', p, q)) : Calls Try.prog 15 #[.pointer (some ⟨b, 0, none⟩), .int .i64 x] w fun e w' => e = .returned (.tuple #[.bool p, .int .i64 q]) ∧ One b f' w0 w' := by
  obtain ⟨S, h1, h4⟩ := h.out
  obtain ⟨hI, r, hr⟩ := h.inv
  have hz := h.but.size
  have e2 := rel_give hr hI x
  rw [e1] at e2
  refine (give_any b f x w S h1 hI hx).mono fun e w' ⟨he, S', a1, a2, a3⟩ => ?_
  rw [e1] at he a1
  exact ⟨he, ⟨S', a1, fun k hk => by rcases a3 k hk with q | q; exact h4 k q; omega⟩, h.but.trans' a2 (fun k hk => .inr (h4 k hk)), e2.2.2, _, e2.2.1⟩
theorem o_gen {b : Nat} {f : Fr} {w0 w : World} {x : Int} {p : Int} (h : One b f w0 w) (e1 : gen f x = p) : Calls Try.prog 19 #[.pointer (some ⟨b, 0, none⟩), .int .i64 x] w fun e w' => e = .returned (.int .i64 p) ∧ w = w' := by
  obtain ⟨S, h1, h4⟩ := h.out
  rw [← e1]
  exact gen_any b f x w S h1 h.inv.1
theorem o_taken {b : Nat} {f : Fr} {w0 w : World} {x : Int} {p : Bool} (h : One b f w0 w) (e1 : taken f x = p) : Calls Try.prog 21 #[.pointer (some ⟨b, 0, none⟩), .int .i64 x] w fun e w' => e = .returned (.bool p) ∧ w = w' := by
  obtain ⟨S, h1, h4⟩ := h.out
  rw [← e1]
  exact taken_any b f x w S h1 h.inv.1
theorem o_free {b : Nat} {f : Fr} {w0 w : World} {x : Int} {p : Int} (h : One b f w0 w) (e1 : free f x = p) : Calls Try.prog 23 #[.pointer (some ⟨b, 0, none⟩), .int .i64 x] w fun e w' => e = .returned (.int .i64 p) ∧ w = w' := by
  obtain ⟨S, h1, h4⟩ := h.out
  rw [← e1]
  exact free_any b f x w S h1
theorem o_retired {b : Nat} {f : Fr} {w0 w : World} {x : Int} {p : Int} (h : One b f w0 w) (e1 : retired f x = p) : Calls Try.prog 25 #[.pointer (some ⟨b, 0, none⟩), .int .i64 x] w fun e w' => e = .returned (.int .i64 p) ∧ w = w' := by
  obtain ⟨S, h1, h4⟩ := h.out
  rw [← e1]
  exact retired_any b f x w S h1

def s0 : Conf.Sh := ⟨2, 1, 0, 0, 4294967293⟩
def a0 : Fr := initTo s0 3 3
def a1 : Fr := (take a0 0).1
def a2 : Fr := (take a1 0).1
def a3 : Fr := (take a2 0).1
def a4 : Fr := (give a3 0).1
def a5 : Fr := (take a4 0).1
def a6 : Fr := (give a5 0).1
def a7 : Fr := (give a6 0).1
def a8 : Fr := (give a7 3).1
set_option maxHeartbeats 8000000 in
set_option maxRecDepth 100000 in
theorem alive_any (w : World) : Calls Try.prog 11 #[] w fun e w' => e = .returned (.bool true) ∧ But (fun _ => False) w w' := by
  go_enter Try.func11, Try.ntmps11
  go_wp2_with fail
  refine (new_yes s0 _ (by decide)).mono ?_
  rintro e w1 ⟨b, S, rfl, h1, g1, hl⟩
  have O0 : One b a0 w w1 := ⟨⟨S, h1, hl⟩, g1, (rel_init (s := s0) (m := 3) (by decide) (by decide)).2, _, (rel_init (s := s0) (m := 3) (by decide) (by decide)).1⟩
  clear h1 g1 hl
  go_wp2_with fail
  refine (o_take O0 (show take a0 0 = (a1, (0 : Int), (0 : Int)) from Prod.ext rfl (by decide +kernel))).mono ?_
  rintro e w2 ⟨rfl, O1⟩
  go_wp2_with fail
  refine (o_take O1 (show take a1 0 = (a2, (1 : Int), (0 : Int)) from Prod.ext rfl (by decide +kernel))).mono ?_
  rintro e w3 ⟨rfl, O2⟩
  go_wp2_with fail
  refine (o_take O2 (show take a2 0 = (a3, (0 : Int), (8 : Int)) from Prod.ext rfl (by decide +kernel))).mono ?_
  rintro e w4 ⟨rfl, O3⟩
  go_wp2_with fail
  refine (o_give O3 (by omega) (show give a3 0 = (a4, false, (0 : Int)) from Prod.ext rfl (by decide +kernel))).mono ?_
  rintro e w5 ⟨rfl, O4⟩
  go_wp2_with fail
  refine (o_take O4 (show take a4 0 = (a5, (0 : Int), (0 : Int)) from Prod.ext rfl (by decide +kernel))).mono ?_
  rintro e w6 ⟨rfl, O5⟩
  go_wp2_with fail
  refine (o_give O5 (by omega) (show give a5 0 = (a6, true, (0 : Int)) from Prod.ext rfl (by decide +kernel))).mono ?_
  rintro e w7 ⟨rfl, O6⟩
  go_wp2_with fail
  refine (o_give O6 (by omega) (show give a6 0 = (a7, false, (9 : Int)) from Prod.ext rfl (by decide +kernel))).mono ?_
  rintro e w8 ⟨rfl, O7⟩
  go_wp2_with fail
  refine (o_give O7 (by omega) (show give a7 3 = (a8, false, (1 : Int)) from Prod.ext rfl (by decide +kernel))).mono ?_
  rintro e w9 ⟨rfl, O8⟩
  go_wp2_with fail
  refine (o_gen O8 (show gen a8 0 = 4294967295 by decide +kernel)).mono ?_
  rintro e w' ⟨rfl, rfl⟩
  go_wp2_with fail
  refine (o_gen O8 (show gen a8 1 = 4294967293 by decide +kernel)).mono ?_
  rintro e w' ⟨rfl, rfl⟩
  go_wp2_with fail
  refine (o_retired O8 (show retired a8 0 = 1 by decide +kernel)).mono ?_
  rintro e w' ⟨rfl, rfl⟩
  go_wp2_with fail
  refine (o_free O8 (show free a8 0 = 0 by decide +kernel)).mono ?_
  rintro e w' ⟨rfl, rfl⟩
  go_wp2_with fail
  refine (o_free O8 (show free a8 1 = 1 by decide +kernel)).mono ?_
  rintro e w' ⟨rfl, rfl⟩
  go_wp2_with fail
  refine (o_taken O8 (show taken a8 1 = true by decide +kernel)).mono ?_
  rintro e w' ⟨rfl, rfl⟩
  go_wp2_with fail
  go_ret
  exact ⟨rfl, O8.but⟩

set_option maxHeartbeats 8000000 in
set_option maxRecDepth 100000 in
theorem plays_any (s : Conf.Sh) (a : Option Addr) (len cap : Nat) (V : Nat → Nat → Value) (K N : Nat → Int) (w : World) (hE : Els w a len 2 V) (hlen : len ≤ 1000000000000000)
    (hK : ∀ i, i < len → V i 0 = .int .u8 (K i) ∧ 0 ≤ K i ∧ K i ≤ 255) (hN : ∀ i, i < len → V i 1 = .int .i64 (N i) ∧ -9223372036854775808 ≤ N i ∧ N i ≤ 9223372036854775807) :
    Calls Try.prog 3 #[.agg (Conf.sh s), .slice a len cap] w fun e w' => e = .returned (.bool true) ∧ But (fun _ => False) w w' := by
  have hsh := fun w => Conf.ref_share s w
  have hnn := fun w h => new_no s w h
  have hny := fun w h => new_yes s w h
  have hbg := fun w h => begin_any s w h
  have hbx : ∀ (w : World) T, Blk (w.alloc (.cells (Conf.sh s) T)) w.heap.size (Conf.sh s) T := fun w T => Blk.new w _ T
  unfold Conf.sh at hsh hnn hny hbg hbx ⊢
  have HSH := Lib.hid hsh
  have HNN := Lib.hid hnn
  have HNY := Lib.hid hny
  have HBG := Lib.hid hbg
  have HBX := Lib.hid hbx
  clear hsh hnn hny hbg hbx
  by_cases hbig : 100 < len
  · go_enter Try.func3, Try.ntmps3
    go_wp2_with fail
    refine (alive_any _).mono ?_
    rintro e w1 ⟨rfl, g1⟩
    go_wp2_with fail
    go_ret
    exact ⟨rfl, ((But.refl _ _).alloc _).trans g1⟩
  cases hok : Conf.ok s with
  | false =>
    have HO := Lib.hid hok
    clear hok
    go_enter Try.func3, Try.ntmps3
    go_wp2_with fail
    refine (HNN.out _ HO.out).mono ?_
    rintro e w1 ⟨rfl, g1⟩
    have X1 := (HBX.out w 24).but g1 (fun q => q)
    have k0 : w1.cell? ⟨w.heap.size, 0, none⟩ = some (.int .i64 s.c0) := X1.cell 0
    have k1 : w1.cell? ⟨w.heap.size, 1, none⟩ = some (.int .i64 s.c1) := X1.cell 1
    have k2 : w1.cell? ⟨w.heap.size, 2, none⟩ = some (.int .i64 s.c2) := X1.cell 2
    have k3 : w1.cell? ⟨w.heap.size, 3, none⟩ = some (.int .i64 s.q) := X1.cell 3
    have k4 : w1.cell? ⟨w.heap.size, 4, none⟩ = some (.int .i64 s.st) := X1.cell 4
    clear X1
    go_wp2_with fail
    refine (HSH.out _).mono ?_
    rintro e w2 ⟨rfl, g2⟩
    rw [HO.out]
    go_wp2_with fail
    refine (alive_any _).mono ?_
    rintro e w3 ⟨rfl, g3⟩
    go_wp2_with fail
    go_ret
    exact ⟨rfl, ((((But.refl _ w).alloc _).trans g1).trans g2).trans g3⟩
  | true =>
    have HO := Lib.hid hok
    clear hok
    go_enter Try.func3, Try.ntmps3
    go_wp2_with fail
    refine (HNY.out _ HO.out).mono ?_
    rintro e w1 ⟨b, S, rfl, h1, g1, hl1⟩
    have X1 := (HBX.out w 24).but g1 (fun q => q)
    have k0 : w1.cell? ⟨w.heap.size, 0, none⟩ = some (.int .i64 s.c0) := X1.cell 0
    have k1 : w1.cell? ⟨w.heap.size, 1, none⟩ = some (.int .i64 s.c1) := X1.cell 1
    have k2 : w1.cell? ⟨w.heap.size, 2, none⟩ = some (.int .i64 s.c2) := X1.cell 2
    have k3 : w1.cell? ⟨w.heap.size, 3, none⟩ = some (.int .i64 s.q) := X1.cell 3
    have k4 : w1.cell? ⟨w.heap.size, 4, none⟩ = some (.int .i64 s.st) := X1.cell 4
    have G1 := Lib.hid (((But.refl (fun _ => False) w).alloc _).trans g1)
    have X1 := Lib.hid X1
    have H1 := Lib.hid h1
    have HL1 := Lib.hid hl1
    clear h1 g1 hl1
    go_wp2_with fail
    refine (HSH.out _).mono ?_
    rintro e w2 ⟨rfl, g2⟩
    rw [HO.out]
    have X2 := (X1.out).but g2 (fun q => q)
    clear k0 k1 k2 k3 k4
    have k0 : w2.cell? ⟨w.heap.size, 0, none⟩ = some (.int .i64 s.c0) := X2.cell 0
    have k1 : w2.cell? ⟨w.heap.size, 1, none⟩ = some (.int .i64 s.c1) := X2.cell 1
    have k2 : w2.cell? ⟨w.heap.size, 2, none⟩ = some (.int .i64 s.c2) := X2.cell 2
    have k3 : w2.cell? ⟨w.heap.size, 3, none⟩ = some (.int .i64 s.q) := X2.cell 3
    have k4 : w2.cell? ⟨w.heap.size, 4, none⟩ = some (.int .i64 s.st) := X2.cell 4
    have H2 := Lib.hid (H1.out.but g2 (fun _ q _ => q))
    have G2 := Lib.hid (G1.out.trans g2)
    clear X2 g2
    go_wp2_with fail
    refine (HBG.out _ HO.out).mono ?_
    rintro e w3 ⟨d, T, rfl, h3, g3, hl3⟩
    have hs2 := G2.out.size
    obtain ⟨m, hm⟩ : ∃ m : Nat, Conf.count s = m := ⟨(Conf.count s).toNat, by have := Conf.count_bd s; omega⟩
    have HB3 := Lib.hid (show Both b d (initTo s m m) (beginTo s m m) w w3 by
      have e1 := H2.out.but g3 (fun _ q _ => q)
      rw [hm, Int.toNat_natCast] at e1 h3
      have s1 := G1.out.size
      refine ⟨⟨S, T, e1, h3, fun k q q' => ?_, fun k hk => ?_, fun k hk => ?_⟩, G2.out.trans g3⟩
      · have a1 := H2.out.lt k q
        have a2 := hl3 k q'
        omega
      · have := HL1.out k hk; simp at this; omega
      · have := hl3 k hk; omega)
    have HR3 := Lib.hid (rel_init HO.out hm)
    clear k0 k1 k2 k3 k4 h3 g3 hl3 hm hs2
    go_wp2_with fail
    go_loopg [9] len (fun k i1 wr => ∃ (j : Nat) (f : Fr) (r : Rf), j + k = len ∧ i1 = .int .i64 j ∧ Both b d f r w wr ∧ Inv f ∧ Rel f r)
    case atStart => exact ⟨0, _, _, by omega, rfl, HB3.out, HR3.out.2, HR3.out.1⟩
    case round =>
      obtain ⟨j, f, r, hj, rfl, hB, hI, hr⟩ := hrel
      clear HB3 HR3
      have HI := Lib.hid hI
      have HR := Lib.hid hr
      have HB := Lib.hid hB
      clear hB hI hr
      by_cases hlt : j < len
      · obtain ⟨xb, xoff, rfl, hxb, hxc⟩ := hE.at_ j hlt
        have HC := Lib.hid (show ∀ w', But (fun _ => False) w w' → (w'.cell? ⟨xb, xoff + (j * 2), none⟩ = some (.int .u8 (K j)) ∧ w'.cell? ⟨xb, xoff + (j * 2) + 1, none⟩ = some (.int .i64 (N j))) from fun w' h => by
          have cc : ∀ i, w'.cell? ⟨xb, i, none⟩ = w.cell? ⟨xb, i, none⟩ := fun i => World.cell?_of_block (w := w) (h.block xb hxb (fun q => q))
          refine ⟨?_, ?_⟩
          · rw [cc, ← (hK j hlt).1, ← hxc 0 (by omega)]; rfl
          · rw [cc, ← (hN j hlt).1, ← hxc 1 (by omega)]; rfl)
        obtain ⟨k0, k1⟩ := HC.out _ HB.out.but
        have bk := (hK j hlt).2
        have bn := (hN j hlt).2
        clear hxc
        by_cases hk : K j % 3 = 2
        ·
          go_wp2_with fail
          refine (b_give HB.out HI.out HR.out (N j) bn).mono ?_
          rintro e w4 ⟨rfl, h4⟩
          have B4 := Lib.hid h4
          clear h4
          go_wp2_with fail
          refine (b_rgive B4.out HI.out HR.out (N j)).mono ?_
          rintro e w5 ⟨rfl, h5⟩
          have B5 := Lib.hid h5
          have E := rel_give HR.out HI.out (N j)
          have I5 := Lib.hid E.2.2
          have R5 := Lib.hid E.2.1
          clear h5 E
          go_wp2_with fail
          refine (b_gen B5.out I5.out R5.out (N j)).mono ?_
          rintro e wa ⟨rfl, rfl⟩
          go_wp2_with fail
          refine (b_rgen B5.out I5.out R5.out (N j)).mono ?_
          rintro e wa ⟨rfl, rfl⟩
          go_wp2_with fail
          refine (b_taken B5.out I5.out R5.out (N j)).mono ?_
          rintro e wa ⟨rfl, rfl⟩
          go_wp2_with fail
          refine (b_rtaken B5.out I5.out R5.out (N j)).mono ?_
          rintro e wa ⟨rfl, rfl⟩
          go_wp2_with fail
          refine (b_free B5.out I5.out R5.out (N j)).mono ?_
          rintro e wa ⟨rfl, rfl⟩
          go_wp2_with fail
          refine (b_rfree B5.out I5.out R5.out (N j)).mono ?_
          rintro e w6 ⟨rfl, h6⟩
          have B6 := Lib.hid h6
          clear h6
          go_wp2_with fail
          refine (b_retired B6.out I5.out R5.out (N j)).mono ?_
          rintro e wa ⟨rfl, rfl⟩
          go_wp2_with fail
          refine (b_rretired B6.out I5.out R5.out (N j)).mono ?_
          rintro e w7 ⟨rfl, h7⟩
          have B7 := Lib.hid h7
          clear h7
          go_wp2_with fail
          go_roundg (len - (j + 1))
          case measure => omega
          case rel => exact ⟨j + 1, _, _, by omega, by go_num, B7.out, I5.out, R5.out⟩
        ·
          go_wp2_with fail
          refine (b_take HB.out HI.out HR.out (N j)).mono ?_
          rintro e w4 ⟨rfl, h4⟩
          have B4 := Lib.hid h4
          clear h4
          go_wp2_with fail
          refine (b_rtake B4.out HI.out HR.out (N j)).mono ?_
          rintro e w5 ⟨rfl, h5⟩
          have B5 := Lib.hid h5
          have E := rel_take HR.out HI.out (N j)
          have I5 := Lib.hid E.2.2
          have R5 := Lib.hid E.2.1
          clear h5 E
          go_wp2_with fail
          refine (b_gen B5.out I5.out R5.out (N j)).mono ?_
          rintro e wa ⟨rfl, rfl⟩
          go_wp2_with fail
          refine (b_rgen B5.out I5.out R5.out (N j)).mono ?_
          rintro e wa ⟨rfl, rfl⟩
          go_wp2_with fail
          refine (b_taken B5.out I5.out R5.out (N j)).mono ?_
          rintro e wa ⟨rfl, rfl⟩
          go_wp2_with fail
          refine (b_rtaken B5.out I5.out R5.out (N j)).mono ?_
          rintro e wa ⟨rfl, rfl⟩
          go_wp2_with fail
          refine (b_free B5.out I5.out R5.out (N j)).mono ?_
          rintro e wa ⟨rfl, rfl⟩
          go_wp2_with fail
          refine (b_rfree B5.out I5.out R5.out (N j)).mono ?_
          rintro e w6 ⟨rfl, h6⟩
          have B6 := Lib.hid h6
          clear h6
          go_wp2_with fail
          refine (b_retired B6.out I5.out R5.out (N j)).mono ?_
          rintro e wa ⟨rfl, rfl⟩
          go_wp2_with fail
          refine (b_rretired B6.out I5.out R5.out (N j)).mono ?_
          rintro e w7 ⟨rfl, h7⟩
          have B7 := Lib.hid h7
          clear h7
          go_wp2_with fail
          go_roundg (len - (j + 1))
          case measure => omega
          case rel => exact ⟨j + 1, _, _, by omega, by go_num, B7.out, I5.out, R5.out⟩
      · go_wp2_with fail
        refine (take_nil 0 _).mono ?_
        rintro e wa ⟨rfl, rfl⟩
        go_wp2_with fail
        refine (give_nil 0 _).mono ?_
        rintro e wa ⟨rfl, rfl⟩
        go_wp2_with fail
        refine (alive_any _).mono ?_
        rintro e wb ⟨rfl, gb⟩
        go_wp2_with fail
        refine (gen_nil 0 _).mono ?_
        rintro e wa ⟨rfl, rfl⟩
        go_wp2_with fail
        refine (free_nil 0 _).mono ?_
        rintro e wa ⟨rfl, rfl⟩
        go_wp2_with fail
        refine (retired_nil 0 _).mono ?_
        rintro e wa ⟨rfl, rfl⟩
        go_wp2_with fail
        refine (taken_nil 0 _).mono ?_
        rintro e wa ⟨rfl, rfl⟩
        go_wp2_with fail
        go_ret
        exact ⟨rfl, HB.out.but.trans gb⟩

theorem plays_law (W : World) (cs : Array Value) (w0 : All2 [.i .i64, .i .i64, .i .i64, .i .i64, .i .i64] cs.toList) (a : Option Addr) (len cap : Nat) (V : Nat → Nat → Value) (hE : Els W a len 2 V)
    (hf : ∀ i, i < len → All2 [.i .u8, .i .i64] ((List.range 2).map (V i))) (hz : len * 16 ≤ 140737488351232) (hm : len ≤ cap ∧ cap ≤ maxLen) :
    Calls Try.prog 3 #[.agg cs, .slice a len cap] W fun e w' => e = .returned (.bool true) ∧ But (fun _ => False) W w' := by
  obtain ⟨x0, l0, e0, h0, g0⟩ := all2_cons w0
  obtain ⟨x1, l1, e1, h1, g1⟩ := all2_cons g0
  obtain ⟨x2, l2, e2, h2, g2⟩ := all2_cons g1
  obtain ⟨x3, l3, e3, h3, g3⟩ := all2_cons g2
  obtain ⟨x4, l4, e4, h4, g4⟩ := all2_cons g3
  have e5 := all2_nil g4
  obtain ⟨n0, rfl, -⟩ := h0
  obtain ⟨n1, rfl, -⟩ := h1
  obtain ⟨n2, rfl, -⟩ := h2
  obtain ⟨n3, rfl, -⟩ := h3
  obtain ⟨n4, rfl, -⟩ := h4
  obtain rfl : cs = Conf.sh ⟨n0, n1, n2, n3, n4⟩ := Array.ext' (by rw [e0, e1, e2, e3, e4, e5]; rfl)
  refine plays_any _ a len cap V (fun i => intOf (V i 0)) (fun i => intOf (V i 1)) W hE (by omega) (fun i hi => ?_) (fun i hi => ?_)
  all_goals obtain ⟨f1, f2, -⟩ := hf i hi
  · exact ⟨(CK.fits_i f1).1, bounds_u8 (CK.fits_i f1).2⟩
  · exact ⟨(CK.fits_i f2).1, bounds_i64 (CK.fits_i f2).2⟩

end Free
end Go.Proofs.Ytldgjmgdbaeglaa
