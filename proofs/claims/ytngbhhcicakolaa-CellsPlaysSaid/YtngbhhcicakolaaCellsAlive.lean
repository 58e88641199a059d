/- The live question of layer 7 (cells), walked: it answers true. -/
import Derived.Test.YtngbhhcicakolaaCellsOne
import Derived.Test.YtngbhhcicakolaaArenaRef
set_option linter.unusedVariables false
set_option linter.unusedSimpArgs false
namespace Go.Proofs.Ytngbhhcicakolaa
open Go.RowKit Go.Deep

namespace Cells
open Free (Fr genAt takenAt)
open Arena (nth zeroed)

theorem One.addBlk {L : List Pc} {b fb ab ca base : Nat} {l0 : List Int} {c : Cs} {t0 : Int} {w0 w : World} (h : One L b fb ab ca base l0 c t0 w0 w) (cs : Array Value) (T : TypeId) : One (Pc.blk w.heap.size cs T :: L) b fb ab ca base l0 c t0 w0 (w.alloc (.cells cs T)) := by
  obtain ⟨S, h⟩ := h.ex
  have h1 := h.add (q := Pc.blk w.heap.size cs T) (Blk.new w cs T) ((But.refl _ w).alloc _) (fun k hk => by
    have : k = w.heap.size := hk
    omega)
  exact ⟨S, h1.swap⟩
/-- The word at a place, read by the law. -/
theorem o_word {L : List Pc} {b fb ab ca base : Nat} {l0 : List Int} {c : Cs} {t0 : Int} {w0 w : World} (h : One L b fb ab ca base l0 c t0 w0 w) (ht : t0 ≤ 900000000000) {i : Nat} {x : Int} (hi : i < l0.length) (hw : ∀ l, Lay base l0 c l → nth l i = x) :
    Calls Try.prog 30 #[.pointer (some ⟨ab, 0, none⟩), .int .i64 i] w fun r w' => r = .returned (.tuple #[.int .u64 x, .int .i64 0]) ∧ One L b fb ab ca base l0 c (t0 + 1) w0 w' := by
  obtain ⟨l, t, Sf, h1, h2, h3⟩ := h.cel
  have hl := h1.lay.len
  refine o_read h1 h2 h3 ht ?_
  unfold Arena.rd
  rw [there_in (by omega), if_pos rfl, Int.toNat_natCast, hw l h1.lay]
theorem one_new {b fb ab ca base : Nat} {l0 l : List Int} {c : Cs} {t t0 : Int} {w0 w w' : World} {S : Nat → Prop} (h : Cel b fb ab ca base l0 c l t w' S) (ht : t ≤ t0) (hb : w0.heap.size ≤ b) (hS : ∀ k, S k → w0.heap.size ≤ k) (ha : w0.heap.size ≤ ab ∧ w0.heap.size ≤ ca) (g0 : But (fun _ => False) w0 w) (g : But (fun k => k = ab ∨ k = ca) w w') : One [] b fb ab ca base l0 c t0 w0 w' := by
  refine ⟨foot b ab ca S, ⟨fun i hi => ?_, fun i j hi hj ne => ?_, fun i hi k hk => ?_, g0.trans' g (fun k hk => by rcases hk with rfl | rfl; exact .inr ha.1; exact .inr ha.2)⟩⟩
  · obtain rfl : i = 0 := by simpa using hi
    exact ⟨l, t, S, h, ht, rfl⟩
  · simp at hi hj; omega
  · obtain rfl : i = 0 := by simpa using hi
    rcases hk with rfl | rfl | rfl | q
    · exact hb
    · exact ha.1
    · exact ha.2
    · exact hS k q

def s0 : Conf.Sh := ⟨1, 1, 1, 0, 9⟩
def a0 : Cs := begin_ s0 3
def a1 : Cs := (alloc a0 1).1
def a2 : Cs := (set a1 1 1 (1, 7)).1
def a3 : Cs := (setCount a2 1 2).1
def a4 : Cs := (free a3 1).1
def a5 : Cs := (alloc a4 1).1
theorem w5 (c : Cs) (hs : c.f.s = s0) (hn : n c = 3) {x : Int} (hx : headW c 1 = x) {l0 : List Int} (l : List Int) (h : Lay 3 l0 c l) : nth l 5 = x := by
  have := h.hd 1 (by omega)
  rw [hs, hx, show (place s0 ((1 : Nat) : Int)).toNat = 2 by decide +kernel] at this
  exact this
theorem w7 (c : Cs) (hs : c.f.s = s0) (hn : n c = 3) {x : Int} (hx : slotW c 1 1 = x) {l0 : List Int} (l : List Int) (h : Lay 3 l0 c l) : nth l 7 = x := by
  have := h.sl 1 1 (by omega) (by rw [hs]; decide +kernel)
  rw [hs, hx, show (place s0 ((1 : Nat) : Int)).toNat = 2 by decide +kernel] at this
  exact this

set_option maxHeartbeats 8000000 in
set_option maxRecDepth 100000 in
theorem alive_any (w : World) : Calls Try.prog 5 #[] w fun e w' => e = .returned (.bool true) ∧ But (fun _ => False) w w' := by
  go_enter Try.func5, Try.ntmps5
  go_wp2_with fail
  refine (Arena.new_any 20 _ (by decide)).mono ?_
  rintro r w1 ⟨rfl, ha, g1⟩
  obtain ⟨ab, hab⟩ : ∃ ab, ab = w.heap.size + 1 := ⟨_, rfl⟩
  obtain ⟨ca, hca⟩ : ∃ ca, ca = w.heap.size := ⟨_, rfl⟩
  rw [← hab, ← hca] at ha
  rw [← hab]
  have HA := Lib.hid ha
  have HAB := Lib.hid (And.intro hab hca)
  clear ha hab hca
  go_wp2_with fail
  have hn := new_yes ab ca 3 (List.replicate 20 0) 0 s0 w1 HA.out (by decide +kernel) (by decide +kernel) (by decide)
  change Calls Try.prog 7 #[.pointer (some ⟨ab, 0, none⟩), .int .i64 3, .agg #[.int .i64 1, .int .i64 1, .int .i64 1, .int .i64 0, .int .i64 9]] w1 _ at hn
  refine hn.mono ?_
  clear hn
  rintro r w2 ⟨b, fb, S, l', t', rfl, hc, ht1, ht2, hb, hS, g2⟩
  have z1 := g1.size
  obtain ⟨hab, hca⟩ := HAB.out
  rw [show (Conf.count s0).toNat = 3 by decide] at hc
  have hc' : Cel b fb ab ca 3 (List.replicate 20 0) a0 l' t' w2 S := hc
  clear hc
  have O2 := one_new (w0 := w) (t0 := 1200) hc' (by omega) (by omega) (fun k hk => by have := hS k hk; omega) ⟨by omega, by omega⟩ g1 g2
  clear hc' ht1 ht2 hb hS g2 g1 hab hca z1
  go_wp2_with fail
  refine (o_alloc O2 (by decide) (by decide) (show alloc a0 1 = (a1, 1, 0) from Prod.ext rfl (by decide +kernel))).mono ?_
  rintro r w3 ⟨rfl, O3⟩
  go_wp2_with fail
  refine (o_set O3 (by decide) (by decide) (by decide) (by decide) (show set a1 1 1 (1, 7) = (a2, 0) from Prod.ext rfl (by decide +kernel))).mono ?_
  rintro r w4 ⟨rfl, O4⟩
  go_wp2_with fail
  refine (o_setCount O4 (by decide) (by decide) (by decide) (show setCount a2 1 2 = (a3, 0) from Prod.ext rfl (by decide +kernel))).mono ?_
  rintro r w5' ⟨rfl, O5⟩
  go_wp2_with fail
  refine (o_word (i := 5) (x := 40802189314) O5 (by decide) (by decide) (fun l h => w5 a3 (by rfl) (by decide +kernel) (by decide +kernel) l h)).mono ?_
  rintro r w6 ⟨rfl, O6⟩
  go_wp2_with fail
  refine (o_word (i := 7) (x := 15) O6 (by decide) (by decide) (fun l h => w7 a3 (by rfl) (by decide +kernel) (by decide +kernel) l h)).mono ?_
  rintro r w7' ⟨rfl, O7⟩
  go_wp2_with fail
  refine (o_header O7 (by decide) (by decide) (by decide) (show header a3 1 = ((9, 2, true), 0) by decide +kernel)).mono ?_
  rintro r w8 ⟨rfl, O8⟩
  have P8 := O8.addBlk #[.int .i64 9, .int .i64 2, .bool true] 47
  clear O8
  go_wp2_with fail
  obtain ⟨hb, hhb⟩ : ∃ hb, hb = w8.heap.size := ⟨_, rfl⟩
  rw [← hhb] at P8 ⊢
  have HHB := Lib.hid hhb
  clear hhb
  refine (o_free P8 (by decide) (by decide) (by decide) (show free a3 1 = (a4, false, 0) from Prod.ext rfl (by decide +kernel))).mono ?_
  rintro r w9 ⟨rfl, O9⟩
  clear P8
  go_wp2_with fail
  refine (o_word (i := 5) (x := 42949672960) O9 (by decide) (by decide) (fun l h => w5 a4 (by decide +kernel) (by decide +kernel) (by decide +kernel) l h)).mono ?_
  rintro r w10 ⟨rfl, O10⟩
  go_wp2_with fail
  refine (o_word (i := 7) (x := 0) O10 (by decide) (by decide) (fun l h => w7 a4 (by decide +kernel) (by decide +kernel) (by decide +kernel) l h)).mono ?_
  rintro r w11 ⟨rfl, O11⟩
  go_wp2_with fail
  refine (o_alloc O11 (by decide) (by decide) (show alloc a4 1 = (a5, 1, 0) from Prod.ext rfl (by decide +kernel))).mono ?_
  rintro r w12 ⟨rfl, O12⟩
  go_wp2_with fail
  refine (o_get (kk := 0) (nn := 0) (e := 0) O12 (by decide) (by decide) (by decide) (by decide +kernel)).mono ?_
  rintro r w13 ⟨rfl, O13⟩
  have P13 := O13.addBlk #[.int .i64 0, .int .u64 0] 43
  clear O2 O3 O4 O5 O6 O7 O9 O10 O11 O12 O13
  go_wp2_with fail
  obtain ⟨vb, hvb⟩ : ∃ vb, vb = w13.heap.size := ⟨_, rfl⟩
  rw [← hvb] at P13 ⊢
  have HVB := Lib.hid hvb
  clear hvb
  obtain ⟨l, t, Sf, q1, q2, q3⟩ := P13.cel
  have hn := new_no ab ca 11 l t s0 _ q1.ar (by decide) (.inr (.inr (.inr (by rw [q1.lay.len]; decide +kernel))))
  change Calls Try.prog 7 #[.pointer (some ⟨ab, 0, none⟩), .int .i64 11, .agg #[.int .i64 1, .int .i64 1, .int .i64 1, .int .i64 0, .int .i64 9]] _ _ at hn
  refine hn.mono ?_
  clear hn q1 q2 q3
  rintro r w14 ⟨rfl, g14⟩
  have O14 := P13.same g14
  clear P13 g14
  go_wp2_with fail
  refine (o_room (p := 0) (q := 0) O14 (by decide +kernel) (by decide +kernel)).mono ?_
  rintro r w15 ⟨rfl, O15, -⟩
  clear O14
  obtain ⟨S15, W15⟩ := O15.ex
  have bv := W15.get 1 rfl
  have bh := W15.get 2 rfl
  change Blk w15 vb _ _ at bv
  change Blk w15 hb _ _ at bh
  have v0 := bv.cell 0
  have v1 := bv.cell 1
  have k0 := bh.cell 0
  have k1 := bh.cell 1
  have k2 := bh.cell 2
  simp at v0 v1 k0 k1 k2
  clear bv bh W15
  go_wp2_with fail
  clear v0 v1 k0 k1 k2
  refine (o_live (m := [1]) O15 (by decide +kernel)).mono ?_
  rintro r w16 ⟨a, cap, o, rfl, hR, -, O16, -⟩
  have hcv := hR.val
  have gg := O16.but
  clear O15 O16 hR
  go_wp2_with fail
  go_ret
  exact ⟨rfl, gg⟩

end Cells
end Go.Proofs.Ytngbhhcicakolaa
