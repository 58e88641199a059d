/- The acts of layer 15's laws (proxy), walked: in the program, and as the document has them. -/
import Derived.Test.YtboajbbnnbnpaaaProxyRef
import Derived.Test.YtboajbbnnbnpaaaProxyStart
set_option linter.unusedVariables false
set_option linter.unusedSimpArgs false
namespace Go.Proofs.Ytboajbbnnbnpaaa
open Go.RowKit

namespace Proxy

theorem Inv.wide {l : List En} (h : Inv l) : ∀ k, k < 8 → -9223372036854775808 ≤ (ent l k).gen ∧ (ent l k).gen ≤ 9223372036854775806 := fun k hk => by have := h.gen k hk; omega
theorem Inv.norm_wide {l : List En} (h : Inv l) : ∀ k, k < 8 → -9223372036854775808 ≤ (ent (l.map norm) k).gen ∧ (ent (l.map norm) k).gen ≤ 9223372036854775806 := fun k hk => by rw [ent_norm, norm_gen]; exact h.wide k hk
theorem Inv.norm_low {l : List En} (h : Inv l) : ∀ k, k < 8 → (ent (l.map norm) k).gen ≤ 4294967295 := fun k hk => by rw [ent_norm, norm_gen]; exact (h.gen k hk).2
theorem But.put3 {S : Nat → Prop} {a w : World} (h : But S a w) {b : Nat} (hb : S b ∨ a.heap.size ≤ b) (o0 o1 o2 : Nat) (u0 u1 u2 : Value) :
    But S a (((w.setCell ⟨b, o0, none⟩ u0).setCell ⟨b, o1, none⟩ u1).setCell ⟨b, o2, none⟩ u2) := ((h.setCell hb _).setCell hb _).setCell hb _
theorem look_but (b : Nat) (l : List En) (i g : Int) (w : World) (h : Tb w b l) : Calls Try.prog 76 #[.pointer (some ⟨b, 0, none⟩), .int .i64 i, .int .i64 g] w fun e w' =>
    e = .returned (.tuple #[.int .i64 (look l i g).1, .int .i64 (look l i g).2.1, .int .i64 (look l i g).2.2]) ∧ Tb w' b l ∧ But (fun k => k = b) w w' :=
  (look_any b l i g w h).mono fun e w' ⟨he, m, hm⟩ => by subst hm; exact ⟨he, h.drewN m, (But.refl _ _).drewN m⟩
/-- What an act tells, as a value. -/
def saidV (x : Int × Int × Int) : Value := .agg #[.int .i64 x.1, .int .i64 x.2.1, .int .i64 x.2.2]

set_option maxHeartbeats 4000000 in
set_option maxRecDepth 100000 in
theorem said_any (b : Nat) (l : List En) (k x y : Int) (w : World) (h : Tb w b l) (hI : Inv l) (hk : 0 ≤ k ∧ k ≤ 255) :
    Calls Try.prog 72 #[.pointer (some ⟨b, 0, none⟩), .agg #[.int .u8 k, .int .i64 x, .int .i64 y]] w fun e w' =>
      e = .returned (saidV (saidP l k x y).2) ∧ Tb w' b (saidP l k x y).1 ∧ But (fun k => k = b) w w' := by
  have H := Lib.hid h
  have HI := Lib.hid hI
  have hlt := h.lt
  have G := fun (w2 : World) => (But.refl (fun k => k = b) w)
  clear h hI
  by_cases h2 : k % 6 = 2
  · have E := Lib.hid (show saidP l k x y = _ by unfold saidP; rw [if_pos h2])
    go_enter Try.func72, Try.ntmps72
    go_wp2_with fail
    have T : Tb _ b l := H.out.but (((But.refl (fun _ => False) w).alloc (.cells #[.int .u8 k, .int .i64 x, .int .i64 y] 102)).alloc (.cells #[.int .i64 0, .int .i64 0, .int .i64 0] 99)) (fun q => q)
    refine (revoke_any b l x _ T).mono ?_
    rintro e w1 ⟨rfl, h1, g1⟩
    clear T
    have T1 := Lib.hid h1
    have q1 : Blk w1 (w.heap.size + 1) #[.int .i64 0, .int .i64 0, .int .i64 0] 99 := Blk.but (by simpa using Blk.new (w.alloc (.cells #[.int .u8 k, .int .i64 x, .int .i64 y] 102)) #[.int .i64 0, .int .i64 0, .int .i64 0] 99) g1 (by omega)
    have j0 := q1.cell 0
    have j1 := q1.cell 1
    have j2 := q1.cell 2
    have i0 := q1.frozen 0
    have i1 := q1.frozen 1
    have i2 := q1.frozen 2
    clear h1 q1
    go_wp2_with fail
    exact bodyPost_ret (v := .agg #[.int .i64 (0), .int .i64 (0), .int .i64 ((revoke l x).2)]) (by simp [results, Try.results72, go_sem, j0, j1, j2]) rfl
      ⟨by rw [E.out]; rfl, by rw [E.out]; exact T1.out.but (But.put3 (But.refl (fun k => k = w.heap.size + 1) _) (by exact .inl rfl) _ _ _ _ _ _) (by omega),
        But.put3 ((((But.refl _ w).alloc _).alloc _).trans' g1 (fun k hk => .inl hk)) (by exact .inr (by omega)) _ _ _ _ _ _⟩
  by_cases h3 : k % 6 = 3
  · have E := Lib.hid (show saidP l k x y = _ by unfold saidP; rw [if_neg h2, if_pos h3])
    go_enter Try.func72, Try.ntmps72
    go_wp2_with fail
    have T : Tb _ b l := H.out.but (((But.refl (fun _ => False) w).alloc (.cells #[.int .u8 k, .int .i64 x, .int .i64 y] 102)).alloc (.cells #[.int .i64 0, .int .i64 0, .int .i64 0] 99)) (fun q => q)
    refine (look_but b l x y _ T).mono ?_
    rintro e w1 ⟨rfl, h1, g1⟩
    clear T
    have T1 := Lib.hid h1
    have q1 : Blk w1 (w.heap.size + 1) #[.int .i64 0, .int .i64 0, .int .i64 0] 99 := Blk.but (by simpa using Blk.new (w.alloc (.cells #[.int .u8 k, .int .i64 x, .int .i64 y] 102)) #[.int .i64 0, .int .i64 0, .int .i64 0] 99) g1 (by omega)
    have j0 := q1.cell 0
    have j1 := q1.cell 1
    have j2 := q1.cell 2
    have i0 := q1.frozen 0
    have i1 := q1.frozen 1
    have i2 := q1.frozen 2
    clear h1 q1
    go_wp2_with fail
    exact bodyPost_ret (v := .agg #[.int .i64 (look l x y).1, .int .i64 (look l x y).2.1, .int .i64 (look l x y).2.2]) (by simp [results, Try.results72, go_sem, j0, j1, j2]) rfl
      ⟨by rw [E.out]; rfl, by rw [E.out]; exact T1.out.but (But.put3 (But.refl (fun k => k = w.heap.size + 1) _) (by exact .inl rfl) _ _ _ _ _ _) (by omega),
        But.put3 ((((But.refl _ w).alloc _).alloc _).trans' g1 (fun k hk => .inl hk)) (by exact .inr (by omega)) _ _ _ _ _ _⟩
  by_cases h4 : k % 6 = 4
  · have E := Lib.hid (show saidP l k x y = _ by unfold saidP; rw [if_neg h2, if_neg h3, if_pos h4])
    go_enter Try.func72, Try.ntmps72
    go_wp2_with fail
    have T : Tb _ b l := H.out.but (((But.refl (fun _ => False) w).alloc (.cells #[.int .u8 k, .int .i64 x, .int .i64 y] 102)).alloc (.cells #[.int .i64 0, .int .i64 0, .int .i64 0] 99)) (fun q => q)
    refine (close_any b l x y _ T HI.out.wide).mono ?_
    rintro e w1 ⟨rfl, h1, g1⟩
    clear T
    have T1 := Lib.hid h1
    have q1 : Blk w1 (w.heap.size + 1) #[.int .i64 0, .int .i64 0, .int .i64 0] 99 := Blk.but (by simpa using Blk.new (w.alloc (.cells #[.int .u8 k, .int .i64 x, .int .i64 y] 102)) #[.int .i64 0, .int .i64 0, .int .i64 0] 99) g1 (by omega)
    have j0 := q1.cell 0
    have j1 := q1.cell 1
    have j2 := q1.cell 2
    have i0 := q1.frozen 0
    have i1 := q1.frozen 1
    have i2 := q1.frozen 2
    clear h1 q1
    go_wp2_with fail
    exact bodyPost_ret (v := .agg #[.int .i64 (0), .int .i64 (0), .int .i64 ((close l x y).2)]) (by simp [results, Try.results72, go_sem, j0, j1, j2]) rfl
      ⟨by rw [E.out]; rfl, by rw [E.out]; exact T1.out.but (But.put3 (But.refl (fun k => k = w.heap.size + 1) _) (by exact .inl rfl) _ _ _ _ _ _) (by omega),
        But.put3 ((((But.refl _ w).alloc _).alloc _).trans' g1 (fun k hk => .inl hk)) (by exact .inr (by omega)) _ _ _ _ _ _⟩
  by_cases h5 : k % 6 = 5
  · have E := Lib.hid (show saidP l k x y = _ by unfold saidP; rw [if_neg h2, if_neg h3, if_neg h4, if_pos h5])
    go_enter Try.func72, Try.ntmps72
    go_wp2_with fail
    have T : Tb _ b l := H.out.but (((But.refl (fun _ => False) w).alloc (.cells #[.int .u8 k, .int .i64 x, .int .i64 y] 102)).alloc (.cells #[.int .i64 0, .int .i64 0, .int .i64 0] 99)) (fun q => q)
    refine (start_any b l y _ T).mono ?_
    rintro e w1 ⟨rfl, h1, g1⟩
    clear T
    have T1 := Lib.hid h1
    have q1 : Blk w1 (w.heap.size + 1) #[.int .i64 0, .int .i64 0, .int .i64 0] 99 := Blk.but (by simpa using Blk.new (w.alloc (.cells #[.int .u8 k, .int .i64 x, .int .i64 y] 102)) #[.int .i64 0, .int .i64 0, .int .i64 0] 99) g1 (by omega)
    have j0 := q1.cell 0
    have j1 := q1.cell 1
    have j2 := q1.cell 2
    have i0 := q1.frozen 0
    have i1 := q1.frozen 1
    have i2 := q1.frozen 2
    clear h1 q1
    go_wp2_with fail
    exact bodyPost_ret (v := .agg #[.int .i64 (0), .int .i64 (0), .int .i64 ((start l y).2)]) (by simp [results, Try.results72, go_sem, j0, j1, j2]) rfl
      ⟨by rw [E.out]; rfl, by rw [E.out]; exact T1.out.but (But.put3 (But.refl (fun k => k = w.heap.size + 1) _) (by exact .inl rfl) _ _ _ _ _ _) (by omega),
        But.put3 ((((But.refl _ w).alloc _).alloc _).trans' g1 (fun k hk => .inl hk)) (by exact .inr (by omega)) _ _ _ _ _ _⟩
  · have E := Lib.hid (show saidP l k x y = _ by unfold saidP; rw [if_neg h2, if_neg h3, if_neg h4, if_neg h5])
    go_enter Try.func72, Try.ntmps72
    go_wp2_with fail
    have T : Tb _ b l := H.out.but (((But.refl (fun _ => False) w).alloc (.cells #[.int .u8 k, .int .i64 x, .int .i64 y] 102)).alloc (.cells #[.int .i64 0, .int .i64 0, .int .i64 0] 99)) (fun q => q)
    refine (grant_any b l x y _ T).mono ?_
    rintro e w1 ⟨rfl, h1, g1⟩
    clear T
    have T1 := Lib.hid h1
    have q1 : Blk w1 (w.heap.size + 1) #[.int .i64 0, .int .i64 0, .int .i64 0] 99 := Blk.but (by simpa using Blk.new (w.alloc (.cells #[.int .u8 k, .int .i64 x, .int .i64 y] 102)) #[.int .i64 0, .int .i64 0, .int .i64 0] 99) g1 (by omega)
    have j0 := q1.cell 0
    have j1 := q1.cell 1
    have j2 := q1.cell 2
    have i0 := q1.frozen 0
    have i1 := q1.frozen 1
    have i2 := q1.frozen 2
    clear h1 q1
    go_wp2_with fail
    exact bodyPost_ret (v := .agg #[.int .i64 ((grant l x y).2.1), .int .i64 (0), .int .i64 ((grant l x y).2.2)]) (by simp [results, Try.results72, go_sem, j0, j1, j2]) rfl
      ⟨by rw [E.out]; rfl, by rw [E.out]; exact T1.out.but (But.put3 (But.refl (fun k => k = w.heap.size + 1) _) (by exact .inl rfl) _ _ _ _ _ _) (by omega),
        But.put3 ((((But.refl _ w).alloc _).alloc _).trans' g1 (fun k hk => .inl hk)) (by exact .inr (by omega)) _ _ _ _ _ _⟩

theorem ref_look_but (c off cap : Nat) (l : List En) (i g : Int) (w : World) (h : Rw w c off cap l) : Calls Try.prog 77 #[.slice (some ⟨c, off, none⟩) 8 cap, .int .i64 i, .int .i64 g] w fun e w' =>
    e = .returned (.tuple #[.int .i64 (look l i g).1, .int .i64 (look l i g).2.1, .int .i64 (look l i g).2.2]) ∧ Rw w' c off cap l ∧ But (fun _ => False) w w' :=
  (ref_look c off cap l i g w h).mono fun e w' ⟨he, m, hm⟩ => by subst hm; exact ⟨he, h.drewN m, (But.refl _ _).drewN m⟩

set_option maxHeartbeats 4000000 in
set_option maxRecDepth 100000 in
theorem want_any (c off cap : Nat) (l : List En) (k x y : Int) (w : World) (h : Rw w c off cap l) (hg : ∀ k, k < 8 → -9223372036854775808 ≤ (ent l k).gen ∧ (ent l k).gen ≤ 9223372036854775806) (hgm : ∀ k, k < 8 → (ent l k).gen ≤ 4294967295) (hk : 0 ≤ k ∧ k ≤ 255) :
    Calls Try.prog 73 #[.slice (some ⟨c, off, none⟩) 8 cap, .agg #[.int .u8 k, .int .i64 x, .int .i64 y]] w (Got (wantP l k x y).1 c (fun v => .tuple #[v, saidV (wantP l k x y).2]) w) := by
  have H := Lib.hid h
  have HG := Lib.hid hg
  have HM := Lib.hid hgm
  have hlt := h.lt
  clear h hg hgm
  by_cases h2 : k % 6 = 2
  · have E := Lib.hid (show wantP l k x y = _ by unfold wantP; rw [if_pos h2])
    go_enter Try.func73, Try.ntmps73
    go_wp2_with fail
    have T : Rw _ c off cap l := H.out.but (((But.refl (fun _ => False) w).alloc (.cells #[.int .u8 k, .int .i64 x, .int .i64 y] 102)).alloc (.cells #[.int .i64 0, .int .i64 0, .int .i64 0] 99)) (fun q => q)
    refine (ref_revoke c off cap l x _ T).mono ?_
    rintro e w1 ⟨c2, off2, cap2, rfl, hR, hB, hN⟩
    have hn : c2 = c ∨ w.heap.size + 2 ≤ c2 := by simpa using hN
    clear hN
    clear T
    have R1 := Lib.hid hR
    have q1 : Blk w1 (w.heap.size + 1) #[.int .i64 0, .int .i64 0, .int .i64 0] 99 := Blk.but (by simpa using Blk.new (w.alloc (.cells #[.int .u8 k, .int .i64 x, .int .i64 y] 102)) #[.int .i64 0, .int .i64 0, .int .i64 0] 99) hB (fun q => q)
    have j0 := q1.cell 0
    have j1 := q1.cell 1
    have j2 := q1.cell 2
    have i0 := q1.frozen 0
    have i1 := q1.frozen 1
    have i2 := q1.frozen 2
    clear hR q1
    go_wp2_with fail
    exact bodyPost_ret (v := .tuple #[.slice (some ⟨c2, off2, none⟩) 8 cap2, .agg #[.int .i64 (0), .int .i64 (0), .int .i64 ((revokeR l x).2)]]) (by simp [results, Try.results73, go_sem, j0, j1, j2]) rfl
      ⟨c2, off2, cap2, by rw [E.out]; rfl, by rw [E.out]; exact R1.out.but (But.put3 (But.refl (fun k => k = w.heap.size + 1) _) (by exact .inl rfl) _ _ _ _ _ _) (by omega),
        But.put3 ((((But.refl _ w).alloc _).alloc _).trans hB) (by exact .inr (by omega)) _ _ _ _ _ _, by omega⟩
  by_cases h3 : k % 6 = 3
  · have E := Lib.hid (show wantP l k x y = _ by unfold wantP; rw [if_neg h2, if_pos h3])
    go_enter Try.func73, Try.ntmps73
    go_wp2_with fail
    have T : Rw _ c off cap l := H.out.but (((But.refl (fun _ => False) w).alloc (.cells #[.int .u8 k, .int .i64 x, .int .i64 y] 102)).alloc (.cells #[.int .i64 0, .int .i64 0, .int .i64 0] 99)) (fun q => q)
    refine (ref_look_but c off cap l x y _ T).mono ?_
    rintro e w1 ⟨rfl, hR, hB⟩
    clear T
    have R1 := Lib.hid hR
    have q1 : Blk w1 (w.heap.size + 1) #[.int .i64 0, .int .i64 0, .int .i64 0] 99 := Blk.but (by simpa using Blk.new (w.alloc (.cells #[.int .u8 k, .int .i64 x, .int .i64 y] 102)) #[.int .i64 0, .int .i64 0, .int .i64 0] 99) hB (fun q => q)
    have j0 := q1.cell 0
    have j1 := q1.cell 1
    have j2 := q1.cell 2
    have i0 := q1.frozen 0
    have i1 := q1.frozen 1
    have i2 := q1.frozen 2
    clear hR q1
    go_wp2_with fail
    exact bodyPost_ret (v := .tuple #[.slice (some ⟨c, off, none⟩) 8 cap, .agg #[.int .i64 ((look l x y).1), .int .i64 ((look l x y).2.1), .int .i64 ((look l x y).2.2)]]) (by simp [results, Try.results73, go_sem, j0, j1, j2]) rfl
      ⟨c, off, cap, by rw [E.out]; rfl, by rw [E.out]; exact R1.out.but (But.put3 (But.refl (fun k => k = w.heap.size + 1) _) (by exact .inl rfl) _ _ _ _ _ _) (by omega),
        But.put3 ((((But.refl _ w).alloc _).alloc _).trans hB) (by exact .inr (by omega)) _ _ _ _ _ _, by omega⟩
  by_cases h4 : k % 6 = 4
  · have E := Lib.hid (show wantP l k x y = _ by unfold wantP; rw [if_neg h2, if_neg h3, if_pos h4])
    go_enter Try.func73, Try.ntmps73
    go_wp2_with fail
    have T : Rw _ c off cap l := H.out.but (((But.refl (fun _ => False) w).alloc (.cells #[.int .u8 k, .int .i64 x, .int .i64 y] 102)).alloc (.cells #[.int .i64 0, .int .i64 0, .int .i64 0] 99)) (fun q => q)
    refine (ref_close c off cap l x y _ T HG.out).mono ?_
    rintro e w1 ⟨c2, off2, cap2, rfl, hR, hB, hN⟩
    have hn : c2 = c ∨ w.heap.size + 2 ≤ c2 := by simpa using hN
    clear hN
    clear T
    have R1 := Lib.hid hR
    have q1 : Blk w1 (w.heap.size + 1) #[.int .i64 0, .int .i64 0, .int .i64 0] 99 := Blk.but (by simpa using Blk.new (w.alloc (.cells #[.int .u8 k, .int .i64 x, .int .i64 y] 102)) #[.int .i64 0, .int .i64 0, .int .i64 0] 99) hB (fun q => q)
    have j0 := q1.cell 0
    have j1 := q1.cell 1
    have j2 := q1.cell 2
    have i0 := q1.frozen 0
    have i1 := q1.frozen 1
    have i2 := q1.frozen 2
    clear hR q1
    go_wp2_with fail
    exact bodyPost_ret (v := .tuple #[.slice (some ⟨c2, off2, none⟩) 8 cap2, .agg #[.int .i64 (0), .int .i64 (0), .int .i64 ((close l x y).2)]]) (by simp [results, Try.results73, go_sem, j0, j1, j2]) rfl
      ⟨c2, off2, cap2, by rw [E.out]; rfl, by rw [E.out]; exact R1.out.but (But.put3 (But.refl (fun k => k = w.heap.size + 1) _) (by exact .inl rfl) _ _ _ _ _ _) (by omega),
        But.put3 ((((But.refl _ w).alloc _).alloc _).trans hB) (by exact .inr (by omega)) _ _ _ _ _ _, by omega⟩
  by_cases h5 : k % 6 = 5
  · have E := Lib.hid (show wantP l k x y = _ by unfold wantP; rw [if_neg h2, if_neg h3, if_neg h4, if_pos h5])
    go_enter Try.func73, Try.ntmps73
    go_wp2_with fail
    have T : Rw _ c off cap l := H.out.but (((But.refl (fun _ => False) w).alloc (.cells #[.int .u8 k, .int .i64 x, .int .i64 y] 102)).alloc (.cells #[.int .i64 0, .int .i64 0, .int .i64 0] 99)) (fun q => q)
    refine (ref_start c off cap l y _ T).mono ?_
    rintro e w1 ⟨c2, off2, cap2, rfl, hR, hB, hN⟩
    have hn : c2 = c ∨ w.heap.size + 2 ≤ c2 := by simpa using hN
    clear hN
    clear T
    have R1 := Lib.hid hR
    have q1 : Blk w1 (w.heap.size + 1) #[.int .i64 0, .int .i64 0, .int .i64 0] 99 := Blk.but (by simpa using Blk.new (w.alloc (.cells #[.int .u8 k, .int .i64 x, .int .i64 y] 102)) #[.int .i64 0, .int .i64 0, .int .i64 0] 99) hB (fun q => q)
    have j0 := q1.cell 0
    have j1 := q1.cell 1
    have j2 := q1.cell 2
    have i0 := q1.frozen 0
    have i1 := q1.frozen 1
    have i2 := q1.frozen 2
    clear hR q1
    go_wp2_with fail
    exact bodyPost_ret (v := .tuple #[.slice (some ⟨c2, off2, none⟩) 8 cap2, .agg #[.int .i64 (0), .int .i64 (0), .int .i64 ((startR l y).2)]]) (by simp [results, Try.results73, go_sem, j0, j1, j2]) rfl
      ⟨c2, off2, cap2, by rw [E.out]; rfl, by rw [E.out]; exact R1.out.but (But.put3 (But.refl (fun k => k = w.heap.size + 1) _) (by exact .inl rfl) _ _ _ _ _ _) (by omega),
        But.put3 ((((But.refl _ w).alloc _).alloc _).trans hB) (by exact .inr (by omega)) _ _ _ _ _ _, by omega⟩
  · have E := Lib.hid (show wantP l k x y = _ by unfold wantP; rw [if_neg h2, if_neg h3, if_neg h4, if_neg h5])
    go_enter Try.func73, Try.ntmps73
    go_wp2_with fail
    have T : Rw _ c off cap l := H.out.but (((But.refl (fun _ => False) w).alloc (.cells #[.int .u8 k, .int .i64 x, .int .i64 y] 102)).alloc (.cells #[.int .i64 0, .int .i64 0, .int .i64 0] 99)) (fun q => q)
    refine (ref_grant c off cap l x y _ T HM.out).mono ?_
    rintro e w1 ⟨c2, off2, cap2, rfl, hR, hB, hN⟩
    have hn : c2 = c ∨ w.heap.size + 2 ≤ c2 := by simpa using hN
    clear hN
    clear T
    have R1 := Lib.hid hR
    have q1 : Blk w1 (w.heap.size + 1) #[.int .i64 0, .int .i64 0, .int .i64 0] 99 := Blk.but (by simpa using Blk.new (w.alloc (.cells #[.int .u8 k, .int .i64 x, .int .i64 y] 102)) #[.int .i64 0, .int .i64 0, .int .i64 0] 99) hB (fun q => q)
    have j0 := q1.cell 0
    have j1 := q1.cell 1
    have j2 := q1.cell 2
    have i0 := q1.frozen 0
    have i1 := q1.frozen 1
    have i2 := q1.frozen 2
    clear hR q1
    go_wp2_with fail
    exact bodyPost_ret (v := .tuple #[.slice (some ⟨c2, off2, none⟩) 8 cap2, .agg #[.int .i64 ((grant l x y).2.1), .int .i64 (0), .int .i64 ((grant l x y).2.2)]]) (by simp [results, Try.results73, go_sem, j0, j1, j2]) rfl
      ⟨c2, off2, cap2, by rw [E.out]; rfl, by rw [E.out]; exact R1.out.but (But.put3 (But.refl (fun k => k = w.heap.size + 1) _) (by exact .inl rfl) _ _ _ _ _ _) (by omega),
        But.put3 ((((But.refl _ w).alloc _).alloc _).trans hB) (by exact .inr (by omega)) _ _ _ _ _ _, by omega⟩

set_option maxHeartbeats 4000000 in
set_option maxRecDepth 100000 in
theorem said_nil (k : Int) (w : World) (hk : 0 ≤ k ∧ k < 6) : Calls Try.prog 72 #[.pointer none, .agg #[.int .u8 k, .int .i64 1, .int .i64 1]] w fun e w' =>
      e = .returned (saidV (0, 0, 1)) ∧ But (fun _ => False) w w' := by
  by_cases h2 : k % 6 = 2
  · go_enter Try.func72, Try.ntmps72
    go_wp2_with fail
    refine (revoke_nil 1 _).mono ?_
    rintro e w1 ⟨rfl, rfl⟩
    go_wp2_with fail
    exact bodyPost_ret (v := .agg #[.int .i64 0, .int .i64 0, .int .i64 1]) (by simp [results, Try.results72, go_sem]) rfl ⟨rfl, by simpa using ((But.refl _ w).alloc _).alloc _⟩
  by_cases h3 : k % 6 = 3
  · go_enter Try.func72, Try.ntmps72
    go_wp2_with fail
    refine (look_nil 1 1 _).mono ?_
    rintro e w1 ⟨rfl, rfl⟩
    go_wp2_with fail
    exact bodyPost_ret (v := .agg #[.int .i64 0, .int .i64 0, .int .i64 1]) (by simp [results, Try.results72, go_sem]) rfl ⟨rfl, by simpa using ((But.refl _ w).alloc _).alloc _⟩
  by_cases h4 : k % 6 = 4
  · go_enter Try.func72, Try.ntmps72
    go_wp2_with fail
    refine (close_nil 1 1 _).mono ?_
    rintro e w1 ⟨rfl, rfl⟩
    go_wp2_with fail
    exact bodyPost_ret (v := .agg #[.int .i64 0, .int .i64 0, .int .i64 1]) (by simp [results, Try.results72, go_sem]) rfl ⟨rfl, by simpa using ((But.refl _ w).alloc _).alloc _⟩
  by_cases h5 : k % 6 = 5
  · go_enter Try.func72, Try.ntmps72
    go_wp2_with fail
    refine (start_nil 1 _).mono ?_
    rintro e w1 ⟨rfl, g1⟩
    have q1 : Blk w1 (w.heap.size + 1) #[.int .i64 0, .int .i64 0, .int .i64 0] 99 := Blk.but (by simpa using Blk.new (w.alloc (.cells #[.int .u8 k, .int .i64 1, .int .i64 1] 102)) #[.int .i64 0, .int .i64 0, .int .i64 0] 99) g1 (fun q => q)
    have j0 := q1.cell 0
    have j1 := q1.cell 1
    have j2 := q1.cell 2
    have i0 := q1.frozen 0
    have i1 := q1.frozen 1
    have i2 := q1.frozen 2
    clear q1
    go_wp2_with fail
    exact bodyPost_ret (v := .agg #[.int .i64 0, .int .i64 0, .int .i64 1]) (by simp [results, Try.results72, go_sem, j0, j1, j2]) rfl ⟨rfl, But.put3 ((((But.refl _ w).alloc _).alloc _).trans g1) (by exact .inr (by omega)) _ _ _ _ _ _⟩
  · go_enter Try.func72, Try.ntmps72
    go_wp2_with fail
    refine (grant_nil 1 1 _).mono ?_
    rintro e w1 ⟨rfl, rfl⟩
    go_wp2_with fail
    exact bodyPost_ret (v := .agg #[.int .i64 0, .int .i64 0, .int .i64 1]) (by simp [results, Try.results72, go_sem]) rfl ⟨rfl, by simpa using ((But.refl _ w).alloc _).alloc _⟩

set_option maxHeartbeats 4000000 in
set_option maxRecDepth 100000 in
theorem alive_any (w : World) : Calls Try.prog 69 #[] w fun e w' => e = .returned (.bool true) ∧ But (fun _ => False) w w' := by
  go_enter Try.func69, Try.ntmps69
  go_wp2_with fail
  refine (new_any _).mono ?_
  rintro e w1 ⟨rfl, h1, G1⟩
  obtain ⟨b, hb⟩ : ∃ b, b = w.heap.size := ⟨_, rfl⟩
  rw [← hb] at h1 ⊢
  have hbl : w.heap.size ≤ b := by omega
  clear hb
  go_wp2_with fail
  refine (grant_any b _ 7 3 _ h1).mono ?_
  rintro e w2 ⟨rfl, h2, g2⟩
  rw [show grant news 7 3 = ([⟨1, 1, 7, 3⟩, ⟨0, 1, 0, 0⟩, ⟨0, 1, 0, 0⟩, ⟨0, 1, 0, 0⟩, ⟨0, 1, 0, 0⟩, ⟨0, 1, 0, 0⟩, ⟨0, 1, 0, 0⟩, ⟨0, 1, 0, 0⟩], (0 : Int), (0 : Int)) from by decide] at h2 ⊢
  replace h2 : Tb w2 b ([⟨1, 1, 7, 3⟩, ⟨0, 1, 0, 0⟩, ⟨0, 1, 0, 0⟩, ⟨0, 1, 0, 0⟩, ⟨0, 1, 0, 0⟩, ⟨0, 1, 0, 0⟩, ⟨0, 1, 0, 0⟩, ⟨0, 1, 0, 0⟩] : List En) := h2
  have G2 := G1.trans' g2 (fun k hk => .inr (by omega))
  go_wp2_with fail
  refine (grant_any b _ 9 1 _ h2).mono ?_
  rintro e w3 ⟨rfl, h3, g3⟩
  rw [show grant ([⟨1, 1, 7, 3⟩, ⟨0, 1, 0, 0⟩, ⟨0, 1, 0, 0⟩, ⟨0, 1, 0, 0⟩, ⟨0, 1, 0, 0⟩, ⟨0, 1, 0, 0⟩, ⟨0, 1, 0, 0⟩, ⟨0, 1, 0, 0⟩] : List En) 9 1 = ([⟨1, 1, 7, 3⟩, ⟨1, 1, 9, 1⟩, ⟨0, 1, 0, 0⟩, ⟨0, 1, 0, 0⟩, ⟨0, 1, 0, 0⟩, ⟨0, 1, 0, 0⟩, ⟨0, 1, 0, 0⟩, ⟨0, 1, 0, 0⟩], (1 : Int), (0 : Int)) from by decide] at h3 ⊢
  replace h3 : Tb w3 b ([⟨1, 1, 7, 3⟩, ⟨1, 1, 9, 1⟩, ⟨0, 1, 0, 0⟩, ⟨0, 1, 0, 0⟩, ⟨0, 1, 0, 0⟩, ⟨0, 1, 0, 0⟩, ⟨0, 1, 0, 0⟩, ⟨0, 1, 0, 0⟩] : List En) := h3
  have G3 := G2.trans' g3 (fun k hk => .inr (by omega))
  go_wp2_with fail
  refine (look_but b _ 0 1 _ h3).mono ?_
  rintro e w4 ⟨rfl, h4, g4⟩
  rw [show look ([⟨1, 1, 7, 3⟩, ⟨1, 1, 9, 1⟩, ⟨0, 1, 0, 0⟩, ⟨0, 1, 0, 0⟩, ⟨0, 1, 0, 0⟩, ⟨0, 1, 0, 0⟩, ⟨0, 1, 0, 0⟩, ⟨0, 1, 0, 0⟩] : List En) 0 1 = ((7 : Int), (3 : Int), (0 : Int)) from by decide]
  have G4 := G3.trans' g4 (fun k hk => .inr (by omega))
  go_wp2_with fail
  refine (revoke_any b _ 0 _ h4).mono ?_
  rintro e w5 ⟨rfl, h5, g5⟩
  rw [show revoke ([⟨1, 1, 7, 3⟩, ⟨1, 1, 9, 1⟩, ⟨0, 1, 0, 0⟩, ⟨0, 1, 0, 0⟩, ⟨0, 1, 0, 0⟩, ⟨0, 1, 0, 0⟩, ⟨0, 1, 0, 0⟩, ⟨0, 1, 0, 0⟩] : List En) 0 = ([⟨2, 1, 7, 3⟩, ⟨1, 1, 9, 1⟩, ⟨0, 1, 0, 0⟩, ⟨0, 1, 0, 0⟩, ⟨0, 1, 0, 0⟩, ⟨0, 1, 0, 0⟩, ⟨0, 1, 0, 0⟩, ⟨0, 1, 0, 0⟩], (0 : Int)) from by decide] at h5 ⊢
  replace h5 : Tb w5 b ([⟨2, 1, 7, 3⟩, ⟨1, 1, 9, 1⟩, ⟨0, 1, 0, 0⟩, ⟨0, 1, 0, 0⟩, ⟨0, 1, 0, 0⟩, ⟨0, 1, 0, 0⟩, ⟨0, 1, 0, 0⟩, ⟨0, 1, 0, 0⟩] : List En) := h5
  have G5 := G4.trans' g5 (fun k hk => .inr (by omega))
  go_wp2_with fail
  refine (look_but b _ 0 1 _ h5).mono ?_
  rintro e w6 ⟨rfl, h6, g6⟩
  rw [show look ([⟨2, 1, 7, 3⟩, ⟨1, 1, 9, 1⟩, ⟨0, 1, 0, 0⟩, ⟨0, 1, 0, 0⟩, ⟨0, 1, 0, 0⟩, ⟨0, 1, 0, 0⟩, ⟨0, 1, 0, 0⟩, ⟨0, 1, 0, 0⟩] : List En) 0 1 = ((0 : Int), (0 : Int), (6 : Int)) from by decide]
  have G6 := G5.trans' g6 (fun k hk => .inr (by omega))
  go_wp2_with fail
  refine (close_any b _ 0 1 _ h6 (by decide)).mono ?_
  rintro e w7 ⟨rfl, h7, g7⟩
  rw [show close ([⟨2, 1, 7, 3⟩, ⟨1, 1, 9, 1⟩, ⟨0, 1, 0, 0⟩, ⟨0, 1, 0, 0⟩, ⟨0, 1, 0, 0⟩, ⟨0, 1, 0, 0⟩, ⟨0, 1, 0, 0⟩, ⟨0, 1, 0, 0⟩] : List En) 0 1 = ([⟨0, 2, 0, 0⟩, ⟨1, 1, 9, 1⟩, ⟨0, 1, 0, 0⟩, ⟨0, 1, 0, 0⟩, ⟨0, 1, 0, 0⟩, ⟨0, 1, 0, 0⟩, ⟨0, 1, 0, 0⟩, ⟨0, 1, 0, 0⟩], (0 : Int)) from by decide] at h7 ⊢
  replace h7 : Tb w7 b ([⟨0, 2, 0, 0⟩, ⟨1, 1, 9, 1⟩, ⟨0, 1, 0, 0⟩, ⟨0, 1, 0, 0⟩, ⟨0, 1, 0, 0⟩, ⟨0, 1, 0, 0⟩, ⟨0, 1, 0, 0⟩, ⟨0, 1, 0, 0⟩] : List En) := h7
  have G7 := G6.trans' g7 (fun k hk => .inr (by omega))
  go_wp2_with fail
  refine (look_but b _ 0 1 _ h7).mono ?_
  rintro e w8 ⟨rfl, h8, g8⟩
  rw [show look ([⟨0, 2, 0, 0⟩, ⟨1, 1, 9, 1⟩, ⟨0, 1, 0, 0⟩, ⟨0, 1, 0, 0⟩, ⟨0, 1, 0, 0⟩, ⟨0, 1, 0, 0⟩, ⟨0, 1, 0, 0⟩, ⟨0, 1, 0, 0⟩] : List En) 0 1 = ((0 : Int), (0 : Int), (5 : Int)) from by decide]
  have G8 := G7.trans' g8 (fun k hk => .inr (by omega))
  go_wp2_with fail
  refine (look_but b _ 0 3 _ h8).mono ?_
  rintro e w9 ⟨rfl, h9, g9⟩
  rw [show look ([⟨0, 2, 0, 0⟩, ⟨1, 1, 9, 1⟩, ⟨0, 1, 0, 0⟩, ⟨0, 1, 0, 0⟩, ⟨0, 1, 0, 0⟩, ⟨0, 1, 0, 0⟩, ⟨0, 1, 0, 0⟩, ⟨0, 1, 0, 0⟩] : List En) 0 3 = ((0 : Int), (0 : Int), (4 : Int)) from by decide]
  have G9 := G8.trans' g9 (fun k hk => .inr (by omega))
  go_wp2_with fail
  refine (grant_any b _ 4 4 _ h9).mono ?_
  rintro e w10 ⟨rfl, h10, g10⟩
  rw [show grant ([⟨0, 2, 0, 0⟩, ⟨1, 1, 9, 1⟩, ⟨0, 1, 0, 0⟩, ⟨0, 1, 0, 0⟩, ⟨0, 1, 0, 0⟩, ⟨0, 1, 0, 0⟩, ⟨0, 1, 0, 0⟩, ⟨0, 1, 0, 0⟩] : List En) 4 4 = ([⟨1, 2, 4, 4⟩, ⟨1, 1, 9, 1⟩, ⟨0, 1, 0, 0⟩, ⟨0, 1, 0, 0⟩, ⟨0, 1, 0, 0⟩, ⟨0, 1, 0, 0⟩, ⟨0, 1, 0, 0⟩, ⟨0, 1, 0, 0⟩], (0 : Int), (0 : Int)) from by decide] at h10 ⊢
  replace h10 : Tb w10 b ([⟨1, 2, 4, 4⟩, ⟨1, 1, 9, 1⟩, ⟨0, 1, 0, 0⟩, ⟨0, 1, 0, 0⟩, ⟨0, 1, 0, 0⟩, ⟨0, 1, 0, 0⟩, ⟨0, 1, 0, 0⟩, ⟨0, 1, 0, 0⟩] : List En) := h10
  have G10 := G9.trans' g10 (fun k hk => .inr (by omega))
  go_wp2_with fail
  refine (gen_any b _ 0 _ h10).mono ?_
  rintro e wa ⟨rfl, rfl⟩
  rw [show gen ([⟨1, 2, 4, 4⟩, ⟨1, 1, 9, 1⟩, ⟨0, 1, 0, 0⟩, ⟨0, 1, 0, 0⟩, ⟨0, 1, 0, 0⟩, ⟨0, 1, 0, 0⟩, ⟨0, 1, 0, 0⟩, ⟨0, 1, 0, 0⟩] : List En) 0 = 2 from by decide]
  go_wp2_with fail
  refine (revoke_any b _ 8 _ h10).mono ?_
  rintro e wb ⟨rfl, hb, gb⟩
  rw [show revoke ([⟨1, 2, 4, 4⟩, ⟨1, 1, 9, 1⟩, ⟨0, 1, 0, 0⟩, ⟨0, 1, 0, 0⟩, ⟨0, 1, 0, 0⟩, ⟨0, 1, 0, 0⟩, ⟨0, 1, 0, 0⟩, ⟨0, 1, 0, 0⟩] : List En) 8 = (([⟨1, 2, 4, 4⟩, ⟨1, 1, 9, 1⟩, ⟨0, 1, 0, 0⟩, ⟨0, 1, 0, 0⟩, ⟨0, 1, 0, 0⟩, ⟨0, 1, 0, 0⟩, ⟨0, 1, 0, 0⟩, ⟨0, 1, 0, 0⟩] : List En), (1 : Int)) from by decide] at hb ⊢
  replace hb : Tb wb b ([⟨1, 2, 4, 4⟩, ⟨1, 1, 9, 1⟩, ⟨0, 1, 0, 0⟩, ⟨0, 1, 0, 0⟩, ⟨0, 1, 0, 0⟩, ⟨0, 1, 0, 0⟩, ⟨0, 1, 0, 0⟩, ⟨0, 1, 0, 0⟩] : List En) := hb
  have Gb := G10.trans' gb (fun k hk => .inr (by omega))
  go_wp2_with fail
  refine (start_any b _ 5 _ hb).mono ?_
  rintro e wc ⟨rfl, hc, gc⟩
  rw [show (start ([⟨1, 2, 4, 4⟩, ⟨1, 1, 9, 1⟩, ⟨0, 1, 0, 0⟩, ⟨0, 1, 0, 0⟩, ⟨0, 1, 0, 0⟩, ⟨0, 1, 0, 0⟩, ⟨0, 1, 0, 0⟩, ⟨0, 1, 0, 0⟩] : List En) 5).2 = 1 from by decide]
  have Gc := Gb.trans' gc (fun k hk => .inr (by omega))
  go_wp2_with fail
  go_ret
  exact ⟨rfl, Gc⟩

end Proxy
end Go.Proofs.Ytboajbbnnbnpaaa
