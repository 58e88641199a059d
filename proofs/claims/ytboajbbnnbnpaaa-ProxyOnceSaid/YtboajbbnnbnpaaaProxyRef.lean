/- The document's answer for layer 15 (proxy), walked. -/
import Derived.Test.YtboajbbnnbnpaaaProxyWalks
import Derived.Test.YtboajbbnnbnpaaaProxyPlain
import Derived.Test.YtboajbbnnbnpaaaLists
set_option linter.unusedVariables false
set_option linter.unusedSimpArgs false
namespace Go.Proofs.Ytboajbbnnbnpaaa
open Go.RowKit

namespace Proxy

theorem infoEn : (Try.prog.info? 136).map (fun i => (i.zero, i.size, i.bytes)) = some (some (.agg #[.int .i64 0, .int .i64 0, .int .i64 0, .int .i64 0]), 4, 32) := by kernel_rfl
theorem oneCell_encs {l : List En} : ∀ u ∈ encs l, u.oneCell' = true := fun v hv => by
  simp only [encs, enc, List.mem_flatMap] at hv
  obtain ⟨e, _, hv⟩ := hv
  simp at hv
  rcases hv with rfl | rfl | rfl | rfl <;> rfl
theorem oneCell_enc (e : En) : ∀ u ∈ enc e, u.oneCell' = true := fun v hv => by
  simp [enc] at hv
  rcases hv with rfl | rfl | rfl | rfl <;> rfl
theorem new_src (w : World) (cs : List Value) (T : TypeId) : ∀ j u, cs[j]? = some u → (w.alloc (.cells cs.toArray T)).cell? ((⟨w.heap.size, 0, none⟩ : Addr).add j) = some u := fun j u h => by
  have e : (⟨w.heap.size, 0, none⟩ : Addr).add j = ⟨w.heap.size, j, none⟩ := by unfold Addr.add; split <;> simp_all
  rw [e, (Blk.new w cs.toArray T).cell]; simpa using h
theorem row_src {w : World} {E : TypeId} {size b off n cap : Nat} {o : Option Nat} {xs : List Value} (h : Row w E size (.slice (some ⟨b, off, none⟩) n cap) o n xs) : ∀ j u, xs[j]? = some u → w.cell? ((⟨b, off, none⟩ : Addr).add j) = some u := fun j u hj => by
  have hlt : j < n * size := by have := (List.getElem?_eq_some_iff.1 hj).1; rw [h.len] at this; exact this
  obtain ⟨b', off', cap', e, -, -, -, hc, -⟩ := h.cells (by omega)
  simp at e
  obtain ⟨⟨rfl, rfl⟩, rfl⟩ := e
  have e : (⟨b, off, none⟩ : Addr).add j = ⟨b, off + j, none⟩ := by unfold Addr.add; split <;> simp_all
  rw [e, hc j hlt, hj]

/-- The entries of the document: a slice of eight. -/
structure Rw (w : World) (c off cap : Nat) (l : List En) : Prop where
  row : Row w 136 4 (.slice (some ⟨c, off, none⟩) 8 cap) (some c) 8 (encs l)
  len : l.length = 8

theorem Rw.but {w w' : World} {c off cap : Nat} {l : List En} (h : Rw w c off cap l) {S : Nat → Prop} (hb : But S w w') (hs : ¬ S c) : Rw w' c off cap l :=
  ⟨h.row.but hb (fun k hk => by cases hk; exact hs), h.len⟩
theorem Rw.drewN {w : World} {c off cap : Nat} {l : List En} (h : Rw w c off cap l) (n : Nat) : Rw (w.drewN n) c off cap l := ⟨h.row.drewN n, h.len⟩
theorem Rw.lt {w : World} {c off cap : Nat} {l : List En} (h : Rw w c off cap l) : c < w.heap.size := h.row.lt rfl
theorem Rw.cap {w : World} {c off cap : Nat} {l : List En} (h : Rw w c off cap l) : 8 ≤ cap ∧ cap ≤ maxLen := by
  obtain ⟨a, cap', e, h1, h2⟩ := h.row.val
  simp at e
  obtain ⟨rfl, rfl⟩ := e
  exact ⟨h1, h2⟩
theorem Rw.cells {w : World} {c off cap : Nat} {l : List En} (h : Rw w c off cap l) {i : Nat} (hi : i < 8) :
    w.cell? ⟨c, off + i * 4, none⟩ = some (.int .i64 (ent l i).is) ∧ w.cell? ⟨c, off + i * 4 + 1, none⟩ = some (.int .i64 (ent l i).gen) ∧ w.cell? ⟨c, off + i * 4 + 2, none⟩ = some (.int .i64 (ent l i).cell) ∧ w.cell? ⟨c, off + i * 4 + 3, none⟩ = some (.int .i64 (ent l i).cg) := by
  have e := encs_get (l := l) (i := i) (by rw [h.len]; exact hi)
  obtain ⟨b', off', cap', e', -, -, -, hc, -⟩ := h.row.cells (by omega)
  simp at e'
  obtain ⟨⟨rfl, rfl⟩, rfl⟩ := e'
  refine ⟨?_, ?_, ?_, ?_⟩
  · rw [hc _ (by omega)]; exact e.1
  · rw [Nat.add_assoc, hc _ (by omega)]; exact e.2.1
  · rw [Nat.add_assoc, hc _ (by omega)]; exact e.2.2.1
  · rw [Nat.add_assoc, hc _ (by omega)]; exact e.2.2.2
theorem Rw.free {w : World} {c off cap : Nat} {l : List En} (h : Rw w c off cap l) (j : Nat) : w.frozen? ⟨c, j, none⟩ = false := by
  obtain ⟨b', off', cap', e', -, -, -, -, hf⟩ := h.row.cells (by omega)
  simp at e'
  obtain ⟨⟨rfl, rfl⟩, rfl⟩ := e'
  exact hf j
theorem Rw.put {w : World} {c off cap : Nat} {l : List En} (h : Rw w c off cap l) {i : Nat} (hi : i < 8) (x : En) :
    Rw ((((w.setCell ⟨c, off + i * 4, none⟩ (.int .i64 x.is)).setCell ⟨c, off + i * 4 + 1, none⟩ (.int .i64 x.gen)).setCell ⟨c, off + i * 4 + 2, none⟩ (.int .i64 x.cell)).setCell ⟨c, off + i * 4 + 3, none⟩ (.int .i64 x.cg)) c off cap (l.set i x) := by
  have hl := h.len
  have h3 := (((h.row.set (j := i * 4) (by omega) (.int .i64 x.is)).set (j := i * 4 + 1) (by omega) (.int .i64 x.gen)).set (j := i * 4 + 2) (by omega) (.int .i64 x.cell)).set (j := i * 4 + 3) (by omega) (.int .i64 x.cg)
  have s0 := (encs_set (l := l) (i := i) (by omega)).1 x.is
  have s1 := (encs_set (l := l.set i { ent l i with is := x.is }) (i := i) (by simp; omega)).2.1 x.gen
  have s2 := (encs_set (l := (l.set i { ent l i with is := x.is }).set i { ent (l.set i { ent l i with is := x.is }) i with gen := x.gen }) (i := i) (by simp; omega)).2.2.1 x.cell
  have s3 := (encs_set (l := ((l.set i { ent l i with is := x.is }).set i { ent (l.set i { ent l i with is := x.is }) i with gen := x.gen }).set i { ent ((l.set i { ent l i with is := x.is }).set i { ent (l.set i { ent l i with is := x.is }) i with gen := x.gen }) i with cell := x.cell }) (i := i) (by simp; omega)).2.2.2 x.cg
  rw [s0, s1, s2, s3] at h3
  simp only [List.length_set, ent_set, hl, hi, if_true, List.set_set, ← Nat.add_assoc] at h3
  exact ⟨h3, by simpa using hl⟩

/-- What is handed back: a list of entries, the old one, or a new one. -/
def Got (l' : List En) (c0 : Nat) (r : Value → Value) (w : World) (e : Ending) (w' : World) : Prop :=
  ∃ c off cap, e = .returned (r (.slice (some ⟨c, off, none⟩) 8 cap)) ∧ Rw w' c off cap l' ∧ But (fun _ => False) w w' ∧ (c = c0 ∨ w.heap.size ≤ c)

set_option maxHeartbeats 2000000 in
set_option maxRecDepth 100000 in
theorem set_any (c off cap i : Nat) (l : List En) (x : En) (w : World) (h : Rw w c off cap l) (hi : i < 8) :
    Calls Try.prog 100 #[.slice (some ⟨c, off, none⟩) 8 cap, .int .i64 i, .agg #[.int .i64 x.is, .int .i64 x.gen, .int .i64 x.cell, .int .i64 x.cg]] w (Got (l.set i x) c id w) := by
  obtain ⟨i0, hi0, hz0, hz1, hz2⟩ := info_parts infoEn
  have hcp := h.cap
  have hL := h.len
  have H := Lib.hid h
  have HE := Lib.hid (show (encs l).length = 8 * 4 by rw [encs_length, hL])
  clear h
  go_enter Try.func100, Try.ntmps100
  go_wp2_with ((at_builtin; refine wpList_append_row _ rfl _ _ _ rfl 136 i0 (.agg #[.int .i64 0, .int .i64 0, .int .i64 0, .int .i64 0]) 4 32 Try.underlying96 hi0 hz0 hz1 hz2 rfl (by decide) _ (some (w.heap.size + 1)) 0 [] (Row.new' _ 136 4 0 [] rfl (Nat.zero_le _) (by simp)) rfl ⟨c, off, none⟩ 8 cap (encs l) rfl HE.out (row_src ((H.out.row.alloc _).alloc _)) oneCell_encs (by decide) (by decide) ?_; intro v1 w1 o1 hR1 hB1 hN1; rw [Nat.zero_add, List.nil_append] at hR1; obtain ⟨b1, off1, cap1, rfl, rfl, hlt1, hcap1, hc1, hf1⟩ := hR1.cells (by omega); have HB := Lib.hid (Blk.but ((Blk.new w #[.int .i64 x.is, .int .i64 x.gen, .int .i64 x.cell, .int .i64 x.cg] 136).alloc _) hB1 (fun e => by simp at e)); have k0 := HB.out.cell 0; have k1 := HB.out.cell 1; have k2 := HB.out.cell 2; have k3 := HB.out.cell 3; have HR := Lib.hid (Rw.mk hR1 hL); obtain ⟨c0, c1, c2, c3⟩ := HR.out.cells hi; have f0 := HR.out.free (off1 + i * 4); have f1 := HR.out.free (off1 + i * 4 + 1); have f2 := HR.out.free (off1 + i * 4 + 2); have f3 := HR.out.free (off1 + i * 4 + 3); have HB1 := Lib.hid hB1; have HN1 := Lib.hid (hN1 b1 rfl); clear hR1 hc1 hf1 hB1 hN1))
  go_ret
  have hn : w.heap.size ≤ b1 := by rcases HN1.out with q | q <;> simp at q <;> omega
  exact ⟨b1, off1, cap1, rfl, HR.out.put hi x, But.put4 (((But.refl _ w).alloc _).alloc _ |>.trans' HB1.out (fun k hk => by simp at hk; omega)) (by exact .inr hn) _ _ _ _ _ _ _ _, .inr hn⟩

theorem encs_rep_succ (j : Nat) (x : En) : encs (List.replicate j x) ++ enc x = encs (List.replicate (j + 1) x) := by
  unfold encs; rw [List.replicate_succ', List.flatMap_append]; simp

set_option maxHeartbeats 4000000 in
set_option maxRecDepth 100000 in
theorem begin_any (w : World) : Calls Try.prog 71 #[] w fun e w' => ∃ c off cap, e = .returned (.slice (some ⟨c, off, none⟩) 8 cap) ∧ Rw w' c off cap news ∧ But (fun _ => False) w w' ∧ w.heap.size ≤ c := by
  obtain ⟨i0, hi0, hz0, hz1, hz2⟩ := info_parts infoEn
  go_enter Try.func71, Try.ntmps71
  go_wp2_with fail
  go_loopg [1, 2] 8 (fun k v1 i1 wr => ∃ (j : Nat) (o : Option Nat), j + k = 8 ∧ i1 = .int .i64 j ∧ Row wr 136 4 v1 o j (encs (List.replicate j (freshE 1))) ∧ (∀ k, o = some k → w.heap.size ≤ k) ∧ But (fun _ => False) w wr)
  case atStart => exact ⟨0, none, by omega, rfl, Row.nil _ _ _, (fun k hk => by cases hk), But.refl _ _⟩
  case round =>
    obtain ⟨j, o, hj, rfl, hR, hO, hB⟩ := hrel
    have HR := Lib.hid hR
    have HO := Lib.hid hO
    clear hR hO
    by_cases hlt : j < 8
    · go_wp2_with ((at_builtin; refine wpList_append_row _ rfl _ _ _ rfl 136 i0 (.agg #[.int .i64 0, .int .i64 0, .int .i64 0, .int .i64 0]) 4 32 Try.underlying96 hi0 hz0 hz1 hz2 rfl (by decide) _ o j (encs (List.replicate j (freshE 1))) (HR.out.alloc _) rfl ⟨wr.heap.size, 0, none⟩ 1 1 (enc (freshE 1)) rfl rfl (new_src _ _ _) (oneCell_enc _) (by unfold maxLen; omega) (by omega) ?_; intro v2 w2 o2 hR2 hB2 hN2; have HR2 := Lib.hid hR2; have HB2 := Lib.hid hB2; have HN2 := Lib.hid hN2; clear hR2 hB2 hN2))
      go_roundg (8 - (j + 1))
      case measure => omega
      case rel => exact ⟨j + 1, o2, by omega, by go_num, by rw [← encs_rep_succ]; exact HR2.out, (fun k hk => by
        rcases HN2.out k hk with q | q
        · exact HO.out k q
        · have := hB.size; simp at q; omega), (hB.alloc _).trans' HB2.out (fun k hk => .inr (HO.out k hk))⟩
    · obtain rfl : j = 8 := by omega
      obtain ⟨b1, off1, cap1, rfl, rfl, -⟩ := HR.out.cells (by omega)
      go_wp2_with fail
      go_ret
      exact ⟨b1, off1, cap1, rfl, ⟨HR.out, rfl⟩, hB, HO.out b1 rfl⟩

set_option maxHeartbeats 4000000 in
set_option maxRecDepth 100000 in
theorem ref_gen (c off cap : Nat) (l : List En) (i : Int) (w : World) (h : Rw w c off cap l) : Calls Try.prog 75 #[.slice (some ⟨c, off, none⟩) 8 cap, .int .i64 i] w fun e w' => e = .returned (.int .i64 (gen l i)) ∧ w = w' := by
  cases hi : inB i with
  | false =>
    rw [gen_out hi]
    rw [inB_not] at hi
    by_cases h0 : i < 0
    · clear hi h
      go_enter Try.func75, Try.ntmps75
      go_wp2_with fail
      go_ret
      exact ⟨rfl, rfl⟩
    · replace hi : 8 ≤ i := by omega
      go_enter Try.func75, Try.ntmps75
      go_wp2_with fail
      go_ret
      exact ⟨rfl, rfl⟩
  | true =>
    rw [inB_iff] at hi
    obtain ⟨i, rfl⟩ : ∃ k : Nat, i = k := ⟨i.toNat, by omega⟩
    rw [gen_in (by omega)]
    obtain ⟨c0, c1, c2, c3⟩ := h.cells (i := i) (by omega)
    go_enter Try.func75, Try.ntmps75
    go_wp2_with fail
    go_ret
    exact ⟨rfl, rfl⟩

set_option maxHeartbeats 4000000 in
set_option maxRecDepth 100000 in
theorem ref_wrong (c off cap : Nat) (l : List En) (i g : Int) (w : World) (h : Rw w c off cap l) : Calls Try.prog 99 #[.slice (some ⟨c, off, none⟩) 8 cap, .int .i64 i, .int .i64 g] w fun e w' => e = .returned (.int .i64 (wrong l i g)) ∧ w = w' := by
  cases hi : inB i with
  | false =>
    rw [wrong_out hi]
    rw [inB_not] at hi
    by_cases h0 : i < 0
    · clear hi h
      go_enter Try.func99, Try.ntmps99
      go_wp2_with fail
      go_ret
      exact ⟨rfl, rfl⟩
    · replace hi : 8 ≤ i := by omega
      go_enter Try.func99, Try.ntmps99
      go_wp2_with fail
      go_ret
      exact ⟨rfl, rfl⟩
  | true =>
    rw [inB_iff] at hi
    obtain ⟨i, rfl⟩ : ∃ k : Nat, i = k := ⟨i.toNat, by omega⟩
    obtain ⟨c0, c1, c2, c3⟩ := h.cells (i := i) (by omega)
    by_cases h1 : (ent l i).gen < g
    · rw [wrong_in (by omega), if_pos h1]
      clear h
      go_enter Try.func99, Try.ntmps99
      go_wp2_with fail
      go_ret
      exact ⟨rfl, rfl⟩
    by_cases h2 : g < (ent l i).gen
    · rw [wrong_in (by omega), if_neg h1, if_pos (.inl h2)]
      clear h
      go_enter Try.func99, Try.ntmps99
      go_wp2_with fail
      go_ret
      exact ⟨rfl, rfl⟩
    by_cases h3 : (ent l i).is = 0
    · rw [wrong_in (by omega), if_neg h1, if_pos (.inr h3)]
      clear h
      go_enter Try.func99, Try.ntmps99
      go_wp2_with fail
      go_ret
      exact ⟨rfl, rfl⟩
    · have h3b : ((ent l i).is == 0) = false := by simpa using h3
      rw [wrong_in (by omega), if_neg h1, if_neg (by omega)]
      clear h
      go_enter Try.func99, Try.ntmps99
      go_wp2_with fail
      go_ret
      exact ⟨rfl, rfl⟩

set_option maxHeartbeats 4000000 in
set_option maxRecDepth 100000 in
theorem ref_look (c off cap : Nat) (l : List En) (i g : Int) (w : World) (h : Rw w c off cap l) : Calls Try.prog 77 #[.slice (some ⟨c, off, none⟩) 8 cap, .int .i64 i, .int .i64 g] w fun e w' =>
    e = .returned (.tuple #[.int .i64 (look l i g).1, .int .i64 (look l i g).2.1, .int .i64 (look l i g).2.2]) ∧ ∃ m, w' = w.drewN m := by
  have hcp := h.cap
  have H := Lib.hid h
  by_cases hw : wrong l i g = 0
  · obtain ⟨i, rfl, hi, hg, h0⟩ := wrong_ok hw
    obtain ⟨c0, c1, c2, c3⟩ := h.cells hi
    have HW := Lib.hid hw
    have hib : (0 : Int) ≤ i ∧ (i : Int) < 8 := by omega
    clear hw h hg
    by_cases h2 : (ent l i).is = 2
    · have E := Lib.hid (show look l i g = (0, 0, 6) by unfold look; rw [if_pos HW.out, Int.toNat_natCast, if_pos h2])
      go_enter Try.func77, Try.ntmps77
      go_wp2_with fail
      refine (ref_wrong c off cap l _ g _ H.out).mono ?_
      rintro e w1 ⟨rfl, rfl⟩
      rw [HW.out]
      go_wp2_with fail
      go_ret3
      exact ⟨by rw [E.out]; rfl, 0, rfl⟩
    · have E := Lib.hid (show look l i g = ((ent l i).cell, (ent l i).cg, 0) by unfold look; rw [if_pos HW.out, Int.toNat_natCast, if_neg h2])
      go_enter Try.func77, Try.ntmps77
      go_wp2_with fail
      refine (ref_wrong c off cap l _ g _ H.out).mono ?_
      rintro e w1 ⟨rfl, rfl⟩
      rw [HW.out]
      go_wp2_with fail
      go_quiet (fail)
      go_wp2_with fail
      go_ret3
      exact ⟨by rw [E.out]; rfl, _, rfl⟩
  · have E := Lib.hid (show look l i g = (0, 0, wrong l i g) by unfold look; rw [if_neg hw])
    rw [E.out]
    have hw2 : (wrong l i g == 0) = false := by simpa using hw
    have hw3 : (wrong l i g != 0) = true := by simpa using hw
    clear h
    go_enter Try.func77, Try.ntmps77
    go_wp2_with fail
    refine (ref_wrong c off cap l _ g _ H.out).mono ?_
    rintro e w1 ⟨rfl, rfl⟩
    go_wp2_with fail
    go_ret3
    exact ⟨rfl, 0, rfl⟩

theorem got_same {l : List En} {c off cap : Nat} {r : Value → Value} {w : World} (h : Rw w c off cap l) : Got l c r w (.returned (r (.slice (some ⟨c, off, none⟩) 8 cap))) w :=
  ⟨c, off, cap, rfl, h, But.refl _ _, .inl rfl⟩

set_option maxHeartbeats 4000000 in
set_option maxRecDepth 100000 in
theorem ref_close (c off cap : Nat) (l : List En) (i g : Int) (w : World) (h : Rw w c off cap l) (hg2 : ∀ k, k < 8 → -9223372036854775808 ≤ (ent l k).gen ∧ (ent l k).gen ≤ 9223372036854775806) : Calls Try.prog 94 #[.slice (some ⟨c, off, none⟩) 8 cap, .int .i64 i, .int .i64 g] w
    (Got (close l i g).1 c (fun v => .tuple #[v, .int .i64 (close l i g).2]) w) := by
  have hcp := h.cap
  have H := Lib.hid h
  by_cases hw : wrong l i g = 0
  · obtain ⟨i, rfl, hi, hg, h0⟩ := wrong_ok hw
    obtain ⟨c0, c1, c2, c3⟩ := h.cells hi
    have hgb := hg2 i hi
    clear hg2
    have HW := Lib.hid hw
    have hib : (0 : Int) ≤ i ∧ (i : Int) < 8 := by omega
    rw [show close l i g = (l.set i (freshE ((ent l i).gen + 1)), 0) by unfold close; rw [if_pos hw]; rfl]
    clear hw h hg
    go_enter Try.func94, Try.ntmps94
    go_wp2_with fail
    refine (ref_wrong c off cap l _ g _ H.out).mono ?_
    rintro e w1 ⟨rfl, rfl⟩
    rw [HW.out]
    go_wp2_with fail
    refine (set_any c off cap i l (freshE ((ent l i).gen + 1)) _ H.out (by omega)).mono ?_
    rintro e w2 ⟨c2, off2, cap2, rfl, hR, hB, hN⟩
    have HR2 := Lib.hid hR
    clear hR
    go_wp2_with fail
    go_ret2
    exact ⟨c2, off2, cap2, rfl, HR2.out, hB, hN⟩
  · rw [show close l i g = (l, wrong l i g) by unfold close; rw [if_neg hw]]
    have hw2 : (wrong l i g == 0) = false := by simpa using hw
    have hw3 : (wrong l i g != 0) = true := by simpa using hw
    clear h
    go_enter Try.func94, Try.ntmps94
    go_wp2_with fail
    refine (ref_wrong c off cap l _ g _ H.out).mono ?_
    rintro e w1 ⟨rfl, rfl⟩
    go_wp2_with fail
    go_ret2
    exact got_same H.out

set_option maxHeartbeats 4000000 in
set_option maxRecDepth 100000 in
theorem ref_revoke (c off cap : Nat) (l : List En) (i : Int) (w : World) (h : Rw w c off cap l) : Calls Try.prog 93 #[.slice (some ⟨c, off, none⟩) 8 cap, .int .i64 i] w
    (Got (revokeR l i).1 c (fun v => .tuple #[v, .int .i64 (revokeR l i).2]) w) := by
  have hcp := h.cap
  have H := Lib.hid h
  cases hi : inB i with
  | false =>
    rw [revokeR_out hi]
    rw [inB_not] at hi
    by_cases h0 : i < 0
    · clear hi h
      go_enter Try.func93, Try.ntmps93
      go_wp2_with fail
      go_ret2
      exact got_same H.out
    · replace hi : 8 ≤ i := by omega
      clear h
      go_enter Try.func93, Try.ntmps93
      go_wp2_with fail
      go_ret2
      exact got_same H.out
  | true =>
    rw [inB_iff] at hi
    obtain ⟨i, rfl⟩ : ∃ k : Nat, i = k := ⟨i.toNat, by omega⟩
    obtain ⟨c0, c1, c2, c3⟩ := h.cells (i := i) (by omega)
    clear h
    by_cases h1 : (ent l i).is = 1
    · rw [revokeR_yes (by omega) h1]
      go_enter Try.func93, Try.ntmps93
      go_wp2_with fail
      refine (set_any c off cap i l ⟨2, (ent l i).gen, 0, 0⟩ _ H.out (by omega)).mono ?_
      rintro e w2 ⟨c2, off2, cap2, rfl, hR, hB, hN⟩
      have HR2 := Lib.hid hR
      clear hR
      go_wp2_with fail
      go_ret2
      exact ⟨c2, off2, cap2, rfl, HR2.out, hB, hN⟩
    · rw [revokeR_no (by omega) h1]
      go_enter Try.func93, Try.ntmps93
      go_wp2_with fail
      go_ret2
      exact got_same H.out

set_option maxHeartbeats 4000000 in
set_option maxRecDepth 100000 in
theorem ref_grant (c off cap : Nat) (l : List En) (x g : Int) (w : World) (h : Rw w c off cap l) (hgm : ∀ k, k < 8 → (ent l k).gen ≤ 4294967295) : Calls Try.prog 96 #[.slice (some ⟨c, off, none⟩) 8 cap, .int .i64 x, .int .i64 g] w
    (Got (grant l x g).1 c (fun v => .tuple #[v, .int .i64 (grant l x g).2.1, .int .i64 (grant l x g).2.2]) w) := by
  have hcp := h.cap
  have H := Lib.hid h
  cases ho : okG x g with
  | false =>
    rw [grant_bad ho]
    rw [okG_not] at ho
    by_cases h1 : x < 0
    · clear ho h
      go_enter Try.func96, Try.ntmps96
      go_wp2_with fail
      go_ret3
      exact got_same H.out
    by_cases h2 : 192 ≤ x
    · clear ho h
      go_enter Try.func96, Try.ntmps96
      go_wp2_with fail
      go_ret3
      exact got_same H.out
    by_cases h3 : g < 0
    · clear ho h
      go_enter Try.func96, Try.ntmps96
      go_wp2_with fail
      go_ret3
      exact got_same H.out
    · have h4 : 4294967295 < g := by omega
      clear ho h
      go_enter Try.func96, Try.ntmps96
      go_wp2_with fail
      go_ret3
      exact got_same H.out
  | true =>
    have HO := Lib.hid ho
    rw [okG_iff] at ho
    clear h
    go_enter Try.func96, Try.ntmps96
    go_wp2_with fail
    go_loopg [9] 8 (fun k i1 wr => ∃ (j : Nat), j + k = 8 ∧ i1 = .int .i64 j ∧ (∀ k, k < j → canB (ent l k) = false) ∧ w = wr)
    case atStart => exact ⟨0, by omega, rfl, fun k hk => by omega, rfl⟩
    case round =>
      obtain ⟨j, hj, rfl, hb, rfl⟩ := hrel
      have HB := Lib.hid hb
      clear hb
      by_cases hlt : j < 8
      · obtain ⟨c0, c1, c2, c3⟩ := H.out.cells hlt
        cases hc : canB (ent l j) with
        | true =>
          have E := Lib.hid (grant_at HO.out (slot_at (by rw [H.out.len]; exact hlt) hc HB.out) hlt)
          rw [canB_iff] at hc
          obtain ⟨h1, h2⟩ := hc
          have h2b : ((ent l j).gen != 4294967295) = true := by simp; omega
          go_wp2_with fail
          refine (set_any c off cap j l ⟨1, (ent l j).gen, x, g⟩ _ H.out (by omega)).mono ?_
          rintro e w2 ⟨c2, off2, cap2, rfl, hR, hB, hN⟩
          have HR2 := Lib.hid hR
          clear hR
          go_wp2_with fail
          go_ret3
          rw [E.out]
          exact ⟨c2, off2, cap2, rfl, HR2.out, hB, hN⟩
        | false =>
          have HC := Lib.hid hc
          rw [canB_not] at hc
          by_cases h1 : (ent l j).is = 0
          · have h2 : 4294967295 ≤ (ent l j).gen := by omega
            have h3 := hgm j hlt
            have h2b : ((ent l j).gen != 4294967295) = false := by simp; omega
            clear hc
            go_wp2_with fail
            go_roundg (8 - (j + 1))
            case measure => omega
            case rel => exact ⟨j + 1, by omega, by go_num, (fun k hk => by
              by_cases e : k = j
              · rw [e]; exact HC.out
              · exact HB.out k (by omega)), rfl⟩
          · have h1b : ((ent l j).is == 0) = false := by simpa using h1
            clear hc
            go_wp2_with fail
            go_roundg (8 - (j + 1))
            case measure => omega
            case rel => exact ⟨j + 1, by omega, by go_num, (fun k hk => by
              by_cases e : k = j
              · rw [e]; exact HC.out
              · exact HB.out k (by omega)), rfl⟩
      · obtain rfl : j = 8 := by omega
        have E := Lib.hid (grant_full (l := l) HO.out (by rw [slot_none (by rw [H.out.len]; exact HB.out), H.out.len]))
        go_wp2_with fail
        go_ret3
        rw [E.out]
        exact got_same H.out

set_option maxHeartbeats 4000000 in
set_option maxRecDepth 100000 in
theorem ref_start (c off cap : Nat) (l : List En) (g : Int) (w : World) (h : Rw w c off cap l) : Calls Try.prog 95 #[.slice (some ⟨c, off, none⟩) 8 cap, .int .i64 g] w
    (Got (startR l g).1 c (fun v => .tuple #[v, .int .i64 (startR l g).2]) w) := by
  obtain ⟨i0, hi0, hz0, hz1, hz2⟩ := info_parts infoEn
  have hcp := h.cap
  have H := Lib.hid h
  cases ho : okS g with
  | false =>
    rw [show startR l g = (l, 1) by unfold startR; rw [if_neg (by rw [ho]; simp)]]
    rw [okS_not] at ho
    by_cases h1 : g < 1
    · clear ho h
      go_enter Try.func95, Try.ntmps95
      go_wp2_with fail
      go_ret2
      exact got_same H.out
    · have h2 : 4294967295 < g := by omega
      clear ho h
      go_enter Try.func95, Try.ntmps95
      go_wp2_with fail
      go_ret2
      exact got_same H.out
  | true =>
    have HO := Lib.hid ho
    rw [okS_iff] at ho
    clear h
    go_enter Try.func95, Try.ntmps95
    go_wp2_with fail
    go_loopg [6, 7] 8 (fun k v1 i1 wr => ∃ (j : Nat) (o : Option Nat), j + k = 8 ∧ i1 = .int .i64 j ∧ Row wr 136 4 v1 o j (encs (List.replicate j (freshE g))) ∧ (∀ k, o = some k → w.heap.size ≤ k) ∧ (∀ k, k < j → newB (ent l k) = true) ∧ But (fun _ => False) w wr)
    case atStart => exact ⟨0, none, by omega, rfl, Row.nil _ _ _, (fun k hk => by cases hk), (fun k hk => by omega), But.refl _ _⟩
    case round =>
      obtain ⟨j, o, hj, rfl, hR, hO, hn, hB⟩ := hrel
      have HR := Lib.hid hR
      have HO2 := Lib.hid hO
      have HN := Lib.hid hn
      have Hr := Lib.hid (H.out.but hB (fun q => q))
      clear hR hO hn
      by_cases hlt : j < 8
      · obtain ⟨c0, c1, c2, c3⟩ := Hr.out.cells hlt
        cases hc : newB (ent l j) with
        | true =>
          have HC := Lib.hid hc
          rw [newB_iff] at hc
          obtain ⟨h1, h2⟩ := hc
          go_wp2_with ((at_builtin; refine wpList_append_row _ rfl _ _ _ rfl 136 i0 (.agg #[.int .i64 0, .int .i64 0, .int .i64 0, .int .i64 0]) 4 32 Try.underlying96 hi0 hz0 hz1 hz2 rfl (by decide) _ o j (encs (List.replicate j (freshE g))) (HR.out.alloc _) rfl ⟨wr.heap.size, 0, none⟩ 1 1 (enc (freshE g)) rfl rfl (new_src _ _ _) (oneCell_enc _) (by unfold maxLen; omega) (by omega) ?_; intro v2 w2 o2 hR2 hB2 hN2; have HR2 := Lib.hid hR2; have HB2 := Lib.hid hB2; have HN2 := Lib.hid hN2; clear hR2 hB2 hN2))
          go_roundg (8 - (j + 1))
          case measure => omega
          case rel => exact ⟨j + 1, o2, by omega, by go_num, by rw [← encs_rep_succ]; exact HR2.out, (fun k hk => by
            rcases HN2.out k hk with q | q
            · exact HO2.out k q
            · have := hB.size; simp at q; omega), (fun k hk => by
            by_cases e : k = j
            · rw [e]; exact HC.out
            · exact HN.out k (by omega)), (hB.alloc _).trans' HB2.out (fun k hk => .inr (HO2.out k hk))⟩
        | false =>
          have E := Lib.hid (show startR l g = (l, 1) by unfold startR; rw [if_neg (fun q => not_all_new (by rw [H.out.len]; exact hlt) hc q.2)])
          rw [newB_not] at hc
          by_cases h1 : (ent l j).is = 0
          · have h2 : ((ent l j).gen != 1) = true := by simp; omega
            clear hc
            go_wp2_with fail
            go_ret2
            rw [E.out]
            exact ⟨c, off, cap, rfl, Hr.out, hB, .inl rfl⟩
          · have h2 : ((ent l j).is != 0) = true := by simpa using h1
            clear hc
            go_wp2_with fail
            go_ret2
            rw [E.out]
            exact ⟨c, off, cap, rfl, Hr.out, hB, .inl rfl⟩
      · obtain rfl : j = 8 := by omega
        obtain ⟨b1, off1, cap1, rfl, rfl, -⟩ := HR.out.cells (by omega)
        have E := Lib.hid (show startR l g = (List.replicate 8 (freshE g), 0) by unfold startR; rw [if_pos ⟨HO.out, all_new (by rw [H.out.len]; exact HN.out)⟩])
        go_wp2_with fail
        go_ret2
        rw [E.out]
        exact ⟨b1, off1, cap1, rfl, ⟨HR.out, rfl⟩, hB, .inr (HO2.out b1 rfl)⟩

end Proxy
end Go.Proofs.Ytboajbbnnbnpaaa
