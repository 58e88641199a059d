/- The document's Fill for layer 22, walked. -/
import Derived.Test.YtgbcbadccahfcaaNamesRefAll
set_option linter.unusedVariables false
set_option linter.unusedSimpArgs false
namespace Go.Proofs.Ytgbcbadccahfcaa
open Go.RowKit

namespace Names
open Lex

theorem fillV_yes {L : List Wd} {sW sO : ByteArray} {D T W0 O0 N M x y : Int} (h1 : one L sW W0 = (x, 0)) (h2 : one L sO O0 = (y, 0)) : fillV L sW sO D T W0 O0 N M = .tuple #[.agg #[.int .i64 D, .int .i64 T, .int .u64 x, .int .u64 y, .int .i64 N, .int .i64 M], .int .i64 0] := by
  unfold fillV fillE
  rw [h1, h2]
  exact if_pos (show mx (mx 0 0) 0 = 0 by decide)
theorem fillV_no1 {L : List Wd} {sW sO : ByteArray} {D T W0 O0 N M : Int} (h1 : (one L sW W0).2 = 9) : fillV L sW sO D T W0 O0 N M = .tuple #[.agg #[.int .i64 0, .int .i64 0, .int .u64 0, .int .u64 0, .int .i64 0, .int .i64 0], .int .i64 9] := by
  unfold fillV fillE
  rw [h1]
  rcases one_err L sO O0 with q | q <;> rw [q, if_neg (by decide)]
theorem fillV_no2 {L : List Wd} {sW sO : ByteArray} {D T W0 O0 N M : Int} (h1 : (one L sO O0).2 = 9) : fillV L sW sO D T W0 O0 N M = .tuple #[.agg #[.int .i64 0, .int .i64 0, .int .u64 0, .int .u64 0, .int .i64 0, .int .i64 0], .int .i64 9] := by
  unfold fillV fillE
  rw [h1]
  rcases one_err L sW W0 with q | q <;> rw [q, if_neg (by decide)]
theorem one_empty {L : List Wd} {s : ByteArray} (h : s.size = 0) (x : Int) : one L s x = (x, 0) := by unfold one; rw [if_pos h]
theorem one_word {L : List Wd} {s : ByteArray} (h : ¬ s.size = 0) (x : Int) : one L s x = wordR L s := by unfold one; rw [if_neg h]

set_option maxHeartbeats 8000000 in
set_option maxRecDepth 100000 in
theorem ref_fill {w : World} {a1 : Option Addr} {cap1 n : Nat} {o1 : Option Nat} {K L : List Wd} (hR : Row w 55 2 (.slice a1 n cap1) o1 n (cellsK K)) (hK : K.length = n) (hn : n ≤ 1000) (h : Kp K L) (sB sW sO : ByteArray) (D T W0 O0 N M : Int) :
    Calls Try.prog 12 #[.slice a1 n cap1, .agg #[.string sB, .int .i64 D, .int .i64 T, .int .u64 W0, .int .u64 O0, .int .i64 N, .int .i64 M, .string sW, .string sO]] w fun e w' => e = .returned (fillV L sW sO D T W0 O0 N M) ∧ But (fun _ => False) w w' := by
  have z1 : ∀ o, (w.alloc o).heap.size = w.heap.size + 1 := fun o => by simp
  have z2 : ∀ o p, ((w.alloc o).alloc p).heap.size = w.heap.size + 1 + 1 := fun o p => by simp
  have HW := Lib.hid (show ∀ w', w' = (((w.alloc (.cells #[.string sB, .int .i64 D, .int .i64 T, .int .u64 W0, .int .u64 O0, .int .i64 N, .int .i64 M, .string sW, .string sO] 45)).alloc (.cells #[.int .i64 0, .int .i64 0, .int .u64 0, .int .u64 0, .int .i64 0, .int .i64 0] 26)).alloc (.cells #[.int .i64 D, .int .i64 T, .int .u64 W0, .int .u64 O0, .int .i64 N, .int .i64 M] 26)) → Blk w' w.heap.size #[.string sB, .int .i64 D, .int .i64 T, .int .u64 W0, .int .u64 O0, .int .i64 N, .int .i64 M, .string sW, .string sO] 45 ∧ Blk w' (w.heap.size + 1) #[.int .i64 0, .int .i64 0, .int .u64 0, .int .u64 0, .int .i64 0, .int .i64 0] 26 ∧ Blk w' (w.heap.size + 1 + 1) #[.int .i64 D, .int .i64 T, .int .u64 W0, .int .u64 O0, .int .i64 N, .int .i64 M] 26 ∧ But (fun _ => False) w w' from fun w' e => by
    rw [e]
    exact ⟨((Blk.new w _ _).alloc _).alloc _, (blk_at _ _ _ (z1 _)).alloc _, blk_at _ _ _ (z2 _ _), (((But.refl _ w).alloc _).alloc _).alloc _⟩)
  have HR := Lib.hid hR
  have HRW := Lib.hid (fun (w' : World) (U : Nat → Prop) (g : But U w w') (hU : ∀ k, U k → w.heap.size ≤ k) (s : ByteArray) => ref_word (hR.but g (fun k hk q => by have := hR.lt hk; have := hU k q; omega)) hK hn h s)
  clear hR z1 z2 hK h
  by_cases hw : sW.size = 0
  · have hew : sW.toList.isEmpty = true := (nonempty_iff sW).2 hw
    have HX := Lib.hid (one_empty (L := L) hw W0)
    clear hw
    by_cases ho : sO.size = 0
    · have heo : sO.toList.isEmpty = true := (nonempty_iff sO).2 ho
      have HY := Lib.hid (one_empty (L := L) ho O0)
      clear ho
      go_enter Try.func12, Try.ntmps12
      go_wp2_with fail
      have hb := (blk_at (w.alloc (.cells #[.string sB, .int .i64 D, .int .i64 T, .int .u64 W0, .int .u64 O0, .int .i64 N, .int .i64 M, .string sW, .string sO] 45)) #[.int .i64 D, .int .i64 T, .int .u64 W0, .int .u64 O0, .int .i64 N, .int .i64 M] 26 (b := w.heap.size + 1) (by simp)).alloc (.cells #[.int .i64 D, .int .i64 T, .int .u64 W0, .int .u64 O0, .int .i64 N, .int .i64 M] 26)
      have k0 : (((w.alloc (.cells #[.string sB, .int .i64 D, .int .i64 T, .int .u64 W0, .int .u64 O0, .int .i64 N, .int .i64 M, .string sW, .string sO] 45)).alloc (.cells #[.int .i64 D, .int .i64 T, .int .u64 W0, .int .u64 O0, .int .i64 N, .int .i64 M] 26)).alloc (.cells #[.int .i64 D, .int .i64 T, .int .u64 W0, .int .u64 O0, .int .i64 N, .int .i64 M] 26)).cell? ⟨w.heap.size + 1, 0, none⟩ = some (.int .i64 D) := hb.cell 0
      have k1 : (((w.alloc (.cells #[.string sB, .int .i64 D, .int .i64 T, .int .u64 W0, .int .u64 O0, .int .i64 N, .int .i64 M, .string sW, .string sO] 45)).alloc (.cells #[.int .i64 D, .int .i64 T, .int .u64 W0, .int .u64 O0, .int .i64 N, .int .i64 M] 26)).alloc (.cells #[.int .i64 D, .int .i64 T, .int .u64 W0, .int .u64 O0, .int .i64 N, .int .i64 M] 26)).cell? ⟨w.heap.size + 1, 1, none⟩ = some (.int .i64 T) := hb.cell 1
      have k2 : (((w.alloc (.cells #[.string sB, .int .i64 D, .int .i64 T, .int .u64 W0, .int .u64 O0, .int .i64 N, .int .i64 M, .string sW, .string sO] 45)).alloc (.cells #[.int .i64 D, .int .i64 T, .int .u64 W0, .int .u64 O0, .int .i64 N, .int .i64 M] 26)).alloc (.cells #[.int .i64 D, .int .i64 T, .int .u64 W0, .int .u64 O0, .int .i64 N, .int .i64 M] 26)).cell? ⟨w.heap.size + 1, 2, none⟩ = some (.int .u64 W0) := hb.cell 2
      have k3 : (((w.alloc (.cells #[.string sB, .int .i64 D, .int .i64 T, .int .u64 W0, .int .u64 O0, .int .i64 N, .int .i64 M, .string sW, .string sO] 45)).alloc (.cells #[.int .i64 D, .int .i64 T, .int .u64 W0, .int .u64 O0, .int .i64 N, .int .i64 M] 26)).alloc (.cells #[.int .i64 D, .int .i64 T, .int .u64 W0, .int .u64 O0, .int .i64 N, .int .i64 M] 26)).cell? ⟨w.heap.size + 1, 3, none⟩ = some (.int .u64 O0) := hb.cell 3
      have k4 : (((w.alloc (.cells #[.string sB, .int .i64 D, .int .i64 T, .int .u64 W0, .int .u64 O0, .int .i64 N, .int .i64 M, .string sW, .string sO] 45)).alloc (.cells #[.int .i64 D, .int .i64 T, .int .u64 W0, .int .u64 O0, .int .i64 N, .int .i64 M] 26)).alloc (.cells #[.int .i64 D, .int .i64 T, .int .u64 W0, .int .u64 O0, .int .i64 N, .int .i64 M] 26)).cell? ⟨w.heap.size + 1, 4, none⟩ = some (.int .i64 N) := hb.cell 4
      have k5 : (((w.alloc (.cells #[.string sB, .int .i64 D, .int .i64 T, .int .u64 W0, .int .u64 O0, .int .i64 N, .int .i64 M, .string sW, .string sO] 45)).alloc (.cells #[.int .i64 D, .int .i64 T, .int .u64 W0, .int .u64 O0, .int .i64 N, .int .i64 M] 26)).alloc (.cells #[.int .i64 D, .int .i64 T, .int .u64 W0, .int .u64 O0, .int .i64 N, .int .i64 M] 26)).cell? ⟨w.heap.size + 1, 5, none⟩ = some (.int .i64 M) := hb.cell 5
      refine bodyPost_ret (v := .tuple #[.agg #[.int .i64 D, .int .i64 T, .int .u64 W0, .int .u64 O0, .int .i64 N, .int .i64 M], .int .i64 0]) ?_ rfl ⟨by rw [fillV_yes HX.out HY.out], (((But.refl _ w).alloc _).alloc _).alloc _⟩
      simp [results, Try.results12, go_sem, k0, k1, k2, k3, k4, k5]
    have heo : sO.toList.isEmpty = false := by rw [← Bool.not_eq_true, nonempty_iff]; exact ho
    have hyo := one_word (L := L) ho O0
    obtain ⟨yv, ye, hwo⟩ : ∃ yv ye, wordR L sO = (yv, ye) := ⟨_, _, rfl⟩
    have hye : ye = 0 ∨ ye = 9 := by have := wordR_err L sO; rw [hwo] at this; exact this
    rw [hwo] at hyo
    have HWO := Lib.hid hwo
    clear ho hwo
    rcases hye with rfl | rfl
    · have HY := Lib.hid hyo
      clear hyo
      go_enter Try.func12, Try.ntmps12
      go_wp2_with fail
      obtain ⟨wz, hwz⟩ : ∃ wz, wz = (((w.alloc (.cells #[.string sB, .int .i64 D, .int .i64 T, .int .u64 W0, .int .u64 O0, .int .i64 N, .int .i64 M, .string sW, .string sO] 45)).alloc (.cells #[.int .i64 0, .int .i64 0, .int .u64 0, .int .u64 0, .int .i64 0, .int .i64 0] 26)).alloc (.cells #[.int .i64 D, .int .i64 T, .int .u64 W0, .int .u64 O0, .int .i64 N, .int .i64 M] 26)) := ⟨_, rfl⟩
      obtain ⟨B1, B2, B3, G3⟩ := HW.out wz hwz
      rw [← hwz]
      obtain ⟨ob, hob⟩ : ∃ ob, ob = w.heap.size + 1 + 1 := ⟨_, rfl⟩
      rw [← hob] at B3 ⊢
      obtain ⟨rb, hrb⟩ : ∃ rb, rb = w.heap.size + 1 := ⟨_, rfl⟩
      rw [← hrb] at B2 ⊢
      obtain ⟨lb, hlb⟩ : ∃ lb, lb = w.heap.size := ⟨_, rfl⟩
      rw [← hlb] at B1
      try rw [← hlb]
      have n1 : lb ≠ ob := by omega
      have n2 : rb ≠ ob := by omega
      have n3 : ob ≠ rb := by omega
      have n4 : ob ≠ lb := by omega
      have n5 : rb ≠ lb := by omega
      have NL := Lib.hid (show w.heap.size ≤ ob ∧ w.heap.size ≤ rb by omega)
      clear hwz hob hrb hlb
      have HGF := Lib.hid (show ∀ w', But (fun k => k = rb ∨ k = ob) wz w' → But (fun _ => False) w w' from fun w' g => G3.trans' g (fun k hk => .inr (by rcases hk with rfl | rfl; exact NL.out.2; exact NL.out.1)))
      have HG3 := Lib.hid G3
      clear G3
      have lb7 : wz.cell? ⟨lb, 7, none⟩ = some (.string sW) := B1.cell 7
      have lb8 : wz.cell? ⟨lb, 8, none⟩ = some (.string sO) := B1.cell 8
      have rb0 : wz.cell? ⟨rb, 0, none⟩ = some (.int .i64 0) := B2.cell 0
      have rb1 : wz.cell? ⟨rb, 1, none⟩ = some (.int .i64 0) := B2.cell 1
      have rb2 : wz.cell? ⟨rb, 2, none⟩ = some (.int .u64 0) := B2.cell 2
      have rb3 : wz.cell? ⟨rb, 3, none⟩ = some (.int .u64 0) := B2.cell 3
      have rb4 : wz.cell? ⟨rb, 4, none⟩ = some (.int .i64 0) := B2.cell 4
      have rb5 : wz.cell? ⟨rb, 5, none⟩ = some (.int .i64 0) := B2.cell 5
      have frb0 := B2.frozen 0
      have frb1 := B2.frozen 1
      have frb2 := B2.frozen 2
      have frb3 := B2.frozen 3
      have frb4 := B2.frozen 4
      have frb5 := B2.frozen 5
      have ob0 : wz.cell? ⟨ob, 0, none⟩ = some (.int .i64 D) := B3.cell 0
      have ob1 : wz.cell? ⟨ob, 1, none⟩ = some (.int .i64 T) := B3.cell 1
      have ob2 : wz.cell? ⟨ob, 2, none⟩ = some (.int .u64 W0) := B3.cell 2
      have ob3 : wz.cell? ⟨ob, 3, none⟩ = some (.int .u64 O0) := B3.cell 3
      have ob4 : wz.cell? ⟨ob, 4, none⟩ = some (.int .i64 N) := B3.cell 4
      have ob5 : wz.cell? ⟨ob, 5, none⟩ = some (.int .i64 M) := B3.cell 5
      have fob0 := B3.frozen 0
      have fob1 := B3.frozen 1
      have fob2 := B3.frozen 2
      have fob3 := B3.frozen 3
      have fob4 := B3.frozen 4
      have fob5 := B3.frozen 5
      clear B1 B2 B3
      refine (HRW.out _ (fun k => k = rb ∨ k = ob ∨ w.heap.size ≤ k) (HG3.out.mono (fun k q => q.elim)) (fun k hk => by rcases hk with rfl | rfl | q; exact NL.out.2; exact NL.out.1; exact q) sO).mono ?_
      rintro e wb ⟨rfl, rfl⟩
      rw [HWO.out]
      go_wp2_with fail
      refine bodyPost_ret (v := .tuple #[.agg #[.int .i64 D, .int .i64 T, .int .u64 W0, .int .u64 yv, .int .i64 N, .int .i64 M], .int .i64 0]) ?_ rfl ⟨by rw [fillV_yes HX.out HY.out], HGF.out _ ((((((((But.refl (fun k => k = rb ∨ k = ob) wb).setCell (p := ⟨ob, 3, none⟩) (.inl (.inr rfl)) _).setCell (p := ⟨rb, 0, none⟩) (.inl (.inl rfl)) _).setCell (p := ⟨rb, 1, none⟩) (.inl (.inl rfl)) _).setCell (p := ⟨rb, 2, none⟩) (.inl (.inl rfl)) _).setCell (p := ⟨rb, 3, none⟩) (.inl (.inl rfl)) _).setCell (p := ⟨rb, 4, none⟩) (.inl (.inl rfl)) _).setCell (p := ⟨rb, 5, none⟩) (.inl (.inl rfl)) _)⟩
      simp [results, Try.results12, go_sem, rb0, rb1, rb2, rb3, rb4, rb5]
    · have HY := Lib.hid (show (one L sO O0).2 = 9 by rw [hyo])
      clear hyo
      go_enter Try.func12, Try.ntmps12
      go_wp2_with fail
      obtain ⟨wz, hwz⟩ : ∃ wz, wz = (((w.alloc (.cells #[.string sB, .int .i64 D, .int .i64 T, .int .u64 W0, .int .u64 O0, .int .i64 N, .int .i64 M, .string sW, .string sO] 45)).alloc (.cells #[.int .i64 0, .int .i64 0, .int .u64 0, .int .u64 0, .int .i64 0, .int .i64 0] 26)).alloc (.cells #[.int .i64 D, .int .i64 T, .int .u64 W0, .int .u64 O0, .int .i64 N, .int .i64 M] 26)) := ⟨_, rfl⟩
      obtain ⟨B1, B2, B3, G3⟩ := HW.out wz hwz
      rw [← hwz]
      obtain ⟨ob, hob⟩ : ∃ ob, ob = w.heap.size + 1 + 1 := ⟨_, rfl⟩
      rw [← hob] at B3 ⊢
      obtain ⟨rb, hrb⟩ : ∃ rb, rb = w.heap.size + 1 := ⟨_, rfl⟩
      rw [← hrb] at B2 ⊢
      obtain ⟨lb, hlb⟩ : ∃ lb, lb = w.heap.size := ⟨_, rfl⟩
      rw [← hlb] at B1
      try rw [← hlb]
      have n1 : lb ≠ ob := by omega
      have n2 : rb ≠ ob := by omega
      have n3 : ob ≠ rb := by omega
      have n4 : ob ≠ lb := by omega
      have n5 : rb ≠ lb := by omega
      have NL := Lib.hid (show w.heap.size ≤ ob ∧ w.heap.size ≤ rb by omega)
      clear hwz hob hrb hlb
      have HGF := Lib.hid (show ∀ w', But (fun k => k = rb ∨ k = ob) wz w' → But (fun _ => False) w w' from fun w' g => G3.trans' g (fun k hk => .inr (by rcases hk with rfl | rfl; exact NL.out.2; exact NL.out.1)))
      have HG3 := Lib.hid G3
      clear G3
      have lb7 : wz.cell? ⟨lb, 7, none⟩ = some (.string sW) := B1.cell 7
      have lb8 : wz.cell? ⟨lb, 8, none⟩ = some (.string sO) := B1.cell 8
      have rb0 : wz.cell? ⟨rb, 0, none⟩ = some (.int .i64 0) := B2.cell 0
      have rb1 : wz.cell? ⟨rb, 1, none⟩ = some (.int .i64 0) := B2.cell 1
      have rb2 : wz.cell? ⟨rb, 2, none⟩ = some (.int .u64 0) := B2.cell 2
      have rb3 : wz.cell? ⟨rb, 3, none⟩ = some (.int .u64 0) := B2.cell 3
      have rb4 : wz.cell? ⟨rb, 4, none⟩ = some (.int .i64 0) := B2.cell 4
      have rb5 : wz.cell? ⟨rb, 5, none⟩ = some (.int .i64 0) := B2.cell 5
      have frb0 := B2.frozen 0
      have frb1 := B2.frozen 1
      have frb2 := B2.frozen 2
      have frb3 := B2.frozen 3
      have frb4 := B2.frozen 4
      have frb5 := B2.frozen 5
      have ob0 : wz.cell? ⟨ob, 0, none⟩ = some (.int .i64 D) := B3.cell 0
      have ob1 : wz.cell? ⟨ob, 1, none⟩ = some (.int .i64 T) := B3.cell 1
      have ob2 : wz.cell? ⟨ob, 2, none⟩ = some (.int .u64 W0) := B3.cell 2
      have ob3 : wz.cell? ⟨ob, 3, none⟩ = some (.int .u64 O0) := B3.cell 3
      have ob4 : wz.cell? ⟨ob, 4, none⟩ = some (.int .i64 N) := B3.cell 4
      have ob5 : wz.cell? ⟨ob, 5, none⟩ = some (.int .i64 M) := B3.cell 5
      have fob0 := B3.frozen 0
      have fob1 := B3.frozen 1
      have fob2 := B3.frozen 2
      have fob3 := B3.frozen 3
      have fob4 := B3.frozen 4
      have fob5 := B3.frozen 5
      clear B1 B2 B3
      refine (HRW.out _ (fun k => k = rb ∨ k = ob ∨ w.heap.size ≤ k) (HG3.out.mono (fun k q => q.elim)) (fun k hk => by rcases hk with rfl | rfl | q; exact NL.out.2; exact NL.out.1; exact q) sO).mono ?_
      rintro e wb ⟨rfl, rfl⟩
      rw [HWO.out]
      go_wp2_with fail
      refine bodyPost_ret (v := .tuple #[.agg #[.int .i64 0, .int .i64 0, .int .u64 0, .int .u64 0, .int .i64 0, .int .i64 0], .int .i64 9]) ?_ rfl ⟨by rw [fillV_no2 HY.out], HGF.out _ (((((((But.refl (fun k => k = rb ∨ k = ob) wb).setCell (p := ⟨rb, 0, none⟩) (.inl (.inl rfl)) _).setCell (p := ⟨rb, 1, none⟩) (.inl (.inl rfl)) _).setCell (p := ⟨rb, 2, none⟩) (.inl (.inl rfl)) _).setCell (p := ⟨rb, 3, none⟩) (.inl (.inl rfl)) _).setCell (p := ⟨rb, 4, none⟩) (.inl (.inl rfl)) _).setCell (p := ⟨rb, 5, none⟩) (.inl (.inl rfl)) _)⟩
      simp [results, Try.results12, go_sem, rb0, rb1, rb2, rb3, rb4, rb5]
  have hew : sW.toList.isEmpty = false := by rw [← Bool.not_eq_true, nonempty_iff]; exact hw
  have hxo := one_word (L := L) hw W0
  obtain ⟨xv, xe, hwo⟩ : ∃ xv xe, wordR L sW = (xv, xe) := ⟨_, _, rfl⟩
  have hxe : xe = 0 ∨ xe = 9 := by have := wordR_err L sW; rw [hwo] at this; exact this
  rw [hwo] at hxo
  have HWX := Lib.hid hwo
  clear hw hwo
  rcases hxe with rfl | rfl
  · have HX := Lib.hid hxo
    clear hxo
    by_cases ho : sO.size = 0
    · have heo : sO.toList.isEmpty = true := (nonempty_iff sO).2 ho
      have HY := Lib.hid (one_empty (L := L) ho O0)
      clear ho
      go_enter Try.func12, Try.ntmps12
      go_wp2_with fail
      obtain ⟨wz, hwz⟩ : ∃ wz, wz = (((w.alloc (.cells #[.string sB, .int .i64 D, .int .i64 T, .int .u64 W0, .int .u64 O0, .int .i64 N, .int .i64 M, .string sW, .string sO] 45)).alloc (.cells #[.int .i64 0, .int .i64 0, .int .u64 0, .int .u64 0, .int .i64 0, .int .i64 0] 26)).alloc (.cells #[.int .i64 D, .int .i64 T, .int .u64 W0, .int .u64 O0, .int .i64 N, .int .i64 M] 26)) := ⟨_, rfl⟩
      obtain ⟨B1, B2, B3, G3⟩ := HW.out wz hwz
      rw [← hwz]
      obtain ⟨ob, hob⟩ : ∃ ob, ob = w.heap.size + 1 + 1 := ⟨_, rfl⟩
      rw [← hob] at B3 ⊢
      obtain ⟨rb, hrb⟩ : ∃ rb, rb = w.heap.size + 1 := ⟨_, rfl⟩
      rw [← hrb] at B2 ⊢
      obtain ⟨lb, hlb⟩ : ∃ lb, lb = w.heap.size := ⟨_, rfl⟩
      rw [← hlb] at B1
      try rw [← hlb]
      have n1 : lb ≠ ob := by omega
      have n2 : rb ≠ ob := by omega
      have n3 : ob ≠ rb := by omega
      have n4 : ob ≠ lb := by omega
      have n5 : rb ≠ lb := by omega
      have NL := Lib.hid (show w.heap.size ≤ ob ∧ w.heap.size ≤ rb by omega)
      clear hwz hob hrb hlb
      have HGF := Lib.hid (show ∀ w', But (fun k => k = rb ∨ k = ob) wz w' → But (fun _ => False) w w' from fun w' g => G3.trans' g (fun k hk => .inr (by rcases hk with rfl | rfl; exact NL.out.2; exact NL.out.1)))
      have HG3 := Lib.hid G3
      clear G3
      have lb7 : wz.cell? ⟨lb, 7, none⟩ = some (.string sW) := B1.cell 7
      have lb8 : wz.cell? ⟨lb, 8, none⟩ = some (.string sO) := B1.cell 8
      have rb0 : wz.cell? ⟨rb, 0, none⟩ = some (.int .i64 0) := B2.cell 0
      have rb1 : wz.cell? ⟨rb, 1, none⟩ = some (.int .i64 0) := B2.cell 1
      have rb2 : wz.cell? ⟨rb, 2, none⟩ = some (.int .u64 0) := B2.cell 2
      have rb3 : wz.cell? ⟨rb, 3, none⟩ = some (.int .u64 0) := B2.cell 3
      have rb4 : wz.cell? ⟨rb, 4, none⟩ = some (.int .i64 0) := B2.cell 4
      have rb5 : wz.cell? ⟨rb, 5, none⟩ = some (.int .i64 0) := B2.cell 5
      have frb0 := B2.frozen 0
      have frb1 := B2.frozen 1
      have frb2 := B2.frozen 2
      have frb3 := B2.frozen 3
      have frb4 := B2.frozen 4
      have frb5 := B2.frozen 5
      have ob0 : wz.cell? ⟨ob, 0, none⟩ = some (.int .i64 D) := B3.cell 0
      have ob1 : wz.cell? ⟨ob, 1, none⟩ = some (.int .i64 T) := B3.cell 1
      have ob2 : wz.cell? ⟨ob, 2, none⟩ = some (.int .u64 W0) := B3.cell 2
      have ob3 : wz.cell? ⟨ob, 3, none⟩ = some (.int .u64 O0) := B3.cell 3
      have ob4 : wz.cell? ⟨ob, 4, none⟩ = some (.int .i64 N) := B3.cell 4
      have ob5 : wz.cell? ⟨ob, 5, none⟩ = some (.int .i64 M) := B3.cell 5
      have fob0 := B3.frozen 0
      have fob1 := B3.frozen 1
      have fob2 := B3.frozen 2
      have fob3 := B3.frozen 3
      have fob4 := B3.frozen 4
      have fob5 := B3.frozen 5
      clear B1 B2 B3
      refine (HRW.out _ (fun k => k = rb ∨ k = ob ∨ w.heap.size ≤ k) (HG3.out.mono (fun k q => q.elim)) (fun k hk => by rcases hk with rfl | rfl | q; exact NL.out.2; exact NL.out.1; exact q) sW).mono ?_
      rintro e wb ⟨rfl, rfl⟩
      rw [HWX.out]
      go_wp2_with fail
      refine bodyPost_ret (v := .tuple #[.agg #[.int .i64 D, .int .i64 T, .int .u64 xv, .int .u64 O0, .int .i64 N, .int .i64 M], .int .i64 0]) ?_ rfl ⟨by rw [fillV_yes HX.out HY.out], HGF.out _ ((((((((But.refl (fun k => k = rb ∨ k = ob) wb).setCell (p := ⟨ob, 2, none⟩) (.inl (.inr rfl)) _).setCell (p := ⟨rb, 0, none⟩) (.inl (.inl rfl)) _).setCell (p := ⟨rb, 1, none⟩) (.inl (.inl rfl)) _).setCell (p := ⟨rb, 2, none⟩) (.inl (.inl rfl)) _).setCell (p := ⟨rb, 3, none⟩) (.inl (.inl rfl)) _).setCell (p := ⟨rb, 4, none⟩) (.inl (.inl rfl)) _).setCell (p := ⟨rb, 5, none⟩) (.inl (.inl rfl)) _)⟩
      simp [results, Try.results12, go_sem, rb0, rb1, rb2, rb3, rb4, rb5]
    have heo : sO.toList.isEmpty = false := by rw [← Bool.not_eq_true, nonempty_iff]; exact ho
    have hyo := one_word (L := L) ho O0
    obtain ⟨yv, ye, hwo⟩ : ∃ yv ye, wordR L sO = (yv, ye) := ⟨_, _, rfl⟩
    have hye : ye = 0 ∨ ye = 9 := by have := wordR_err L sO; rw [hwo] at this; exact this
    rw [hwo] at hyo
    have HWO := Lib.hid hwo
    clear ho hwo
    rcases hye with rfl | rfl
    · have HY := Lib.hid hyo
      clear hyo
      go_enter Try.func12, Try.ntmps12
      go_wp2_with fail
      obtain ⟨wz, hwz⟩ : ∃ wz, wz = (((w.alloc (.cells #[.string sB, .int .i64 D, .int .i64 T, .int .u64 W0, .int .u64 O0, .int .i64 N, .int .i64 M, .string sW, .string sO] 45)).alloc (.cells #[.int .i64 0, .int .i64 0, .int .u64 0, .int .u64 0, .int .i64 0, .int .i64 0] 26)).alloc (.cells #[.int .i64 D, .int .i64 T, .int .u64 W0, .int .u64 O0, .int .i64 N, .int .i64 M] 26)) := ⟨_, rfl⟩
      obtain ⟨B1, B2, B3, G3⟩ := HW.out wz hwz
      rw [← hwz]
      obtain ⟨ob, hob⟩ : ∃ ob, ob = w.heap.size + 1 + 1 := ⟨_, rfl⟩
      rw [← hob] at B3 ⊢
      obtain ⟨rb, hrb⟩ : ∃ rb, rb = w.heap.size + 1 := ⟨_, rfl⟩
      rw [← hrb] at B2 ⊢
      obtain ⟨lb, hlb⟩ : ∃ lb, lb = w.heap.size := ⟨_, rfl⟩
      rw [← hlb] at B1
      try rw [← hlb]
      have n1 : lb ≠ ob := by omega
      have n2 : rb ≠ ob := by omega
      have n3 : ob ≠ rb := by omega
      have n4 : ob ≠ lb := by omega
      have n5 : rb ≠ lb := by omega
      have NL := Lib.hid (show w.heap.size ≤ ob ∧ w.heap.size ≤ rb by omega)
      clear hwz hob hrb hlb
      have HGF := Lib.hid (show ∀ w', But (fun k => k = rb ∨ k = ob) wz w' → But (fun _ => False) w w' from fun w' g => G3.trans' g (fun k hk => .inr (by rcases hk with rfl | rfl; exact NL.out.2; exact NL.out.1)))
      have HG3 := Lib.hid G3
      clear G3
      have lb7 : wz.cell? ⟨lb, 7, none⟩ = some (.string sW) := B1.cell 7
      have lb8 : wz.cell? ⟨lb, 8, none⟩ = some (.string sO) := B1.cell 8
      have rb0 : wz.cell? ⟨rb, 0, none⟩ = some (.int .i64 0) := B2.cell 0
      have rb1 : wz.cell? ⟨rb, 1, none⟩ = some (.int .i64 0) := B2.cell 1
      have rb2 : wz.cell? ⟨rb, 2, none⟩ = some (.int .u64 0) := B2.cell 2
      have rb3 : wz.cell? ⟨rb, 3, none⟩ = some (.int .u64 0) := B2.cell 3
      have rb4 : wz.cell? ⟨rb, 4, none⟩ = some (.int .i64 0) := B2.cell 4
      have rb5 : wz.cell? ⟨rb, 5, none⟩ = some (.int .i64 0) := B2.cell 5
      have frb0 := B2.frozen 0
      have frb1 := B2.frozen 1
      have frb2 := B2.frozen 2
      have frb3 := B2.frozen 3
      have frb4 := B2.frozen 4
      have frb5 := B2.frozen 5
      have ob0 : wz.cell? ⟨ob, 0, none⟩ = some (.int .i64 D) := B3.cell 0
      have ob1 : wz.cell? ⟨ob, 1, none⟩ = some (.int .i64 T) := B3.cell 1
      have ob2 : wz.cell? ⟨ob, 2, none⟩ = some (.int .u64 W0) := B3.cell 2
      have ob3 : wz.cell? ⟨ob, 3, none⟩ = some (.int .u64 O0) := B3.cell 3
      have ob4 : wz.cell? ⟨ob, 4, none⟩ = some (.int .i64 N) := B3.cell 4
      have ob5 : wz.cell? ⟨ob, 5, none⟩ = some (.int .i64 M) := B3.cell 5
      have fob0 := B3.frozen 0
      have fob1 := B3.frozen 1
      have fob2 := B3.frozen 2
      have fob3 := B3.frozen 3
      have fob4 := B3.frozen 4
      have fob5 := B3.frozen 5
      clear B1 B2 B3
      refine (HRW.out _ (fun k => k = rb ∨ k = ob ∨ w.heap.size ≤ k) (HG3.out.mono (fun k q => q.elim)) (fun k hk => by rcases hk with rfl | rfl | q; exact NL.out.2; exact NL.out.1; exact q) sW).mono ?_
      rintro e wb ⟨rfl, rfl⟩
      rw [HWX.out]
      go_wp2_with fail
      refine (HRW.out _ (fun k => k = rb ∨ k = ob ∨ w.heap.size ≤ k) ((HG3.out.mono (fun k q => q.elim)).setCell (p := ⟨ob, 2, none⟩) (.inl (.inr (.inl rfl))) _) (fun k hk => by rcases hk with rfl | rfl | q; exact NL.out.2; exact NL.out.1; exact q) sO).mono ?_
      rintro e wb ⟨rfl, rfl⟩
      rw [HWO.out]
      go_wp2_with fail
      refine bodyPost_ret (v := .tuple #[.agg #[.int .i64 D, .int .i64 T, .int .u64 xv, .int .u64 yv, .int .i64 N, .int .i64 M], .int .i64 0]) ?_ rfl ⟨by rw [fillV_yes HX.out HY.out], HGF.out _ (((((((((But.refl (fun k => k = rb ∨ k = ob) wb).setCell (p := ⟨ob, 2, none⟩) (.inl (.inr rfl)) _).setCell (p := ⟨ob, 3, none⟩) (.inl (.inr rfl)) _).setCell (p := ⟨rb, 0, none⟩) (.inl (.inl rfl)) _).setCell (p := ⟨rb, 1, none⟩) (.inl (.inl rfl)) _).setCell (p := ⟨rb, 2, none⟩) (.inl (.inl rfl)) _).setCell (p := ⟨rb, 3, none⟩) (.inl (.inl rfl)) _).setCell (p := ⟨rb, 4, none⟩) (.inl (.inl rfl)) _).setCell (p := ⟨rb, 5, none⟩) (.inl (.inl rfl)) _)⟩
      simp [results, Try.results12, go_sem, rb0, rb1, rb2, rb3, rb4, rb5]
    · have HY := Lib.hid (show (one L sO O0).2 = 9 by rw [hyo])
      clear hyo
      go_enter Try.func12, Try.ntmps12
      go_wp2_with fail
      obtain ⟨wz, hwz⟩ : ∃ wz, wz = (((w.alloc (.cells #[.string sB, .int .i64 D, .int .i64 T, .int .u64 W0, .int .u64 O0, .int .i64 N, .int .i64 M, .string sW, .string sO] 45)).alloc (.cells #[.int .i64 0, .int .i64 0, .int .u64 0, .int .u64 0, .int .i64 0, .int .i64 0] 26)).alloc (.cells #[.int .i64 D, .int .i64 T, .int .u64 W0, .int .u64 O0, .int .i64 N, .int .i64 M] 26)) := ⟨_, rfl⟩
      obtain ⟨B1, B2, B3, G3⟩ := HW.out wz hwz
      rw [← hwz]
      obtain ⟨ob, hob⟩ : ∃ ob, ob = w.heap.size + 1 + 1 := ⟨_, rfl⟩
      rw [← hob] at B3 ⊢
      obtain ⟨rb, hrb⟩ : ∃ rb, rb = w.heap.size + 1 := ⟨_, rfl⟩
      rw [← hrb] at B2 ⊢
      obtain ⟨lb, hlb⟩ : ∃ lb, lb = w.heap.size := ⟨_, rfl⟩
      rw [← hlb] at B1
      try rw [← hlb]
      have n1 : lb ≠ ob := by omega
      have n2 : rb ≠ ob := by omega
      have n3 : ob ≠ rb := by omega
      have n4 : ob ≠ lb := by omega
      have n5 : rb ≠ lb := by omega
      have NL := Lib.hid (show w.heap.size ≤ ob ∧ w.heap.size ≤ rb by omega)
      clear hwz hob hrb hlb
      have HGF := Lib.hid (show ∀ w', But (fun k => k = rb ∨ k = ob) wz w' → But (fun _ => False) w w' from fun w' g => G3.trans' g (fun k hk => .inr (by rcases hk with rfl | rfl; exact NL.out.2; exact NL.out.1)))
      have HG3 := Lib.hid G3
      clear G3
      have lb7 : wz.cell? ⟨lb, 7, none⟩ = some (.string sW) := B1.cell 7
      have lb8 : wz.cell? ⟨lb, 8, none⟩ = some (.string sO) := B1.cell 8
      have rb0 : wz.cell? ⟨rb, 0, none⟩ = some (.int .i64 0) := B2.cell 0
      have rb1 : wz.cell? ⟨rb, 1, none⟩ = some (.int .i64 0) := B2.cell 1
      have rb2 : wz.cell? ⟨rb, 2, none⟩ = some (.int .u64 0) := B2.cell 2
      have rb3 : wz.cell? ⟨rb, 3, none⟩ = some (.int .u64 0) := B2.cell 3
      have rb4 : wz.cell? ⟨rb, 4, none⟩ = some (.int .i64 0) := B2.cell 4
      have rb5 : wz.cell? ⟨rb, 5, none⟩ = some (.int .i64 0) := B2.cell 5
      have frb0 := B2.frozen 0
      have frb1 := B2.frozen 1
      have frb2 := B2.frozen 2
      have frb3 := B2.frozen 3
      have frb4 := B2.frozen 4
      have frb5 := B2.frozen 5
      have ob0 : wz.cell? ⟨ob, 0, none⟩ = some (.int .i64 D) := B3.cell 0
      have ob1 : wz.cell? ⟨ob, 1, none⟩ = some (.int .i64 T) := B3.cell 1
      have ob2 : wz.cell? ⟨ob, 2, none⟩ = some (.int .u64 W0) := B3.cell 2
      have ob3 : wz.cell? ⟨ob, 3, none⟩ = some (.int .u64 O0) := B3.cell 3
      have ob4 : wz.cell? ⟨ob, 4, none⟩ = some (.int .i64 N) := B3.cell 4
      have ob5 : wz.cell? ⟨ob, 5, none⟩ = some (.int .i64 M) := B3.cell 5
      have fob0 := B3.frozen 0
      have fob1 := B3.frozen 1
      have fob2 := B3.frozen 2
      have fob3 := B3.frozen 3
      have fob4 := B3.frozen 4
      have fob5 := B3.frozen 5
      clear B1 B2 B3
      refine (HRW.out _ (fun k => k = rb ∨ k = ob ∨ w.heap.size ≤ k) (HG3.out.mono (fun k q => q.elim)) (fun k hk => by rcases hk with rfl | rfl | q; exact NL.out.2; exact NL.out.1; exact q) sW).mono ?_
      rintro e wb ⟨rfl, rfl⟩
      rw [HWX.out]
      go_wp2_with fail
      refine (HRW.out _ (fun k => k = rb ∨ k = ob ∨ w.heap.size ≤ k) ((HG3.out.mono (fun k q => q.elim)).setCell (p := ⟨ob, 2, none⟩) (.inl (.inr (.inl rfl))) _) (fun k hk => by rcases hk with rfl | rfl | q; exact NL.out.2; exact NL.out.1; exact q) sO).mono ?_
      rintro e wb ⟨rfl, rfl⟩
      rw [HWO.out]
      go_wp2_with fail
      refine bodyPost_ret (v := .tuple #[.agg #[.int .i64 0, .int .i64 0, .int .u64 0, .int .u64 0, .int .i64 0, .int .i64 0], .int .i64 9]) ?_ rfl ⟨by rw [fillV_no2 HY.out], HGF.out _ ((((((((But.refl (fun k => k = rb ∨ k = ob) wb).setCell (p := ⟨ob, 2, none⟩) (.inl (.inr rfl)) _).setCell (p := ⟨rb, 0, none⟩) (.inl (.inl rfl)) _).setCell (p := ⟨rb, 1, none⟩) (.inl (.inl rfl)) _).setCell (p := ⟨rb, 2, none⟩) (.inl (.inl rfl)) _).setCell (p := ⟨rb, 3, none⟩) (.inl (.inl rfl)) _).setCell (p := ⟨rb, 4, none⟩) (.inl (.inl rfl)) _).setCell (p := ⟨rb, 5, none⟩) (.inl (.inl rfl)) _)⟩
      simp [results, Try.results12, go_sem, rb0, rb1, rb2, rb3, rb4, rb5]
  · have HX := Lib.hid (show (one L sW W0).2 = 9 by rw [hxo])
    clear hxo
    go_enter Try.func12, Try.ntmps12
    go_wp2_with fail
    obtain ⟨wz, hwz⟩ : ∃ wz, wz = (((w.alloc (.cells #[.string sB, .int .i64 D, .int .i64 T, .int .u64 W0, .int .u64 O0, .int .i64 N, .int .i64 M, .string sW, .string sO] 45)).alloc (.cells #[.int .i64 0, .int .i64 0, .int .u64 0, .int .u64 0, .int .i64 0, .int .i64 0] 26)).alloc (.cells #[.int .i64 D, .int .i64 T, .int .u64 W0, .int .u64 O0, .int .i64 N, .int .i64 M] 26)) := ⟨_, rfl⟩
    obtain ⟨B1, B2, B3, G3⟩ := HW.out wz hwz
    rw [← hwz]
    obtain ⟨ob, hob⟩ : ∃ ob, ob = w.heap.size + 1 + 1 := ⟨_, rfl⟩
    rw [← hob] at B3 ⊢
    obtain ⟨rb, hrb⟩ : ∃ rb, rb = w.heap.size + 1 := ⟨_, rfl⟩
    rw [← hrb] at B2 ⊢
    obtain ⟨lb, hlb⟩ : ∃ lb, lb = w.heap.size := ⟨_, rfl⟩
    rw [← hlb] at B1
    try rw [← hlb]
    have n1 : lb ≠ ob := by omega
    have n2 : rb ≠ ob := by omega
    have n3 : ob ≠ rb := by omega
    have n4 : ob ≠ lb := by omega
    have n5 : rb ≠ lb := by omega
    have NL := Lib.hid (show w.heap.size ≤ ob ∧ w.heap.size ≤ rb by omega)
    clear hwz hob hrb hlb
    have HGF := Lib.hid (show ∀ w', But (fun k => k = rb ∨ k = ob) wz w' → But (fun _ => False) w w' from fun w' g => G3.trans' g (fun k hk => .inr (by rcases hk with rfl | rfl; exact NL.out.2; exact NL.out.1)))
    have HG3 := Lib.hid G3
    clear G3
    have lb7 : wz.cell? ⟨lb, 7, none⟩ = some (.string sW) := B1.cell 7
    have lb8 : wz.cell? ⟨lb, 8, none⟩ = some (.string sO) := B1.cell 8
    have rb0 : wz.cell? ⟨rb, 0, none⟩ = some (.int .i64 0) := B2.cell 0
    have rb1 : wz.cell? ⟨rb, 1, none⟩ = some (.int .i64 0) := B2.cell 1
    have rb2 : wz.cell? ⟨rb, 2, none⟩ = some (.int .u64 0) := B2.cell 2
    have rb3 : wz.cell? ⟨rb, 3, none⟩ = some (.int .u64 0) := B2.cell 3
    have rb4 : wz.cell? ⟨rb, 4, none⟩ = some (.int .i64 0) := B2.cell 4
    have rb5 : wz.cell? ⟨rb, 5, none⟩ = some (.int .i64 0) := B2.cell 5
    have frb0 := B2.frozen 0
    have frb1 := B2.frozen 1
    have frb2 := B2.frozen 2
    have frb3 := B2.frozen 3
    have frb4 := B2.frozen 4
    have frb5 := B2.frozen 5
    have ob0 : wz.cell? ⟨ob, 0, none⟩ = some (.int .i64 D) := B3.cell 0
    have ob1 : wz.cell? ⟨ob, 1, none⟩ = some (.int .i64 T) := B3.cell 1
    have ob2 : wz.cell? ⟨ob, 2, none⟩ = some (.int .u64 W0) := B3.cell 2
    have ob3 : wz.cell? ⟨ob, 3, none⟩ = some (.int .u64 O0) := B3.cell 3
    have ob4 : wz.cell? ⟨ob, 4, none⟩ = some (.int .i64 N) := B3.cell 4
    have ob5 : wz.cell? ⟨ob, 5, none⟩ = some (.int .i64 M) := B3.cell 5
    have fob0 := B3.frozen 0
    have fob1 := B3.frozen 1
    have fob2 := B3.frozen 2
    have fob3 := B3.frozen 3
    have fob4 := B3.frozen 4
    have fob5 := B3.frozen 5
    clear B1 B2 B3
    refine (HRW.out _ (fun k => k = rb ∨ k = ob ∨ w.heap.size ≤ k) (HG3.out.mono (fun k q => q.elim)) (fun k hk => by rcases hk with rfl | rfl | q; exact NL.out.2; exact NL.out.1; exact q) sW).mono ?_
    rintro e wb ⟨rfl, rfl⟩
    rw [HWX.out]
    go_wp2_with fail
    refine bodyPost_ret (v := .tuple #[.agg #[.int .i64 0, .int .i64 0, .int .u64 0, .int .u64 0, .int .i64 0, .int .i64 0], .int .i64 9]) ?_ rfl ⟨by rw [fillV_no1 HX.out], HGF.out _ (((((((But.refl (fun k => k = rb ∨ k = ob) wb).setCell (p := ⟨rb, 0, none⟩) (.inl (.inl rfl)) _).setCell (p := ⟨rb, 1, none⟩) (.inl (.inl rfl)) _).setCell (p := ⟨rb, 2, none⟩) (.inl (.inl rfl)) _).setCell (p := ⟨rb, 3, none⟩) (.inl (.inl rfl)) _).setCell (p := ⟨rb, 4, none⟩) (.inl (.inl rfl)) _).setCell (p := ⟨rb, 5, none⟩) (.inl (.inl rfl)) _)⟩
    simp [results, Try.results12, go_sem, rb0, rb1, rb2, rb3, rb4, rb5]
end Names
end Go.Proofs.Ytgbcbadccahfcaa
