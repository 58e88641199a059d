/- Fill of package names (layer 22), walked. -/
import Derived.Test.YtgbcbadccahfcaaNamesAll
import Derived.Deep.RegionHeld3
set_option linter.unusedVariables false
set_option linter.unusedSimpArgs false
namespace Go.Proofs.Ytgbcbadccahfcaa
open Go.RowKit

namespace Names
open Lex

theorem cell_far {w : World} {p a : Addr} {u v : Value} (h : w.cell? a = some v) (ha : a.block ≠ p.block) : (w.setCell p u).cell? a = some v := by
  rw [← h]
  exact World.cell?_of_block (w := w) (Below.heap_setCell w p u a.block ha)
theorem drew_cell (W : World) (a : Addr) : W.drew.cell? a = W.cell? a := rfl
theorem blk_at (w : World) (cs : Array Value) (T : TypeId) {b : Nat} (hb : w.heap.size = b) : Blk (w.alloc (.cells cs T)) b cs T := hb ▸ Blk.new w cs T
/-- The word that is filled in, and the error. -/
def one (L : List Wd) (s : ByteArray) (old : Int) : Int × Int := if s.size = 0 then (old, 0) else wordR L s
def mx (a b : Int) : Int := if a < b then b else a
theorem wordR_err (L : List Wd) (s : ByteArray) : (wordR L s).2 = 0 ∨ (wordR L s).2 = 9 := by
  unfold wordR
  cases lk L s <;> simp
theorem one_err (L : List Wd) (s : ByteArray) (old : Int) : (one L s old).2 = 0 ∨ (one L s old).2 = 9 := by
  unfold one
  split
  · exact .inl rfl
  · exact wordR_err L s
theorem mx_err {a b : Int} (ha : a = 0 ∨ a = 9) (hb : b = 0 ∨ b = 9) : mx a b = 0 ∨ mx a b = 9 := by
  unfold mx
  split
  · exact hb
  · exact ha

set_option maxHeartbeats 4000000 in
set_option maxRecDepth 100000 in
theorem fillc_any {b mb : Nat} {L : List Wd} {w : World} (h : Bk b mb L w) (s : ByteArray) (ob k bb eb : Nat) (cs : Array Value) (T : TypeId) (old e0 : Int) (hbb : w.cell? ⟨bb, 0, none⟩ = some (.pointer (some ⟨b, 0, none⟩))) (ho : Blk w ob cs T) (hk : cs[k]? = some (.int .u64 old))
    (hE : Blk w eb #[.int .i64 e0] 35) (he0 : e0 = 0 ∨ e0 = 9) (hne : ob ≠ eb) :
    Calls Try.prog 17 #[.string s, .pointer (some ⟨ob, k, none⟩), .pointer (some ⟨bb, 0, none⟩), .pointer (some ⟨eb, 0, none⟩)] w fun e w' => e = .returned (.tuple #[]) ∧
      Blk w' ob (cs.setIfInBounds k (.int .u64 (one L s old).1)) T ∧ Blk w' eb #[.int .i64 (mx e0 (one L s old).2)] 35 ∧ But (fun j => j = ob ∨ j = eb) w w' := by
  by_cases hz : s.size = 0
  · have he : s.toList.isEmpty = true := (nonempty_iff s).2 hz
    have h1 : one L s old = (old, 0) := by unfold one; rw [if_pos hz]
    have h2 : mx e0 0 = e0 := by
      rcases he0 with rfl | rfl <;> rfl
    have h3 : cs.setIfInBounds k (.int .u64 old) = cs := by
      obtain ⟨hlt, e⟩ := Array.getElem?_eq_some_iff.1 hk
      rw [Array.setIfInBounds, dif_pos hlt]
      rw [← e]
      exact Array.set_getElem_self _
    rw [h1, h2, h3]
    clear hz h h1 h2 h3
    go_enter Try.func17, Try.ntmps17
    go_wp2_with fail
    first
      | exact bodyPost_end (results_none rfl _ _ _) rfl ⟨rfl, ho, hE, But.refl _ w⟩
      | (refine bodyPost_ret (v := .tuple #[]) ?_ rfl ⟨rfl, ho, hE, But.refl _ w⟩; simp [results, Try.results17, go_sem])
  · have he : s.toList.isEmpty = false := by rw [← Bool.not_eq_true, nonempty_iff]; exact hz
    have h1 : one L s old = wordR L s := by unfold one; rw [if_neg hz]
    rw [h1]
    obtain ⟨wv, we, hwr⟩ : ∃ wv we, wordR L s = (wv, we) := ⟨_, _, rfl⟩
    have hwe : we = 0 ∨ we = 9 := by have := wordR_err L s; rw [hwr] at this; exact this
    have HWR := Lib.hid hwr
    have HB := Lib.hid h
    have k0 : w.cell? ⟨ob, k, none⟩ = some (.int .u64 old) := (ho.cell k).trans hk
    have f0 := ho.frozen k
    have k1 : w.cell? ⟨eb, 0, none⟩ = some (.int .i64 e0) := hE.cell 0
    have f1 := hE.frozen 0
    have HF := Lib.hid (show ∀ z, Blk ((w.setCell ⟨ob, k, none⟩ (.int .u64 wv)).setCell ⟨eb, 0, none⟩ (.int .i64 z)) ob (cs.setIfInBounds k (.int .u64 wv)) T ∧ Blk ((w.setCell ⟨ob, k, none⟩ (.int .u64 wv)).setCell ⟨eb, 0, none⟩ (.int .i64 z)) eb #[.int .i64 z] 35 ∧ But (fun j => j = ob ∨ j = eb) w ((w.setCell ⟨ob, k, none⟩ (.int .u64 wv)).setCell ⟨eb, 0, none⟩ (.int .i64 z)) from fun z =>
      ⟨(ho.set k _).far hne _, (hE.far (p := ⟨ob, k, none⟩) (fun q => hne q.symm) _).put 0 _ rfl, ((But.refl _ w).setCell (p := ⟨ob, k, none⟩) (.inl (.inl rfl)) _).setCell (p := ⟨eb, 0, none⟩) (.inl (.inr rfl)) _⟩)
    rw [hwr]
    have hne2 : eb ≠ ob := fun q => hne q.symm
    have k2 : ∀ u, (w.setCell ⟨ob, k, none⟩ u).cell? ⟨eb, 0, none⟩ = some (.int .i64 e0) := fun u => ((hE.far (p := ⟨ob, k, none⟩) hne2 u).cell 0)
    have f2 : ∀ u, (w.setCell ⟨ob, k, none⟩ u).frozen? ⟨eb, 0, none⟩ = false := fun u => ((hE.far (p := ⟨ob, k, none⟩) hne2 u).frozen 0)
    clear hz h h1 ho hE hwr hk
    rcases he0 with rfl | rfl <;> rcases hwe with rfl | rfl
    all_goals
      go_enter Try.func17, Try.ntmps17
      go_wp2_with fail
      refine (word_any HB.out s).mono ?_
      rintro e w2 ⟨rfl, rfl⟩
      rw [HWR.out]
      go_wp2_with fail
      exact bodyPost_end (results_none rfl _ _ _) rfl ⟨rfl, HF.out _⟩

/-- The error of filling in. -/
def fillE (L : List Wd) (sW sO : ByteArray) (W0 O0 : Int) : Int := mx (mx 0 (one L sW W0).2) (one L sO O0).2
/-- What is told: the operation, the error. -/
def fillV (L : List Wd) (sW sO : ByteArray) (D T W0 O0 N M : Int) : Value := if fillE L sW sO W0 O0 = 0 then .tuple #[.agg #[.int .i64 D, .int .i64 T, .int .u64 (one L sW W0).1, .int .u64 (one L sO O0).1, .int .i64 N, .int .i64 M], .int .i64 0] else .tuple #[.agg #[.int .i64 0, .int .i64 0, .int .u64 0, .int .u64 0, .int .i64 0, .int .i64 0], .int .i64 9]

set_option maxHeartbeats 800000 in
set_option maxRecDepth 100000 in
theorem fill_any {b mb : Nat} {L : List Wd} {w : World} (h : Bk b mb L w) (sB sW sO : ByteArray) (D T W0 O0 N M : Int) :
    Calls Try.prog 11 #[.pointer (some ⟨b, 0, none⟩), .agg #[.string sB, .int .i64 D, .int .i64 T, .int .u64 W0, .int .u64 O0, .int .i64 N, .int .i64 M, .string sW, .string sO]] w fun e w' =>
      e = .returned (fillV L sW sO D T W0 O0 N M) ∧ But (fun _ => False) w w' := by
  have z1 : ∀ o, (w.alloc o).heap.size = w.heap.size + 1 := fun o => by simp
  have z2 : ∀ o p, ((w.alloc o).alloc p).heap.size = w.heap.size + 1 + 1 := fun o p => by simp
  have z3 : ∀ o p q, (((w.alloc o).alloc p).alloc q).heap.size = w.heap.size + 1 + 1 + 1 := fun o p q => by simp
  have z4 : ∀ o p q r, ((((w.alloc o).alloc p).alloc q).alloc r).heap.size = w.heap.size + 1 + 1 + 1 + 1 := fun o p q r => by simp
  have B1 := ((((Blk.new w #[.pointer (some ⟨b, 0, none⟩)] 30).alloc (.cells #[.string sB, .int .i64 D, .int .i64 T, .int .u64 W0, .int .u64 O0, .int .i64 N, .int .i64 M, .string sW, .string sO] 28)).alloc (.cells #[.int .i64 0, .int .i64 0, .int .u64 0, .int .u64 0, .int .i64 0, .int .i64 0] 26)).alloc (.cells #[.int .i64 D, .int .i64 T, .int .u64 W0, .int .u64 O0, .int .i64 N, .int .i64 M] 26)).alloc (.cells #[.int .i64 0] 35)
  have B2 := (((blk_at (w.alloc (.cells #[.pointer (some ⟨b, 0, none⟩)] 30)) #[.string sB, .int .i64 D, .int .i64 T, .int .u64 W0, .int .u64 O0, .int .i64 N, .int .i64 M, .string sW, .string sO] 28 (z1 _)).alloc (.cells #[.int .i64 0, .int .i64 0, .int .u64 0, .int .u64 0, .int .i64 0, .int .i64 0] 26)).alloc (.cells #[.int .i64 D, .int .i64 T, .int .u64 W0, .int .u64 O0, .int .i64 N, .int .i64 M] 26)).alloc (.cells #[.int .i64 0] 35)
  have B3 := ((blk_at ((w.alloc (.cells #[.pointer (some ⟨b, 0, none⟩)] 30)).alloc (.cells #[.string sB, .int .i64 D, .int .i64 T, .int .u64 W0, .int .u64 O0, .int .i64 N, .int .i64 M, .string sW, .string sO] 28)) #[.int .i64 0, .int .i64 0, .int .u64 0, .int .u64 0, .int .i64 0, .int .i64 0] 26 (z2 _ _)).alloc (.cells #[.int .i64 D, .int .i64 T, .int .u64 W0, .int .u64 O0, .int .i64 N, .int .i64 M] 26)).alloc (.cells #[.int .i64 0] 35)
  have B4 := (blk_at (((w.alloc (.cells #[.pointer (some ⟨b, 0, none⟩)] 30)).alloc (.cells #[.string sB, .int .i64 D, .int .i64 T, .int .u64 W0, .int .u64 O0, .int .i64 N, .int .i64 M, .string sW, .string sO] 28)).alloc (.cells #[.int .i64 0, .int .i64 0, .int .u64 0, .int .u64 0, .int .i64 0, .int .i64 0] 26)) #[.int .i64 D, .int .i64 T, .int .u64 W0, .int .u64 O0, .int .i64 N, .int .i64 M] 26 (z3 _ _ _)).alloc (.cells #[.int .i64 0] 35)
  have B5 := blk_at ((((w.alloc (.cells #[.pointer (some ⟨b, 0, none⟩)] 30)).alloc (.cells #[.string sB, .int .i64 D, .int .i64 T, .int .u64 W0, .int .u64 O0, .int .i64 N, .int .i64 M, .string sW, .string sO] 28)).alloc (.cells #[.int .i64 0, .int .i64 0, .int .u64 0, .int .u64 0, .int .i64 0, .int .i64 0] 26)).alloc (.cells #[.int .i64 D, .int .i64 T, .int .u64 W0, .int .u64 O0, .int .i64 N, .int .i64 M] 26)) #[.int .i64 0] 35 (z4 _ _ _ _)
  have G5 := (((((But.refl (fun _ => False) w).alloc (.cells #[.pointer (some ⟨b, 0, none⟩)] 30)).alloc (.cells #[.string sB, .int .i64 D, .int .i64 T, .int .u64 W0, .int .u64 O0, .int .i64 N, .int .i64 M, .string sW, .string sO] 28)).alloc (.cells #[.int .i64 0, .int .i64 0, .int .u64 0, .int .u64 0, .int .i64 0, .int .i64 0] 26)).alloc (.cells #[.int .i64 D, .int .i64 T, .int .u64 W0, .int .u64 O0, .int .i64 N, .int .i64 M] 26)).alloc (.cells #[.int .i64 0] 35)
  have HW := Lib.hid (show ∀ w', w' = ((((w.alloc (.cells #[.pointer (some ⟨b, 0, none⟩)] 30)).alloc (.cells #[.string sB, .int .i64 D, .int .i64 T, .int .u64 W0, .int .u64 O0, .int .i64 N, .int .i64 M, .string sW, .string sO] 28)).alloc (.cells #[.int .i64 0, .int .i64 0, .int .u64 0, .int .u64 0, .int .i64 0, .int .i64 0] 26)).alloc (.cells #[.int .i64 D, .int .i64 T, .int .u64 W0, .int .u64 O0, .int .i64 N, .int .i64 M] 26)).alloc (.cells #[.int .i64 0] 35) → Blk w' w.heap.size #[.pointer (some ⟨b, 0, none⟩)] 30 ∧ Blk w' (w.heap.size + 1) #[.string sB, .int .i64 D, .int .i64 T, .int .u64 W0, .int .u64 O0, .int .i64 N, .int .i64 M, .string sW, .string sO] 28 ∧ Blk w' (w.heap.size + 1 + 1) #[.int .i64 0, .int .i64 0, .int .u64 0, .int .u64 0, .int .i64 0, .int .i64 0] 26 ∧ Blk w' (w.heap.size + 1 + 1 + 1) #[.int .i64 D, .int .i64 T, .int .u64 W0, .int .u64 O0, .int .i64 N, .int .i64 M] 26 ∧ Blk w' (w.heap.size + 1 + 1 + 1 + 1) #[.int .i64 0] 35 ∧ But (fun _ => False) w w' from fun w' e => by rw [e]; exact ⟨B1, B2, B3, B4, B5, G5⟩)
  have H := Lib.hid h
  clear h B1 B2 B3 B4 B5 G5 z1 z2 z3 z4
  go_enter Try.func11, Try.ntmps11
  go_wp2_with fail
  obtain ⟨wz, hwz⟩ : ∃ wz, wz = ((((w.alloc (.cells #[.pointer (some ⟨b, 0, none⟩)] 30)).alloc (.cells #[.string sB, .int .i64 D, .int .i64 T, .int .u64 W0, .int .u64 O0, .int .i64 N, .int .i64 M, .string sW, .string sO] 28)).alloc (.cells #[.int .i64 0, .int .i64 0, .int .u64 0, .int .u64 0, .int .i64 0, .int .i64 0] 26)).alloc (.cells #[.int .i64 D, .int .i64 T, .int .u64 W0, .int .u64 O0, .int .i64 N, .int .i64 M] 26)).alloc (.cells #[.int .i64 0] 35) := ⟨_, rfl⟩
  obtain ⟨B1, B2, B3, B4, B5, G5⟩ := HW.out wz hwz
  rw [← hwz]
  clear hwz HW
  obtain ⟨eb, heb⟩ : ∃ eb, eb = w.heap.size + 1 + 1 + 1 + 1 := ⟨_, rfl⟩
  rw [← heb] at B5 ⊢
  obtain ⟨ob, hob⟩ : ∃ ob, ob = w.heap.size + 1 + 1 + 1 := ⟨_, rfl⟩
  rw [← hob] at B4 ⊢
  obtain ⟨rb, hrb⟩ : ∃ rb, rb = w.heap.size + 1 + 1 := ⟨_, rfl⟩
  rw [← hrb] at B3 ⊢
  obtain ⟨lb, hlb⟩ : ∃ lb, lb = w.heap.size + 1 := ⟨_, rfl⟩
  rw [← hlb] at B2 ⊢
  obtain ⟨bb, hbb⟩ : ∃ bb, bb = w.heap.size := ⟨_, rfl⟩
  rw [← hbb] at B1
  try rw [← hbb]
  have hbl := H.out.blk.lt
  have hml := H.out.mp.lt
  have NE := Lib.hid (show (ob ≠ eb ∧ bb ≠ ob ∧ bb ≠ eb ∧ lb ≠ ob ∧ lb ≠ eb ∧ rb ≠ ob ∧ rb ≠ eb ∧ b ≠ ob ∧ b ≠ eb ∧ mb ≠ ob ∧ mb ≠ eb) ∧ w.heap.size ≤ ob ∧ w.heap.size ≤ eb ∧ w.heap.size ≤ rb by omega)
  clear heb hob hrb hlb hbb hbl hml
  have H5 := Lib.hid (H.out.keep G5)
  have HG5 := Lib.hid G5
  obtain ⟨⟨n1, n2, n3, n4, n5, n6, n7, n8, n9, n10, n11⟩, l1, l2, l3⟩ := NE.out
  refine (fillc_any H5.out sW ob 2 bb eb _ _ W0 0 (B1.cell 0) B4 rfl B5 (.inl rfl) n1).mono ?_
  rintro e w6 ⟨rfl, B4', B5', g6⟩
  have out6 : ∀ k, k ≠ ob → k ≠ eb → ¬ (k = ob ∨ k = eb) := fun k q r z => by rcases z with z | z; exact q z; exact r z
  have B1' := B1.but g6 (out6 _ n2 n3)
  have B2' := B2.but g6 (out6 _ n4 n5)
  have B3' := B3.but g6 (out6 _ n6 n7)
  have H6 := Lib.hid (H5.out.but g6 (out6 _ n8 n9) (out6 _ n10 n11))
  have HG6 := Lib.hid (HG5.out.trans' g6 (fun k hk => .inr (by rcases hk with rfl | rfl; exact l1; exact l2)))
  obtain ⟨p1, hp1⟩ : ∃ p1, one L sW W0 = p1 := ⟨_, rfl⟩
  have he1 : mx 0 p1.2 = 0 ∨ mx 0 p1.2 = 9 := mx_err (.inl rfl) (by rw [← hp1]; exact one_err L sW W0)
  rw [hp1] at B4' B5'
  have HP1 := Lib.hid hp1
  have B4'' : Blk w6 ob #[.int .i64 D, .int .i64 T, .int .u64 p1.1, .int .u64 O0, .int .i64 N, .int .i64 M] 26 := B4'
  have q7 : w6.cell? ⟨lb, 8, none⟩ = some (.string sO) := B2'.cell 8
  clear B1 B2 B3 B4 B5 B4' g6 H5 HG5 hp1 G5
  have hB1 := Lib.hid B1'
  have hB3 := Lib.hid B3'
  have hB4 := Lib.hid B4''
  have hB5 := Lib.hid B5'
  clear B1' B2' B3' B4'' B5'
  go_wp2_with fail
  refine (fillc_any H6.out sO ob 3 bb eb _ _ O0 (mx 0 p1.2) (hB1.out.cell 0) hB4.out rfl hB5.out he1 n1).mono ?_
  rintro e w7 ⟨rfl, C4', C5', g7⟩
  have C3' := hB3.out.but g7 (out6 _ n6 n7)
  have HG7 := Lib.hid (HG6.out.trans' g7 (fun k hk => .inr (by rcases hk with rfl | rfl; exact l1; exact l2)))
  obtain ⟨p2, hp2⟩ : ∃ p2, one L sO O0 = p2 := ⟨_, rfl⟩
  rw [hp2] at C4' C5'
  have C4 : Blk w7 ob #[.int .i64 D, .int .i64 T, .int .u64 p1.1, .int .u64 p2.1, .int .i64 N, .int .i64 M] 26 := C4'
  have hfe : fillE L sW sO W0 O0 = mx (mx 0 p1.2) p2.2 := by unfold fillE; rw [HP1.out, hp2]
  have hee : mx (mx 0 p1.2) p2.2 = 0 ∨ mx (mx 0 p1.2) p2.2 = 9 := mx_err he1 (by rw [← hp2]; exact one_err L sO O0)
  have HP2 := Lib.hid hp2
  obtain ⟨z, hz⟩ : ∃ z, mx (mx 0 p1.2) p2.2 = z := ⟨_, rfl⟩
  rw [hz] at C5' hfe hee
  have HFE := Lib.hid hfe
  have v0 : w7.cell? ⟨eb, 0, none⟩ = some (.int .i64 z) := C5'.cell 0
  have r0 : w7.cell? ⟨rb, 0, none⟩ = some (.int .i64 0) := C3'.cell 0
  have r1 : w7.cell? ⟨rb, 1, none⟩ = some (.int .i64 0) := C3'.cell 1
  have r2 : w7.cell? ⟨rb, 2, none⟩ = some (.int .u64 0) := C3'.cell 2
  have r3 : w7.cell? ⟨rb, 3, none⟩ = some (.int .u64 0) := C3'.cell 3
  have r4 : w7.cell? ⟨rb, 4, none⟩ = some (.int .i64 0) := C3'.cell 4
  have r5 : w7.cell? ⟨rb, 5, none⟩ = some (.int .i64 0) := C3'.cell 5
  have s0 := C3'.frozen 0
  have s1 := C3'.frozen 1
  have s2 := C3'.frozen 2
  have s3 := C3'.frozen 3
  have s4 := C3'.frozen 4
  have s5 := C3'.frozen 5
  have o0 : w7.cell? ⟨ob, 0, none⟩ = some (.int .i64 D) := C4.cell 0
  have o1 : w7.cell? ⟨ob, 1, none⟩ = some (.int .i64 T) := C4.cell 1
  have o2 : w7.cell? ⟨ob, 2, none⟩ = some (.int .u64 p1.1) := C4.cell 2
  have o3 : w7.cell? ⟨ob, 3, none⟩ = some (.int .u64 p2.1) := C4.cell 3
  have o4 : w7.cell? ⟨ob, 4, none⟩ = some (.int .i64 N) := C4.cell 4
  have o5 : w7.cell? ⟨ob, 5, none⟩ = some (.int .i64 M) := C4.cell 5
  have HGF := Lib.hid (show ∀ w', But (fun k => k = rb) w7 w' → But (fun _ => False) w w' from fun w' g => HG7.out.trans' g (fun k hk => .inr (by rw [hk]; exact l3)))
  clear C3' C4 C4' C5' g7 hB1 hB3 hB4 hB5 q7 hz hp2 hfe he1 l1 l2 l3 n1 n2 n3 n4 n5 n6 n8 n9 n10 n11 H6 H
  have n12 : eb ≠ rb := fun q => n7 q.symm
  rcases hee with rfl | rfl
  · go_wp2_with fail
    refine bodyPost_ret (v := .tuple #[.agg #[.int .i64 D, .int .i64 T, .int .u64 p1.1, .int .u64 p2.1, .int .i64 N, .int .i64 M], .int .i64 0]) ?_ rfl ⟨by unfold fillV; rw [HFE.out, HP1.out, HP2.out, if_pos rfl], HGF.out _ (((((((But.refl (fun k => k = rb) w7).setCell (p := ⟨rb, 0, none⟩) (.inl rfl) _).setCell (p := ⟨rb, 1, none⟩) (.inl rfl) _).setCell (p := ⟨rb, 2, none⟩) (.inl rfl) _).setCell (p := ⟨rb, 3, none⟩) (.inl rfl) _).setCell (p := ⟨rb, 4, none⟩) (.inl rfl) _).setCell (p := ⟨rb, 5, none⟩) (.inl rfl) _)⟩
    simp [results, Try.results11, go_sem, r0, r1, r2, r3, r4, r5]
  · go_wp2_with fail
    -- region 8
    have HV9 := Lib.hid (show (Ending.returned (Value.tuple #[.agg #[.int .i64 0, .int .i64 0, .int .u64 0, .int .u64 0, .int .i64 0, .int .i64 0], .int .i64 9])) = .returned (fillV L sW sO D T W0 O0 N M) by unfold fillV; rw [HFE.out, if_neg (by decide)])
    refine wp_region_any (by kernel_rfl) ?_
    change wpAny _ _ _ _ _ _ _ (World.drew _)
    obtain ⟨wd, hwd⟩ : ∃ wd, wd = w7.drew := ⟨_, rfl⟩
    have v1 : wd.cell? ⟨eb, 0, none⟩ = some (.int .i64 9) := by rw [hwd]; exact v0
    have y0 : wd.cell? ⟨rb, 0, none⟩ = some (.int .i64 0) := by rw [hwd]; exact r0
    have x0 : wd.frozen? ⟨rb, 0, none⟩ = false := by rw [hwd]; exact s0
    have y1 : wd.cell? ⟨rb, 1, none⟩ = some (.int .i64 0) := by rw [hwd]; exact r1
    have x1 : wd.frozen? ⟨rb, 1, none⟩ = false := by rw [hwd]; exact s1
    have y2 : wd.cell? ⟨rb, 2, none⟩ = some (.int .u64 0) := by rw [hwd]; exact r2
    have x2 : wd.frozen? ⟨rb, 2, none⟩ = false := by rw [hwd]; exact s2
    have y3 : wd.cell? ⟨rb, 3, none⟩ = some (.int .u64 0) := by rw [hwd]; exact r3
    have x3 : wd.frozen? ⟨rb, 3, none⟩ = false := by rw [hwd]; exact s3
    have y4 : wd.cell? ⟨rb, 4, none⟩ = some (.int .i64 0) := by rw [hwd]; exact r4
    have x4 : wd.frozen? ⟨rb, 4, none⟩ = false := by rw [hwd]; exact s4
    have y5 : wd.cell? ⟨rb, 5, none⟩ = some (.int .i64 0) := by rw [hwd]; exact r5
    have x5 : wd.frozen? ⟨rb, 5, none⟩ = false := by rw [hwd]; exact s5
    have HGD := Lib.hid (show ∀ w', But (fun k => k = rb) wd w' → But (fun _ => False) w w' from fun w' g => HGF.out _ (by rw [hwd] at g; exact (But.refl _ w7).drew.trans g))
    rw [← hwd]
    clear hwd v0 r0 r1 r2 r3 r4 r5 s0 s1 s2 s3 s4 s5 o0 o1 o2 o3 o4 o5 HGF
    refine wpAny_take (i := 0) (oi := ⟨some 27, _, _, _, _, _⟩) (v := ?_) rfl (by kernel_rfl) (by kernel_rfl) (by kernel_rfl) (fun _ _ _ h => h) (Or.inl ⟨by rfl, ?_⟩) ?_
    rotate_left
    · intro w
      go_simp
      try with_reducible rfl
    simp only [Act.put, List.setIfInBounds_toArray, List.set_cons_zero, List.set_cons_succ]
    refine wpAny_ready (rs := [1, 2]) (by kernel_rfl) (by simp) ?_
    refine AllReady.cons rfl (fun K hK => ?_) (AllReady.cons rfl (fun K hK => ?_) AllReady.nil)
    · go_simp
      refine hK _ _ ?_
      clear hK K
      refine wpAny_ready (rs := [2]) (by kernel_rfl) (by simp) ?_
      refine AllReady.cons rfl (fun K hK => ?_) AllReady.nil
      go_simp
      refine hK _ _ ?_
      clear hK K
      refine wpAny_ready (rs := [3]) (by kernel_rfl) (by simp) ?_
      refine AllReady.cons rfl (fun K hK => ?_) AllReady.nil
      go_simp
      refine hK _ _ ?_
      clear hK K
      refine wpAny_done (by kernel_rfl) ?_ _
      go_wp2_with fail
      refine bodyPost_ret (v := .tuple #[.agg #[.int .i64 0, .int .i64 0, .int .u64 0, .int .u64 0, .int .i64 0, .int .i64 0], .int .i64 9]) ?_ rfl ⟨HV9.out, HGD.out _ (((((((But.refl (fun k => k = rb) wd).setCell (p := ⟨rb, 0, none⟩) (.inl rfl) _).setCell (p := ⟨rb, 1, none⟩) (.inl rfl) _).setCell (p := ⟨rb, 2, none⟩) (.inl rfl) _).setCell (p := ⟨rb, 3, none⟩) (.inl rfl) _).setCell (p := ⟨rb, 4, none⟩) (.inl rfl) _).setCell (p := ⟨rb, 5, none⟩) (.inl rfl) _)⟩
      simp [results, Try.results11, go_sem, y0, y1, y2, y3, y4, y5]
    · go_simp
      refine hK _ _ ?_
      clear hK K
      refine wpAny_ready (rs := [1]) (by kernel_rfl) (by simp) ?_
      refine AllReady.cons rfl (fun K hK => ?_) AllReady.nil
      go_simp
      refine hK _ _ ?_
      clear hK K
      refine wpAny_ready (rs := [3]) (by kernel_rfl) (by simp) ?_
      refine AllReady.cons rfl (fun K hK => ?_) AllReady.nil
      go_simp
      refine hK _ _ ?_
      clear hK K
      refine wpAny_done (by kernel_rfl) ?_ _
      go_wp2_with fail
      refine bodyPost_ret (v := .tuple #[.agg #[.int .i64 0, .int .i64 0, .int .u64 0, .int .u64 0, .int .i64 0, .int .i64 0], .int .i64 9]) ?_ rfl ⟨HV9.out, HGD.out _ (((((((But.refl (fun k => k = rb) wd).setCell (p := ⟨rb, 0, none⟩) (.inl rfl) _).setCell (p := ⟨rb, 1, none⟩) (.inl rfl) _).setCell (p := ⟨rb, 2, none⟩) (.inl rfl) _).setCell (p := ⟨rb, 3, none⟩) (.inl rfl) _).setCell (p := ⟨rb, 4, none⟩) (.inl rfl) _).setCell (p := ⟨rb, 5, none⟩) (.inl rfl) _)⟩
      simp [results, Try.results11, go_sem, y0, y1, y2, y3, y4, y5]

end Names
end Go.Proofs.Ytgbcbadccahfcaa
