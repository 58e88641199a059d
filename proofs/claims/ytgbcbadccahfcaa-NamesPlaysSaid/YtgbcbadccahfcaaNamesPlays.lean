/- The law NamesPlays of layer 22, walked: it answers true. -/
import Derived.Test.YtgbcbadccahfcaaNamesRefFill
import Derived.Test.YtgbcbadccahfcaaReads
import Derived.StillTailTactics
import Derived.BigQuiet
import Derived.Deep.RegionHeld3
set_option linter.unusedVariables false
set_option linter.unusedSimpArgs false
namespace Go.Proofs.Ytgbcbadccahfcaa
open Go.RowKit Go.ChangeShapes Go.WideShapes

namespace Names
open Lex

def GotR (n1 : Nat) (xs : List Value) (w0 w' : World) (v : Value) : Prop := ∃ o, Row w' 55 2 v o n1 xs ∧ ∀ k, o = some k → w0.heap.size ≤ k
theorem n_bind3 {b mb : Nat} {L L' : List Wd} {w0 w : World} {s : ByteArray} {n e : Int} (h : Nw b mb L w0 w) (hs : s.size ≤ 1000000000) (hL : L.length ≤ 1000000) (h1 : (if nameB s = true then pt L s n else L) = L') (h2 : (if nameB s = true then (0 : Int) else 1) = e) :
    Calls Try.prog 7 #[.pointer (some ⟨b, 0, none⟩), .string s, .int .u64 n] w fun r w' => r = .returned (.int .i64 e) ∧ Nw b mb L' w0 w' ∧ But (fun k => k = mb) w w' := by
  have hb := bind_any h.bk s n hs hL
  rw [h1, h2] at hb
  exact hb.mono fun r w' ⟨a, B, g⟩ => ⟨a, ⟨B, h.but.trans' g (fun k hk => .inr (by rw [hk]; exact h.nb.2)), h.nb⟩, g⟩
theorem word_nil (s : ByteArray) (w : World) : Calls Try.prog 9 #[.pointer none, .string s] w fun e w' => e = .returned (.tuple #[.int .u64 0, .int .i64 1]) ∧ w' = w := by
  go_enter Try.func9, Try.ntmps9
  go_wp2_with fail
  go_ret2
  exact ⟨rfl, rfl⟩
theorem bind_nil (s : ByteArray) (n : Int) (w : World) : Calls Try.prog 7 #[.pointer none, .string s, .int .u64 n] w fun e w' => e = .returned (.int .i64 1) ∧ w' = w := by
  go_enter Try.func7, Try.ntmps7
  go_wp2_with fail
  go_ret
  exact ⟨rfl, rfl⟩
theorem names_nil (w : World) : Calls Try.prog 13 #[.pointer none] w fun e w' => e = .returned (.slice none 0 0) ∧ w' = w := by
  go_enter Try.func13, Try.ntmps13
  go_wp2_with fail
  go_ret
  exact ⟨rfl, rfl⟩
set_option maxHeartbeats 4000000 in
set_option maxRecDepth 100000 in
theorem fill_nil (sB sW sO : ByteArray) (D T W0 O0 N M : Int) (w : World) : Calls Try.prog 11 #[.pointer none, .agg #[.string sB, .int .i64 D, .int .i64 T, .int .u64 W0, .int .u64 O0, .int .i64 N, .int .i64 M, .string sW, .string sO]] w fun e w' => e = .returned (.tuple #[.agg #[.int .i64 0, .int .i64 0, .int .u64 0, .int .u64 0, .int .i64 0, .int .i64 0], .int .i64 1]) ∧ But (fun _ => False) w w' := by
  have hb := blk_at ((w.alloc (.cells #[.pointer none] 30)).alloc (.cells #[.string sB, .int .i64 D, .int .i64 T, .int .u64 W0, .int .u64 O0, .int .i64 N, .int .i64 M, .string sW, .string sO] 28)) #[.int .i64 0, .int .i64 0, .int .u64 0, .int .u64 0, .int .i64 0, .int .i64 0] 26 (b := w.heap.size + 1 + 1) (by simp)
  have k0 := hb.cell 0
  have k1 := hb.cell 1
  have k2 := hb.cell 2
  have k3 := hb.cell 3
  have k4 := hb.cell 4
  have k5 := hb.cell 5
  clear hb
  go_enter Try.func11, Try.ntmps11
  go_wp2_with fail
  refine bodyPost_ret (v := .tuple #[.agg #[.int .i64 0, .int .i64 0, .int .u64 0, .int .u64 0, .int .i64 0, .int .i64 0], .int .i64 1]) ?_ rfl ⟨rfl, (((But.refl _ w).alloc _).alloc _).alloc _⟩
  simp [results, Try.results11, go_sem, k0, k1, k2, k3, k4, k5]
theorem fillV_is (L : List Wd) (sW sO : ByteArray) (D T W0 O0 N M : Int) : ∃ d t wd od nn mm e, fillV L sW sO D T W0 O0 N M = .tuple #[.agg #[.int .i64 d, .int .i64 t, .int .u64 wd, .int .u64 od, .int .i64 nn, .int .i64 mm], .int .i64 e] := by
  unfold fillV
  split
  · exact ⟨_, _, _, _, _, _, _, rfl⟩
  · exact ⟨_, _, _, _, _, _, _, rfl⟩

set_option maxHeartbeats 8000000 in
set_option maxRecDepth 100000 in
theorem plays_any (a : Option Addr) (len cap : Nat) (V : Nat → Nat → Value) (S : Nat → ByteArray) (X : Nat → Int) (name sB sW sO : ByteArray) (D T W0 O0 N M : Int) (w : World) (hE : Els w a len 2 V) (hlen : len ≤ 1000000000000000)
    (hS : ∀ i, i < len → V i 0 = .string (S i) ∧ (S i).size ≤ maxLen) (hX : ∀ i, i < len → V i 1 = .int .u64 (X i) ∧ 0 ≤ X i ∧ X i ≤ 18446744073709551615) (hnm : name.size ≤ 9223372036854775807) (hsW : sW.size ≤ 9223372036854775807) (hsO : sO.size ≤ 9223372036854775807) :
    Calls Try.prog 3 #[.slice a len cap, .string name, .agg #[.string sB, .int .i64 D, .int .i64 T, .int .u64 W0, .int .u64 O0, .int .i64 N, .int .i64 M, .string sW, .string sO]] w fun e w' => e = .returned (.bool true) ∧ But (fun _ => False) w w' := by
  obtain ⟨w2, hw2⟩ : ∃ w2, w2 = w.alloc (.cells #[.string sB, .int .i64 D, .int .i64 T, .int .u64 W0, .int .u64 O0, .int .i64 N, .int .i64 M, .string sW, .string sO] 28) := ⟨_, rfl⟩
  have B0 : Blk w2 w.heap.size #[.string sB, .int .i64 D, .int .i64 T, .int .u64 W0, .int .u64 O0, .int .i64 N, .int .i64 M, .string sW, .string sO] 28 := by rw [hw2]; exact Blk.new w _ _
  have HG0 := Lib.hid (show But (fun _ => False) w w2 by rw [hw2]; exact (But.refl _ w).alloc _)
  have HLB := Lib.hid (show ∀ w', But (fun _ => False) w2 w' → (w'.cell? ⟨w.heap.size, 0, none⟩ = some (.string sB) ∧ w'.cell? ⟨w.heap.size, 1, none⟩ = some (.int .i64 D) ∧ w'.cell? ⟨w.heap.size, 2, none⟩ = some (.int .i64 T) ∧ w'.cell? ⟨w.heap.size, 3, none⟩ = some (.int .u64 W0) ∧ w'.cell? ⟨w.heap.size, 4, none⟩ = some (.int .u64 O0) ∧
      w'.cell? ⟨w.heap.size, 5, none⟩ = some (.int .i64 N) ∧ w'.cell? ⟨w.heap.size, 6, none⟩ = some (.int .i64 M) ∧ w'.cell? ⟨w.heap.size, 7, none⟩ = some (.string sW) ∧ w'.cell? ⟨w.heap.size, 8, none⟩ = some (.string sO)) from fun w' g => by
    have b := B0.but g (fun q => q)
    exact ⟨b.cell 0, b.cell 1, b.cell 2, b.cell 3, b.cell 4, b.cell 5, b.cell 6, b.cell 7, b.cell 8⟩)
  have HW2 := Lib.hid hw2
  clear B0 hw2
  by_cases hbig : 100 < len ∨ 100 < name.size ∨ 100 < sW.size ∨ 100 < sO.size
  · by_cases h1 : 100 < len
    · go_enter Try.func3, Try.ntmps3
      go_wp2_with fail
      rw [← HW2.out]
      refine (alive_any _).mono ?_
      rintro e w3 ⟨rfl, g3⟩
      go_wp2_with fail
      go_ret
      exact ⟨rfl, HG0.out.trans g3⟩
    by_cases h2 : 100 < name.size
    · have h2i : (100 : Int) < name.size := by omega
      clear hbig
      go_enter Try.func3, Try.ntmps3
      go_wp2_with fail
      rw [← HW2.out]
      refine (alive_any _).mono ?_
      rintro e w3 ⟨rfl, g3⟩
      go_wp2_with fail
      go_ret
      exact ⟨rfl, HG0.out.trans g3⟩
    by_cases h3 : 100 < sW.size
    · have h2i : ¬ (100 : Int) < name.size := by omega
      have h3i : (100 : Int) < sW.size := by omega
      clear hbig
      go_enter Try.func3, Try.ntmps3
      go_wp2_with fail
      rw [← HW2.out]
      refine (alive_any _).mono ?_
      rintro e w3 ⟨rfl, g3⟩
      go_wp2_with fail
      go_ret
      exact ⟨rfl, HG0.out.trans g3⟩
    have h2i : ¬ (100 : Int) < name.size := by omega
    have h3i : ¬ (100 : Int) < sW.size := by omega
    have h4i : (100 : Int) < sO.size := by omega
    clear hbig
    go_enter Try.func3, Try.ntmps3
    go_wp2_with fail
    rw [← HW2.out]
    refine (alive_any _).mono ?_
    rintro e w3 ⟨rfl, g3⟩
    go_wp2_with fail
    go_ret
    exact ⟨rfl, HG0.out.trans g3⟩
  have hl : len ≤ 100 := by omega
  have h2i : ¬ (100 : Int) < name.size := by omega
  have h3i : ¬ (100 : Int) < sW.size := by omega
  have h4i : ¬ (100 : Int) < sO.size := by omega
  clear hbig
  go_enter Try.func3, Try.ntmps3
  go_wp2_with fail
  rw [← HW2.out]
  refine (new_any _).mono ?_
  rintro e w3 ⟨b, mb, rfl, H0, hb, hmb, g0⟩
  have HN0 := Lib.hid (show Nw b mb [] w2 w3 from ⟨H0, g0, hb, hmb⟩)
  obtain ⟨lb, hlb⟩ : ∃ lb, lb = w.heap.size := ⟨_, rfl⟩
  rw [← hlb] at HLB
  try rw [← hlb]
  clear H0 g0 hb hmb hlb
  go_wp2_with fail
  go_loopg [8, 9] len (fun k kv iv wr => ∃ (j nK : Nat) (K L : List Wd) (a1 : Option Addr) (cap1 : Nat) (o1 : Option Nat), j + k = len ∧ iv = .int .i64 j ∧ nK = K.length ∧ nK ≤ j ∧ kv = .slice a1 nK cap1 ∧ Row wr 55 2 (.slice a1 nK cap1) o1 nK (cellsK K) ∧
    (∀ c, o1 = some c → c ≠ mb) ∧ Kp K L ∧ (∀ i, i < nK → nd K i ≠ []) ∧ Nw b mb L w2 wr)
  case atStart => exact ⟨0, 0, [], [], none, 0, none, by omega, rfl, rfl, by omega, rfl, Row.nil _ _ _, (fun c q => by cases q), Kp.nil, (fun i hi => absurd hi (Nat.not_lt_zero i)), HN0.out⟩
  case round =>
    obtain ⟨j, nK, K, L, a1, cap1, o1, hj, rfl, hnK, hKj, rfl, hR, hO, hKp, hNE, hN⟩ := hrel
    clear HN0
    have HR := Lib.hid hR
    have HO := Lib.hid hO
    have HK := Lib.hid hKp
    have HN := Lib.hid hN
    have HNK := Lib.hid hnK
    have HNE := Lib.hid hNE
    clear hR hO hKp hN hnK hNE
    by_cases hlt : j < len
    · obtain ⟨xb, xoff, rfl, hxb, hxc⟩ := hE.at_ j hlt
      have HC := Lib.hid (show ∀ w', But (fun _ => False) w2 w' → (w'.cell? ⟨xb, xoff + (j * 2), none⟩ = some (.string (S j)) ∧ w'.cell? ⟨xb, xoff + (j * 2) + 1, none⟩ = some (.int .u64 (X j))) from fun w' h' => by
        have h := HG0.out.trans h'
        have cc : ∀ i, w'.cell? ⟨xb, i, none⟩ = w.cell? ⟨xb, i, none⟩ := fun i => World.cell?_of_block (w := w) (h.block xb hxb (fun q => q))
        refine ⟨?_, ?_⟩
        · rw [cc, ← (hS j hlt).1, ← hxc 0 (by omega)]; rfl
        · rw [cc, ← (hX j hlt).1, ← hxc 1 (by omega)]; rfl)
      have bs := (hS j hlt).2
      have bx := (hX j hlt).2
      clear hxc
      obtain ⟨q0, q1⟩ := HC.out _ HN.out.but
      obtain ⟨s, hs⟩ : ∃ s, S j = s := ⟨_, rfl⟩
      obtain ⟨x, hx⟩ : ∃ x, X j = x := ⟨_, rfl⟩
      rw [hs] at q0 bs HC
      rw [hx] at q1 bx HC
      clear hs hx
      have bs2 : s.size ≤ 9223372036854775807 := by unfold maxLen at bs; omega
      clear bs
      by_cases hsz : 100 < s.size
      · have hsz2 : (100 : Int) < s.size := by omega
        go_wp2_with fail
        refine (alive_any _).mono ?_
        rintro e w4 ⟨rfl, g1⟩
        go_wp2_with fail
        go_ret
        exact ⟨rfl, (HG0.out.trans HN.out.but).trans g1⟩
      · have hsz2 : ¬ (100 : Int) < s.size := by omega
        go_wp2_with fail
        go_still_tail 11, (by kernel_rfl)
        change wpList _ _ _ _ _ wr.drew
        have N2 := HN.out.keep ((But.refl (fun _ => False) wr).drew)
        have R2 := HR.out.drew
        obtain ⟨wd, hwd⟩ : ∃ wd, wd = wr.drew := ⟨_, rfl⟩
        rw [← hwd] at N2 R2 ⊢
        clear hwd q0 q1
        have HN2 := Lib.hid N2
        have HR2 := Lib.hid R2
        clear N2 R2
        cases hn : nameB s with
        | false =>
          have HB := Lib.hid (n_bind3 (s := s) (n := x) (L' := L) (e := 1) HN2.out (by omega) (by have := HK.out.len; have := HNK.out; omega) (by rw [hn]; rfl) (by rw [hn]; rfl))
          have HNB := Lib.hid hn
          clear hn
          go_wp2_with fail
          refine HB.out.mono ?_
          rintro e w4 ⟨rfl, N3, g3⟩
          have HN3 := Lib.hid N3
          have HR3 := Lib.hid (HR2.out.but g3 (fun c hc q => HO.out c hc q))
          obtain ⟨q0, q1⟩ := HC.out _ N3.but
          clear N3 g3
          go_wp2_with fail
          have KEEP := Lib.hid (show ∀ w', But (fun _ => False) w4 w' → (But (fun _ => False) w4 w' ∧ w'.cell? ⟨xb, xoff + (j * 2), none⟩ = some (.string s) ∧ w'.cell? ⟨xb, xoff + (j * 2) + 1, none⟩ = some (.int .u64 x)) from fun w' g => ⟨g, HC.out _ (HN3.out.but.trans g)⟩)
          have HBD := Lib.hid (show ∀ u, But (fun _ => False) w4 u → Calls Try.prog 8 #[.slice a1 nK cap1, .string s, .int .u64 x] u fun e w' => e = .returned (.tuple #[.slice a1 nK cap1, .int .i64 1]) ∧ But (fun _ => False) w4 w' from fun u g => (ref_bind_no (w := u) (.slice a1 nK cap1) s x (by omega) HNB.out).mono fun e w' ⟨p, q⟩ => ⟨p, q ▸ g⟩)
          go_region_held3 (fun w' => But (fun _ => False) w4 w' ∧ w'.cell? ⟨xb, xoff + (j * 2), none⟩ = some (.string s) ∧ w'.cell? ⟨xb, xoff + (j * 2) + 1, none⟩ = some (.int .u64 x))
            (first | assumption | (refine KEEP.out _ ?_; first | exact (But.refl _ _).drew | exact (And.left ‹But (fun _ => False) w4 _ ∧ _›).drew | assumption))
            (first | (go_at_call 8; refine (HBD.out _ (And.left ‹But (fun _ => False) w4 _ ∧ _›)).mono ?_; rintro e w5 ⟨rfl, g5⟩))
          have GB := And.left ‹But (fun _ => False) w4 _ ∧ _›
          have HN4 := Lib.hid (HN3.out.keep GB)
          have HR4 := Lib.hid (HR3.out.but GB (fun c _ q => q))
          clear GB
          go_wp2_with fail
          go_roundg (len - (j + 1))
          case measure => omega
          case rel => exact ⟨j + 1, nK, K, L, a1, cap1, o1, by omega, by go_num, HNK.out, by omega, rfl, HR4.out, HO.out, HK.out, HNE.out, HN4.out⟩
        | true =>
          have HB := Lib.hid (n_bind3 (s := s) (n := x) (L' := pt L s x) (e := 0) HN2.out (by omega) (by have := HK.out.len; have := HNK.out; omega) (by rw [hn]; rfl) (by rw [hn]; rfl))
          have HNB := Lib.hid hn
          clear hn
          go_wp2_with fail
          refine HB.out.mono ?_
          rintro e w4 ⟨rfl, N3, g3⟩
          have HN3 := Lib.hid N3
          have HR3 := Lib.hid (HR2.out.but g3 (fun c hc q => HO.out c hc q))
          obtain ⟨q0, q1⟩ := HC.out _ N3.but
          clear N3 g3
          go_wp2_with fail
          have KEEP := Lib.hid (show ∀ w', But (fun _ => False) w4 w' → (But (fun _ => False) w4 w' ∧ w'.cell? ⟨xb, xoff + (j * 2), none⟩ = some (.string s) ∧ w'.cell? ⟨xb, xoff + (j * 2) + 1, none⟩ = some (.int .u64 x)) from fun w' g => ⟨g, HC.out _ (HN3.out.but.trans g)⟩)
          have HBD := Lib.hid (show ∀ u, But (fun _ => False) w4 u → Calls Try.prog 8 #[.slice a1 nK cap1, .string s, .int .u64 x] u fun e w' => ∃ a5 cap5, e = .returned (.tuple #[.slice a5 (nK + 1) cap5, .int .i64 0]) ∧ GotR (nK + 1) (cellsK (K ++ [(s, x)])) w4 w' (.slice a5 (nK + 1) cap5) ∧ But (fun _ => False) w4 w' from fun u g => (ref_bind_yes (HR3.out.but g (fun c _ q => q)) HNK.out.symm s x (by omega) HNB.out (by omega)).mono (by
            rintro e w' ⟨v5, o5, rfl, R5, hO5, g5⟩
            obtain ⟨a5, cap5, rfl, -, -⟩ := R5.val
            exact ⟨a5, cap5, rfl, ⟨o5, R5, fun k hk => Nat.le_trans g.size (hO5 k hk)⟩, g.trans g5⟩))
          go_region_held3 (fun w' => But (fun _ => False) w4 w' ∧ w'.cell? ⟨xb, xoff + (j * 2), none⟩ = some (.string s) ∧ w'.cell? ⟨xb, xoff + (j * 2) + 1, none⟩ = some (.int .u64 x))
            (first | assumption | (refine KEEP.out _ ?_; first | exact (But.refl _ _).drew | exact (And.left ‹But (fun _ => False) w4 _ ∧ _›).drew | assumption))
            (first | (go_at_call 8; refine (HBD.out _ (And.left ‹But (fun _ => False) w4 _ ∧ _›)).mono ?_; rintro e w5 ⟨a5, cap5, rfl, hX5, g5⟩))
          obtain ⟨o5, R5, hO5⟩ := ‹GotR (nK + 1) (cellsK (K ++ [(s, x)])) w4 _ _›
          have g5 := And.left ‹But (fun _ => False) w4 _ ∧ _›
          have HR5 := Lib.hid R5
          have HN5 := Lib.hid (HN3.out.keep g5)
          have HO5 := Lib.hid (show ∀ c, o5 = some c → c ≠ mb from fun c hc => by have := hO5 c hc; have := HN3.out.bk.mp.lt; omega)
          have HNE5 := Lib.hid (show ∀ i, i < nK + 1 → nd (K ++ [(s, x)]) i ≠ [] from fun i hi => by
            rcases Nat.lt_or_ge i nK with q | q
            · show (nm (K ++ [(s, x)]) i).data.toList ≠ []
              rw [(nm_push (p := (s, x)) (show i < K.length by rw [← HNK.out]; exact q)).1]
              exact HNE.out i q
            · have : i = K.length := by have := HNK.out; omega
              show (nm (K ++ [(s, x)]) i).data.toList ≠ []
              rw [this, (nm_new K (s, x)).1]
              intro e
              have h1 := ((nameB_iff s).1 HNB.out).1
              have h2 : s.size = 0 := by
                show s.data.size = 0
                rw [← Array.length_toList, e]; rfl
              omega)
          clear R5 hO5 g5
          go_wp2_with fail
          go_roundg (len - (j + 1))
          case measure => omega
          case rel => exact ⟨j + 1, nK + 1, K ++ [(s, x)], pt L s x, _, _, o5, by omega, by go_num, by rw [List.length_append, ← HNK.out]; rfl, by omega, rfl, HR5.out, HO5.out, HK.out.push s x, HNE5.out, HN5.out⟩
    · obtain ⟨wv, we, hwr⟩ : ∃ wv we, wordR L name = (wv, we) := ⟨_, _, rfl⟩
      have HWR := Lib.hid hwr
      obtain ⟨d, t, wd, od, nn, mm, fe, hV⟩ := fillV_is L sW sO D T W0 O0 N M
      have HV := Lib.hid hV
      have hn100 : nK ≤ 100 := by omega
      clear hwr hV
      go_wp2_with fail
      refine (word_any HN.out.bk name).mono ?_
      rintro e wa ⟨rfl, rfl⟩
      rw [HWR.out]
      go_wp2_with fail
      refine (ref_word HR.out HNK.out.symm (by omega) HK.out name).mono ?_
      rintro e wa ⟨rfl, rfl⟩
      rw [HWR.out]
      obtain ⟨q0, q1, q2, q3, q4, q5, q6, q7, q8⟩ := HLB.out _ HN.out.but
      go_wp2_with fail
      have hf := fill_any HN.out.bk sB sW sO D T W0 O0 N M
      rw [HV.out] at hf
      refine hf.mono ?_
      rintro e w5 ⟨rfl, g5⟩
      clear hf q0 q1 q2 q3 q4 q5 q6 q7 q8
      obtain ⟨w6, hw6⟩ : ∃ w6, w6 = w5.alloc (.cells #[.int .i64 d, .int .i64 t, .int .u64 wd, .int .u64 od, .int .i64 nn, .int .i64 mm] 26) := ⟨_, rfl⟩
      have g6 : But (fun _ => False) wa w6 := by rw [hw6]; exact g5.alloc _
      have C6 : Blk w6 w5.heap.size #[.int .i64 d, .int .i64 t, .int .u64 wd, .int .u64 od, .int .i64 nn, .int .i64 mm] 26 := by rw [hw6]; exact Blk.new w5 _ _
      have HN6 := Lib.hid (HN.out.keep g6)
      have HR6 := Lib.hid (HR.out.but g6 (fun c _ q => q))
      have HW6 := Lib.hid hw6
      obtain ⟨q0, q1, q2, q3, q4, q5, q6, q7, q8⟩ := HLB.out _ HN6.out.but
      rw [hw6] at q0 q1 q2 q3 q4 q5 q6 q7 q8
      clear g5 g6 hw6
      go_wp2_with fail
      rw [← HW6.out]
      clear q0 q1 q2 q3 q4 q5 q6 q7 q8
      obtain ⟨ob1, hob1⟩ : ∃ ob1, ob1 = w5.heap.size := ⟨_, rfl⟩
      rw [← hob1] at C6 ⊢
      clear hob1
      have hf := ref_fill HR6.out HNK.out.symm (by omega) HK.out sB sW sO D T W0 O0 N M
      rw [HV.out] at hf
      refine hf.mono ?_
      rintro e w7 ⟨rfl, g7⟩
      clear hf
      obtain ⟨w8, hw8⟩ : ∃ w8, w8 = w7.alloc (.cells #[.int .i64 d, .int .i64 t, .int .u64 wd, .int .u64 od, .int .i64 nn, .int .i64 mm] 26) := ⟨_, rfl⟩
      have g8 : But (fun _ => False) w6 w8 := by rw [hw8]; exact g7.alloc _
      have D8 : Blk w8 w7.heap.size #[.int .i64 d, .int .i64 t, .int .u64 wd, .int .u64 od, .int .i64 nn, .int .i64 mm] 26 := by rw [hw8]; exact Blk.new w7 _ _
      have C8 := C6.but g8 (fun q => q)
      have HN8 := Lib.hid (HN6.out.keep g8)
      have HR8 := Lib.hid (HR6.out.but g8 (fun c _ q => q))
      have HW8 := Lib.hid hw8
      clear g7 g8 hw8 C6 HN6 HR6
      go_wp2_with fail
      rw [← HW8.out]
      obtain ⟨ob2, hob2⟩ : ∃ ob2, ob2 = w7.heap.size := ⟨_, rfl⟩
      rw [← hob2] at D8 ⊢
      clear hob2
      refine (names_any HN8.out.bk (by have := HK.out.len; have := HNK.out; omega)).mono ?_
      rintro e wb ⟨v5, o5, ss, rfl, hSs, R5, hO5, g5⟩
      obtain ⟨a5, cap5, rfl, -, -⟩ := R5.val
      have HN9 := Lib.hid (HN8.out.keep g5)
      have HR9 := Lib.hid (HR8.out.but g5 (fun c _ q => q))
      have C9' := C8.but g5 (fun q => q)
      have D9' := D8.but g5 (fun q => q)
      clear C8 D8 g5 hO5
      go_wp2_with fail
      refine (ref_names HR9.out HNK.out.symm (by omega) HK.out hSs HN9.out.bk.nd (by rw [← HNK.out]; exact HNE.out)).mono ?_
      rintro e w9 ⟨v6, o6, rfl, R6, hO6, g6⟩
      obtain ⟨a6, cap6, rfl, -, -⟩ := R6.val
      have R5' := R5.but g6 (fun c _ q => q)
      have HN10 := Lib.hid (HN9.out.keep g6)
      have C9 := C9'.but g6 (fun q => q)
      have D9 := D9'.but g6 (fun q => q)
      have x0 : w9.cell? ⟨ob1, 0, none⟩ = some (.int .i64 d) := C9.cell 0
      have y0 : w9.cell? ⟨ob2, 0, none⟩ = some (.int .i64 d) := D9.cell 0
      have x1 : w9.cell? ⟨ob1, 1, none⟩ = some (.int .i64 t) := C9.cell 1
      have y1 : w9.cell? ⟨ob2, 1, none⟩ = some (.int .i64 t) := D9.cell 1
      have x2 : w9.cell? ⟨ob1, 2, none⟩ = some (.int .u64 wd) := C9.cell 2
      have y2 : w9.cell? ⟨ob2, 2, none⟩ = some (.int .u64 wd) := D9.cell 2
      have x3 : w9.cell? ⟨ob1, 3, none⟩ = some (.int .u64 od) := C9.cell 3
      have y3 : w9.cell? ⟨ob2, 3, none⟩ = some (.int .u64 od) := D9.cell 3
      have x4 : w9.cell? ⟨ob1, 4, none⟩ = some (.int .i64 nn) := C9.cell 4
      have y4 : w9.cell? ⟨ob2, 4, none⟩ = some (.int .i64 nn) := D9.cell 4
      have x5 : w9.cell? ⟨ob1, 5, none⟩ = some (.int .i64 mm) := C9.cell 5
      have y5 : w9.cell? ⟨ob2, 5, none⟩ = some (.int .i64 mm) := D9.cell 5
      obtain ⟨nS, hnS⟩ : ∃ nS, ss.length = nS := ⟨_, rfl⟩
      have HNS := Lib.hid hnS
      have hle : nS ≤ 100 := by rw [← hnS, hSs.len]; have := HK.out.len; have := HNK.out; omega
      rw [hnS] at R5' R6 ⊢
      have rd : ∀ {aa : Option Addr} {cc : Nat} {oo : Option Nat}, Row w9 9 1 (.slice aa nS cc) oo nS (ss.map encStr) → ∃ kb koff, (0 < nS → aa = some ⟨kb, koff, none⟩) ∧ ∀ w', But (fun _ => False) w9 w' → ∀ k, k < nS → w'.cell? ⟨kb, koff + k, none⟩ = some (.string ⟨(ss.getD k []).toArray⟩) := fun {aa cc oo} R => by
        by_cases hz : 0 < nS
        · obtain ⟨kb, koff, scap, e, -, hlt5, -, hc, -⟩ := R.cells (by omega)
          simp at e
          refine ⟨kb, koff, fun _ => e.1, fun w' g k hk => ?_⟩
          rw [World.cell?_of_block (w := w9) (g.block kb hlt5 (fun q => q)), hc k (by omega), List.getElem?_map, List.getD_eq_getElem?_getD, List.getElem?_eq_getElem (by omega)]
          rfl
        · exact ⟨0, 0, fun q => absurd q hz, fun w' g k hk => absurd hk (by omega)⟩
      obtain ⟨k5, f5, hA5, hC5⟩ := rd R5'
      obtain ⟨k6, f6, hA6, hC6⟩ := rd R6
      have HA5 := Lib.hid hA5
      have HA6 := Lib.hid hA6
      have HC5 := Lib.hid hC5
      have HC6 := Lib.hid hC6
      clear rd R5 R5' R6 hSs hO6 g6 C9 D9 C9' D9' hnS hA5 hA6 hC5 hC6
      go_wp2_with fail
      clear x0 x1 x2 x3 x4 x5 y0 y1 y2 y3 y4 y5
      go_loopg [23] nS (fun k iv wr => ∃ j, j + k = nS ∧ iv = .int .i64 j ∧ But (fun _ => False) w9 wr)
      case atStart => exact ⟨0, by omega, rfl, But.refl _ w9⟩
      case round =>
        obtain ⟨j3, hj3, rfl, hB⟩ := hrel
        have HB := Lib.hid hB
        by_cases hlt3 : j3 < nS
        · obtain rfl := HA5.out (by omega)
          obtain rfl := HA6.out (by omega)
          have c5 := HC5.out _ hB j3 hlt3
          have c6 := HC6.out _ hB j3 hlt3
          obtain ⟨z, hz⟩ : ∃ z, (⟨(ss.getD j3 []).toArray⟩ : ByteArray) = z := ⟨_, rfl⟩
          rw [hz] at c5 c6
          have heq : (z.toList == z.toList) = true := by simp
          clear hB hz
          go_wp2_with fail
          go_quiet (fail)
          have GB := Lib.hid (HB.out.drewN nq)
          go_wp2_with fail
          go_roundg (nS - (j3 + 1))
          case measure => omega
          case rel => exact ⟨j3 + 1, by omega, by go_num, GB.out⟩
        · obtain ⟨q0, q1, q2, q3, q4, q5, q6, q7, q8⟩ := HLB.out _ (HN10.out.but.trans hB)
          clear hB
          go_wp2_with fail
          refine (word_nil name _).mono ?_
          rintro e wc ⟨rfl, rfl⟩
          go_wp2_with fail
          refine (fill_nil sB sW sO D T W0 O0 N M _).mono ?_
          rintro e wc ⟨rfl, gc⟩
          clear q0 q1 q2 q3 q4 q5 q6 q7 q8
          go_wp2_with fail
          refine (alive_any _).mono ?_
          rintro e wd' ⟨rfl, gd⟩
          have HGD := Lib.hid ((HG0.out.trans ((HN10.out.but.trans HB.out).trans (gc.alloc (.cells #[.int .i64 0, .int .i64 0, .int .u64 0, .int .u64 0, .int .i64 0, .int .i64 0] 26)))).trans gd)
          clear gc gd
          go_wp2_with fail
          refine (bind_nil _ 1 _).mono ?_
          rintro e we' ⟨rfl, rfl⟩
          go_wp2_with fail
          refine (names_nil _).mono ?_
          rintro e we' ⟨rfl, rfl⟩
          go_wp2_with fail
          go_ret
          exact ⟨rfl, HGD.out⟩

theorem plays_law (W : World) (a : Option Addr) (len cap : Nat) (V : Nat → Nat → Value) (hE : Els W a len 2 V)
    (hf : ∀ i, i < len → All2 [.s, .i .u64] ((List.range 2).map (V i))) (hz : len * 24 ≤ 140737488351232) (hm : len ≤ cap ∧ cap ≤ maxLen) (name : ByteArray) (hn : name.size ≤ 140737488351232) (cs : Array Value) (wcs : All2 [.s, .i .i64, .i .i64, .i .u64, .i .u64, .i .i64, .i .i64, .s, .s] cs.toList) :
    Calls Try.prog 3 #[.slice a len cap, .string name, .agg cs] W fun e w' => e = .returned (.bool true) ∧ But (fun _ => False) W w' := by
  obtain ⟨y0, l0, e0, h0, g0⟩ := all2_cons wcs
  obtain ⟨y1, l1, e1, h1, g1⟩ := all2_cons g0
  obtain ⟨y2, l2, e2, h2, g2⟩ := all2_cons g1
  obtain ⟨y3, l3, e3, h3, g3⟩ := all2_cons g2
  obtain ⟨y4, l4, e4, h4, g4⟩ := all2_cons g3
  obtain ⟨y5, l5, e5, h5, g5⟩ := all2_cons g4
  obtain ⟨y6, l6, e6, h6, g6⟩ := all2_cons g5
  obtain ⟨y7, l7, e7, h7, g7⟩ := all2_cons g6
  obtain ⟨y8, l8, e8, h8, g8⟩ := all2_cons g7
  have e9 := all2_nil g8
  obtain ⟨sB, rfl, b0⟩ := h0
  obtain ⟨D, rfl, -⟩ := h1
  obtain ⟨T, rfl, -⟩ := h2
  obtain ⟨W0, rfl, -⟩ := h3
  obtain ⟨O0, rfl, -⟩ := h4
  obtain ⟨N, rfl, -⟩ := h5
  obtain ⟨M, rfl, -⟩ := h6
  obtain ⟨sW, rfl, b7⟩ := h7
  obtain ⟨sO, rfl, b8⟩ := h8
  obtain rfl : cs = #[.string sB, .int .i64 D, .int .i64 T, .int .u64 W0, .int .u64 O0, .int .i64 N, .int .i64 M, .string sW, .string sO] := Array.ext' (by rw [e0, e1, e2, e3, e4, e5, e6, e7, e8, e9])
  refine plays_any a len cap V (fun i => match V i 0 with | .string s => s | _ => ⟨#[]⟩) (fun i => intOf (V i 1)) name sB sW sO D T W0 O0 N M W hE (by omega) (fun i hi => ?_) (fun i hi => ?_) (by omega) (by unfold maxLen at b7; omega) (by unfold maxLen at b8; omega)
  all_goals obtain ⟨f1, f2, -⟩ := hf i hi
  · obtain ⟨s, e, hs⟩ := f1
    have e' : V i 0 = .string s := e
    rw [e']
    exact ⟨rfl, hs⟩
  · exact ⟨(CK.fits_i f2).1, bounds_u64 (CK.fits_i f2).2⟩

end Names
end Go.Proofs.Ytgbcbadccahfcaa
