/- The law WordBack of layer 4, walked: it answers true. -/
import Derived.Test.YtldgjmgdbaeglaaDoorWordLaws
set_option linter.unusedVariables false
set_option linter.unusedSimpArgs false
namespace Go.Proofs.YtldgjmgdbaeglaaDoor
open Go.RowKit Go.ChangeShapes Go.WideShapes Go.Deep

namespace Word

theorem bytes_list_inj {a b : ByteArray} (h : a.toList = b.toList) : a = b := by
  rw [ByteArray.toList_eq, ByteArray.toList_eq] at h
  exact ByteArray.ext (Array.ext' h)
/-- What a numeral stands for. -/
def valD (l : List UInt8) : Nat := l.foldl (fun a c => 10 * a + (c.toNat - 48)) 0
theorem valD_dec (n : Nat) : valD (Lib.decDigits n) = n := by
  induction n using Nat.strongRecOn with
  | ind n ih =>
    by_cases h : n < 10
    · rw [dec_small h]
      show 10 * 0 + ((UInt8.ofNat (48 + n)).toNat - 48) = n
      rw [UInt8.toNat_ofNat']; omega
    · rw [dec_big h]
      unfold valD
      rw [List.foldl_append]
      show 10 * valD (Lib.decDigits (n / 10)) + ((UInt8.ofNat (48 + n % 10)).toNat - 48) = n
      rw [ih (n / 10) (by omega), UInt8.toNat_ofNat']; omega
theorem dec_inj {a b : Nat} (h : Lib.decDigits a = Lib.decDigits b) : a = b := by rw [← valD_dec a, h, valD_dec]
theorem dec_first (n : Nat) : ∃ c t, Lib.decDigits n = c :: t ∧ 48 ≤ c.toNat ∧ c.toNat ≤ 57 := by
  induction n using Nat.strongRecOn with
  | ind n ih =>
    by_cases h : n < 10
    · exact ⟨_, [], dec_small h, by rw [UInt8.toNat_ofNat']; omega, by rw [UInt8.toNat_ofNat']; omega⟩
    · obtain ⟨c, t, e, h1, h2⟩ := ih (n / 10) (by omega)
      exact ⟨c, t ++ [UInt8.ofNat (48 + n % 10)], by rw [dec_big h, e]; rfl, h1, h2⟩
theorem num_inj {a b : Int} (ha : 0 ≤ a) (hb : 0 ≤ b) (h : numL a = numL b) : a = b := by
  unfold numL at h
  have := dec_inj h
  omega
theorem num_not (n : Int) (c : UInt8) (t : List UInt8) (hc : ¬ (48 ≤ c.toNat ∧ c.toNat ≤ 57)) : numL n ≠ c :: t := by
  unfold numL
  obtain ⟨d, r, e, h1, h2⟩ := dec_first n.toNat
  rw [e]
  intro q
  injection q with q1 _
  rw [q1] at h1 h2
  exact hc ⟨h1, h2⟩
theorem text_inj {k n k2 n2 : Int} (hn : 0 ≤ n) (hn2 : 0 ≤ n2) (h : vright k n = true) (h2 : vright k2 n2 = true) : textL k n = textL k2 n2 ↔ k = k2 ∧ n = n2 := by
  constructor
  · intro e
    unfold textL at e
    rw [if_pos h, if_pos h2] at e
    rcases vright_parts h with ⟨rfl, rfl⟩ | ⟨rfl, -⟩ | ⟨rfl, -⟩ <;> rcases vright_parts h2 with ⟨rfl, rfl⟩ | ⟨rfl, -⟩ | ⟨rfl, -⟩
    · exact ⟨rfl, rfl⟩
    · exact absurd e.symm (num_not _ _ _ (by decide))
    · exact absurd e (by simp)
    · exact absurd e (num_not _ _ _ (by decide))
    · exact ⟨rfl, num_inj hn hn2 e⟩
    · exact absurd e (num_not _ _ _ (by decide))
    · exact absurd e (by simp)
    · exact absurd e.symm (num_not _ _ _ (by decide))
    · refine ⟨rfl, num_inj hn hn2 ?_⟩
      have e2 : (64 : UInt8) :: numL n = 64 :: numL n2 := e
      injection e2
  · rintro ⟨rfl, rfl⟩; rfl
theorem dec_right {x : Int} (hx : 0 ≤ x ∧ x ≤ 18446744073709551615) : vright (decK x) (decN x) = true := by
  unfold vright decK decN
  rw [decide_eq_true_iff]
  split
  · exact .inl ⟨rfl, rfl⟩
  · split
    · exact .inr (.inl ⟨rfl, by omega⟩)
    · exact .inr (.inr ⟨rfl, by omega⟩)
theorem dec_word {x : Int} (hx : 0 ≤ x ∧ x ≤ 18446744073709551615) : vword (decK x) (decN x) = x := by
  unfold vword decK decN
  by_cases h0 : x = 0
  · rw [if_pos h0, if_pos rfl]; exact h0.symm
  · rw [if_neg h0, if_neg h0]
    by_cases h1 : x % 2 = 1
    · rw [if_pos h1, if_pos h1, if_neg (by decide)]; omega
    · rw [if_neg h1, if_neg h1, if_neg (by decide)]; omega
theorem word_dec {k n : Int} (hn : 0 ≤ n) (h : vright k n = true) : decK (vword k n) = k ∧ decN (vword k n) = n ∧ 0 ≤ vword k n ∧ vword k n ≤ 18446744073709551615 := by
  rcases vright_parts h with ⟨rfl, rfl⟩ | ⟨rfl, h⟩ | ⟨rfl, h⟩
  · exact ⟨rfl, rfl, by decide, by decide⟩
  · have e : vword 1 n = 2 * n + 1 := by unfold vword; rw [if_neg (by decide)]
    rw [e]
    unfold decK decN
    rw [if_neg (by omega), if_pos (by omega), if_neg (by omega), if_pos (by omega)]
    omega
  · have e : vword 2 n = 2 * n + 2 := by unfold vword; rw [if_neg (by decide)]
    rw [e]
    unfold decK decN
    rw [if_neg (by omega), if_neg (by omega), if_neg (by omega), if_neg (by omega)]
    omega

set_option maxHeartbeats 16000000 in
set_option maxRecDepth 100000 in
theorem back_any (w : World) (ht : Lib.TabIs Tryd.prog w "internal/strconv.uint64pow10" .u64 Lib.pow10Tab) (cs : Array Value) (wc : All2 [.i .i64, .i .u64] cs.toList) (cs3 : Array Value) (wc3 : All2 [.i .i64, .i .u64] cs3.toList) (x : Int) (wx : (Lit.int .u64 x).wf = true) :
    Calls Tryd.prog 4 #[.agg cs, .agg cs3, .int .u64 x] w fun e w' => e = .returned (.bool true) ∧ But (fun _ => False) w w' := by
  obtain ⟨k, n, rfl, hn1, hn2⟩ := open_value wc
  obtain ⟨k3, n3, rfl, hn31, hn32⟩ := open_value wc3
  have hx := bounds_u64 wx
  have T := Lib.hid (show Tens w from ht)
  have HN := Lib.hid (show 0 ≤ n ∧ n ≤ 18446744073709551615 from ⟨hn1, hn2⟩)
  have HN3 := Lib.hid (show 0 ≤ n3 ∧ n3 ≤ 18446744073709551615 from ⟨hn31, hn32⟩)
  have HX := Lib.hid hx
  clear ht wc wc3 wx hx hn1 hn2 hn31 hn32
  obtain ⟨k2, hk2⟩ : ∃ k2, decK x = k2 := ⟨_, rfl⟩
  obtain ⟨n2, hn2⟩ : ∃ n2, decN x = n2 := ⟨_, rfl⟩
  have HK := Lib.hid hk2
  have HN2 := Lib.hid hn2
  have HN2B := Lib.hid (show 0 ≤ n2 ∧ n2 ≤ 18446744073709551615 by rw [← hn2]; exact decN_bd HX.out)
  have DR := Lib.hid (show vright k2 n2 = true by rw [← hk2, ← hn2]; exact dec_right HX.out)
  have DE := Lib.hid (show encOf k2 n2 = (x, 0) by unfold encOf; rw [if_pos DR.out, ← hk2, ← hn2, dec_word HX.out])
  clear hk2 hn2
  have G0 := ((But.refl (fun _ => False) w).alloc (.cells #[.int .i64 k, .int .u64 n] 25)).alloc (.cells #[.int .i64 k3, .int .u64 n3] 25)
  have B0 := (Blk.new w #[.int .i64 k, .int .u64 n] 25).alloc (.cells #[.int .i64 k3, .int .u64 n3] 25)
  have C0 := Blk.new (w.alloc (.cells #[.int .i64 k, .int .u64 n] 25)) #[.int .i64 k3, .int .u64 n3] 25
  rw [show (w.alloc (.cells #[.int .i64 k, .int .u64 n] 25)).heap.size = w.heap.size + 1 by simp] at C0
  go_enter Tryd.func4, Tryd.ntmps4
  go_wp2_with fail
  refine (dec_is _ HX.out HK.out HN2.out).mono ?_
  rintro e w2 ⟨rfl, g2⟩
  have X2 := Blk.new w2 #[.int .i64 k2, .int .u64 n2] 25
  have B2 := Lib.hid ((B0.but g2 (fun q => q)).alloc (.cells #[.int .i64 k2, .int .u64 n2] 25))
  have C2 := Lib.hid ((C0.but g2 (fun q => q)).alloc (.cells #[.int .i64 k2, .int .u64 n2] 25))
  have G2 := Lib.hid ((G0.trans g2).alloc (.cells #[.int .i64 k2, .int .u64 n2] 25))
  obtain ⟨b, hb⟩ : ∃ b, b = w.heap.size := ⟨_, rfl⟩
  obtain ⟨c, hc⟩ : ∃ c, c = w.heap.size + 1 := ⟨_, rfl⟩
  obtain ⟨d, hd⟩ : ∃ d, d = w2.heap.size := ⟨_, rfl⟩
  rw [← hb] at B2
  rw [← hc] at C2
  rw [← hc, ← hb]
  clear hb hc g2 G0 B0 C0
  go_wp2_with fail
  rw [← hd] at X2 ⊢
  clear hd
  refine (enc_is _ HN2B.out DE.out).mono ?_
  rintro e w3 ⟨rfl, g3⟩
  have B3 := Lib.hid (B2.out.but g3 (fun q => q))
  have C3 := Lib.hid (C2.out.but g3 (fun q => q))
  have X3 := X2.but g3 (fun q => q)
  have G3 := Lib.hid (G2.out.trans g3)
  clear g3 B2 C2 X2 G2
  have x0 : w3.cell? ⟨d, 0, none⟩ = some (.int .i64 k2) := X3.cell 0
  have x1 : w3.cell? ⟨d, 1, none⟩ = some (.int .u64 n2) := X3.cell 1
  have xl := X3.lt
  clear X3
  go_wp2_with fail
  refine (right_is _ HN2B.out DR.out).mono ?_
  rintro e w4 ⟨rfl, g4⟩
  have B4 := Lib.hid (B3.out.but g4 (fun q => q))
  have C4 := Lib.hid (C3.out.but g4 (fun q => q))
  have G4 := Lib.hid (G3.out.trans g4)
  clear g4 B3 C3 G3 x0 x1 xl
  have k0 : w4.cell? ⟨b, 0, none⟩ = some (.int .i64 k) := B4.out.cell 0
  have k1 : w4.cell? ⟨b, 1, none⟩ = some (.int .u64 n) := B4.out.cell 1
  have kl := B4.out.lt
  obtain ⟨u, e0, hen⟩ : ∃ u e, encOf k n = (u, e) := ⟨_, _, rfl⟩
  have HEN := Lib.hid hen
  clear hen
  go_wp2_with fail
  refine (enc_is _ HN.out HEN.out).mono ?_
  rintro e w5 ⟨rfl, g5⟩
  have B5 := Lib.hid (B4.out.but g5 (fun q => q))
  have C5 := Lib.hid (C4.out.but g5 (fun q => q))
  have G5 := Lib.hid (G4.out.trans g5)
  clear g5 B4 C4 G4 k0 k1 kl
  have HP := Lib.hid (show ∀ w', But (fun _ => False) w5 w' → (w'.cell? ⟨b, 0, none⟩ = some (.int .i64 k) ∧ w'.cell? ⟨b, 1, none⟩ = some (.int .u64 n)) ∧ (w'.cell? ⟨c, 0, none⟩ = some (.int .i64 k3) ∧ w'.cell? ⟨c, 1, none⟩ = some (.int .u64 n3)) from fun w' h => ⟨⟨(B5.out.but h (fun q => q)).cell 0, (B5.out.but h (fun q => q)).cell 1⟩, ⟨(C5.out.but h (fun q => q)).cell 0, (C5.out.but h (fun q => q)).cell 1⟩⟩)
  have TT := Lib.hid (show ∀ w', But (fun _ => False) w5 w' → Tens w' from fun w' h => T.out.keep (G5.out.trans h))
  have eq1 := eqV
  cases hr : vright k n with
  | false =>
    have HR := Lib.hid hr
    have hue : u = 0 ∧ e0 = 1 := by have := HEN.out; unfold encOf at this; rw [hr] at this; injection this with q1 q2; exact ⟨q1.symm, q2.symm⟩
    obtain ⟨rfl, rfl⟩ := hue
    clear hr

    have k0 : w5.cell? ⟨b, 0, none⟩ = some (.int .i64 k) := B5.out.cell 0
    have k1 : w5.cell? ⟨b, 1, none⟩ = some (.int .u64 n) := B5.out.cell 1
    have kl := B5.out.lt
    go_wp2_with fail
    first | go_region_with (first | (go_at_call 10; refine (right_is _ HN.out HR.out).mono ?_; rintro e w9 ⟨rfl, g9⟩)) | fail
    all_goals
      have B6 := Lib.hid (B5.out.but ((But.refl (fun _ => False) w5).drew.trans g9) (fun q => q))
      have G6 := Lib.hid (G5.out.drew.trans g9)
      clear k0 k1 kl g9
      have k0 : w9.cell? ⟨b, 0, none⟩ = some (.int .i64 k) := B6.out.cell 0
      have k1 : w9.cell? ⟨b, 1, none⟩ = some (.int .u64 n) := B6.out.cell 1
      have kl := B6.out.lt
      go_wp2_with fail
      refine (right_is _ HN.out HR.out).mono ?_
      rintro e w6 ⟨rfl, g6⟩
      have G7 := Lib.hid (G6.out.trans g6)
      clear k0 k1 kl g6
      go_wp2_with fail
      refine wp_region_any (by kernel_rfl) ?_
      change wpAny _ _ _ _ _ _ _ (World.drew _)
      refine wpAny_ready (rs := [0]) (by kernel_rfl) (by simp) ?_
      refine AllReady.cons rfl (fun K hK => ?_) AllReady.nil
      go_simp
      refine (alive_any _ (T.out.keep G7.out.drew)).mono ?_
      rintro e w7 ⟨rfl, g7⟩
      refine hK _ _ ?_
      clear hK K
      try simp only [Act.put, List.setIfInBounds_toArray, List.set_cons_zero, List.set_cons_succ]
      refine wpAny_take (i := 1) (oi := ⟨some 59, _, _, _, _, _⟩) (v := ?_) rfl (by kernel_rfl) (by kernel_rfl) (by kernel_rfl) (fun _ _ _ h => h) (Or.inl ⟨by rfl, ?_⟩) ?_
      rotate_left
      · intro w
        go_simp
        try with_reducible rfl
      simp only [Act.put, List.setIfInBounds_toArray, List.set_cons_zero, List.set_cons_succ]
      refine wpAny_take (i := 2) (oi := ⟨some 60, _, _, _, _, _⟩) (v := ?_) rfl (by kernel_rfl) (by kernel_rfl) (by kernel_rfl) (fun _ _ _ h => h) (Or.inl ⟨by rfl, ?_⟩) ?_
      rotate_left
      · intro w
        go_simp
        try with_reducible rfl
      simp only [Act.put, List.setIfInBounds_toArray, List.set_cons_zero, List.set_cons_succ]
      refine wpAny_take (i := 3) (oi := ⟨some 61, _, _, _, _, _⟩) (v := ?_) rfl (by kernel_rfl) (by kernel_rfl) (by kernel_rfl) (fun _ _ _ h => h) (Or.inl ⟨by rfl, ?_⟩) ?_
      rotate_left
      · intro w
        go_simp
        try with_reducible rfl
      simp only [Act.put, List.setIfInBounds_toArray, List.set_cons_zero, List.set_cons_succ]
      refine wpAny_take (i := 4) (oi := ⟨some 62, _, _, _, _, _⟩) (v := ?_) rfl (by kernel_rfl) (by kernel_rfl) (by kernel_rfl) (fun _ _ _ h => h) (Or.inl ⟨by rfl, ?_⟩) ?_
      rotate_left
      · intro w
        go_simp
        try with_reducible rfl
      simp only [Act.put, List.setIfInBounds_toArray, List.set_cons_zero, List.set_cons_succ]
      refine wpAny_take (i := 5) (oi := ⟨some 63, _, _, _, _, _⟩) (v := undef) rfl (by kernel_rfl) (by kernel_rfl) (by kernel_rfl) (fun _ _ _ h => h) (Or.inr ⟨by rfl, rfl⟩) ?_
      simp only [Act.put, List.setIfInBounds_toArray, List.set_cons_zero, List.set_cons_succ]
      refine wpAny_take (i := 6) (oi := ⟨some 64, _, _, _, _, _⟩) (v := undef) rfl (by kernel_rfl) (by kernel_rfl) (by kernel_rfl) (fun _ _ _ h => h) (Or.inr ⟨by rfl, rfl⟩) ?_
      simp only [Act.put, List.setIfInBounds_toArray, List.set_cons_zero, List.set_cons_succ]
      refine wpAny_take (i := 7) (oi := ⟨some 65, _, _, _, _, _⟩) (v := undef) rfl (by kernel_rfl) (by kernel_rfl) (by kernel_rfl) (fun _ _ _ h => h) (Or.inr ⟨by rfl, rfl⟩) ?_
      simp only [Act.put, List.setIfInBounds_toArray, List.set_cons_zero, List.set_cons_succ]
      refine wpAny_take (i := 8) (oi := ⟨some 66, _, _, _, _, _⟩) (v := undef) rfl (by kernel_rfl) (by kernel_rfl) (by kernel_rfl) (fun _ _ _ h => h) (Or.inr ⟨by rfl, rfl⟩) ?_
      simp only [Act.put, List.setIfInBounds_toArray, List.set_cons_zero, List.set_cons_succ]
      refine wpAny_take (i := 9) (oi := ⟨some 67, _, _, _, _, _⟩) (v := undef) rfl (by kernel_rfl) (by kernel_rfl) (by kernel_rfl) (fun _ _ _ h => h) (Or.inr ⟨by rfl, rfl⟩) ?_
      simp only [Act.put, List.setIfInBounds_toArray, List.set_cons_zero, List.set_cons_succ]
      refine wpAny_take (i := 10) (oi := ⟨some 68, _, _, _, _, _⟩) (v := undef) rfl (by kernel_rfl) (by kernel_rfl) (by kernel_rfl) (fun _ _ _ h => h) (Or.inr ⟨by rfl, rfl⟩) ?_
      simp only [Act.put, List.setIfInBounds_toArray, List.set_cons_zero, List.set_cons_succ]
      refine wpAny_take (i := 11) (oi := ⟨some 69, _, _, _, _, _⟩) (v := undef) rfl (by kernel_rfl) (by kernel_rfl) (by kernel_rfl) (fun _ _ _ h => h) (Or.inr ⟨by rfl, rfl⟩) ?_
      simp only [Act.put, List.setIfInBounds_toArray, List.set_cons_zero, List.set_cons_succ]
      refine wpAny_take (i := 12) (oi := ⟨some 70, _, _, _, _, _⟩) (v := undef) rfl (by kernel_rfl) (by kernel_rfl) (by kernel_rfl) (fun _ _ _ h => h) (Or.inr ⟨by rfl, rfl⟩) ?_
      simp only [Act.put, List.setIfInBounds_toArray, List.set_cons_zero, List.set_cons_succ]
      refine wpAny_take (i := 13) (oi := ⟨some 71, _, _, _, _, _⟩) (v := undef) rfl (by kernel_rfl) (by kernel_rfl) (by kernel_rfl) (fun _ _ _ h => h) (Or.inr ⟨by rfl, rfl⟩) ?_
      simp only [Act.put, List.setIfInBounds_toArray, List.set_cons_zero, List.set_cons_succ]
      refine wpAny_take (i := 14) (oi := ⟨some 72, _, _, _, _, _⟩) (v := ?_) rfl (by kernel_rfl) (by kernel_rfl) (by kernel_rfl) (fun _ _ _ h => h) (Or.inl ⟨by rfl, ?_⟩) ?_
      rotate_left
      · intro w
        go_simp
        try with_reducible rfl
      simp only [Act.put, List.setIfInBounds_toArray, List.set_cons_zero, List.set_cons_succ]
      refine wpAny_take (i := 15) (oi := ⟨some 73, _, _, _, _, _⟩) (v := ?_) rfl (by kernel_rfl) (by kernel_rfl) (by kernel_rfl) (fun _ _ _ h => h) (Or.inl ⟨by rfl, ?_⟩) ?_
      rotate_left
      · intro w
        go_simp
        try with_reducible rfl
      simp only [Act.put, List.setIfInBounds_toArray, List.set_cons_zero, List.set_cons_succ]
      refine wpAny_take (i := 16) (oi := ⟨some 6, _, _, _, _, _⟩) (v := ?_) rfl (by kernel_rfl) (by kernel_rfl) (by kernel_rfl) (fun _ _ _ h => h) (Or.inl ⟨by rfl, ?_⟩) ?_
      rotate_left
      · intro w
        go_simp
        try with_reducible rfl
      simp only [Act.put, List.setIfInBounds_toArray, List.set_cons_zero, List.set_cons_succ]
      refine wpAny_done (by kernel_rfl) ?_ _
      go_wp2_with fail
      go_ret
      exact ⟨rfl, G7.out.drew.trans g7⟩
  | true =>
    have HR := Lib.hid hr
    have hue : u = vword k n ∧ e0 = 0 := by have := HEN.out; unfold encOf at this; rw [if_pos hr] at this; injection this with q1 q2; exact ⟨q1.symm, q2.symm⟩
    obtain ⟨hu, rfl⟩ := hue
    have WD := Lib.hid (show decK u = k ∧ decN u = n ∧ 0 ≤ u ∧ u ≤ 18446744073709551615 by rw [hu]; exact word_dec HN.out.1 hr)
    clear hr hu
    go_wp2_with fail
    first | go_region_held3 (fun w' => But (fun _ => False) w5 w' ∧ (w'.cell? ⟨b, 0, none⟩ = some (.int .i64 k) ∧ w'.cell? ⟨b, 1, none⟩ = some (.int .u64 n)) ∧ (w'.cell? ⟨c, 0, none⟩ = some (.int .i64 k3) ∧ w'.cell? ⟨c, 1, none⟩ = some (.int .u64 n3))) (first | assumption | (refine keepN HP.out ?_; first | exact (But.refl _ _).drew | exact (And.left ‹But (fun _ => False) w5 _ ∧ _›).drew | exact keep_step ‹But (fun _ => False) w5 _ ∧ _› (by assumption))) (first | (go_at_call 10; refine (right_is _ HN.out HR.out).mono ?_; rintro e w9 ⟨rfl, g9⟩) | (go_at_call 12; refine (dec_is _ ⟨WD.out.2.2.1, WD.out.2.2.2⟩ WD.out.1 WD.out.2.1).mono ?_; rintro e w9 ⟨rfl, g9⟩)) | fail
    have S5 := Lib.hid ‹But (fun _ => False) w5 w9 ∧ _›
    have k0 : w9.cell? ⟨b, 0, none⟩ = some (.int .i64 k) := S5.out.2.1.1
    have k1 : w9.cell? ⟨b, 1, none⟩ = some (.int .u64 n) := S5.out.2.1.2
    have kl : b < w9.heap.size := Nat.lt_of_lt_of_le B5.out.lt S5.out.1.size
    go_wp2_with fail
    refine (right_is _ HN.out HR.out).mono ?_
    rintro e w10 ⟨rfl, g10⟩
    have G10 := Lib.hid (S5.out.1.trans g10)
    clear k0 k1 kl g10
    have k0 : w10.cell? ⟨c, 0, none⟩ = some (.int .i64 k3) := (C5.out.but G10.out (fun q => q)).cell 0
    have k1 : w10.cell? ⟨c, 1, none⟩ = some (.int .u64 n3) := (C5.out.but G10.out (fun q => q)).cell 1
    have kl := (C5.out.but G10.out (fun q => q)).lt
    cases hr3 : vright k3 n3 with
    | false =>
      have HR3 := Lib.hid hr3
      clear hr3
      go_wp2_with fail
      refine (right_is _ HN3.out HR3.out).mono ?_
      rintro e w6 ⟨rfl, g6⟩
      have G7 := Lib.hid (G5.out.trans (G10.out.trans g6))
      clear k0 k1 kl g6
      go_wp2_with fail
      refine wp_region_any (by kernel_rfl) ?_
      change wpAny _ _ _ _ _ _ _ (World.drew _)
      refine wpAny_ready (rs := [0]) (by kernel_rfl) (by simp) ?_
      refine AllReady.cons rfl (fun K hK => ?_) AllReady.nil
      go_simp
      refine (alive_any _ (T.out.keep G7.out.drew)).mono ?_
      rintro e w7 ⟨rfl, g7⟩
      refine hK _ _ ?_
      clear hK K
      try simp only [Act.put, List.setIfInBounds_toArray, List.set_cons_zero, List.set_cons_succ]
      refine wpAny_take (i := 1) (oi := ⟨some 59, _, _, _, _, _⟩) (v := ?_) rfl (by kernel_rfl) (by kernel_rfl) (by kernel_rfl) (fun _ _ _ h => h) (Or.inl ⟨by rfl, ?_⟩) ?_
      rotate_left
      · intro w
        go_simp
        try with_reducible rfl
      simp only [Act.put, List.setIfInBounds_toArray, List.set_cons_zero, List.set_cons_succ]
      refine wpAny_take (i := 2) (oi := ⟨some 60, _, _, _, _, _⟩) (v := ?_) rfl (by kernel_rfl) (by kernel_rfl) (by kernel_rfl) (fun _ _ _ h => h) (Or.inl ⟨by rfl, ?_⟩) ?_
      rotate_left
      · intro w
        go_simp
        try with_reducible rfl
      simp only [Act.put, List.setIfInBounds_toArray, List.set_cons_zero, List.set_cons_succ]
      refine wpAny_take (i := 3) (oi := ⟨some 61, _, _, _, _, _⟩) (v := ?_) rfl (by kernel_rfl) (by kernel_rfl) (by kernel_rfl) (fun _ _ _ h => h) (Or.inl ⟨by rfl, ?_⟩) ?_
      rotate_left
      · intro w
        go_simp
        try with_reducible rfl
      simp only [Act.put, List.setIfInBounds_toArray, List.set_cons_zero, List.set_cons_succ]
      refine wpAny_take (i := 4) (oi := ⟨some 62, _, _, _, _, _⟩) (v := ?_) rfl (by kernel_rfl) (by kernel_rfl) (by kernel_rfl) (fun _ _ _ h => h) (Or.inl ⟨by rfl, ?_⟩) ?_
      rotate_left
      · intro w
        go_simp
        try with_reducible rfl
      simp only [Act.put, List.setIfInBounds_toArray, List.set_cons_zero, List.set_cons_succ]
      refine wpAny_take (i := 5) (oi := ⟨some 63, _, _, _, _, _⟩) (v := undef) rfl (by kernel_rfl) (by kernel_rfl) (by kernel_rfl) (fun _ _ _ h => h) (Or.inr ⟨by rfl, rfl⟩) ?_
      simp only [Act.put, List.setIfInBounds_toArray, List.set_cons_zero, List.set_cons_succ]
      refine wpAny_take (i := 6) (oi := ⟨some 64, _, _, _, _, _⟩) (v := undef) rfl (by kernel_rfl) (by kernel_rfl) (by kernel_rfl) (fun _ _ _ h => h) (Or.inr ⟨by rfl, rfl⟩) ?_
      simp only [Act.put, List.setIfInBounds_toArray, List.set_cons_zero, List.set_cons_succ]
      refine wpAny_take (i := 7) (oi := ⟨some 65, _, _, _, _, _⟩) (v := undef) rfl (by kernel_rfl) (by kernel_rfl) (by kernel_rfl) (fun _ _ _ h => h) (Or.inr ⟨by rfl, rfl⟩) ?_
      simp only [Act.put, List.setIfInBounds_toArray, List.set_cons_zero, List.set_cons_succ]
      refine wpAny_take (i := 8) (oi := ⟨some 66, _, _, _, _, _⟩) (v := undef) rfl (by kernel_rfl) (by kernel_rfl) (by kernel_rfl) (fun _ _ _ h => h) (Or.inr ⟨by rfl, rfl⟩) ?_
      simp only [Act.put, List.setIfInBounds_toArray, List.set_cons_zero, List.set_cons_succ]
      refine wpAny_take (i := 9) (oi := ⟨some 67, _, _, _, _, _⟩) (v := undef) rfl (by kernel_rfl) (by kernel_rfl) (by kernel_rfl) (fun _ _ _ h => h) (Or.inr ⟨by rfl, rfl⟩) ?_
      simp only [Act.put, List.setIfInBounds_toArray, List.set_cons_zero, List.set_cons_succ]
      refine wpAny_take (i := 10) (oi := ⟨some 68, _, _, _, _, _⟩) (v := undef) rfl (by kernel_rfl) (by kernel_rfl) (by kernel_rfl) (fun _ _ _ h => h) (Or.inr ⟨by rfl, rfl⟩) ?_
      simp only [Act.put, List.setIfInBounds_toArray, List.set_cons_zero, List.set_cons_succ]
      refine wpAny_take (i := 11) (oi := ⟨some 69, _, _, _, _, _⟩) (v := undef) rfl (by kernel_rfl) (by kernel_rfl) (by kernel_rfl) (fun _ _ _ h => h) (Or.inr ⟨by rfl, rfl⟩) ?_
      simp only [Act.put, List.setIfInBounds_toArray, List.set_cons_zero, List.set_cons_succ]
      refine wpAny_take (i := 12) (oi := ⟨some 70, _, _, _, _, _⟩) (v := undef) rfl (by kernel_rfl) (by kernel_rfl) (by kernel_rfl) (fun _ _ _ h => h) (Or.inr ⟨by rfl, rfl⟩) ?_
      simp only [Act.put, List.setIfInBounds_toArray, List.set_cons_zero, List.set_cons_succ]
      refine wpAny_take (i := 13) (oi := ⟨some 71, _, _, _, _, _⟩) (v := undef) rfl (by kernel_rfl) (by kernel_rfl) (by kernel_rfl) (fun _ _ _ h => h) (Or.inr ⟨by rfl, rfl⟩) ?_
      simp only [Act.put, List.setIfInBounds_toArray, List.set_cons_zero, List.set_cons_succ]
      refine wpAny_take (i := 14) (oi := ⟨some 72, _, _, _, _, _⟩) (v := ?_) rfl (by kernel_rfl) (by kernel_rfl) (by kernel_rfl) (fun _ _ _ h => h) (Or.inl ⟨by rfl, ?_⟩) ?_
      rotate_left
      · intro w
        go_simp
        try with_reducible rfl
      simp only [Act.put, List.setIfInBounds_toArray, List.set_cons_zero, List.set_cons_succ]
      refine wpAny_take (i := 15) (oi := ⟨some 73, _, _, _, _, _⟩) (v := ?_) rfl (by kernel_rfl) (by kernel_rfl) (by kernel_rfl) (fun _ _ _ h => h) (Or.inl ⟨by rfl, ?_⟩) ?_
      rotate_left
      · intro w
        go_simp
        try with_reducible rfl
      simp only [Act.put, List.setIfInBounds_toArray, List.set_cons_zero, List.set_cons_succ]
      refine wpAny_take (i := 16) (oi := ⟨some 6, _, _, _, _, _⟩) (v := ?_) rfl (by kernel_rfl) (by kernel_rfl) (by kernel_rfl) (fun _ _ _ h => h) (Or.inl ⟨by rfl, ?_⟩) ?_
      rotate_left
      · intro w
        go_simp
        try with_reducible rfl
      simp only [Act.put, List.setIfInBounds_toArray, List.set_cons_zero, List.set_cons_succ]
      refine wpAny_done (by kernel_rfl) ?_ _
      go_wp2_with fail
      go_ret
      exact ⟨rfl, G7.out.drew.trans g7⟩
    | true =>
      have HR3 := Lib.hid hr3
      clear hr3
      go_wp2_with fail
      refine (right_is _ HN3.out HR3.out).mono ?_
      rintro e w6 ⟨rfl, g6⟩
      have G6 := Lib.hid (G10.out.trans g6)
      clear k0 k1 kl g6
      have HP6 := Lib.hid (fun w' (h : But (fun _ => False) w6 w') => HP.out w' (G6.out.trans h))
      have T6 := Lib.hid (fun w' (h : But (fun _ => False) w6 w') => TT.out w' (G6.out.trans h))
      obtain ⟨s1, hs1⟩ : ∃ s1 : ByteArray, ⟨(textL k n).toArray⟩ = s1 := ⟨_, rfl⟩
      obtain ⟨s2, hs2⟩ : ∃ s2 : ByteArray, ⟨(textL k3 n3).toArray⟩ = s2 := ⟨_, rfl⟩
      have txt1 := Lib.hid (show ∀ w', Tens w' → Calls Tryd.prog 14 #[.agg #[.int .i64 k, .int .u64 n]] w' fun r w'' => r = .returned (.string s1) ∧ But (fun _ => False) w' w'' from fun w' h => by rw [← hs1]; exact text_any k n w' HN.out h)
      have txt2 := Lib.hid (show ∀ w', Tens w' → Calls Tryd.prog 14 #[.agg #[.int .i64 k3, .int .u64 n3]] w' fun r w'' => r = .returned (.string s2) ∧ But (fun _ => False) w' w'' from fun w' h => by rw [← hs2]; exact text_any k3 n3 w' HN3.out h)
      have SAME := Lib.hid (show s1 = s2 ↔ k = k3 ∧ n = n3 by
        rw [← hs1, ← hs2, ← text_inj HN.out.1 HN3.out.1 HR.out HR3.out]
        constructor
        · intro q; injection q with q; simpa using q
        · intro q; rw [q])
      clear hs1 hs2
      by_cases hsame : k = k3 ∧ n = n3
      · obtain rfl := SAME.out.2 hsame
        obtain ⟨rfl, rfl⟩ := hsame
        clear txt2 SAME
        go_wp2_with fail
        go_region_held3 (fun w' => But (fun _ => False) w6 w' ∧ (w'.cell? ⟨b, 0, none⟩ = some (.int .i64 k) ∧ w'.cell? ⟨b, 1, none⟩ = some (.int .u64 n)) ∧ (w'.cell? ⟨c, 0, none⟩ = some (.int .i64 k) ∧ w'.cell? ⟨c, 1, none⟩ = some (.int .u64 n))) (first | assumption | (refine keepN HP6.out ?_; first | exact (But.refl _ _).drew | exact (And.left ‹But (fun _ => False) w6 _ ∧ _›).drew | exact keep_step ‹But (fun _ => False) w6 _ ∧ _› (by assumption))) (first | (go_at_call 9; refine (alive_any _ (T6.out _ (And.left ‹But (fun _ => False) w6 _ ∧ _›))).mono ?_; rintro e w9 ⟨rfl, g9⟩) | (go_at_call 14; (with_reducible refine (txt1.out _ (T6.out _ (And.left ‹But (fun _ => False) w6 _ ∧ _›))).mono ?_); rintro e w9 ⟨rfl, g9⟩))
        go_wp2_with fail
        go_ret
        exact ⟨rfl, (G5.out.trans G6.out).trans (And.left ‹But (fun _ => False) w6 _ ∧ _›)⟩
      · have hne : (s1.toList == s2.toList) = false := by
          rw [beq_eq_false_iff_ne]
          intro q
          exact hsame (SAME.out.1 (bytes_list_inj q))
        have eq0 : ∀ w, (Op.equalIn 10000 25 (.agg #[.int .i64 k, .int .u64 n]) (.agg #[.int .i64 k3, .int .u64 n3])).run Tryd.prog w = .ok false w := fun w => by rw [eqV, decide_eq_false hsame]
        clear hsame eq1 SAME
        go_wp2_with fail
        go_region_held3 (fun w' => But (fun _ => False) w6 w' ∧ (w'.cell? ⟨b, 0, none⟩ = some (.int .i64 k) ∧ w'.cell? ⟨b, 1, none⟩ = some (.int .u64 n)) ∧ (w'.cell? ⟨c, 0, none⟩ = some (.int .i64 k3) ∧ w'.cell? ⟨c, 1, none⟩ = some (.int .u64 n3))) (first | assumption | (refine keepN HP6.out ?_; first | exact (But.refl _ _).drew | exact (And.left ‹But (fun _ => False) w6 _ ∧ _›).drew | exact keep_step ‹But (fun _ => False) w6 _ ∧ _› (by assumption))) (first | (go_at_call 9; refine (alive_any _ (T6.out _ (And.left ‹But (fun _ => False) w6 _ ∧ _›))).mono ?_; rintro e w9 ⟨rfl, g9⟩) | (go_at_call 14; (with_reducible refine (txt1.out _ (T6.out _ (And.left ‹But (fun _ => False) w6 _ ∧ _›))).mono ?_); rintro e w9 ⟨rfl, g9⟩) | (go_at_call 14; (with_reducible refine (txt2.out _ (T6.out _ (And.left ‹But (fun _ => False) w6 _ ∧ _›))).mono ?_); rintro e w9 ⟨rfl, g9⟩))
        go_wp2_with fail
        go_ret
        exact ⟨rfl, (G5.out.trans G6.out).trans (And.left ‹But (fun _ => False) w6 _ ∧ _›)⟩

end Word
end Go.Proofs.YtldgjmgdbaeglaaDoor
