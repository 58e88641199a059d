/- The laws HandleTells and HandleBack of layer 5, walked: they answer true. -/
import Derived.Test.YtldgjmgdbaeglaaHandleAlive
import Derived.Deep.RegionHeld3
import Derived.Test.YtldgjmgdbaeglaaReads
set_option linter.unusedVariables false
set_option linter.unusedSimpArgs false
namespace Go.Proofs.Ytldgjmgdbaeglaa
open Go.RowKit

namespace Handle

theorem renc_is {h : Hd} {x e : Int} (w : World) (hh : enc h = (x, e)) : Calls Try.prog 42 #[.agg (hd h)] w fun r w' => r = .returned (.tuple #[.int .u64 x, .int .i64 e]) ∧ But (fun _ => False) w w' := by
  have := ref_encode h w
  rw [hh] at this; exact this
theorem rdec_is {x k t i g e : Int} (w : World) (hx : 0 ≤ x ∧ x ≤ 18446744073709551615) (hh : dec x = (⟨k, t, i, g⟩, e)) : Calls Try.prog 44 #[.int .u64 x] w fun r w' => r = .returned (.tuple #[.agg #[.int .i64 k, .int .i64 t, .int .i64 i, .int .i64 g], .int .i64 e]) ∧ But (fun _ => False) w w' := by
  have := ref_decode x w hx
  rw [hh] at this; exact this
theorem rparse_is {s : ByteArray} {x e : Int} (w : World) (hs : s.size ≤ 9223372036854775807) (hh : parse s = (x, e)) : Calls Try.prog 46 #[.string s] w fun r w' => r = .returned (.tuple #[.int .u64 x, .int .i64 e]) ∧ But (fun _ => False) w w' := by
  have := ref_parse s w hs
  rw [hh] at this; exact this
theorem rtext_is {x : Int} {s : ByteArray} (w : World) (hx : 0 ≤ x ∧ x ≤ 18446744073709551615) (hh : text x = s) : Calls Try.prog 50 #[.int .u64 x] w fun r w' => r = .returned (.string s) ∧ But (fun _ => False) w w' := by
  have := ref_text x w hx
  rw [hh] at this; exact this
theorem right_is {k t i g : Int} (w : World) {r : Bool} (hh : right ⟨k, t, i, g⟩ = r) : Calls Try.prog 47 #[.agg #[.int .i64 k, .int .i64 t, .int .i64 i, .int .i64 g]] w fun e w' => e = .returned (.bool r) ∧ But (fun _ => False) w w' := by
  have := right_any ⟨k, t, i, g⟩ w
  rw [hh] at this; exact this
theorem rright_is {k t i g : Int} (w : World) {r : Bool} (hh : right ⟨k, t, i, g⟩ = r) : Calls Try.prog 48 #[.agg #[.int .i64 k, .int .i64 t, .int .i64 i, .int .i64 g]] w fun e w' => e = .returned (.bool r) ∧ But (fun _ => False) w w' := by
  have := ref_right ⟨k, t, i, g⟩ w
  rw [hh] at this; exact this

set_option maxHeartbeats 4000000 in
set_option maxRecDepth 100000 in
theorem tells_any (k t i g x : Int) (s : ByteArray) (w : World) (hx : 0 ≤ x ∧ x ≤ 18446744073709551615) (hs : s.size ≤ 9223372036854775807) :
    Calls Try.prog 7 #[.agg #[.int .i64 k, .int .i64 t, .int .i64 i, .int .i64 g], .int .u64 x, .string s] w fun e w' => e = .returned (.bool true) ∧ But (fun _ => False) w w' := by
  by_cases hbig : 100 < s.size
  · go_enter Try.func7, Try.ntmps7
    go_wp2_with fail
    refine (alive_any _).mono ?_
    rintro e w1 ⟨rfl, g1⟩
    go_wp2_with fail
    go_ret
    exact ⟨rfl, ((But.refl _ _).alloc _).trans g1⟩
  obtain ⟨a, e1, hen⟩ : ∃ a e, enc ⟨k, t, i, g⟩ = (a, e) := ⟨_, _, rfl⟩
  obtain ⟨k2, t2, i2, g2, e2, hde⟩ : ∃ k t i g e, dec x = (⟨k, t, i, g⟩, e) := ⟨_, _, _, _, _, rfl⟩
  obtain ⟨y, e3, hpa⟩ : ∃ a e, parse s = (a, e) := ⟨_, _, rfl⟩
  obtain ⟨z, htx⟩ : ∃ z, text x = z := ⟨_, rfl⟩
  obtain ⟨r, hri⟩ : ∃ r, right ⟨k, t, i, g⟩ = r := ⟨_, rfl⟩
  have HEN := Lib.hid hen
  have HDE := Lib.hid hde
  have HPA := Lib.hid hpa
  have HTX := Lib.hid htx
  have HRI := Lib.hid hri
  clear hen hde hpa htx hri
  have B1 := Blk.new w #[.int .i64 k, .int .i64 t, .int .i64 i, .int .i64 g] 57
  have G1 := (But.refl (fun _ => False) w).alloc (.cells #[.int .i64 k, .int .i64 t, .int .i64 i, .int .i64 g] 57)
  have k0 := B1.cell 0
  have k1 := B1.cell 1
  have k2' := B1.cell 2
  have k3 := B1.cell 3
  clear k0 k1 k2' k3
  go_enter Try.func7, Try.ntmps7
  go_wp2_with fail
  refine (enc_is (h := ⟨k, t, i, g⟩) _ HEN.out).mono ?_
  rintro e w2 ⟨rfl, g2'⟩
  have B2 := B1.but g2' (fun q => q)
  have G2 := G1.trans g2'
  obtain ⟨b, hb⟩ : ∃ b, b = w.heap.size := ⟨_, rfl⟩
  rw [← hb] at B2 ⊢
  clear hb B1 G1 g2'
  have k0 : w2.cell? ⟨b, 0, none⟩ = some (.int .i64 k) := B2.cell 0
  have k1 : w2.cell? ⟨b, 1, none⟩ = some (.int .i64 t) := B2.cell 1
  have k2' : w2.cell? ⟨b, 2, none⟩ = some (.int .i64 i) := B2.cell 2
  have k3 : w2.cell? ⟨b, 3, none⟩ = some (.int .i64 g) := B2.cell 3
  go_wp2_with fail
  refine (renc_is (h := ⟨k, t, i, g⟩) _ HEN.out).mono ?_
  rintro e w3 ⟨rfl, g3'⟩
  have B3 := B2.but g3' (fun q => q)
  have G3 := G2.trans g3'
  clear k0 k1 k2' k3 B2 G2 g3'
  go_wp2_with fail
  refine (dec_is _ hx HDE.out).mono ?_
  rintro e w4 ⟨rfl, g4'⟩
  have B4 := (B3.but g4' (fun q => q)).alloc (.cells #[.int .i64 k2, .int .i64 t2, .int .i64 i2, .int .i64 g2] 57)
  have C4 := Blk.new w4 #[.int .i64 k2, .int .i64 t2, .int .i64 i2, .int .i64 g2] 57
  have G4 := (G3.trans g4').alloc (.cells #[.int .i64 k2, .int .i64 t2, .int .i64 i2, .int .i64 g2] 57)
  clear B3 G3 g4'
  go_wp2_with fail
  refine (rdec_is _ hx HDE.out).mono ?_
  rintro e w5 ⟨rfl, g5'⟩
  have B5 := (B4.but g5' (fun q => q)).alloc (.cells #[.int .i64 k2, .int .i64 t2, .int .i64 i2, .int .i64 g2] 57)
  have C5 := (C4.but g5' (fun q => q)).alloc (.cells #[.int .i64 k2, .int .i64 t2, .int .i64 i2, .int .i64 g2] 57)
  have D5 := Blk.new w5 #[.int .i64 k2, .int .i64 t2, .int .i64 i2, .int .i64 g2] 57
  have G5 := (G4.trans g5').alloc (.cells #[.int .i64 k2, .int .i64 t2, .int .i64 i2, .int .i64 g2] 57)
  obtain ⟨bc, hbc⟩ : ∃ b, b = w4.heap.size := ⟨_, rfl⟩
  obtain ⟨bd, hbd⟩ : ∃ b, b = w5.heap.size := ⟨_, rfl⟩
  rw [← hbc] at C5 ⊢
  clear B4 C4 G4 g5' hbc
  go_wp2_with fail
  rw [← hbd] at D5 ⊢
  clear hbd
  refine (parse_is _ hs HPA.out).mono ?_
  rintro e w6 ⟨rfl, g6'⟩
  have B6 := B5.but g6' (fun q => q)
  have C6 := C5.but g6' (fun q => q)
  have D6 := D5.but g6' (fun q => q)
  have G6 := G5.trans g6'
  clear B5 C5 D5 G5 g6'
  go_wp2_with fail
  refine (rparse_is _ hs HPA.out).mono ?_
  rintro e w7 ⟨rfl, g7'⟩
  have B7 := Lib.hid (B6.but g7' (fun q => q))
  have C7 := Lib.hid (C6.but g7' (fun q => q))
  have D7 := Lib.hid (D6.but g7' (fun q => q))
  have G7 := Lib.hid (G6.trans g7')
  clear B6 C6 D6 G6 g7'
  have HP := Lib.hid (show ∀ w', But (fun _ => False) w7 w' → ((w'.cell? ⟨b, 0, none⟩ = some (.int .i64 k) ∧ w'.cell? ⟨b, 1, none⟩ = some (.int .i64 t) ∧ w'.cell? ⟨b, 2, none⟩ = some (.int .i64 i) ∧ w'.cell? ⟨b, 3, none⟩ = some (.int .i64 g)) ∧
    (w'.cell? ⟨bc, 0, none⟩ = some (.int .i64 k2) ∧ w'.cell? ⟨bc, 1, none⟩ = some (.int .i64 t2) ∧ w'.cell? ⟨bc, 2, none⟩ = some (.int .i64 i2) ∧ w'.cell? ⟨bc, 3, none⟩ = some (.int .i64 g2)) ∧
    (w'.cell? ⟨bd, 0, none⟩ = some (.int .i64 k2) ∧ w'.cell? ⟨bd, 1, none⟩ = some (.int .i64 t2) ∧ w'.cell? ⟨bd, 2, none⟩ = some (.int .i64 i2) ∧ w'.cell? ⟨bd, 3, none⟩ = some (.int .i64 g2))) from fun w' h =>
    ⟨⟨(B7.out.but h (fun q => q)).cell 0, (B7.out.but h (fun q => q)).cell 1, (B7.out.but h (fun q => q)).cell 2, (B7.out.but h (fun q => q)).cell 3⟩, ⟨(C7.out.but h (fun q => q)).cell 0, (C7.out.but h (fun q => q)).cell 1, (C7.out.but h (fun q => q)).cell 2, (C7.out.but h (fun q => q)).cell 3⟩, ⟨(D7.out.but h (fun q => q)).cell 0, (D7.out.but h (fun q => q)).cell 1, (D7.out.but h (fun q => q)).cell 2, (D7.out.but h (fun q => q)).cell 3⟩⟩)
  go_wp2_with fail
  go_region_held3 (fun w' => But (fun _ => False) w7 w' ∧ ((w'.cell? ⟨b, 0, none⟩ = some (.int .i64 k) ∧ w'.cell? ⟨b, 1, none⟩ = some (.int .i64 t) ∧ w'.cell? ⟨b, 2, none⟩ = some (.int .i64 i) ∧ w'.cell? ⟨b, 3, none⟩ = some (.int .i64 g)) ∧
    (w'.cell? ⟨bc, 0, none⟩ = some (.int .i64 k2) ∧ w'.cell? ⟨bc, 1, none⟩ = some (.int .i64 t2) ∧ w'.cell? ⟨bc, 2, none⟩ = some (.int .i64 i2) ∧ w'.cell? ⟨bc, 3, none⟩ = some (.int .i64 g2)) ∧
    (w'.cell? ⟨bd, 0, none⟩ = some (.int .i64 k2) ∧ w'.cell? ⟨bd, 1, none⟩ = some (.int .i64 t2) ∧ w'.cell? ⟨bd, 2, none⟩ = some (.int .i64 i2) ∧ w'.cell? ⟨bd, 3, none⟩ = some (.int .i64 g2))))
    (first | assumption | (refine keepN HP.out ?_; first | exact (But.refl _ _).drew | exact (And.left ‹But (fun _ => False) w7 _ ∧ _›).drew | exact keep_step ‹But (fun _ => False) w7 _ ∧ _› (by assumption)))
    (first | (go_at_call 40; refine (alive_any _).mono ?_; rintro e w9 ⟨rfl, g9⟩) | (go_at_call 47; refine (right_is _ HRI.out).mono ?_; rintro e w9 ⟨rfl, g9⟩) | (go_at_call 48; refine (rright_is _ HRI.out).mono ?_; rintro e w9 ⟨rfl, g9⟩) | (go_at_call 49; refine (text_is _ hx HTX.out).mono ?_; rintro e w9 ⟨rfl, g9⟩) | (go_at_call 50; refine (rtext_is _ hx HTX.out).mono ?_; rintro e w9 ⟨rfl, g9⟩))
  go_wp2_with fail
  go_ret
  exact ⟨rfl, G7.out.trans (And.left ‹But (fun _ => False) w7 _ ∧ _›)⟩

/-! ### There and back -/
theorem val_fig {d : Nat} (h : d < 16) : val (fig (d : Int)).toNat = (d : Int) := (fig_val h).1 rfl
theorem text_size (x : Int) : (text x).size = 16 := by
  show (figsTo x 16).toArray.size = 16
  rw [List.size_toArray, figsTo_length]
theorem text_val {x : Int} {i : Nat} (h : i < 16) : val (byteAt (text x) i) = x / 2 ^ (4 * (15 - i)) % 16 := by
  have hs : i < (text x).size := by rw [text_size]; exact h
  rw [byteAt_in hs]
  have e : (text x)[i]'hs = fig (x / 2 ^ (4 * (15 - i)) % 16) := by
    show (figsTo x 16).toArray[i]'(by rw [List.size_toArray, figsTo_length]; exact h) = _
    simp [figsTo]
  rw [e]
  obtain ⟨d, hd⟩ : ∃ d : Nat, x / 2 ^ (4 * (15 - i)) % 16 = (d : Int) := ⟨(x / 2 ^ (4 * (15 - i)) % 16).toNat, by omega⟩
  rw [hd]
  exact val_fig (by omega)
theorem text_ok (x : Int) : okTo (text x) 16 = true := by
  rw [okTo_iff]
  intro i hi
  rw [text_val hi]; omega
theorem text_word {x : Int} (hx : 0 ≤ x ∧ x ≤ 18446744073709551615) : ∀ k, k ≤ 16 → wordTo (text x) k = x / 2 ^ (4 * (16 - k))
  | 0, _ => by
    show (0 : Int) = x / 2 ^ (4 * (16 - 0))
    rw [show (2 : Int) ^ (4 * (16 - 0)) = 18446744073709551616 by decide]; omega
  | k + 1, h => by
    have h1 := text_word hx k (by omega)
    show 16 * wordTo (text x) k + val (byteAt (text x) k) = _
    rw [h1, text_val (by omega), show 16 - (k + 1) = 15 - k by omega, show 4 * (16 - k) = 4 * (15 - k) + 4 by omega, Int.pow_add, ← Int.ediv_ediv_of_nonneg (Int.pow_nonneg (by omega))]
    show 16 * (x / 2 ^ (4 * (15 - k)) / 16) + _ = _
    omega
theorem parse_text {x : Int} (hx : 0 ≤ x ∧ x ≤ 18446744073709551615) : parse (text x) = (x, 0) := by
  rw [parse_yes (text_size x) (text_ok x), text_word hx 16 (Nat.le_refl _)]
  congr 1
  show x / 2 ^ 0 = x
  simp

theorem enc_yes {h : Hd} (hr : right h = true) : enc h = (word h, 0) := by unfold enc; rw [if_pos hr]
theorem enc_no {h : Hd} (hr : right h = false) : enc h = (0, 1) := by unfold enc; rw [hr]; rfl
theorem dec_word {h : Hd} (hr : right h = true) : dec (word h) = (h, 0) := by unfold dec; rw [raw_word hr, if_pos hr]

set_option maxHeartbeats 4000000 in
set_option maxRecDepth 100000 in
theorem back_any (k t i g x : Int) (w : World) (hx : 0 ≤ x ∧ x ≤ 18446744073709551615) :
    Calls Try.prog 8 #[.agg #[.int .i64 k, .int .i64 t, .int .i64 i, .int .i64 g], .int .u64 x] w fun e w' => e = .returned (.bool true) ∧ But (fun _ => False) w w' := by
  have HPT := Lib.hid (parse_text hx)
  have B1 := Blk.new w #[.int .i64 k, .int .i64 t, .int .i64 i, .int .i64 g] 57
  have G1 := (But.refl (fun _ => False) w).alloc (.cells #[.int .i64 k, .int .i64 t, .int .i64 i, .int .i64 g] 57)
  by_cases hr : right ⟨k, t, i, g⟩ = true
  · have HR := Lib.hid hr
    have hwb := word_bd hr
    have HE := Lib.hid (enc_yes hr)
    have HD := Lib.hid (dec_word hr)
    clear hr
    go_enter Try.func8, Try.ntmps8
    go_wp2_with fail
    refine (enc_is (h := ⟨k, t, i, g⟩) _ HE.out).mono ?_
    rintro e w2 ⟨rfl, g2⟩
    have B2 := B1.but g2 (fun q => q)
    have G2 := G1.trans g2
    clear B1 G1 g2
    obtain ⟨u, hu⟩ : ∃ u, word ⟨k, t, i, g⟩ = u := ⟨_, rfl⟩
    have HDU := HD.out
    rw [hu] at hwb HDU ⊢
    clear HE HD hu
    go_wp2_with fail
    refine (dec_is _ hwb HDU).mono ?_
    rintro e w3 ⟨rfl, g3⟩
    clear HDU
    have B3 := (B2.but g3 (fun q => q)).alloc (.cells #[.int .i64 k, .int .i64 t, .int .i64 i, .int .i64 g] 57)
    have C3 := Blk.new w3 #[.int .i64 k, .int .i64 t, .int .i64 i, .int .i64 g] 57
    have G3 := (G2.trans g3).alloc (.cells #[.int .i64 k, .int .i64 t, .int .i64 i, .int .i64 g] 57)
    obtain ⟨wn, hwn⟩ : ∃ wn, wn = w3.alloc (.cells #[.int .i64 k, .int .i64 t, .int .i64 i, .int .i64 g] 57) := ⟨_, rfl⟩
    obtain ⟨bc, hbc⟩ : ∃ b, b = w3.heap.size := ⟨_, rfl⟩
    obtain ⟨b, hb⟩ : ∃ b, b = w.heap.size := ⟨_, rfl⟩
    rw [← hwn] at B3 C3 G3
    rw [← hb] at B3 ⊢
    rw [← hbc] at C3
    have k0 : wn.cell? ⟨b, 0, none⟩ = some (.int .i64 k) := B3.cell 0
    have k1 : wn.cell? ⟨b, 1, none⟩ = some (.int .i64 t) := B3.cell 1
    have k2 : wn.cell? ⟨b, 2, none⟩ = some (.int .i64 i) := B3.cell 2
    have k3 : wn.cell? ⟨b, 3, none⟩ = some (.int .i64 g) := B3.cell 3
    rw [hwn] at k0 k1 k2 k3
    have hbl : b < w3.heap.size := by have := B2.but g3 (fun q => q); rw [hb]; exact this.lt
    have HWN := Lib.hid hwn
    have HBC := Lib.hid hbc
    clear hwn hbc hb
    go_wp2_with fail
    refine (right_is (k := k) (t := t) (i := i) (g := g) _ HR.out).mono ?_
    rintro e w10 ⟨rfl, g10⟩
    rw [← HWN.out] at g10
    have B5 := B3.but g10 (fun q => q)
    have C5 := C3.but g10 (fun q => q)
    rw [← HBC.out]
    clear k0 k1 k2 k3
    have k0 : w10.cell? ⟨b, 0, none⟩ = some (.int .i64 k) := B5.cell 0
    have k1 : w10.cell? ⟨b, 1, none⟩ = some (.int .i64 t) := B5.cell 1
    have k2 : w10.cell? ⟨b, 2, none⟩ = some (.int .i64 i) := B5.cell 2
    have k3 : w10.cell? ⟨b, 3, none⟩ = some (.int .i64 g) := B5.cell 3
    have j0 : w10.cell? ⟨bc, 0, none⟩ = some (.int .i64 k) := C5.cell 0
    have j1 : w10.cell? ⟨bc, 1, none⟩ = some (.int .i64 t) := C5.cell 1
    have j2 : w10.cell? ⟨bc, 2, none⟩ = some (.int .i64 i) := C5.cell 2
    have j3 : w10.cell? ⟨bc, 3, none⟩ = some (.int .i64 g) := C5.cell 3
    replace G3 := G3.trans g10
    clear HWN HBC B2 B3 C3 g10 g3 B5 C5 G2 hbl
    by_cases hy : right (raw x) = true
    · have HY := Lib.hid hy
      have HYE := Lib.hid (show enc (raw x) = (x, 0) by rw [enc_yes hy, word_raw hx])
      have HYD := Lib.hid (show dec x = (⟨(raw x).k, (raw x).t, (raw x).i, (raw x).g⟩, 0) by unfold dec; rw [if_pos hy])
      clear hy
      go_wp2_with fail
      refine (dec_is _ hx HYD.out).mono ?_
      rintro e w4 ⟨rfl, g4⟩
      go_wp2_with fail
      have C4 := Blk.new w4 #[.int .i64 (raw x).k, .int .i64 (raw x).t, .int .i64 (raw x).i, .int .i64 (raw x).g] 57
      have G4 := (G3.trans g4).alloc (.cells #[.int .i64 (raw x).k, .int .i64 (raw x).t, .int .i64 (raw x).i, .int .i64 (raw x).g] 57)
      refine (enc_is (h := raw x) _ HYE.out).mono ?_
      rintro e w5 ⟨rfl, g5⟩
      have C5 := C4.but g5 (fun q => q)
      have k0 : w5.cell? ⟨w4.heap.size, 0, none⟩ = some (.int .i64 (raw x).k) := C5.cell 0
      have k1 : w5.cell? ⟨w4.heap.size, 1, none⟩ = some (.int .i64 (raw x).t) := C5.cell 1
      have k2 : w5.cell? ⟨w4.heap.size, 2, none⟩ = some (.int .i64 (raw x).i) := C5.cell 2
      have k3 : w5.cell? ⟨w4.heap.size, 3, none⟩ = some (.int .i64 (raw x).g) := C5.cell 3
      go_wp2_with fail
      refine (right_is (k := (raw x).k) (t := (raw x).t) (i := (raw x).i) (g := (raw x).g) _ HY.out).mono ?_
      rintro e w9 ⟨rfl, g9⟩
      have G5 := (G4.trans g5).trans g9
      go_wp2_with fail
      refine (text_is _ hx rfl).mono ?_
      rintro e w6 ⟨rfl, g6⟩
      go_wp2_with fail
      refine (parse_is _ (by rw [text_size]; decide) HPT.out).mono ?_
      rintro e w7 ⟨rfl, g7⟩
      go_wp2_with fail
      refine (alive_any _).mono ?_
      rintro e w8 ⟨rfl, g8⟩
      go_wp2_with fail
      go_ret
      exact ⟨rfl, ((G5.trans g6).trans g7).trans g8⟩
    · have HYD := Lib.hid (show dec x = (⟨0, 0, 0, 0⟩, 4) by unfold dec; rw [if_neg hy])
      clear hy
      go_wp2_with fail
      refine (dec_is _ hx HYD.out).mono ?_
      rintro e w4 ⟨rfl, g4⟩
      go_wp2_with fail
      have G4 := (G3.trans g4).alloc (.cells #[.int .i64 0, .int .i64 0, .int .i64 0, .int .i64 0] 57)
      refine (enc_is (h := ⟨0, 0, 0, 0⟩) (x := 0) (e := 1) _ (by decide)).mono ?_
      rintro e w5 ⟨rfl, g5⟩
      have G5 := G4.trans g5
      go_wp2_with fail
      refine (text_is _ hx rfl).mono ?_
      rintro e w6 ⟨rfl, g6⟩
      go_wp2_with fail
      refine (parse_is _ (by rw [text_size]; decide) HPT.out).mono ?_
      rintro e w7 ⟨rfl, g7⟩
      go_wp2_with fail
      refine (alive_any _).mono ?_
      rintro e w8 ⟨rfl, g8⟩
      go_wp2_with fail
      go_ret
      exact ⟨rfl, ((G5.trans g6).trans g7).trans g8⟩
  · have HR := Lib.hid (show right ⟨k, t, i, g⟩ = false by simpa using hr)
    have HE := Lib.hid (enc_no HR.out)
    clear hr
    go_enter Try.func8, Try.ntmps8
    go_wp2_with fail
    refine (enc_is (h := ⟨k, t, i, g⟩) _ HE.out).mono ?_
    rintro e w2 ⟨rfl, g2⟩
    have B2 := B1.but g2 (fun q => q)
    have G2 := G1.trans g2
    clear B1 G1 g2
    go_wp2_with fail
    refine (dec_is (x := 0) (k := 0) (t := 0) (i := 0) (g := 0) (e := 4) _ (by omega) (by decide)).mono ?_
    rintro e w3 ⟨rfl, g3⟩
    have B3 := (B2.but g3 (fun q => q)).alloc (.cells #[.int .i64 0, .int .i64 0, .int .i64 0, .int .i64 0] 57)
    have G3 := (G2.trans g3).alloc (.cells #[.int .i64 0, .int .i64 0, .int .i64 0, .int .i64 0] 57)
    have hbl : w.heap.size < w3.heap.size := (B2.but g3 (fun q => q)).lt
    have k0 : (w3.alloc (.cells #[.int .i64 0, .int .i64 0, .int .i64 0, .int .i64 0] 57)).cell? ⟨w.heap.size, 0, none⟩ = some (.int .i64 k) := B3.cell 0
    have k1 : (w3.alloc (.cells #[.int .i64 0, .int .i64 0, .int .i64 0, .int .i64 0] 57)).cell? ⟨w.heap.size, 1, none⟩ = some (.int .i64 t) := B3.cell 1
    have k2 : (w3.alloc (.cells #[.int .i64 0, .int .i64 0, .int .i64 0, .int .i64 0] 57)).cell? ⟨w.heap.size, 2, none⟩ = some (.int .i64 i) := B3.cell 2
    have k3 : (w3.alloc (.cells #[.int .i64 0, .int .i64 0, .int .i64 0, .int .i64 0] 57)).cell? ⟨w.heap.size, 3, none⟩ = some (.int .i64 g) := B3.cell 3
    go_wp2_with fail
    refine (right_is (k := k) (t := t) (i := i) (g := g) _ HR.out).mono ?_
    rintro e w10 ⟨rfl, g10⟩
    replace G3 := G3.trans g10
    clear k0 k1 k2 k3 B2 B3 g10 g3 G2
    by_cases hy : right (raw x) = true
    · have HY := Lib.hid hy
      have HYE := Lib.hid (show enc (raw x) = (x, 0) by rw [enc_yes hy, word_raw hx])
      have HYD := Lib.hid (show dec x = (⟨(raw x).k, (raw x).t, (raw x).i, (raw x).g⟩, 0) by unfold dec; rw [if_pos hy])
      clear hy
      go_wp2_with fail
      refine (dec_is _ hx HYD.out).mono ?_
      rintro e w4 ⟨rfl, g4⟩
      go_wp2_with fail
      have C4 := Blk.new w4 #[.int .i64 (raw x).k, .int .i64 (raw x).t, .int .i64 (raw x).i, .int .i64 (raw x).g] 57
      have G4 := (G3.trans g4).alloc (.cells #[.int .i64 (raw x).k, .int .i64 (raw x).t, .int .i64 (raw x).i, .int .i64 (raw x).g] 57)
      refine (enc_is (h := raw x) _ HYE.out).mono ?_
      rintro e w5 ⟨rfl, g5⟩
      have C5 := C4.but g5 (fun q => q)
      have k0 : w5.cell? ⟨w4.heap.size, 0, none⟩ = some (.int .i64 (raw x).k) := C5.cell 0
      have k1 : w5.cell? ⟨w4.heap.size, 1, none⟩ = some (.int .i64 (raw x).t) := C5.cell 1
      have k2 : w5.cell? ⟨w4.heap.size, 2, none⟩ = some (.int .i64 (raw x).i) := C5.cell 2
      have k3 : w5.cell? ⟨w4.heap.size, 3, none⟩ = some (.int .i64 (raw x).g) := C5.cell 3
      go_wp2_with fail
      refine (right_is (k := (raw x).k) (t := (raw x).t) (i := (raw x).i) (g := (raw x).g) _ HY.out).mono ?_
      rintro e w9 ⟨rfl, g9⟩
      have G5 := (G4.trans g5).trans g9
      go_wp2_with fail
      refine (text_is _ hx rfl).mono ?_
      rintro e w6 ⟨rfl, g6⟩
      go_wp2_with fail
      refine (parse_is _ (by rw [text_size]; decide) HPT.out).mono ?_
      rintro e w7 ⟨rfl, g7⟩
      go_wp2_with fail
      refine (alive_any _).mono ?_
      rintro e w8 ⟨rfl, g8⟩
      go_wp2_with fail
      go_ret
      exact ⟨rfl, ((G5.trans g6).trans g7).trans g8⟩
    · have HYD := Lib.hid (show dec x = (⟨0, 0, 0, 0⟩, 4) by unfold dec; rw [if_neg hy])
      clear hy
      go_wp2_with fail
      refine (dec_is _ hx HYD.out).mono ?_
      rintro e w4 ⟨rfl, g4⟩
      go_wp2_with fail
      have G4 := (G3.trans g4).alloc (.cells #[.int .i64 0, .int .i64 0, .int .i64 0, .int .i64 0] 57)
      refine (enc_is (h := ⟨0, 0, 0, 0⟩) (x := 0) (e := 1) _ (by decide)).mono ?_
      rintro e w5 ⟨rfl, g5⟩
      have G5 := G4.trans g5
      go_wp2_with fail
      refine (text_is _ hx rfl).mono ?_
      rintro e w6 ⟨rfl, g6⟩
      go_wp2_with fail
      refine (parse_is _ (by rw [text_size]; decide) HPT.out).mono ?_
      rintro e w7 ⟨rfl, g7⟩
      go_wp2_with fail
      refine (alive_any _).mono ?_
      rintro e w8 ⟨rfl, g8⟩
      go_wp2_with fail
      go_ret
      exact ⟨rfl, ((G5.trans g6).trans g7).trans g8⟩

theorem all2_hd {cs : Array Value} (w0 : All2 [.i .i64, .i .i64, .i .i64, .i .i64] cs.toList) : ∃ k t i g : Int, cs = #[.int .i64 k, .int .i64 t, .int .i64 i, .int .i64 g] := by
  obtain ⟨x0, l0, e0, h0, g0⟩ := all2_cons w0
  obtain ⟨x1, l1, e1, h1, g1⟩ := all2_cons g0
  obtain ⟨x2, l2, e2, h2, g2⟩ := all2_cons g1
  obtain ⟨x3, l3, e3, h3, g3⟩ := all2_cons g2
  have e4 := all2_nil g3
  obtain ⟨n0, rfl, -⟩ := h0
  obtain ⟨n1, rfl, -⟩ := h1
  obtain ⟨n2, rfl, -⟩ := h2
  obtain ⟨n3, rfl, -⟩ := h3
  exact ⟨n0, n1, n2, n3, Array.ext' (by rw [e0, e1, e2, e3, e4])⟩
theorem tells_law (W : World) (cs : Array Value) (w0 : All2 [.i .i64, .i .i64, .i .i64, .i .i64] cs.toList) (x : Int) (w1 : (Lit.int .u64 x).wf = true) (s : ByteArray) (w2 : s.size ≤ 140737488351232) :
    Calls Try.prog 7 #[.agg cs, .int .u64 x, .string s] W fun e w' => e = .returned (.bool true) ∧ But (fun _ => False) W w' := by
  obtain ⟨k, t, i, g, rfl⟩ := all2_hd w0
  exact tells_any k t i g x s W (bounds_u64 w1) (by omega)
theorem back_law (W : World) (cs : Array Value) (w0 : All2 [.i .i64, .i .i64, .i .i64, .i .i64] cs.toList) (x : Int) (w1 : (Lit.int .u64 x).wf = true) :
    Calls Try.prog 8 #[.agg cs, .int .u64 x] W fun e w' => e = .returned (.bool true) ∧ But (fun _ => False) W w' := by
  obtain ⟨k, t, i, g, rfl⟩ := all2_hd w0
  exact back_any k t i g x W (bounds_u64 w1)

end Handle
end Go.Proofs.Ytldgjmgdbaeglaa
