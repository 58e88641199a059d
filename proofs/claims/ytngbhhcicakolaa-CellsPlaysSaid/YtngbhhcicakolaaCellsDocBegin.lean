/- The document's Begin for cells (layer 7), walked. -/
import Derived.Test.YtngbhhcicakolaaCellsDocWrites
import Derived.Test.YtngbhhcicakolaaFreeRefNew
import Derived.Test.YtngbhhcicakolaaCellsBegin
set_option linter.unusedVariables false
set_option linter.unusedSimpArgs false
namespace Go.Proofs.Ytngbhhcicakolaa
open Go.RowKit Go.Deep

theorem Own.snoc {w0 w w' : World} {L : List Pc} (h : Own w0 w L) {q : Pc} (hq : q.is w') (g : But (fun _ => False) w w') (hn : ∀ k, q.S k → w.heap.size ≤ k) : Own w0 w' (L ++ [q]) := by
  have hz := h.but.size
  have ap : ∀ j (hj : j < L.length), Apart q.S L[j].S := fun j hj k a b => by have := hn k a; have := L[j].lt (h.is j hj) k b; omega
  have key : ∀ (i : Nat) (hi : i < (L ++ [q]).length), (∃ h' : i < L.length, (L ++ [q])[i] = L[i]) ∨ ((L ++ [q])[i] = q ∧ i = L.length) := fun i hi => by
    by_cases e : i < L.length
    · exact .inl ⟨e, List.getElem_append_left e⟩
    · have : i = L.length := by simp at hi; omega
      subst this
      exact .inr ⟨by simp, rfl⟩
  refine ⟨fun i hi => ?_, fun i j hi hj ne => ?_, fun i hi k hk => ?_, h.but.trans g⟩
  · rcases key i hi with ⟨h', e⟩ | ⟨e, -⟩
    · rw [e]; exact L[i].keep (h.is i h') g (fun _ q _ => q)
    · rw [e]; exact hq
  · rcases key i hi with ⟨h1, e1⟩ | ⟨e1, z1⟩ <;> rcases key j hj with ⟨h2, e2⟩ | ⟨e2, z2⟩
    · rw [e1, e2]; exact h.apart i j h1 h2 ne
    · rw [e1, e2]; exact (ap i h1).symm
    · rw [e1, e2]; exact ap j h2
    · omega
  · rcases key i hi with ⟨h', e⟩ | ⟨e, -⟩
    · rw [e] at hk; exact h.new i h' k hk
    · rw [e] at hk; have := hn k hk; omega
theorem Own.cons {w0 w w' : World} {q : Pc} {L : List Pc} (h1 : Own w0 w [q]) (h2 : Own w w' L) : Own w0 w' (q :: L) := by
  have hz := h1.but.size
  have hq : q.is w := h1.get 0 rfl
  have ap : ∀ j (hj : j < L.length), Apart q.S L[j].S := fun j hj k a b => by have := h2.new j hj k b; have := q.lt hq k a; omega
  refine ⟨fun i hi => ?_, fun i j hi hj ne => ?_, fun i hi k hk => ?_, h1.but.trans h2.but⟩
  · cases i with
    | zero => exact q.keep hq h2.but (fun _ q _ => q)
    | succ i => exact h2.is i (by simpa using hi)
  · cases i with
    | zero =>
      cases j with
      | zero => exact absurd rfl ne
      | succ j => exact ap j (by simpa using hj)
    | succ i =>
      cases j with
      | zero => exact (ap i (by simpa using hi)).symm
      | succ j => exact h2.apart i j (by simpa using hi) (by simpa using hj) (by omega)
  · cases i with
    | zero => exact h1.new 0 (by simp) k hk
    | succ i => have := h2.new i (by simpa using hi) k hk; omega

namespace Cells
open Free (Fr genAt takenAt)

theorem infoVals : (Try.prog.info? 89).map (fun i => (i.zero, i.size, i.bytes)) = some (some (.slice none 0 0), 1, 24) := by kernel_rfl
section
variable {w0 w : World} {P : Pc} {d rb bx : Nat} {cn : List Int} {r : Free.Rf} {Sr : Nat → Prop} {vs : List (Nat × List (Int × Int))} {v1 v2 : Value} {o1 o2 : Option Nat}

theorem Blk.of_own0 {cs : Array Value} {T : TypeId} (W : Own w0 w (rl (Pc.blk bx cs T) d rb r Sr cn vs v1 v2 o1 o2)) : Blk w bx cs T := W.get 0 rfl
theorem own_blk (W : Own w0 w (rl P d rb r Sr cn vs v1 v2 o1 o2)) : Blk w d #[.pointer (some ⟨rb, 0, none⟩), v1, v2] 59 := W.get 1 rfl
theorem own_lt (W : Own w0 w (rl P d rb r Sr cn vs v1 v2 o1 o2)) : d < w.heap.size := (own_blk W).lt
theorem own_d2 (W : Own w0 w (rl P d rb r Sr cn vs v1 v2 o1 o2)) : w.cell? ⟨d, 2, none⟩ = some v2 := (own_blk W).cell 2
theorem own_row3 (W : Own w0 w (rl P d rb r Sr cn vs v1 v2 o1 o2)) {j : Nat} (hj : cn.length = j) : Row w 3 1 v1 o1 j (ints cn) := by
  have : Row w 3 1 v1 o1 cn.length (ints cn) := W.get 3 rfl
  rw [hj] at this
  exact this
theorem own_row4 (W : Own w0 w (rl P d rb r Sr cn vs v1 v2 o1 o2)) {j : Nat} (hj : vs.length = j) : Row w 89 1 v2 o2 j (vs.map vsl) := by
  have : Row w 89 1 v2 o2 vs.length (vs.map vsl) := W.get 4 rfl
  rw [hj] at this
  exact this
theorem src_one (w : World) (o : Obj) (T : TypeId) (u : Value) : ∀ j z, [u][j]? = some z → ((w.alloc o).alloc (.cells #[u] T)).cell? ((⟨w.heap.size + 1, 0, none⟩ : Addr).add j) = some z := by
  have := new_src' (w.alloc o) [u] T (b := w.heap.size + 1) (by simp)
  exact this
/-- One count more. -/
theorem own_push1 {t : Obj} {w' : World} {v' : Value} {o' : Option Nat} (W : Own w0 w (rl P d rb r Sr cn vs v1 v2 o1 o2)) {j : Nat} (hj : cn.length = j) (hR : Row w' 3 1 v' o' (j + 1) (ints cn ++ [.int .i64 0])) (hB : But (fun k => o1 = some k) (w.alloc t) w') (hN : ∀ k, o' = some k → o1 = some k ∨ (w.alloc t).heap.size ≤ k) :
    Own w0 (w'.setCell ⟨d, 1, none⟩ v') (rl P d rb r Sr (cn ++ [0]) vs v' v2 o' o2) ∧ w'.cell? ⟨d, 1, none⟩ = some v1 ∧ w'.frozen? ⟨d, 1, none⟩ = false := by
  have W1 := W.same ((But.refl (fun _ => False) w).alloc t)
  have e : ints cn ++ [.int .i64 0] = ints (cn ++ [0]) := by simp [ints]
  rw [e] at hR
  obtain ⟨cn', hcn⟩ : ∃ cn', cn' = cn ++ [0] := ⟨_, rfl⟩
  rw [← hcn] at hR ⊢
  have hR' : Row w' 3 1 v' o' cn'.length (ints cn') := by rw [hcn, List.length_append, hj, ← hcn]; exact hR
  have W2 := W1.put 3 (p := Pc.row 3 1 v1 o1 cn.length (ints cn)) (q := Pc.row 3 1 v' o' cn'.length (ints cn')) rfl hR' hB hN
  have B2 : Blk w' d #[.pointer (some ⟨rb, 0, none⟩), v1, v2] 59 := W2.get 1 rfl
  have B3 : Blk (w'.setCell ⟨d, 1, none⟩ v') d #[.pointer (some ⟨rb, 0, none⟩), v', v2] 59 := B2.put 1 v' rfl
  have W3 := W2.put 1 (p := Pc.blk d #[.pointer (some ⟨rb, 0, none⟩), v1, v2] 59) (q := Pc.blk d #[.pointer (some ⟨rb, 0, none⟩), v', v2] 59) rfl B3 ((But.refl (fun k => k = d) w').setCell (p := ⟨d, 1, none⟩) (.inl rfl) _) (fun k hk => .inl hk)
  exact ⟨W3, B2.cell 1, B2.frozen 1⟩
/-- One cell's values more. -/
theorem own_push2 {t : Obj} {w' : World} {v' : Value} {o' : Option Nat} (W : Own w0 w (rl P d rb r Sr cn vs v1 v2 o1 o2)) {j len : Nat} (hj : vs.length = j) (l : List (Int × Int)) (hl : l.length = len)
    (hR : Row w' 89 1 v' o' (j + 1) (vs.map vsl ++ [.slice (some ⟨w.heap.size, 0, none⟩) len len])) (hB : But (fun k => o2 = some k) ((w.alloc (.cells (valCells l).toArray 43)).alloc t) w') (hN : ∀ k, o' = some k → o2 = some k ∨ ((w.alloc (.cells (valCells l).toArray 43)).alloc t).heap.size ≤ k) :
    Own w0 (w'.setCell ⟨d, 2, none⟩ v') (rl P d rb r Sr cn (vs ++ [(w.heap.size, l)]) v1 v' o1 o') ∧ w'.cell? ⟨d, 2, none⟩ = some v2 ∧ w'.frozen? ⟨d, 2, none⟩ = false := by
  obtain ⟨nb, hnb⟩ : ∃ nb, nb = w.heap.size := ⟨_, rfl⟩
  have BN := Blk.new w (valCells l).toArray 43
  have W1 := W.snoc (q := vbk (nb, l)) (by rw [hnb]; exact BN) ((But.refl (fun _ => False) w).alloc _) (fun k hk => by have : k = nb := hk; omega)
  have W1 := W1.same ((But.refl (fun _ => False) _).alloc t)
  rw [← hnb] at hR ⊢
  have e : vs.map vsl ++ [.slice (some ⟨nb, 0, none⟩) len len] = (vs ++ [(nb, l)]).map vsl := by rw [List.map_append, ← hl]; rfl
  rw [e] at hR
  have hR' : Row w' 89 1 v' o' (vs ++ [(nb, l)]).length ((vs ++ [(nb, l)]).map vsl) := by rw [List.length_append, hj]; exact hR
  have W2 := W1.put 4 (p := Pc.row 89 1 v2 o2 vs.length (vs.map vsl)) (q := Pc.row 89 1 v' o' (vs ++ [(nb, l)]).length ((vs ++ [(nb, l)]).map vsl)) rfl hR' hB hN
  have B2 : Blk w' d #[.pointer (some ⟨rb, 0, none⟩), v1, v2] 59 := W2.get 1 rfl
  have B3 : Blk (w'.setCell ⟨d, 2, none⟩ v') d #[.pointer (some ⟨rb, 0, none⟩), v1, v'] 59 := B2.put 2 v' rfl
  have W3 := W2.put 1 (p := Pc.blk d #[.pointer (some ⟨rb, 0, none⟩), v1, v2] 59) (q := Pc.blk d #[.pointer (some ⟨rb, 0, none⟩), v1, v'] 59) rfl B3 ((But.refl (fun k => k = d) w').setCell (p := ⟨d, 2, none⟩) (.inl rfl) _) (fun k hk => .inl hk)
  refine ⟨?_, B2.cell 2, B2.frozen 2⟩
  have e3 : rl P d rb r Sr cn (vs ++ [(nb, l)]) v1 v' o1 o' = (((rl P d rb r Sr cn vs v1 v2 o1 o2 ++ [vbk (nb, l)]).set 4 (Pc.row 89 1 v' o' (vs ++ [(nb, l)]).length ((vs ++ [(nb, l)]).map vsl))).set 1 (Pc.blk d #[.pointer (some ⟨rb, 0, none⟩), v1, v'] 59)) := by
    unfold rl
    simp only [List.map_append, List.cons_append, List.map_cons, List.map_nil]
    rfl
  rw [e3]
  exact W3
end

set_option maxHeartbeats 8000000 in
set_option maxRecDepth 100000 in
theorem begin_doc (s : Conf.Sh) (w : World) (hok : Conf.ok s = true) {m : Nat} (hm : Conf.count s = m) : Calls Try.prog 10 #[.agg (Conf.sh s)] w fun e w' =>
    ∃ d rb r Sr vs v1 v2 o1 o2 P, e = .returned (.pointer (some ⟨d, 0, none⟩)) ∧ Own w w' (rl P d rb r Sr (begin_ s m).cn vs v1 v2 o1 o2) ∧ vs.map (·.2) = (begin_ s m).v ∧ Free.Rel (begin_ s m).f r := by
  obtain ⟨i0, hi, hz0, hz1, hz2⟩ := info_parts infoInt
  obtain ⟨i1, hi1, hz3, hz4, hz5⟩ := info_parts infoVals
  have hm2 : m ≤ 192 := by have := Conf.count_bd s; omega
  have hrel := (Free.rel_init hok hm).1
  have hbg := fun w => Free.begin_any s w hok
  rw [hm, Int.toNat_natCast] at hbg
  have hct := fun w => Conf.ref_count s w
  rw [hm] at hct
  have hcl := fun w i => Conf.ref_class s i w
  have hbx : ∀ (w : World) T, Blk (w.alloc (.cells (Conf.sh s) T)) w.heap.size (Conf.sh s) T := fun w T => Blk.new w _ T
  unfold Conf.sh at hbg hct hcl hbx ⊢
  have HBG := Lib.hid hbg
  have HCT := Lib.hid hct
  have HCL := Lib.hid hcl
  have HBX := Lib.hid hbx
  have HREL := Lib.hid hrel
  have HSL := Lib.hid (fun (x : Nat) (hx : x < m) => show Conf.slots (Conf.find s (x : Int)).1 = ((slots s x).toNat : Nat) by have := (slots_pos hok (x := x) (by omega)).1; unfold slots at this ⊢; omega)
  have HS4 := Lib.hid (fun (x : Nat) => show (slots s x).toNat ≤ 4 by have := slots_bd s x; omega)
  clear hbg hct hcl hbx hrel hm hok
  obtain ⟨r0, hr0⟩ : ∃ r0, r0 = Free.beginTo s m m := ⟨_, rfl⟩
  rw [← hr0] at HBG HREL
  clear hr0
  go_enter Try.func10, Try.ntmps10
  go_wp2_with fail
  refine (HBG.out _).mono ?_
  rintro e w2 ⟨rb, Sr, rfl, h2, g2, hl2⟩
  have X2 := (HBX.out w 24).but g2 (fun q => q)
  have G2 := Lib.hid (((But.refl (fun _ => False) w).alloc (.cells #[.int .i64 s.c0, .int .i64 s.c1, .int .i64 s.c2, .int .i64 s.q, .int .i64 s.st] 24)).trans g2)
  obtain ⟨bx, hbx⟩ : ∃ bx, bx = w.heap.size := ⟨_, rfl⟩
  rw [← hbx] at X2 ⊢
  obtain ⟨d, hd⟩ : ∃ d, d = w2.heap.size := ⟨_, rfl⟩
  have zz : w.heap.size ≤ w2.heap.size := G2.out.size
  have W2 : Own w w2 [Pc.rob rb r0 Sr] := ⟨fun i hi => by obtain rfl : i = 0 := (by simpa using hi); exact h2, fun i j hi hj ne => (by simp at hi hj; omega), fun i hi k hk => (by obtain rfl : i = 0 := (by simpa using hi); have := hl2 k hk; simp at this; omega), G2.out⟩
  have ap : ∀ k, Sr k → k ≠ bx := fun k hk e => by have := hl2 k hk; simp at this; omega
  have W2' : Own w w2 [Pc.blk bx #[.int .i64 s.c0, .int .i64 s.c1, .int .i64 s.c2, .int .i64 s.q, .int .i64 s.st] 24, Pc.rob rb r0 Sr] := by
    refine ⟨fun i hi => ?_, fun i j hi hj ne k a b => ?_, fun i hi k hk => ?_, G2.out⟩
    · match i, hi with
      | 0, _ => exact X2
      | 1, _ => exact h2
    · match i, j, hi, hj with
      | 0, 1, _, _ => exact ap k b a
      | 1, 0, _, _ => exact ap k a b
      | 0, 0, _, _ => exact ne rfl
      | 1, 1, _, _ => exact ne rfl
    · match i, hi with
      | 0, _ => have : k = bx := hk; omega
      | 1, _ => exact W2.new 0 (by simp) k hk
  have BD := Blk.new w2 #[.pointer (some ⟨rb, 0, none⟩), .slice none 0 0, .slice none 0 0] 59
  have W3 : Own w (w2.alloc (.cells #[.pointer (some ⟨rb, 0, none⟩), .slice none 0 0, .slice none 0 0] 59)) (rl (Pc.blk bx #[.int .i64 s.c0, .int .i64 s.c1, .int .i64 s.c2, .int .i64 s.q, .int .i64 s.st] 24) d rb r0 Sr [] [] (.slice none 0 0) (.slice none 0 0) none none) := by
    have A1 := (W2'.add (q := Pc.blk d #[.pointer (some ⟨rb, 0, none⟩), .slice none 0 0, .slice none 0 0] 59) (by rw [hd]; exact BD) ((But.refl (fun _ => False) w2).alloc _) (fun k hk => by have : k = d := hk; omega)).swap
    have A2 := A1.snoc (q := Pc.row 3 1 (.slice none 0 0) none 0 []) (Row.nil _ _ _) (But.refl _ _) (fun k hk => by cases hk)
    exact A2.snoc (q := Pc.row 89 1 (.slice none 0 0) none 0 []) (Row.nil _ _ _) (But.refl _ _) (fun k hk => by cases hk)
  have HBXL := Lib.hid hbx
  clear W2 W2' ap h2 g2 hl2 X2 BD hbx
  have XX := Blk.of_own0 W3
  go_wp2_with fail
  rw [← hd]
  obtain ⟨w3, hw3⟩ : ∃ w3, w3 = w2.alloc (.cells #[.pointer (some ⟨rb, 0, none⟩), .slice none 0 0, .slice none 0 0] 59) := ⟨_, rfl⟩
  rw [← hw3] at W3 ⊢
  have HW3 := Lib.hid W3
  clear hw3 hd W3 zz XX
  go_loopg [4] m (fun k i1 wr => ∃ (j : Nat) (vs : List (Nat × List (Int × Int))) (v1 v2 : Value) (o1 o2 : Option Nat), j + k = m ∧ i1 = .int .i64 j ∧ Own w wr (rl (Pc.blk bx #[.int .i64 s.c0, .int .i64 s.c1, .int .i64 s.c2, .int .i64 s.q, .int .i64 s.st] 24) d rb r0 Sr (List.replicate j 0) vs v1 v2 o1 o2) ∧ vs.map (·.2) = (List.range j).map (fun (x : Nat) => List.replicate (slots s x).toNat ((0 : Int), (0 : Int))))
  case atStart => exact ⟨0, [], _, _, _, _, by omega, rfl, HW3.out, rfl⟩
  case round =>
    obtain ⟨j, vs, v1, v2, o1, o2, hj, rfl, hW, hvs⟩ := hrel
    clear HW3
    have W0 := Lib.hid hW
    have HVS := Lib.hid hvs
    have HVL := Lib.hid (show vs.length = j by have := congrArg List.length hvs; simpa using this)
    clear hvs
    have B0 := Blk.of_own0 hW
    have k0 : wr.cell? ⟨bx, 0, none⟩ = some (.int .i64 s.c0) := B0.cell 0
    have k1 : wr.cell? ⟨bx, 1, none⟩ = some (.int .i64 s.c1) := B0.cell 1
    have k2 : wr.cell? ⟨bx, 2, none⟩ = some (.int .i64 s.c2) := B0.cell 2
    have k3 : wr.cell? ⟨bx, 3, none⟩ = some (.int .i64 s.q) := B0.cell 3
    have k4 : wr.cell? ⟨bx, 4, none⟩ = some (.int .i64 s.st) := B0.cell 4
    clear B0 hW
    go_wp2_with fail
    refine (HCT.out _).mono ?_
    rintro e w4 ⟨rfl, g4⟩
    have W4 := Lib.hid (W0.out.same g4)
    clear k0 k1 k2 k3 k4 g4 W0
    by_cases hlt : j < m
    · have q1 : w4.cell? ⟨d, 1, none⟩ = some v1 := (own_blk W4.out).cell 1
      have z4 := own_lt W4.out
      have hjl : (List.replicate j (0 : Int)).length = j := List.length_replicate
      have HJL := Lib.hid hjl
      obtain ⟨len, hlen⟩ : ∃ len, (slots s j).toNat = len := ⟨_, rfl⟩
      have HLN := Lib.hid (show Conf.slots (Conf.find s (j : Int)).1 = (len : Int) by rw [← hlen]; exact HSL.out j hlt)
      have HL2 := Lib.hid hlen
      have hl4 : len ≤ 4 := by rw [← hlen]; exact HS4.out j
      have hmk := fun w => mk_vals hl4 w
      have HRS := Lib.hid (show List.replicate (j + 1) (0 : Int) = List.replicate j 0 ++ [0] from List.replicate_succ')
      obtain ⟨a1, cap1, rfl, -, -⟩ := (own_row3 W4.out HJL.out).val
      obtain ⟨a2, cap2, rfl, -, -⟩ := (own_row4 W4.out HVL.out).val
      clear hlen hjl
      go_wp2_with (first
        | (at_builtin; have HH := (own_row3 W4.out HJL.out).alloc (.cells #[.int .i64 0] 3); refine wpList_append_row _ rfl _ _ _ rfl 3 i0 (.int .i64 0) 1 8 Try.underlying51 hi hz0 hz1 hz2 rfl (by decide) _ o1 j (ints (List.replicate j 0)) HH (by rfl) ⟨w4.heap.size, 0, none⟩ 1 1 [.int .i64 0] (by rfl) (by rfl) (cell_one_new _ _ _) (by simp [Value.oneCell']) (by unfold maxLen; omega) (by omega) ?_; intro v5 w5 o5 hR5 hB5 hN5; obtain ⟨a5, cap5, rfl, -, -⟩ := hR5.val; obtain ⟨W5, y1, y2⟩ := own_push1 W4.out HJL.out hR5 hB5 hN5; clear hR5 hB5 hN5 HH; rw [← HRS.out] at W5))
      obtain ⟨w6, hw6⟩ : ∃ w6, w6 = w5.setCell ⟨d, 1, none⟩ (.slice a5 (j + 1) cap5) := ⟨_, rfl⟩
      rw [← hw6] at W5 ⊢
      have w6W := Lib.hid W5
      obtain ⟨v1, hv1⟩ : ∃ v1, v1 = Value.slice a5 (j + 1) cap5 := ⟨_, rfl⟩
      obtain ⟨o1, ho1⟩ : ∃ o1, o1 = o5 := ⟨_, rfl⟩
      rw [← hv1, ← ho1] at w6W
      clear hw6 W5 y1 y2 q1 z4 W4 hv1 ho1
      refine wp_region_any (by kernel_rfl) ?_
      change wpAny _ _ _ _ _ _ _ (World.drew _)
      obtain ⟨we, hwe⟩ : ∃ we, we = w6.drew := ⟨_, rfl⟩
      have Wwe := Lib.hid (show Own w we (rl (Pc.blk bx #[.int .i64 s.c0, .int .i64 s.c1, .int .i64 s.c2, .int .i64 s.q, .int .i64 s.st] 24) d rb r0 Sr (List.replicate (j + 1) 0) vs v1 (.slice a2 j cap2) o1 o2) from hwe ▸ w6W.out.drew)
      rw [← hwe]
      clear hwe
      have B0we := Blk.of_own0 Wwe.out
      have zwe := own_lt Wwe.out
      have qwe := own_d2 Wwe.out
      have k0we : we.cell? ⟨bx, 0, none⟩ = some (.int .i64 s.c0) := B0we.cell 0
      have k1we : we.cell? ⟨bx, 1, none⟩ = some (.int .i64 s.c1) := B0we.cell 1
      have k2we : we.cell? ⟨bx, 2, none⟩ = some (.int .i64 s.c2) := B0we.cell 2
      have k3we : we.cell? ⟨bx, 3, none⟩ = some (.int .i64 s.q) := B0we.cell 3
      have k4we : we.cell? ⟨bx, 4, none⟩ = some (.int .i64 s.st) := B0we.cell 4
      clear B0we
      refine wpAny_take (i := 0) (oi := ⟨some 24, _, _, _, _, _⟩) (v := ?_) rfl (by kernel_rfl) (by kernel_rfl) (by kernel_rfl) (fun _ _ _ h => h) (Or.inl ⟨by rfl, ?_⟩) ?_
      rotate_left
      · intro w
        go_simp
        try with_reducible rfl
      simp only [Act.put, List.setIfInBounds_toArray, List.set_cons_zero, List.set_cons_succ]
      refine wpAny_take (i := 1) (oi := ⟨some 25, _, _, _, _, _⟩) (v := ?_) rfl (by kernel_rfl) (by kernel_rfl) (by kernel_rfl) (fun _ _ _ h => h) (Or.inl ⟨by rfl, ?_⟩) ?_
      rotate_left
      · intro w
        go_simp
        try with_reducible rfl
      simp only [Act.put, List.setIfInBounds_toArray, List.set_cons_zero, List.set_cons_succ]
      refine wpAny_take (i := 2) (oi := ⟨some 26, _, _, _, _, _⟩) (v := ?_) rfl (by kernel_rfl) (by kernel_rfl) (by kernel_rfl) (fun _ _ _ h => h) (Or.inl ⟨by rfl, ?_⟩) ?_
      rotate_left
      · intro w
        go_simp
        try with_reducible rfl
      simp only [Act.put, List.setIfInBounds_toArray, List.set_cons_zero, List.set_cons_succ]
      refine wpAny_take (i := 3) (oi := ⟨some 27, _, _, _, _, _⟩) (v := ?_) rfl (by kernel_rfl) (by kernel_rfl) (by kernel_rfl) (fun _ _ _ h => h) (Or.inl ⟨by rfl, ?_⟩) ?_
      rotate_left
      · intro w
        go_simp
        try with_reducible rfl
      simp only [Act.put, List.setIfInBounds_toArray, List.set_cons_zero, List.set_cons_succ]
      refine wpAny_take (i := 6) (oi := ⟨some 30, _, _, _, _, _⟩) (v := ?_) rfl (by kernel_rfl) (by kernel_rfl) (by kernel_rfl) (fun _ _ _ h => h) (Or.inl ⟨by rfl, ?_⟩) ?_
      rotate_left
      · intro w
        go_simp
        try with_reducible rfl
      simp only [Act.put, List.setIfInBounds_toArray, List.set_cons_zero, List.set_cons_succ]
      refine wpAny_ready (rs := [4, 5]) (by kernel_rfl) (by simp) ?_
      refine AllReady.cons rfl (fun K hK => ?_) (AllReady.cons rfl (fun K hK => ?_) AllReady.nil)
      · go_simp
        refine hK _ _ ?_
        clear hK K
        try simp only [Act.put, List.setIfInBounds_toArray, List.set_cons_zero, List.set_cons_succ]
        refine wpAny_ready (rs := [5]) (by kernel_rfl) (by simp) ?_
        refine AllReady.cons rfl (fun K hK => ?_) AllReady.nil
        go_simp
        refine hK _ _ ?_
        clear hK K
        try simp only [Act.put, List.setIfInBounds_toArray, List.set_cons_zero, List.set_cons_succ]
        refine wpAny_ready (rs := [7]) (by kernel_rfl) (by simp) ?_
        refine AllReady.cons rfl (fun K hK => ?_) AllReady.nil
        go_simp
        refine (HCL.out we _).mono ?_
        rintro r yw1 ⟨rfl, gyw1⟩
        have Wyw1 := Lib.hid (Wwe.out.same gyw1)
        clear gyw1 zwe qwe k0we k1we k2we k3we k4we
        have B0yw1 := Blk.of_own0 Wyw1.out
        have zyw1 := own_lt Wyw1.out
        have qyw1 := own_d2 Wyw1.out
        have k0yw1 : yw1.cell? ⟨bx, 0, none⟩ = some (.int .i64 s.c0) := B0yw1.cell 0
        have k1yw1 : yw1.cell? ⟨bx, 1, none⟩ = some (.int .i64 s.c1) := B0yw1.cell 1
        have k2yw1 : yw1.cell? ⟨bx, 2, none⟩ = some (.int .i64 s.c2) := B0yw1.cell 2
        have k3yw1 : yw1.cell? ⟨bx, 3, none⟩ = some (.int .i64 s.q) := B0yw1.cell 3
        have k4yw1 : yw1.cell? ⟨bx, 4, none⟩ = some (.int .i64 s.st) := B0yw1.cell 4
        clear B0yw1
        refine hK _ _ ?_
        clear hK K
        try simp only [Act.put, List.setIfInBounds_toArray, List.set_cons_zero, List.set_cons_succ]
        refine wpAny_ready (rs := [8]) (by kernel_rfl) (by simp) ?_
        refine AllReady.cons rfl (fun K hK => ?_) AllReady.nil
        go_simp
        refine (Conf.ref_slots _ _).mono ?_
        rintro r yw2 ⟨rfl, rfl⟩
        rw [HLN.out]
        refine hK _ _ ?_
        clear hK K
        try simp only [Act.put, List.setIfInBounds_toArray, List.set_cons_zero, List.set_cons_succ]
        refine wpAny_ready (rs := [9]) (by kernel_rfl) (by simp) ?_
        refine AllReady.cons rfl (fun K hK => ?_) AllReady.nil
        go_simp
        refine hK _ _ ?_
        clear hK K
        try simp only [Act.put, List.setIfInBounds_toArray, List.set_cons_zero, List.set_cons_succ]
        refine wpAny_ready (rs := [10]) (by kernel_rfl) (by simp) ?_
        refine AllReady.cons rfl (fun K hK => ?_) AllReady.nil
        go_simp
        refine hK _ _ ?_
        clear hK K
        try simp only [Act.put, List.setIfInBounds_toArray, List.set_cons_zero, List.set_cons_succ]
        refine wpAny_ready (rs := [11]) (by kernel_rfl) (by simp) ?_
        refine AllReady.cons rfl (fun K hK => ?_) AllReady.nil
        refine step_append_row (o := ⟨some 35, _, _, _, _, _⟩) (by rfl) _ _ _ rfl 89 i1 (.slice none 0 0) 1 24 Try.underlying57 hi1 hz3 hz4 hz5 rfl (by decide) _ o2 j (vs.map vsl) (((own_row4 Wyw1.out HVL.out).alloc _).alloc _) rfl ⟨yw1.heap.size + 1, 0, none⟩ 1 1 [.slice (some ⟨yw1.heap.size, 0, none⟩) len len] rfl rfl (src_one yw1 _ _ _) (by simp [Value.oneCell']) (by unfold maxLen; omega) (by omega) ?_
        intro v3 w3 o3 hR3 hB3 hN3
        obtain ⟨a3, cap3, rfl, -, -⟩ := hR3.val
        obtain ⟨W5, y1, y2⟩ := own_push2 Wyw1.out HVL.out (List.replicate len (0, 0)) (by simp) hR3 hB3 hN3
        have W5 := Lib.hid W5
        clear hR3 hB3 hN3 zyw1 qyw1 k0yw1 k1yw1 k2yw1 k3yw1 k4yw1
        refine hK _ _ ?_
        clear hK K
        try simp only [Act.put, List.setIfInBounds_toArray, List.set_cons_zero, List.set_cons_succ]
        refine wpAny_take (i := 12) (oi := ⟨some 36, _, _, _, _, _⟩) (v := ?_) rfl (by kernel_rfl) (by kernel_rfl) (by kernel_rfl) (fun _ _ _ h => h) (Or.inl ⟨by rfl, ?_⟩) ?_
        rotate_left
        · intro w
          go_simp
          try with_reducible rfl
        simp only [Act.put, List.setIfInBounds_toArray, List.set_cons_zero, List.set_cons_succ]
        refine wpAny_take (i := 13) (oi := ⟨some 37, _, _, _, _, _⟩) (v := ?_) rfl (by kernel_rfl) (by kernel_rfl) (by kernel_rfl) (fun _ _ _ h => h) (Or.inl ⟨by rfl, ?_⟩) ?_
        rotate_left
        · intro w
          go_simp
          try with_reducible rfl
        simp only [Act.put, List.setIfInBounds_toArray, List.set_cons_zero, List.set_cons_succ]
        refine wpAny_ready (rs := [14]) (by kernel_rfl) (by simp) ?_
        refine AllReady.cons rfl (fun K hK => ?_) AllReady.nil
        go_simp
        refine hK _ _ ?_
        clear hK K
        try simp only [Act.put, List.setIfInBounds_toArray, List.set_cons_zero, List.set_cons_succ]
        refine wpAny_done (by kernel_rfl) ?_ _
        go_wp2_with fail
        go_roundg (m - (j + 1))
        case measure => omega
        case rel => exact ⟨j + 1, _, _, _, _, _, by omega, by go_num, W5.out, by rw [List.map_append, HVS.out, List.range_succ, List.map_append, List.map_cons, List.map_nil, List.map_cons, List.map_nil, HL2.out]⟩
      · go_simp
        refine hK _ _ ?_
        clear hK K
        try simp only [Act.put, List.setIfInBounds_toArray, List.set_cons_zero, List.set_cons_succ]
        refine wpAny_ready (rs := [4, 7]) (by kernel_rfl) (by simp) ?_
        refine AllReady.cons rfl (fun K hK => ?_) (AllReady.cons rfl (fun K hK => ?_) AllReady.nil)
        · go_simp
          refine hK _ _ ?_
          clear hK K
          try simp only [Act.put, List.setIfInBounds_toArray, List.set_cons_zero, List.set_cons_succ]
          refine wpAny_ready (rs := [7]) (by kernel_rfl) (by simp) ?_
          refine AllReady.cons rfl (fun K hK => ?_) AllReady.nil
          go_simp
          refine (HCL.out we _).mono ?_
          rintro r yw4 ⟨rfl, gyw4⟩
          have Wyw4 := Lib.hid (Wwe.out.same gyw4)
          clear gyw4 zwe qwe k0we k1we k2we k3we k4we
          have B0yw4 := Blk.of_own0 Wyw4.out
          have zyw4 := own_lt Wyw4.out
          have qyw4 := own_d2 Wyw4.out
          have k0yw4 : yw4.cell? ⟨bx, 0, none⟩ = some (.int .i64 s.c0) := B0yw4.cell 0
          have k1yw4 : yw4.cell? ⟨bx, 1, none⟩ = some (.int .i64 s.c1) := B0yw4.cell 1
          have k2yw4 : yw4.cell? ⟨bx, 2, none⟩ = some (.int .i64 s.c2) := B0yw4.cell 2
          have k3yw4 : yw4.cell? ⟨bx, 3, none⟩ = some (.int .i64 s.q) := B0yw4.cell 3
          have k4yw4 : yw4.cell? ⟨bx, 4, none⟩ = some (.int .i64 s.st) := B0yw4.cell 4
          clear B0yw4
          refine hK _ _ ?_
          clear hK K
          try simp only [Act.put, List.setIfInBounds_toArray, List.set_cons_zero, List.set_cons_succ]
          refine wpAny_ready (rs := [8]) (by kernel_rfl) (by simp) ?_
          refine AllReady.cons rfl (fun K hK => ?_) AllReady.nil
          go_simp
          refine (Conf.ref_slots _ _).mono ?_
          rintro r yw5 ⟨rfl, rfl⟩
          rw [HLN.out]
          refine hK _ _ ?_
          clear hK K
          try simp only [Act.put, List.setIfInBounds_toArray, List.set_cons_zero, List.set_cons_succ]
          refine wpAny_ready (rs := [9]) (by kernel_rfl) (by simp) ?_
          refine AllReady.cons rfl (fun K hK => ?_) AllReady.nil
          go_simp
          refine hK _ _ ?_
          clear hK K
          try simp only [Act.put, List.setIfInBounds_toArray, List.set_cons_zero, List.set_cons_succ]
          refine wpAny_ready (rs := [10]) (by kernel_rfl) (by simp) ?_
          refine AllReady.cons rfl (fun K hK => ?_) AllReady.nil
          go_simp
          refine hK _ _ ?_
          clear hK K
          try simp only [Act.put, List.setIfInBounds_toArray, List.set_cons_zero, List.set_cons_succ]
          refine wpAny_ready (rs := [11]) (by kernel_rfl) (by simp) ?_
          refine AllReady.cons rfl (fun K hK => ?_) AllReady.nil
          refine step_append_row (o := ⟨some 35, _, _, _, _, _⟩) (by rfl) _ _ _ rfl 89 i1 (.slice none 0 0) 1 24 Try.underlying57 hi1 hz3 hz4 hz5 rfl (by decide) _ o2 j (vs.map vsl) (((own_row4 Wyw4.out HVL.out).alloc _).alloc _) rfl ⟨yw4.heap.size + 1, 0, none⟩ 1 1 [.slice (some ⟨yw4.heap.size, 0, none⟩) len len] rfl rfl (src_one yw4 _ _ _) (by simp [Value.oneCell']) (by unfold maxLen; omega) (by omega) ?_
          intro v3 w3 o3 hR3 hB3 hN3
          obtain ⟨a3, cap3, rfl, -, -⟩ := hR3.val
          obtain ⟨W5, y1, y2⟩ := own_push2 Wyw4.out HVL.out (List.replicate len (0, 0)) (by simp) hR3 hB3 hN3
          have W5 := Lib.hid W5
          clear hR3 hB3 hN3 zyw4 qyw4 k0yw4 k1yw4 k2yw4 k3yw4 k4yw4
          refine hK _ _ ?_
          clear hK K
          try simp only [Act.put, List.setIfInBounds_toArray, List.set_cons_zero, List.set_cons_succ]
          refine wpAny_take (i := 12) (oi := ⟨some 36, _, _, _, _, _⟩) (v := ?_) rfl (by kernel_rfl) (by kernel_rfl) (by kernel_rfl) (fun _ _ _ h => h) (Or.inl ⟨by rfl, ?_⟩) ?_
          rotate_left
          · intro w
            go_simp
            try with_reducible rfl
          simp only [Act.put, List.setIfInBounds_toArray, List.set_cons_zero, List.set_cons_succ]
          refine wpAny_take (i := 13) (oi := ⟨some 37, _, _, _, _, _⟩) (v := ?_) rfl (by kernel_rfl) (by kernel_rfl) (by kernel_rfl) (fun _ _ _ h => h) (Or.inl ⟨by rfl, ?_⟩) ?_
          rotate_left
          · intro w
            go_simp
            try with_reducible rfl
          simp only [Act.put, List.setIfInBounds_toArray, List.set_cons_zero, List.set_cons_succ]
          refine wpAny_ready (rs := [14]) (by kernel_rfl) (by simp) ?_
          refine AllReady.cons rfl (fun K hK => ?_) AllReady.nil
          go_simp
          refine hK _ _ ?_
          clear hK K
          try simp only [Act.put, List.setIfInBounds_toArray, List.set_cons_zero, List.set_cons_succ]
          refine wpAny_done (by kernel_rfl) ?_ _
          go_wp2_with fail
          go_roundg (m - (j + 1))
          case measure => omega
          case rel => exact ⟨j + 1, _, _, _, _, _, by omega, by go_num, W5.out, by rw [List.map_append, HVS.out, List.range_succ, List.map_append, List.map_cons, List.map_nil, List.map_cons, List.map_nil, HL2.out]⟩
        · go_simp
          refine (HCL.out we _).mono ?_
          rintro r yw7 ⟨rfl, gyw7⟩
          have Wyw7 := Lib.hid (Wwe.out.same gyw7)
          clear gyw7 zwe qwe k0we k1we k2we k3we k4we
          have B0yw7 := Blk.of_own0 Wyw7.out
          have zyw7 := own_lt Wyw7.out
          have qyw7 := own_d2 Wyw7.out
          have k0yw7 : yw7.cell? ⟨bx, 0, none⟩ = some (.int .i64 s.c0) := B0yw7.cell 0
          have k1yw7 : yw7.cell? ⟨bx, 1, none⟩ = some (.int .i64 s.c1) := B0yw7.cell 1
          have k2yw7 : yw7.cell? ⟨bx, 2, none⟩ = some (.int .i64 s.c2) := B0yw7.cell 2
          have k3yw7 : yw7.cell? ⟨bx, 3, none⟩ = some (.int .i64 s.q) := B0yw7.cell 3
          have k4yw7 : yw7.cell? ⟨bx, 4, none⟩ = some (.int .i64 s.st) := B0yw7.cell 4
          clear B0yw7
          refine hK _ _ ?_
          clear hK K
          try simp only [Act.put, List.setIfInBounds_toArray, List.set_cons_zero, List.set_cons_succ]
          refine wpAny_ready (rs := [4, 8]) (by kernel_rfl) (by simp) ?_
          refine AllReady.cons rfl (fun K hK => ?_) (AllReady.cons rfl (fun K hK => ?_) AllReady.nil)
          · go_simp
            refine hK _ _ ?_
            clear hK K
            try simp only [Act.put, List.setIfInBounds_toArray, List.set_cons_zero, List.set_cons_succ]
            refine wpAny_ready (rs := [8]) (by kernel_rfl) (by simp) ?_
            refine AllReady.cons rfl (fun K hK => ?_) AllReady.nil
            go_simp
            refine (Conf.ref_slots _ _).mono ?_
            rintro r yw8 ⟨rfl, rfl⟩
            rw [HLN.out]
            refine hK _ _ ?_
            clear hK K
            try simp only [Act.put, List.setIfInBounds_toArray, List.set_cons_zero, List.set_cons_succ]
            refine wpAny_ready (rs := [9]) (by kernel_rfl) (by simp) ?_
            refine AllReady.cons rfl (fun K hK => ?_) AllReady.nil
            go_simp
            refine hK _ _ ?_
            clear hK K
            try simp only [Act.put, List.setIfInBounds_toArray, List.set_cons_zero, List.set_cons_succ]
            refine wpAny_ready (rs := [10]) (by kernel_rfl) (by simp) ?_
            refine AllReady.cons rfl (fun K hK => ?_) AllReady.nil
            go_simp
            refine hK _ _ ?_
            clear hK K
            try simp only [Act.put, List.setIfInBounds_toArray, List.set_cons_zero, List.set_cons_succ]
            refine wpAny_ready (rs := [11]) (by kernel_rfl) (by simp) ?_
            refine AllReady.cons rfl (fun K hK => ?_) AllReady.nil
            refine step_append_row (o := ⟨some 35, _, _, _, _, _⟩) (by rfl) _ _ _ rfl 89 i1 (.slice none 0 0) 1 24 Try.underlying57 hi1 hz3 hz4 hz5 rfl (by decide) _ o2 j (vs.map vsl) (((own_row4 Wyw7.out HVL.out).alloc _).alloc _) rfl ⟨yw7.heap.size + 1, 0, none⟩ 1 1 [.slice (some ⟨yw7.heap.size, 0, none⟩) len len] rfl rfl (src_one yw7 _ _ _) (by simp [Value.oneCell']) (by unfold maxLen; omega) (by omega) ?_
            intro v3 w3 o3 hR3 hB3 hN3
            obtain ⟨a3, cap3, rfl, -, -⟩ := hR3.val
            obtain ⟨W5, y1, y2⟩ := own_push2 Wyw7.out HVL.out (List.replicate len (0, 0)) (by simp) hR3 hB3 hN3
            have W5 := Lib.hid W5
            clear hR3 hB3 hN3 zyw7 qyw7 k0yw7 k1yw7 k2yw7 k3yw7 k4yw7
            refine hK _ _ ?_
            clear hK K
            try simp only [Act.put, List.setIfInBounds_toArray, List.set_cons_zero, List.set_cons_succ]
            refine wpAny_take (i := 12) (oi := ⟨some 36, _, _, _, _, _⟩) (v := ?_) rfl (by kernel_rfl) (by kernel_rfl) (by kernel_rfl) (fun _ _ _ h => h) (Or.inl ⟨by rfl, ?_⟩) ?_
            rotate_left
            · intro w
              go_simp
              try with_reducible rfl
            simp only [Act.put, List.setIfInBounds_toArray, List.set_cons_zero, List.set_cons_succ]
            refine wpAny_take (i := 13) (oi := ⟨some 37, _, _, _, _, _⟩) (v := ?_) rfl (by kernel_rfl) (by kernel_rfl) (by kernel_rfl) (fun _ _ _ h => h) (Or.inl ⟨by rfl, ?_⟩) ?_
            rotate_left
            · intro w
              go_simp
              try with_reducible rfl
            simp only [Act.put, List.setIfInBounds_toArray, List.set_cons_zero, List.set_cons_succ]
            refine wpAny_ready (rs := [14]) (by kernel_rfl) (by simp) ?_
            refine AllReady.cons rfl (fun K hK => ?_) AllReady.nil
            go_simp
            refine hK _ _ ?_
            clear hK K
            try simp only [Act.put, List.setIfInBounds_toArray, List.set_cons_zero, List.set_cons_succ]
            refine wpAny_done (by kernel_rfl) ?_ _
            go_wp2_with fail
            go_roundg (m - (j + 1))
            case measure => omega
            case rel => exact ⟨j + 1, _, _, _, _, _, by omega, by go_num, W5.out, by rw [List.map_append, HVS.out, List.range_succ, List.map_append, List.map_cons, List.map_nil, List.map_cons, List.map_nil, HL2.out]⟩
          · go_simp
            refine (Conf.ref_slots _ _).mono ?_
            rintro r yw10 ⟨rfl, rfl⟩
            rw [HLN.out]
            refine hK _ _ ?_
            clear hK K
            try simp only [Act.put, List.setIfInBounds_toArray, List.set_cons_zero, List.set_cons_succ]
            refine wpAny_ready (rs := [4, 9]) (by kernel_rfl) (by simp) ?_
            refine AllReady.cons rfl (fun K hK => ?_) (AllReady.cons rfl (fun K hK => ?_) AllReady.nil)
            · go_simp
              refine hK _ _ ?_
              clear hK K
              try simp only [Act.put, List.setIfInBounds_toArray, List.set_cons_zero, List.set_cons_succ]
              refine wpAny_ready (rs := [9]) (by kernel_rfl) (by simp) ?_
              refine AllReady.cons rfl (fun K hK => ?_) AllReady.nil
              go_simp
              refine hK _ _ ?_
              clear hK K
              try simp only [Act.put, List.setIfInBounds_toArray, List.set_cons_zero, List.set_cons_succ]
              refine wpAny_ready (rs := [10]) (by kernel_rfl) (by simp) ?_
              refine AllReady.cons rfl (fun K hK => ?_) AllReady.nil
              go_simp
              refine hK _ _ ?_
              clear hK K
              try simp only [Act.put, List.setIfInBounds_toArray, List.set_cons_zero, List.set_cons_succ]
              refine wpAny_ready (rs := [11]) (by kernel_rfl) (by simp) ?_
              refine AllReady.cons rfl (fun K hK => ?_) AllReady.nil
              refine step_append_row (o := ⟨some 35, _, _, _, _, _⟩) (by rfl) _ _ _ rfl 89 i1 (.slice none 0 0) 1 24 Try.underlying57 hi1 hz3 hz4 hz5 rfl (by decide) _ o2 j (vs.map vsl) (((own_row4 Wyw7.out HVL.out).alloc _).alloc _) rfl ⟨yw7.heap.size + 1, 0, none⟩ 1 1 [.slice (some ⟨yw7.heap.size, 0, none⟩) len len] rfl rfl (src_one yw7 _ _ _) (by simp [Value.oneCell']) (by unfold maxLen; omega) (by omega) ?_
              intro v3 w3 o3 hR3 hB3 hN3
              obtain ⟨a3, cap3, rfl, -, -⟩ := hR3.val
              obtain ⟨W5, y1, y2⟩ := own_push2 Wyw7.out HVL.out (List.replicate len (0, 0)) (by simp) hR3 hB3 hN3
              have W5 := Lib.hid W5
              clear hR3 hB3 hN3 zyw7 qyw7 k0yw7 k1yw7 k2yw7 k3yw7 k4yw7
              refine hK _ _ ?_
              clear hK K
              try simp only [Act.put, List.setIfInBounds_toArray, List.set_cons_zero, List.set_cons_succ]
              refine wpAny_take (i := 12) (oi := ⟨some 36, _, _, _, _, _⟩) (v := ?_) rfl (by kernel_rfl) (by kernel_rfl) (by kernel_rfl) (fun _ _ _ h => h) (Or.inl ⟨by rfl, ?_⟩) ?_
              rotate_left
              · intro w
                go_simp
                try with_reducible rfl
              simp only [Act.put, List.setIfInBounds_toArray, List.set_cons_zero, List.set_cons_succ]
              refine wpAny_take (i := 13) (oi := ⟨some 37, _, _, _, _, _⟩) (v := ?_) rfl (by kernel_rfl) (by kernel_rfl) (by kernel_rfl) (fun _ _ _ h => h) (Or.inl ⟨by rfl, ?_⟩) ?_
              rotate_left
              · intro w
                go_simp
                try with_reducible rfl
              simp only [Act.put, List.setIfInBounds_toArray, List.set_cons_zero, List.set_cons_succ]
              refine wpAny_ready (rs := [14]) (by kernel_rfl) (by simp) ?_
              refine AllReady.cons rfl (fun K hK => ?_) AllReady.nil
              go_simp
              refine hK _ _ ?_
              clear hK K
              try simp only [Act.put, List.setIfInBounds_toArray, List.set_cons_zero, List.set_cons_succ]
              refine wpAny_done (by kernel_rfl) ?_ _
              go_wp2_with fail
              go_roundg (m - (j + 1))
              case measure => omega
              case rel => exact ⟨j + 1, _, _, _, _, _, by omega, by go_num, W5.out, by rw [List.map_append, HVS.out, List.range_succ, List.map_append, List.map_cons, List.map_nil, List.map_cons, List.map_nil, HL2.out]⟩
            · go_simp
              refine hK _ _ ?_
              clear hK K
              try simp only [Act.put, List.setIfInBounds_toArray, List.set_cons_zero, List.set_cons_succ]
              refine wpAny_ready (rs := [4, 10]) (by kernel_rfl) (by simp) ?_
              refine AllReady.cons rfl (fun K hK => ?_) (AllReady.cons rfl (fun K hK => ?_) AllReady.nil)
              · go_simp
                refine hK _ _ ?_
                clear hK K
                try simp only [Act.put, List.setIfInBounds_toArray, List.set_cons_zero, List.set_cons_succ]
                refine wpAny_ready (rs := [10]) (by kernel_rfl) (by simp) ?_
                refine AllReady.cons rfl (fun K hK => ?_) AllReady.nil
                go_simp
                refine hK _ _ ?_
                clear hK K
                try simp only [Act.put, List.setIfInBounds_toArray, List.set_cons_zero, List.set_cons_succ]
                refine wpAny_ready (rs := [11]) (by kernel_rfl) (by simp) ?_
                refine AllReady.cons rfl (fun K hK => ?_) AllReady.nil
                refine step_append_row (o := ⟨some 35, _, _, _, _, _⟩) (by rfl) _ _ _ rfl 89 i1 (.slice none 0 0) 1 24 Try.underlying57 hi1 hz3 hz4 hz5 rfl (by decide) _ o2 j (vs.map vsl) (((own_row4 Wyw7.out HVL.out).alloc _).alloc _) rfl ⟨yw7.heap.size + 1, 0, none⟩ 1 1 [.slice (some ⟨yw7.heap.size, 0, none⟩) len len] rfl rfl (src_one yw7 _ _ _) (by simp [Value.oneCell']) (by unfold maxLen; omega) (by omega) ?_
                intro v3 w3 o3 hR3 hB3 hN3
                obtain ⟨a3, cap3, rfl, -, -⟩ := hR3.val
                obtain ⟨W5, y1, y2⟩ := own_push2 Wyw7.out HVL.out (List.replicate len (0, 0)) (by simp) hR3 hB3 hN3
                have W5 := Lib.hid W5
                clear hR3 hB3 hN3 zyw7 qyw7 k0yw7 k1yw7 k2yw7 k3yw7 k4yw7
                refine hK _ _ ?_
                clear hK K
                try simp only [Act.put, List.setIfInBounds_toArray, List.set_cons_zero, List.set_cons_succ]
                refine wpAny_take (i := 12) (oi := ⟨some 36, _, _, _, _, _⟩) (v := ?_) rfl (by kernel_rfl) (by kernel_rfl) (by kernel_rfl) (fun _ _ _ h => h) (Or.inl ⟨by rfl, ?_⟩) ?_
                rotate_left
                · intro w
                  go_simp
                  try with_reducible rfl
                simp only [Act.put, List.setIfInBounds_toArray, List.set_cons_zero, List.set_cons_succ]
                refine wpAny_take (i := 13) (oi := ⟨some 37, _, _, _, _, _⟩) (v := ?_) rfl (by kernel_rfl) (by kernel_rfl) (by kernel_rfl) (fun _ _ _ h => h) (Or.inl ⟨by rfl, ?_⟩) ?_
                rotate_left
                · intro w
                  go_simp
                  try with_reducible rfl
                simp only [Act.put, List.setIfInBounds_toArray, List.set_cons_zero, List.set_cons_succ]
                refine wpAny_ready (rs := [14]) (by kernel_rfl) (by simp) ?_
                refine AllReady.cons rfl (fun K hK => ?_) AllReady.nil
                go_simp
                refine hK _ _ ?_
                clear hK K
                try simp only [Act.put, List.setIfInBounds_toArray, List.set_cons_zero, List.set_cons_succ]
                refine wpAny_done (by kernel_rfl) ?_ _
                go_wp2_with fail
                go_roundg (m - (j + 1))
                case measure => omega
                case rel => exact ⟨j + 1, _, _, _, _, _, by omega, by go_num, W5.out, by rw [List.map_append, HVS.out, List.range_succ, List.map_append, List.map_cons, List.map_nil, List.map_cons, List.map_nil, HL2.out]⟩
              · go_simp
                refine hK _ _ ?_
                clear hK K
                try simp only [Act.put, List.setIfInBounds_toArray, List.set_cons_zero, List.set_cons_succ]
                refine wpAny_ready (rs := [4]) (by kernel_rfl) (by simp) ?_
                refine AllReady.cons rfl (fun K hK => ?_) AllReady.nil
                go_simp
                refine hK _ _ ?_
                clear hK K
                try simp only [Act.put, List.setIfInBounds_toArray, List.set_cons_zero, List.set_cons_succ]
                refine wpAny_ready (rs := [11]) (by kernel_rfl) (by simp) ?_
                refine AllReady.cons rfl (fun K hK => ?_) AllReady.nil
                refine step_append_row (o := ⟨some 35, _, _, _, _, _⟩) (by rfl) _ _ _ rfl 89 i1 (.slice none 0 0) 1 24 Try.underlying57 hi1 hz3 hz4 hz5 rfl (by decide) _ o2 j (vs.map vsl) (((own_row4 Wyw7.out HVL.out).alloc _).alloc _) rfl ⟨yw7.heap.size + 1, 0, none⟩ 1 1 [.slice (some ⟨yw7.heap.size, 0, none⟩) len len] rfl rfl (src_one yw7 _ _ _) (by simp [Value.oneCell']) (by unfold maxLen; omega) (by omega) ?_
                intro v3 w3 o3 hR3 hB3 hN3
                obtain ⟨a3, cap3, rfl, -, -⟩ := hR3.val
                obtain ⟨W5, y1, y2⟩ := own_push2 Wyw7.out HVL.out (List.replicate len (0, 0)) (by simp) hR3 hB3 hN3
                have W5 := Lib.hid W5
                clear hR3 hB3 hN3 zyw7 qyw7 k0yw7 k1yw7 k2yw7 k3yw7 k4yw7
                refine hK _ _ ?_
                clear hK K
                try simp only [Act.put, List.setIfInBounds_toArray, List.set_cons_zero, List.set_cons_succ]
                refine wpAny_take (i := 12) (oi := ⟨some 36, _, _, _, _, _⟩) (v := ?_) rfl (by kernel_rfl) (by kernel_rfl) (by kernel_rfl) (fun _ _ _ h => h) (Or.inl ⟨by rfl, ?_⟩) ?_
                rotate_left
                · intro w
                  go_simp
                  try with_reducible rfl
                simp only [Act.put, List.setIfInBounds_toArray, List.set_cons_zero, List.set_cons_succ]
                refine wpAny_take (i := 13) (oi := ⟨some 37, _, _, _, _, _⟩) (v := ?_) rfl (by kernel_rfl) (by kernel_rfl) (by kernel_rfl) (fun _ _ _ h => h) (Or.inl ⟨by rfl, ?_⟩) ?_
                rotate_left
                · intro w
                  go_simp
                  try with_reducible rfl
                simp only [Act.put, List.setIfInBounds_toArray, List.set_cons_zero, List.set_cons_succ]
                refine wpAny_ready (rs := [14]) (by kernel_rfl) (by simp) ?_
                refine AllReady.cons rfl (fun K hK => ?_) AllReady.nil
                go_simp
                refine hK _ _ ?_
                clear hK K
                try simp only [Act.put, List.setIfInBounds_toArray, List.set_cons_zero, List.set_cons_succ]
                refine wpAny_done (by kernel_rfl) ?_ _
                go_wp2_with fail
                go_roundg (m - (j + 1))
                case measure => omega
                case rel => exact ⟨j + 1, _, _, _, _, _, by omega, by go_num, W5.out, by rw [List.map_append, HVS.out, List.range_succ, List.map_append, List.map_cons, List.map_nil, List.map_cons, List.map_nil, HL2.out]⟩
    · obtain rfl : j = m := by omega
      have W9 := Lib.hid W4.out
      go_wp2_with fail
      go_ret
      exact ⟨d, rb, r0, Sr, vs, v1, v2, o1, o2, _, rfl, W9.out, HVS.out, HREL.out⟩

end Cells
end Go.Proofs.Ytngbhhcicakolaa
