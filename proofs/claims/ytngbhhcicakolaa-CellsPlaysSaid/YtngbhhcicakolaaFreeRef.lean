/- The document's answer for layer 6 (free), walked. -/
import Derived.Test.YtngbhhcicakolaaFreeNew
import Derived.Test.YtngbhhcicakolaaConfRef
set_option linter.unusedVariables false
set_option linter.unusedSimpArgs false
namespace Go.Proofs.Ytngbhhcicakolaa
open Go.RowKit

namespace Free

/-- The document's list: a share, generations, what each cell is (0 free, 1 taken, 2 retired), all free cells, the last one of a class on top. -/
structure Rf where
  s : Conf.Sh
  g : List Int
  i : List Int
  p : List Int

def rn (r : Rf) : Nat := r.g.length
def rgen (r : Rf) (x : Nat) : Int := r.g.getD x 0
def ris (r : Rf) (x : Nat) : Int := r.i.getD x 0
def rtop (r : Rf) (k : Nat) : Int := r.p.getD k 0

/-- .. in memory. -/
structure Ro (w : World) (b bg bi : Nat) (v : Value) (o : Option Nat) (r : Rf) : Prop where
  blk : Blk w b #[.int .i64 r.s.c0, .int .i64 r.s.c1, .int .i64 r.s.c2, .int .i64 r.s.q, .int .i64 r.s.st, .slice (some ⟨bg, 0, none⟩) (rn r) (rn r), .slice (some ⟨bi, 0, none⟩) (rn r) (rn r), v] 109
  gs : Blk w bg (ints r.g).toArray 3
  is : Blk w bi (ints r.i).toArray 3
  row : Row w 3 1 v o r.p.length (ints r.p)
  ne : b ≠ bg ∧ b ≠ bi ∧ bg ≠ bi
  far : ∀ k, o = some k → k ≠ b ∧ k ≠ bg ∧ k ≠ bi
  il : r.i.length = rn r
  small : rn r ≤ 192 ∧ r.p.length ≤ 192

def rfoot (b bg bi : Nat) (o : Option Nat) : Nat → Prop := fun k => k = b ∨ k = bg ∨ k = bi ∨ o = some k
def Rob (b : Nat) (r : Rf) (w : World) (S : Nat → Prop) : Prop := ∃ bg bi v o, Ro w b bg bi v o r ∧ S = rfoot b bg bi o

theorem Ro.but {w w' : World} {b bg bi : Nat} {v : Value} {o : Option Nat} {r : Rf} (h : Ro w b bg bi v o r) {S : Nat → Prop} (hb : But S w w') (hs : Apart S (rfoot b bg bi o)) : Ro w' b bg bi v o r :=
  ⟨h.blk.but hb (fun q => hs b q (.inl rfl)), h.gs.but hb (fun q => hs bg q (.inr (.inl rfl))), h.is.but hb (fun q => hs bi q (.inr (.inr (.inl rfl)))), h.row.but hb (fun k hk q => hs k q (.inr (.inr (.inr hk)))), h.ne, h.far, h.il, h.small⟩
theorem Rob.but {w w' : World} {b : Nat} {r : Rf} {S U : Nat → Prop} (h : Rob b r w S) (hb : But U w w') (hs : Apart U S) : Rob b r w' S := by
  obtain ⟨bg, bi, v, o, h, rfl⟩ := h
  exact ⟨bg, bi, v, o, h.but hb hs, rfl⟩
theorem Ro.drew {w : World} {b bg bi : Nat} {v : Value} {o : Option Nat} {r : Rf} (h : Ro w b bg bi v o r) : Ro w.drew b bg bi v o r := h.but (But.refl (fun _ => False) w).drew (fun _ q _ => q)
theorem Ro.lt {w : World} {b bg bi : Nat} {v : Value} {o : Option Nat} {r : Rf} (h : Ro w b bg bi v o r) : ∀ k, rfoot b bg bi o k → k < w.heap.size := by
  rintro k (rfl | rfl | rfl | e)
  · exact h.blk.lt
  · exact h.gs.lt
  · exact h.is.lt
  · exact h.row.lt e
theorem Ro.cellG {w : World} {b bg bi : Nat} {v : Value} {o : Option Nat} {r : Rf} (h : Ro w b bg bi v o r) : w.cell? ⟨b, 5, none⟩ = some (.slice (some ⟨bg, 0, none⟩) (rn r) (rn r)) := h.blk.cell 5
theorem Ro.cellI {w : World} {b bg bi : Nat} {v : Value} {o : Option Nat} {r : Rf} (h : Ro w b bg bi v o r) : w.cell? ⟨b, 6, none⟩ = some (.slice (some ⟨bi, 0, none⟩) (rn r) (rn r)) := h.blk.cell 6
theorem Ro.cellP {w : World} {b bg bi : Nat} {v : Value} {o : Option Nat} {r : Rf} (h : Ro w b bg bi v o r) : ∃ a cap, v = .slice a r.p.length cap ∧ r.p.length ≤ cap ∧ cap ≤ maxLen ∧ w.cell? ⟨b, 7, none⟩ = some (.slice a r.p.length cap) := by
  obtain ⟨a, cap, hv, h1, h2⟩ := h.row.val
  exact ⟨a, cap, hv, h1, h2, by rw [h.blk.cell, ← hv]; rfl⟩
theorem Ro.gen {w : World} {b bg bi : Nat} {v : Value} {o : Option Nat} {r : Rf} (h : Ro w b bg bi v o r) {x : Nat} (hx : x < rn r) : w.cell? ⟨bg, x, none⟩ = some (.int .i64 (rgen r x)) := ints_at' h.gs hx
theorem Ro.isc {w : World} {b bg bi : Nat} {v : Value} {o : Option Nat} {r : Rf} (h : Ro w b bg bi v o r) {x : Nat} (hx : x < rn r) : w.cell? ⟨bi, x, none⟩ = some (.int .i64 (ris r x)) := ints_at' h.is (by rw [h.il]; exact hx)
theorem Ro.setG {w : World} {b bg bi : Nat} {v : Value} {o : Option Nat} {r : Rf} (h : Ro w b bg bi v o r) (x : Nat) (y : Int) : Ro (w.setCell ⟨bg, x, none⟩ (.int .i64 y)) b bg bi v o { r with g := r.g.set x y } := by
  have hne := h.ne
  have hn : rn { r with g := r.g.set x y } = rn r := by unfold rn; simp
  refine ⟨?_, ints_set h.gs x y, h.is.far (fun e => hne.2.2 e.symm) _, h.row.far (p := ⟨bg, x, none⟩) (fun e => (h.far bg e).2.1 rfl) _, hne, h.far, by rw [hn]; exact h.il, by rw [hn]; exact h.small⟩
  rw [hn]; exact h.blk.far hne.1 _
theorem Ro.setI {w : World} {b bg bi : Nat} {v : Value} {o : Option Nat} {r : Rf} (h : Ro w b bg bi v o r) (x : Nat) (y : Int) : Ro (w.setCell ⟨bi, x, none⟩ (.int .i64 y)) b bg bi v o { r with i := r.i.set x y } := by
  have hne := h.ne
  refine ⟨h.blk.far hne.2.1 _, h.gs.far hne.2.2 _, ints_set h.is x y, h.row.far (p := ⟨bi, x, none⟩) (fun e => (h.far bi e).2.2 rfl) _, hne, h.far, ?_, h.small⟩
  show (r.i.set x y).length = _
  rw [List.length_set]; exact h.il
/-- The free cells are others, and lie where the head says now. -/
theorem Ro.newP {w w' : World} {b bg bi : Nat} {v : Value} {o : Option Nat} {r : Rf} (h : Ro w b bg bi v o r) (p : List Int) (v' : Value) (o' : Option Nat) (hp : p.length ≤ 192)
    (hR : Row w' 3 1 v' o' p.length (ints p)) (hB : But (fun k => o = some k) w w') (hN : ∀ k, o' = some k → o = some k ∨ w.heap.size ≤ k) :
    Ro (w'.setCell ⟨b, 7, none⟩ v') b bg bi v' o' { r with p := p } := by
  have hne := h.ne
  have hlt := h.lt
  have old : ∀ k, o' = some k → k ≠ b ∧ k ≠ bg ∧ k ≠ bi := fun k hk => by
    rcases hN k hk with q | q
    · exact h.far k q
    · have h1 := hlt b (.inl rfl); have h2 := hlt bg (.inr (.inl rfl)); have h3 := hlt bi (.inr (.inr (.inl rfl))); omega
  exact ⟨(h.blk.but hB (fun q => (h.far _ q).1 rfl)).put 7 _ rfl, (h.gs.but hB (fun q => (h.far _ q).2.1 rfl)).far (fun e => hne.1 e.symm) _, (h.is.but hB (fun q => (h.far _ q).2.2 rfl)).far (fun e => hne.2.1 e.symm) _,
    hR.far (fun q => (old b q).1 rfl) _, hne, old, h.il, h.small.1, hp⟩

def rcell (r : Rf) (x : Int) : Bool := decide (0 ≤ x) && decide (x < rn r)
theorem rcell_iff (r : Rf) (x : Int) : rcell r x = true ↔ 0 ≤ x ∧ x < rn r := by simp [rcell]
theorem rcell_not (r : Rf) (x : Int) : rcell r x = false ↔ x < 0 ∨ (rn r : Int) ≤ x := by rw [← Bool.not_eq_true, rcell_iff]; omega
def genR (r : Rf) (x : Int) : Int := if rcell r x = true then rgen r x.toNat else 0
def takenR (r : Rf) (x : Int) : Bool := rcell r x && decide (ris r x.toNat = 1)
def gaveR (r : Rf) (x : Nat) : Rf × Bool :=
  if rgen r x + 1 = 4294967295 then ({ r with g := r.g.set x (rgen r x + 1), i := r.i.set x 2 }, true)
  else ({ r with g := r.g.set x (rgen r x + 1), i := r.i.set x 0, p := r.p ++ [(x : Int)] }, false)
def giveR (r : Rf) (x : Int) : Rf × Bool × Int :=
  if rcell r x = true then (if ris r x.toNat = 1 then ((gaveR r x.toNat).1, (gaveR r x.toNat).2, 0) else (r, false, 9)) else (r, false, 1)
/-- How many cells of a class are so. -/
def numR (r : Rf) (c k : Int) (j : Nat) : Int := (((List.range j).filter (fun x => decide (ris r x = k) && decide ((Conf.find r.s (x : Int)).1 = c))).length : Nat)
theorem numR_succ (r : Rf) (c k : Int) (j : Nat) : numR r c k (j + 1) = numR r c k j + if ris r j = k ∧ (Conf.find r.s (j : Int)).1 = c then 1 else 0 := by
  unfold numR; rw [List.range_succ, List.filter_append, List.length_append]
  by_cases h1 : ris r j = k <;> by_cases h2 : (Conf.find r.s (j : Int)).1 = c <;> simp [h1, h2]
theorem numR_bd (r : Rf) (c k : Int) (j : Nat) : 0 ≤ numR r c k j ∧ numR r c k j ≤ j := by
  unfold numR; have := List.length_filter_le (fun x : Nat => decide (ris r x = k) && decide ((Conf.find r.s (x : Int)).1 = c)) (List.range j); simp at this; omega

set_option maxHeartbeats 4000000 in
set_option maxRecDepth 100000 in
theorem ref_gen (b : Nat) (r : Rf) (x : Int) (w : World) (S : Nat → Prop) (h : Rob b r w S) : Calls Try.prog 49 #[.pointer (some ⟨b, 0, none⟩), .int .i64 x] w fun e w' => e = .returned (.int .i64 (genR r x)) ∧ w = w' := by
  obtain ⟨bg, bi, v, o, h, rfl⟩ := h
  have c5 := h.cellG
  cases hc : rcell r x with
  | false =>
    rw [show genR r x = 0 by unfold genR; rw [hc]; rfl]
    rw [rcell_not] at hc
    by_cases h0 : x < 0
    · clear hc h
      go_enter Try.func49, Try.ntmps49
      go_wp2_with fail
      go_ret
      exact ⟨rfl, rfl⟩
    · replace hc : (rn r : Int) ≤ x := by omega
      clear h
      go_enter Try.func49, Try.ntmps49
      go_wp2_with fail
      go_ret
      exact ⟨rfl, rfl⟩
  | true =>
    rw [show genR r x = rgen r x.toNat by unfold genR; rw [hc]; rfl]
    rw [rcell_iff] at hc
    obtain ⟨x, rfl⟩ : ∃ k : Nat, x = k := ⟨x.toNat, by omega⟩
    rw [Int.toNat_natCast]
    have cx := h.gen (x := x) (by omega)
    clear h
    go_enter Try.func49, Try.ntmps49
    go_wp2_with fail
    go_ret
    exact ⟨rfl, rfl⟩

set_option maxHeartbeats 4000000 in
set_option maxRecDepth 100000 in
theorem ref_taken (b : Nat) (r : Rf) (x : Int) (w : World) (S : Nat → Prop) (h : Rob b r w S) : Calls Try.prog 50 #[.pointer (some ⟨b, 0, none⟩), .int .i64 x] w fun e w' => e = .returned (.bool (takenR r x)) ∧ w = w' := by
  obtain ⟨bg, bi, v, o, h, rfl⟩ := h
  have c6 := h.cellI
  have hil := h.il
  cases hc : rcell r x with
  | false =>
    rw [show takenR r x = false by unfold takenR; rw [hc]; rfl]
    rw [rcell_not] at hc
    by_cases h0 : x < 0
    · have hd : decide (0 ≤ x) = false := by simp; omega
      clear hc h hil
      go_enter Try.func50, Try.ntmps50
      go_wp2_with fail
      go_ret
      exact ⟨rfl, rfl⟩
    · replace hc : (rn r : Int) ≤ x := by omega
      have hd : decide (x < (rn r : Int)) = false := by simp; omega
      clear h hil
      go_enter Try.func50, Try.ntmps50
      go_wp2_with fail
      go_ret
      exact ⟨rfl, rfl⟩
  | true =>
    have E := Lib.hid (show takenR r x = decide (ris r x.toNat = 1) by unfold takenR; rw [hc]; rfl)
    rw [rcell_iff] at hc
    obtain ⟨x, rfl⟩ : ∃ k : Nat, x = k := ⟨x.toNat, by omega⟩
    rw [Int.toNat_natCast] at E
    have cx := h.isc (x := x) (by omega)
    clear h hil
    by_cases h1 : ris r x = 1
    · have hb : (ris r x == 1) = true := by simpa using h1
      rw [E.out, decide_eq_true h1]
      clear h1 E
      go_enter Try.func50, Try.ntmps50
      go_wp2_with fail
      go_ret
      exact ⟨rfl, rfl⟩
    · have hb : (ris r x == 1) = false := by simpa using h1
      rw [E.out, decide_eq_false h1]
      clear h1 E
      go_enter Try.func50, Try.ntmps50
      go_wp2_with fail
      go_ret
      exact ⟨rfl, rfl⟩

set_option maxHeartbeats 4000000 in
set_option maxRecDepth 100000 in
theorem ref_num (b : Nat) (r : Rf) (c k : Int) (w : World) (S : Nat → Prop) (h : Rob b r w S) : Calls Try.prog 56 #[.pointer (some ⟨b, 0, none⟩), .int .i64 c, .int .i64 k] w fun e w' => e = .returned (.int .i64 (numR r c k (rn r))) ∧ But (fun _ => False) w w' := by
  obtain ⟨bg, bi, v, o, h, rfl⟩ := h
  have hsm := h.small.1
  have H := Lib.hid h
  have c6 := h.cellI
  clear h
  have hcl := fun (x : Nat) w => Conf.ref_class r.s x w
  unfold Conf.sh at hcl
  have HCL := Lib.hid hcl
  clear hcl
  go_enter Try.func56, Try.ntmps56
  go_wp2_with fail
  go_loopg [7, 8] (rn r) (fun z n1 i1 wr => ∃ (j : Nat), j + z = rn r ∧ i1 = .int .i64 j ∧ n1 = .int .i64 (numR r c k j) ∧ But (fun _ => False) w wr)
  case atStart => exact ⟨0, by omega, rfl, rfl, But.refl _ _⟩
  case round =>
    obtain ⟨j, hj, rfl, rfl, hB⟩ := hrel
    have Hr := Lib.hid (H.out.but hB (fun _ q _ => q))
    have HS := Lib.hid (numR_succ r c k j)
    have hbd := numR_bd r c k j
    clear c6
    have c6 := Hr.out.cellI
    by_cases hlt : j < rn r
    · have cx := Hr.out.isc hlt
      have b0 : wr.cell? ⟨b, 0, none⟩ = some (.int .i64 r.s.c0) := Hr.out.blk.cell 0
      have b1 : wr.cell? ⟨b, 1, none⟩ = some (.int .i64 r.s.c1) := Hr.out.blk.cell 1
      have b2 : wr.cell? ⟨b, 2, none⟩ = some (.int .i64 r.s.c2) := Hr.out.blk.cell 2
      have b3 : wr.cell? ⟨b, 3, none⟩ = some (.int .i64 r.s.q) := Hr.out.blk.cell 3
      have b4 : wr.cell? ⟨b, 4, none⟩ = some (.int .i64 r.s.st) := Hr.out.blk.cell 4
      by_cases h1 : ris r j = k
      · have h1b : (ris r j == k) = true := by simpa using h1
        by_cases h2 : (Conf.find r.s (j : Int)).1 = c
        · have h2b : ((Conf.find r.s (j : Int)).1 == c) = true := by simpa using h2
          have E := Lib.hid (show numR r c k (j + 1) = numR r c k j + 1 by rw [HS.out, if_pos ⟨h1, h2⟩])
          clear h1 h2
          go_wp2_with fail
          refine (HCL.out j _).mono ?_
          rintro e w2 ⟨rfl, g2⟩
          go_wp2_with fail
          go_roundg (rn r - (j + 1))
          case measure => omega
          case rel => exact ⟨j + 1, by omega, by go_num, by rw [E.out], hB.trans g2⟩
        · have h2b : ((Conf.find r.s (j : Int)).1 == c) = false := by simpa using h2
          have E := Lib.hid (show numR r c k (j + 1) = numR r c k j by rw [HS.out, if_neg (fun q => h2 q.2)]; omega)
          clear h1 h2
          go_wp2_with fail
          refine (HCL.out j _).mono ?_
          rintro e w2 ⟨rfl, g2⟩
          go_wp2_with fail
          go_roundg (rn r - (j + 1))
          case measure => omega
          case rel => exact ⟨j + 1, by omega, by go_num, by rw [E.out], hB.trans g2⟩
      · have h1b : (ris r j == k) = false := by simpa using h1
        have E := Lib.hid (show numR r c k (j + 1) = numR r c k j by rw [HS.out, if_neg (fun q => h1 q.1)]; omega)
        clear h1
        go_wp2_with fail
        go_roundg (rn r - (j + 1))
        case measure => omega
        case rel => exact ⟨j + 1, by omega, by go_num, by rw [E.out], hB⟩
    · obtain rfl : j = rn r := by omega
      go_wp2_with fail
      go_ret
      exact ⟨rfl, hB⟩

set_option maxHeartbeats 4000000 in
set_option maxRecDepth 100000 in
theorem ref_free (b : Nat) (r : Rf) (c : Int) (w : World) (S : Nat → Prop) (h : Rob b r w S) : Calls Try.prog 20 #[.pointer (some ⟨b, 0, none⟩), .int .i64 c] w fun e w' => e = .returned (.int .i64 (numR r c 0 (rn r))) ∧ But (fun _ => False) w w' := by
  go_enter Try.func20, Try.ntmps20
  go_wp2_with fail
  refine (ref_num b r c 0 _ S h).mono ?_
  rintro e w2 ⟨rfl, g2⟩
  go_wp2_with fail
  go_ret
  exact ⟨rfl, g2⟩

set_option maxHeartbeats 4000000 in
set_option maxRecDepth 100000 in
theorem ref_retired (b : Nat) (r : Rf) (c : Int) (w : World) (S : Nat → Prop) (h : Rob b r w S) : Calls Try.prog 21 #[.pointer (some ⟨b, 0, none⟩), .int .i64 c] w fun e w' => e = .returned (.int .i64 (numR r c 2 (rn r))) ∧ But (fun _ => False) w w' := by
  go_enter Try.func21, Try.ntmps21
  go_wp2_with fail
  refine (ref_num b r c 2 _ S h).mono ?_
  rintro e w2 ⟨rfl, g2⟩
  go_wp2_with fail
  go_ret
  exact ⟨rfl, g2⟩

set_option maxHeartbeats 4000000 in
set_option maxRecDepth 100000 in
theorem ref_give (b : Nat) (r : Rf) (x : Int) (w : World) (S : Nat → Prop) (h : Rob b r w S) (hp : r.p.length ≤ 192 ∧ (rcell r x = true → ris r x.toNat = 1 → r.p.length < 192)) (hgb : ∀ k, k < rn r → 0 ≤ rgen r k ∧ rgen r k ≤ 4294967295) : Calls Try.prog 73 #[.pointer (some ⟨b, 0, none⟩), .int .i64 x] w fun e w' =>
    e = .returned (.tuple #[.bool (giveR r x).2.1, .int .i64 (giveR r x).2.2]) ∧ Moves (Rob b (giveR r x).1) S w w' := by
  obtain ⟨i0, hi, hz0, hz1, hz2⟩ := info_parts infoInt
  obtain ⟨bg, bi, v, o, h, rfl⟩ := h
  have H := Lib.hid h
  have c5 := h.cellG
  have c6 := h.cellI
  have hil := h.il
  have HPP := Lib.hid hp.2
  replace hp := hp.1
  cases hc : rcell r x with
  | false =>
    rw [show giveR r x = (r, false, 1) by unfold giveR; rw [hc]; rfl]
    rw [rcell_not] at hc
    by_cases h0 : x < 0
    · clear hc h hil hgb
      go_enter Try.func73, Try.ntmps73
      go_wp2_with fail
      go_ret2
      exact ⟨rfl, _, ⟨bg, bi, v, o, H.out, rfl⟩, But.refl _ _, fun k hk => .inl hk⟩
    · replace hc : (rn r : Int) ≤ x := by omega
      clear h hil hgb
      go_enter Try.func73, Try.ntmps73
      go_wp2_with fail
      go_ret2
      exact ⟨rfl, _, ⟨bg, bi, v, o, H.out, rfl⟩, But.refl _ _, fun k hk => .inl hk⟩
  | true =>
    have HC := Lib.hid hc
    rw [rcell_iff] at hc
    obtain ⟨x, rfl⟩ : ∃ k : Nat, x = k := ⟨x.toNat, by omega⟩
    have hxn : x < rn r := by omega
    have cx := h.isc hxn
    have cg := h.gen hxn
    have fi := h.is.frozen x
    have fg := h.gs.frozen x
    by_cases h1 : ris r x = 1
    · have EE := Lib.hid (show giveR r (x : Int) = ((gaveR r x).1, (gaveR r x).2, 0) by unfold giveR; rw [HC.out, Int.toNat_natCast, if_pos h1]; rfl)
      rw [EE.out]
      have hp2 := HPP.out HC.out (by rw [Int.toNat_natCast]; exact h1)
      rw [h1] at cx
      have hγb := hgb x hxn
      obtain ⟨γ, hγ⟩ : ∃ γ, rgen r x = γ := ⟨_, rfl⟩
      rw [hγ] at hγb cg
      have HG := Lib.hid hγ
      obtain ⟨hn1, hn2, hn3⟩ := h.ne
      have hn4 : bg ≠ b := fun e => hn1 e.symm
      have hn5 : bi ≠ b := fun e => hn2 e.symm
      have hn6 : bi ≠ bg := fun e => hn3 e.symm
      obtain ⟨a, cap, hv, hcap1, hcap2, cp⟩ := h.cellP
      have HV := Lib.hid hv
      clear h hil hgb h1 hγ hv
      by_cases hg : γ + 1 = 4294967295
      · have hgB : (γ + 1 == 4294967295) = true := by simpa using hg
        rw [show gaveR r x = ({ r with g := r.g.set x (γ + 1), i := r.i.set x 2 }, true) by unfold gaveR; rw [HG.out, if_pos hg]]
        clear hg cp
        go_enter Try.func73, Try.ntmps73
        go_wp2_with fail
        go_ret2
        have h3 := (H.out.setG x (γ + 1)).setI x 2
        obtain ⟨w3, hw3⟩ : ∃ w3, w3 = (w.setCell ⟨bg, x, none⟩ (.int .i64 (γ + 1))).setCell ⟨bi, x, none⟩ (.int .i64 2) := ⟨_, rfl⟩
        have g3 : But (fun k => k = bg ∨ k = bi) w w3 := by rw [hw3]; exact ((But.refl _ _).setCell (by exact .inl (.inl rfl)) _).setCell (by exact .inl (.inr rfl)) _
        rw [← hw3]
        exact ⟨rfl, _, ⟨bg, bi, v, o, by rw [hw3]; exact h3, rfl⟩, g3.mono (fun k hk => .inl (by rcases hk with rfl | rfl; exact .inr (.inl rfl); exact .inr (.inr (.inl rfl)))), fun k hk => .inl hk⟩
      · have hgB : (γ + 1 == 4294967295) = false := by simpa using hg
        rw [show gaveR r x = ({ r with g := r.g.set x (γ + 1), i := r.i.set x 0, p := r.p ++ [(x : Int)] }, false) by unfold gaveR; rw [HG.out, if_neg hg]]
        clear hg
        have h3 := (H.out.setG x (γ + 1)).setI x 0
        have H3 := Lib.hid h3
        have G3 := Lib.hid (show But (fun k => k = bg ∨ k = bi) w ((w.setCell ⟨bg, x, none⟩ (.int .i64 (γ + 1))).setCell ⟨bi, x, none⟩ (.int .i64 0)) from ((But.refl _ _).setCell (by exact .inl (.inl rfl)) _).setCell (by exact .inl (.inr rfl)) _)
        have hsz : ((w.setCell ⟨bg, x, none⟩ (.int .i64 (γ + 1))).setCell ⟨bi, x, none⟩ (.int .i64 0)).heap.size = w.heap.size := by simp [World.setCell]
        have HSZ := Lib.hid hsz
        clear h3 hsz
        go_enter Try.func73, Try.ntmps73
        go_wp2_with ((at_builtin; refine wpList_append_row _ rfl _ _ _ rfl 3 i0 (.int .i64 0) 1 8 Try.underlying51 hi hz0 hz1 hz2 rfl (by decide) (.slice a r.p.length cap) o r.p.length (ints r.p) (by rw [← HV.out]; exact H3.out.row.alloc _) rfl ⟨w.heap.size, 0, none⟩ 1 1 [.int .i64 x] rfl rfl (new_src' _ _ _ HSZ.out) (by simp [Value.oneCell']) (by unfold maxLen; omega) (by omega) ?_; intro v4 w4 o4 hR4 hB4 hN4; obtain ⟨a4, cap4, rfl, h41, h42⟩ := hR4.val; have hB5 := ((But.refl (fun k => o = some k) ((w.setCell ⟨bg, x, none⟩ (.int .i64 (γ + 1))).setCell ⟨bi, x, none⟩ (.int .i64 0))).alloc (.cells #[.int .i64 x] 3)).trans hB4; have fp4 : w4.frozen? ⟨b, 7, none⟩ = false := (H3.out.blk.but hB5 (fun q => (H3.out.far b q).1 rfl)).frozen _; have cp4 : w4.cell? ⟨b, 7, none⟩ = some (.slice a r.p.length cap) := by rw [(H3.out.blk.but hB5 (fun q => (H3.out.far b q).1 rfl)).cell, ← HV.out]; rfl))
        go_ret2
        have hN5 : ∀ k, o4 = some k → o = some k ∨ w.heap.size ≤ k := fun k hk => by
          rcases hN4 k hk with q | q
          · exact .inl q
          · simp [World.setCell] at q; exact .inr (by omega)
        have hR5 : Row w4 3 1 (.slice a4 (r.p.length + 1) cap4) o4 (r.p ++ [(x : Int)]).length (ints (r.p ++ [(x : Int)])) := by simpa [ints] using hR4
        refine ⟨rfl, rfoot b bg bi o4, ⟨bg, bi, _, o4, H3.out.newP (r.p ++ [(x : Int)]) _ o4 (by simp; omega) hR5 hB5 (by rw [HSZ.out]; exact hN5), rfl⟩, ?_, ?_⟩
        · exact (((G3.out.mono (T := rfoot b bg bi o) (fun k hk => .inl (by rcases hk with rfl | rfl; exact .inr (.inl rfl); exact .inr (.inr (.inl rfl))))).trans' hB5 (fun k hk => .inl (.inr (.inr (.inr hk)))))).setCell (by exact .inl (.inl rfl)) _
        · rintro k (rfl | rfl | rfl | e)
          · exact .inl (.inl rfl)
          · exact .inl (.inr (.inl rfl))
          · exact .inl (.inr (.inr (.inl rfl)))
          · rcases hN5 k e with q | q
            · exact .inl (.inr (.inr (.inr q)))
            · exact .inr q
    · have h1b : (ris r x != 1) = true := by simpa using h1
      rw [show giveR r (x : Int) = (r, false, 9) by unfold giveR; rw [HC.out, Int.toNat_natCast, if_neg h1]; rfl]
      clear h hil hgb h1
      go_enter Try.func73, Try.ntmps73
      go_wp2_with fail
      go_ret2
      exact ⟨rfl, _, ⟨bg, bi, v, o, H.out, rfl⟩, But.refl _ _, fun k hk => .inl hk⟩

end Free
end Go.Proofs.Ytngbhhcicakolaa
