/- The functions of package cells that read, walked. -/
import Derived.Test.YtngbhhcicakolaaCellsMem
import Derived.Test.YtngbhhcicakolaaHeadWalks
import Derived.Test.YtngbhhcicakolaaConfMore
import Derived.Deep.RegionHeld3
import Derived.Deep.RegionWith
set_option linter.unusedVariables false
set_option linter.unusedSimpArgs false
namespace Go.Proofs.Ytngbhhcicakolaa
open Go.RowKit Go.Deep

namespace Cells
open Free (Fr genAt takenAt)

theorem wrap_in (n : Int) (h : -9223372036854775808 ≤ n ∧ n ≤ 9223372036854775807) : IntKind.i64.wrap n = n := by
  simp only [IntKind.wrap, IntKind.bits, IntKind.signed]
  simp
  omega
/-- The header's cells. -/
structure Hc (b fb ab base : Nat) (s : Conf.Sh) (w : World) : Prop where
  c0 : w.cell? ⟨b, 0, none⟩ = some (.pointer (some ⟨fb, 0, none⟩))
  c1 : w.cell? ⟨b, 1, none⟩ = some (.pointer (some ⟨ab, 0, none⟩))
  c2 : w.cell? ⟨b, 2, none⟩ = some (.int .i64 base)
  c3 : w.cell? ⟨b, 3, none⟩ = some (.int .i64 s.c0)
  c4 : w.cell? ⟨b, 4, none⟩ = some (.int .i64 s.c1)
  c5 : w.cell? ⟨b, 5, none⟩ = some (.int .i64 s.c2)
  c6 : w.cell? ⟨b, 6, none⟩ = some (.int .i64 s.q)
  c7 : w.cell? ⟨b, 7, none⟩ = some (.int .i64 s.st)
theorem hc_of {b fb ab base : Nat} {s : Conf.Sh} {w : World} (h : Blk w b (hdr fb ab base s) 85) : Hc b fb ab base s w :=
  ⟨h.cell 0, h.cell 1, h.cell 2, h.cell 3, h.cell 4, h.cell 5, h.cell 6, h.cell 7⟩

theorem slots_nil (x : Int) (w : World) : Calls Try.prog 18 #[.pointer none, .int .i64 x] w fun e w' => e = .returned (.int .i64 0) ∧ w = w' := by
  go_enter Try.func18, Try.ntmps18
  go_wp2
  go_ret
  exact ⟨rfl, rfl⟩

set_option maxHeartbeats 2000000 in
set_option maxRecDepth 100000 in
theorem slots_any (b fb ab base : Nat) (s : Conf.Sh) (x : Int) (w : World) (h : Blk w b (hdr fb ab base s) 85) (hx : -9223372036854775808 ≤ x ∧ x ≤ 9223372036854775807) :
    Calls Try.prog 18 #[.pointer (some ⟨b, 0, none⟩), .int .i64 x] w fun e w' => e = .returned (.int .i64 (slots s x)) ∧ But (fun _ => False) w w' := by
  obtain ⟨c0, c1, c2, c3, c4, c5, c6, c7⟩ := hc_of h
  have hcl := Conf.class_any s x w hx
  unfold Conf.sh at hcl
  unfold slots
  clear h
  go_enter Try.func18, Try.ntmps18
  go_wp2_with fail
  refine hcl.mono ?_
  rintro e w2 ⟨rfl, g2⟩
  go_wp2_with fail
  refine (Conf.slots_any _ _).mono ?_
  rintro e w3 ⟨rfl, rfl⟩
  go_wp2_with fail
  go_ret
  exact ⟨rfl, g2⟩

set_option maxHeartbeats 4000000 in
set_option maxRecDepth 100000 in
theorem at_any (b fb ab base : Nat) (s : Conf.Sh) (x : Int) (w : World) (h : Blk w b (hdr fb ab base s) 85) (hx : -9223372036854775808 ≤ x ∧ x ≤ 9223372036854775807) (hb : base ≤ 1000000000) (hp : -1 ≤ place s x ∧ place s x ≤ 1000) :
    Calls Try.prog 47 #[.pointer (some ⟨b, 0, none⟩), .int .i64 x] w fun e w' => e = .returned (.int .i64 (base + place s x)) ∧ But (fun _ => False) w w' := by
  have H := Lib.hid h
  have HA := Lib.hid (fun w => Conf.at_any s x w hx)
  clear h
  obtain ⟨p, hpp⟩ : ∃ p, place s x = p := ⟨_, rfl⟩
  have HPP := Lib.hid (show (Conf.find s x).2 = p from hpp)
  rw [hpp] at hp ⊢
  clear hpp
  have HP := Lib.hid (show ∀ w', But (fun _ => False) w w' → (w'.cell? ⟨b, 2, none⟩ = some (.int .i64 base) ∧ w'.cell? ⟨b, 3, none⟩ = some (.int .i64 s.c0) ∧ w'.cell? ⟨b, 4, none⟩ = some (.int .i64 s.c1) ∧ w'.cell? ⟨b, 5, none⟩ = some (.int .i64 s.c2) ∧ w'.cell? ⟨b, 6, none⟩ = some (.int .i64 s.q) ∧ w'.cell? ⟨b, 7, none⟩ = some (.int .i64 s.st)) from fun w' g => by
    obtain ⟨c0, c1, c2, c3, c4, c5, c6, c7⟩ := hc_of (H.out.but g (fun q => q))
    exact ⟨c2, c3, c4, c5, c6, c7⟩)
  unfold Conf.sh at HA
  go_enter Try.func47, Try.ntmps47
  go_wp2_with fail
  go_region_held3 (fun w' => But (fun _ => False) w w' ∧ w'.cell? ⟨b, 2, none⟩ = some (.int .i64 base) ∧ w'.cell? ⟨b, 3, none⟩ = some (.int .i64 s.c0) ∧ w'.cell? ⟨b, 4, none⟩ = some (.int .i64 s.c1) ∧ w'.cell? ⟨b, 5, none⟩ = some (.int .i64 s.c2) ∧ w'.cell? ⟨b, 6, none⟩ = some (.int .i64 s.q) ∧ w'.cell? ⟨b, 7, none⟩ = some (.int .i64 s.st))
    (first | assumption | (refine keepN HP.out ?_; first | exact (But.refl _ _).drew | exact (And.left ‹But (fun _ => False) w _ ∧ _›).drew | exact keep_step ‹But (fun _ => False) w _ ∧ _› (by assumption)))
    (first | (go_at_call 76; refine (HA.out _).mono ?_; rintro e w9 ⟨rfl, g9⟩; rw [HPP.out]))
  go_wp2_with fail
  go_ret
  refine ⟨ret_eq ?_, And.left ‹But (fun _ => False) w _ ∧ _›⟩
  show Value.int .i64 (IntKind.i64.wrap ((base : Int) + p)) = Value.int .i64 ((base : Int) + p)
  rw [wrap_in _ (by omega)]

/-! ### What only reads, of cells whole -/
theorem Cel.wrongT {b fb ab ca base : Nat} {l0 l : List Int} {c : Cs} {t : Int} {w : World} {Sf : Nat → Prop} (h : Cel b fb ab ca base l0 c l t w Sf) (x : Int) : (slots c.f.s x == 0) = !isCell c x := by
  have := h.inv.cell x
  cases e : isCell c x with
  | false => rw [this.2 e]; rfl
  | true =>
    have : slots c.f.s x ≠ 0 := fun q => by rw [this.1 q] at e; cases e
    simp [this]
def wrongE (c : Cs) (x : Int) : Int := if isCell c x = true then (if takenAt c.f x = true then 0 else 9) else 1
theorem taken_cell {c : Cs} (h : Inv c) {x : Int} (hx : isCell c x = true) : Free.taken c.f x = takenAt c.f x := by
  unfold Free.taken
  have : Free.cellB c.f x = true := by rw [Free.cellB_iff]; exact (isCell_iff c x).1 hx
  rw [this]; rfl

set_option maxHeartbeats 2000000 in
set_option maxRecDepth 100000 in
theorem wrong_nil (x : Int) (w : World) : Calls Try.prog 63 #[.pointer none, .int .i64 x] w fun e w' => e = .returned (.int .i64 1) ∧ w = w' := by
  go_enter Try.func63, Try.ntmps63
  go_wp2_with fail
  refine (slots_nil x _).mono ?_
  rintro e w2 ⟨rfl, rfl⟩
  go_wp2_with fail
  go_ret
  exact ⟨rfl, rfl⟩

set_option maxHeartbeats 2000000 in
set_option maxRecDepth 100000 in
theorem wrong_any (b fb ab ca base : Nat) (l0 l : List Int) (c : Cs) (t : Int) (x : Int) (w : World) (Sf : Nat → Prop) (h : Cel b fb ab ca base l0 c l t w Sf) (hx : -9223372036854775808 ≤ x ∧ x ≤ 9223372036854775807) :
    Calls Try.prog 63 #[.pointer (some ⟨b, 0, none⟩), .int .i64 x] w fun e w' => e = .returned (.int .i64 (wrongE c x)) ∧ But (fun _ => False) w w' := by
  have hwt := h.wrongT x
  have H := Lib.hid h
  have hsl := slots_any b fb ab base c.f.s x w h.blk hx
  have HS := Lib.hid hsl
  clear hsl
  cases hc : isCell c x with
  | false =>
    rw [hc] at hwt
    have e1 : wrongE c x = 1 := by unfold wrongE; rw [hc]; rfl
    rw [e1]
    have hz : (slots c.f.s x == 0) = true := hwt
    clear hc hwt h e1
    go_enter Try.func63, Try.ntmps63
    go_wp2_with fail
    refine HS.out.mono ?_
    rintro e w2 ⟨rfl, g2⟩
    generalize slots c.f.s x = sx at *
    go_wp2_with fail
    go_ret
    exact ⟨rfl, g2⟩
  | true =>
    rw [hc] at hwt
    have htk := taken_cell h.inv hc
    have hz : (slots c.f.s x == 0) = false := hwt
    have HE := Lib.hid (show wrongE c x = if takenAt c.f x = true then 0 else 9 by unfold wrongE; rw [hc]; rfl)
    clear hc hwt h
    go_enter Try.func63, Try.ntmps63
    go_wp2_with fail
    refine HS.out.mono ?_
    rintro e w2 ⟨rfl, g2⟩
    have H2 := Lib.hid (H.out.keep g2)
    obtain ⟨c0, c1, c2, c3, c4, c5, c6, c7⟩ := hc_of H2.out.blk
    generalize slots c.f.s x = sx at *
    go_wp2_with fail
    refine (Free.taken_any fb c.f x _ Sf H2.out.fob H2.out.inv.f).mono ?_
    rintro e w3 ⟨rfl, rfl⟩
    rw [htk]
    cases ht : takenAt c.f x with
    | true =>
      have e2 : wrongE c x = 0 := by rw [HE.out, ht]; rfl
      go_wp2_with fail
      go_ret
      exact ⟨by rw [e2]; rfl, g2⟩
    | false =>
      have e2 : wrongE c x = 9 := by rw [HE.out, ht]; rfl
      go_wp2_with fail
      go_ret
      exact ⟨by rw [e2]; rfl, g2⟩

theorem room_nil (x : Int) (w : World) : Calls Try.prog 17 #[.pointer none, .int .i64 x] w fun e w' => e = .returned (.tuple #[.int .i64 0, .int .i64 0]) ∧ w = w' := by
  go_enter Try.func17, Try.ntmps17
  go_wp2
  go_ret2
  exact ⟨rfl, rfl⟩

set_option maxHeartbeats 2000000 in
set_option maxRecDepth 100000 in
theorem room_any (b fb ab ca base : Nat) (l0 l : List Int) (c : Cs) (t : Int) (x : Int) (w : World) (Sf : Nat → Prop) (h : Cel b fb ab ca base l0 c l t w Sf) :
    Calls Try.prog 17 #[.pointer (some ⟨b, 0, none⟩), .int .i64 x] w fun e w' => e = .returned (.tuple #[.int .i64 (Free.free c.f x), .int .i64 (Free.retired c.f x)]) ∧ But (fun _ => False) w w' := by
  have H := Lib.hid h
  obtain ⟨c0, c1, c2, c3, c4, c5, c6, c7⟩ := hc_of h.blk
  clear h c1 c2 c3 c4 c5 c6 c7
  go_enter Try.func17, Try.ntmps17
  go_wp2_with fail
  go_quiet ((first | (go_at_call 52; exact quiet_same (Free.free_any fb c.f x _ Sf (H.out.fob.but ((But.refl (fun _ => False) w).drewN _) (fun _ q _ => q)))) | (go_at_call 53; exact quiet_same (Free.retired_any fb c.f x _ Sf (H.out.fob.but ((But.refl (fun _ => False) w).drewN _) (fun _ q _ => q))))))
  go_wp2_with fail
  go_ret2
  exact ⟨rfl, (But.refl _ w).drewN _⟩

end Cells
end Go.Proofs.Ytngbhhcicakolaa
