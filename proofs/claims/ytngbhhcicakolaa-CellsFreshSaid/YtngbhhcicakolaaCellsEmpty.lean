/- The question 'empty' of the law CellsFresh (layer 7), walked. -/
import Derived.Test.YtngbhhcicakolaaCellsAlive
import Derived.Test.YtngbhhcicakolaaCellsFreshPlain
set_option linter.unusedVariables false
set_option linter.unusedSimpArgs false
namespace Go.Proofs.Ytngbhhcicakolaa
open Go.RowKit Go.Deep

namespace Cells
open Free (Fr genAt takenAt)
open Arena (nth zeroed)

theorem One.drop {L : List Pc} {q : Pc} {b fb ab ca base : Nat} {l0 : List Int} {c : Cs} {t0 : Int} {w0 w : World} (h : One (q :: L) b fb ab ca base l0 c t0 w0 w) : One L b fb ab ca base l0 c t0 w0 w := by
  obtain ⟨S, h⟩ := h.ex
  exact ⟨S, h.swap.drop⟩
theorem One.up {L : List Pc} {b fb ab ca base : Nat} {l0 : List Int} {c : Cs} {t0 t1 : Int} {w0 w : World} (h : One L b fb ab ca base l0 c t0 w0 w) (ht : t0 ≤ t1) : One L b fb ab ca base l0 c t1 w0 w := by
  obtain ⟨l, t, Sf, h1, h2, h3⟩ := h.cel
  exact One.turn h3 h1 (by omega) (But.refl _ w) (fun j hj => .inl hj)

set_option maxHeartbeats 8000000 in
set_option maxRecDepth 100000 in
theorem empty_any {L : List Pc} {b fb ab ca base : Nat} {l0 : List Int} {c : Cs} {t0 : Int} {w0 w : World} {x : Nat} (h : One L b fb ab ca base l0 c t0 w0 w) (hb : base ≤ 1000000000) (ht : t0 ≤ 800000000000) (he : Empty c x) :
    Calls Try.prog 29 #[.pointer (some ⟨b, 0, none⟩), .int .i64 x] w fun e w' => e = .returned (.bool true) ∧ One L b fb ab ca base l0 c (t0 + 5) w0 w' := by
  have hI := h.inv
  have hx : (x : Int) ≤ 9223372036854775807 := by have := he.lt; have := hI.f.small; unfold n at *; omega
  obtain ⟨q, hq⟩ : ∃ q : Nat, slots c.f.s x = q := ⟨(slots c.f.s x).toNat, by have := slots_bd c.f.s x; omega⟩
  have hq4 : q ≤ 4 := by have := slots_bd c.f.s x; omega
  have HG := Lib.hid (fun (k : Nat) (hk : k < q) => he.get (k := k) (by rw [hq]; omega))
  have hh := he.head
  obtain ⟨g, hg⟩ : ∃ g, genAt c.f x = g := ⟨_, rfl⟩
  rw [hg] at hh
  have HH := Lib.hid hh
  have HQ := Lib.hid hq
  clear hh hg hq hI he
  go_enter Try.func29, Try.ntmps29
  go_wp2_with fail
  refine (o_header h hb (by omega) (by omega) HH.out).mono ?_
  rintro r w1 ⟨rfl, O1⟩
  have P1 := O1.addBlk #[.int .i64 g, .int .i64 0, .bool true] 47
  clear O1 h
  have k1 : (w1.alloc (.cells #[.int .i64 g, .int .i64 0, .bool true] 47)).cell? ⟨w1.heap.size, 1, none⟩ = some (.int .i64 0) := (Blk.new w1 _ _).cell 1
  have k2 : (w1.alloc (.cells #[.int .i64 g, .int .i64 0, .bool true] 47)).cell? ⟨w1.heap.size, 2, none⟩ = some (.bool true) := (Blk.new w1 _ _).cell 2
  go_wp2_with fail
  clear k1 k2
  have D1 := P1.drop
  clear P1
  obtain ⟨wa, hwa⟩ : ∃ wa, wa = w1.alloc (.cells #[.int .i64 g, .int .i64 0, .bool true] 47) := ⟨_, rfl⟩
  rw [← hwa] at D1 ⊢
  clear hwa
  go_loopg [7] q (fun k i1 wr => ∃ j : Nat, j + k = q ∧ i1 = .int .i64 j ∧ One L b fb ab ca base l0 c (t0 + 1 + j) w0 wr)
  case atStart => exact ⟨0, by omega, rfl, D1.up (by omega)⟩
  case round =>
    obtain ⟨j, hj, rfl, hO⟩ := hrel
    clear D1
    go_wp2_with fail
    refine (o_slots hO (by omega) HQ.out).mono ?_
    rintro r w2 ⟨rfl, O2, -⟩
    clear hO
    by_cases hlt : j < q
    · go_wp2_with fail
      refine (o_get O2 hb (by omega) (by omega) (HG.out j hlt)).mono ?_
      rintro r w3 ⟨rfl, O3⟩
      have P3 := O3.addBlk #[.int .i64 0, .int .u64 0] 43
      clear O2 O3
      have v0 : (w3.alloc (.cells #[.int .i64 0, .int .u64 0] 43)).cell? ⟨w3.heap.size, 0, none⟩ = some (.int .i64 0) := (Blk.new w3 _ _).cell 0
      have v1 : (w3.alloc (.cells #[.int .i64 0, .int .u64 0] 43)).cell? ⟨w3.heap.size, 1, none⟩ = some (.int .u64 0) := (Blk.new w3 _ _).cell 1
      go_wp2_with fail
      go_roundg (q - (j + 1))
      case measure => omega
      case rel => exact ⟨j + 1, by omega, by go_num, P3.drop.up (by omega)⟩
    · go_wp2_with fail
      go_ret
      exact ⟨rfl, O2.up (by omega)⟩

end Cells
end Go.Proofs.Ytngbhhcicakolaa
