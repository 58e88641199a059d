/- Cells among other things in memory (layer 7): the functions of package cells, told of an Own. -/
import Derived.Test.YtngbhhcicakolaaCellsGets
import Derived.Test.YtngbhhcicakolaaCellsSetV
import Derived.Test.YtngbhhcicakolaaCellsCount
import Derived.Test.YtngbhhcicakolaaCellsLive
import Derived.Test.YtngbhhcicakolaaCellsNew
set_option linter.unusedVariables false
set_option linter.unusedSimpArgs false
namespace Go.Proofs.Ytngbhhcicakolaa
open Go.RowKit Go.Deep

namespace Cells
open Free (Fr genAt takenAt)

/-- Cells, in memory since w0, ahead of other things; at most t0 words were touched. -/
structure One (L : List Pc) (b fb ab ca base : Nat) (l0 : List Int) (c : Cs) (t0 : Int) (w0 w : World) : Prop where
  ex : ∃ S, Own w0 w (Pc.cob b fb ab ca base l0 c t0 S :: L)
section
variable {L : List Pc} {b fb ab ca base : Nat} {l0 : List Int} {c : Cs} {t0 : Int} {w0 w : World}

theorem One.but (h : One L b fb ab ca base l0 c t0 w0 w) : But (fun _ => False) w0 w := by
  obtain ⟨S, h⟩ := h.ex
  exact h.but
theorem One.same {w' : World} (h : One L b fb ab ca base l0 c t0 w0 w) (g : But (fun _ => False) w w') : One L b fb ab ca base l0 c t0 w0 w' := by
  obtain ⟨S, h⟩ := h.ex
  exact ⟨S, h.same g⟩
theorem One.inv (h : One L b fb ab ca base l0 c t0 w0 w) : Inv c := by
  obtain ⟨S, h⟩ := h.ex
  exact Cob.inv (h.get 0 rfl)
theorem One.cel (h : One L b fb ab ca base l0 c t0 w0 w) : ∃ l t Sf, Cel b fb ab ca base l0 c l t w Sf ∧ t ≤ t0 ∧ Own w0 w (Pc.cob b fb ab ca base l0 c t0 (foot b ab ca Sf) :: L) := by
  obtain ⟨S, h⟩ := h.ex
  obtain ⟨l, t, Sf, h1, h2, rfl⟩ : Cob b fb ab ca base l0 c t0 w S := h.get 0 rfl
  exact ⟨l, t, Sf, h1, h2, h⟩
theorem One.turn {Sf S' : Nat → Prop} {c' : Cs} {l' : List Int} {t' t1 : Int} {w' : World} (h : Own w0 w (Pc.cob b fb ab ca base l0 c t0 (foot b ab ca Sf) :: L)) (hc : Cel b fb ab ca base l0 c' l' t' w' S') (ht : t' ≤ t1) (g : But (foot b ab ca Sf) w w') (n : ∀ j, S' j → Sf j ∨ w.heap.size ≤ j) : One L b fb ab ca base l0 c' t1 w0 w' :=
  ⟨foot b ab ca S', h.put 0 rfl (q := Pc.cob b fb ab ca base l0 c' t1 (foot b ab ca S')) ⟨l', t', S', hc, ht, rfl⟩ g (fun k hk => by
    rcases hk with q | q | q | q
    · exact .inl (.inl q)
    · exact .inl (.inr (.inl q))
    · exact .inl (.inr (.inr (.inl q)))
    · rcases n k q with z | z
      · exact .inl (.inr (.inr (.inr z)))
      · exact .inr z)⟩
theorem arena_foot {Sf : Nat → Prop} {w' : World} (g : But (fun k => k = ab ∨ k = ca) w w') : But (foot b ab ca Sf) w w' := g.mono (fun j hj => by rcases hj with rfl | rfl; exact .inl (.inr (.inl rfl)); exact .inl (.inr (.inr (.inl rfl))))

theorem o_alloc {c' : Cs} {k x e : Int} (h : One L b fb ab ca base l0 c t0 w0 w) (hb : base ≤ 1000000000) (ht : t0 ≤ 900000000000) (e1 : alloc c k = (c', x, e)) :
    Calls Try.prog 23 #[.pointer (some ⟨b, 0, none⟩), .int .i64 k] w fun r w' => r = .returned (.tuple #[.int .i64 x, .int .i64 e]) ∧ One L b fb ab ca base l0 c' (t0 + 1) w0 w' := by
  obtain ⟨l, t, Sf, h1, h2, h3⟩ := h.cel
  have hh := alloc_any b fb ab ca base l0 l c t k w Sf h1 hb (by omega)
  rw [e1] at hh
  refine hh.mono ?_
  rintro r w' ⟨rfl, ⟨l', t', S', a1, a2, hc', n'⟩, g⟩
  exact ⟨rfl, One.turn h3 hc' (by omega) g n'⟩
theorem o_free {c' : Cs} {x e : Int} {p : Bool} (h : One L b fb ab ca base l0 c t0 w0 w) (hb : base ≤ 1000000000) (ht : t0 ≤ 900000000000) (hx : -9223372036854775808 ≤ x ∧ x ≤ 9223372036854775807) (e1 : free c x = (c', p, e)) :
    Calls Try.prog 24 #[.pointer (some ⟨b, 0, none⟩), .int .i64 x] w fun r w' => r = .returned (.tuple #[.bool p, .int .i64 e]) ∧ One L b fb ab ca base l0 c' (t0 + 6) w0 w' := by
  obtain ⟨l, t, Sf, h1, h2, h3⟩ := h.cel
  have hh := free_any b fb ab ca base l0 l c t x w Sf h1 hx hb (by omega)
  rw [e1] at hh
  refine hh.mono ?_
  rintro r w' ⟨rfl, ⟨l', t', S', a1, a2, hc', n'⟩, g⟩
  exact ⟨rfl, One.turn h3 hc' (by omega) g n'⟩
theorem o_setCount {c' : Cs} {x m e : Int} (h : One L b fb ab ca base l0 c t0 w0 w) (hb : base ≤ 1000000000) (ht : t0 ≤ 900000000000) (hx : -9223372036854775808 ≤ x ∧ x ≤ 9223372036854775807) (e1 : setCount c x m = (c', e)) :
    Calls Try.prog 27 #[.pointer (some ⟨b, 0, none⟩), .int .i64 x, .int .i64 m] w fun r w' => r = .returned (.int .i64 e) ∧ One L b fb ab ca base l0 c' (t0 + 2) w0 w' := by
  obtain ⟨l, t, Sf, h1, h2, h3⟩ := h.cel
  have hh := setCount_any b fb ab ca base l0 l c t x m w Sf h1 hx hb (by omega)
  rw [e1] at hh
  refine hh.mono ?_
  rintro r w' ⟨rfl, ⟨l', t', a1, a2, hc'⟩, g⟩
  exact ⟨rfl, One.turn h3 hc' (by omega) (arena_foot g) (fun j hj => .inl hj)⟩
theorem o_set {c' : Cs} {x z kk nn e : Int} (h : One L b fb ab ca base l0 c t0 w0 w) (hb : base ≤ 1000000000) (ht : t0 ≤ 900000000000) (hx : -9223372036854775808 ≤ x ∧ x ≤ 9223372036854775807) (hn : 0 ≤ nn ∧ nn ≤ 18446744073709551615) (e1 : set c x z (kk, nn) = (c', e)) :
    Calls Try.prog 26 #[.pointer (some ⟨b, 0, none⟩), .int .i64 x, .int .i64 z, .agg #[.int .i64 kk, .int .u64 nn]] w fun r w' => r = .returned (.int .i64 e) ∧ One L b fb ab ca base l0 c' (t0 + 1) w0 w' := by
  obtain ⟨l, t, Sf, h1, h2, h3⟩ := h.cel
  have hh := set_any b fb ab ca base l0 l c t x z kk nn w Sf h1 hx hn hb (by omega)
  rw [e1] at hh
  refine hh.mono ?_
  rintro r w' ⟨rfl, ⟨l', t', a1, a2, hc'⟩, g⟩
  exact ⟨rfl, One.turn h3 hc' (by omega) (arena_foot g) (fun j hj => .inl hj)⟩
theorem o_header {x g m e : Int} {u : Bool} (h : One L b fb ab ca base l0 c t0 w0 w) (hb : base ≤ 1000000000) (ht : t0 ≤ 900000000000) (hx : -9223372036854775808 ≤ x ∧ x ≤ 9223372036854775807) (e1 : header c x = ((g, m, u), e)) :
    Calls Try.prog 12 #[.pointer (some ⟨b, 0, none⟩), .int .i64 x] w fun r w' => r = .returned (.tuple #[.agg #[.int .i64 g, .int .i64 m, .bool u], .int .i64 e]) ∧ One L b fb ab ca base l0 c (t0 + 1) w0 w' := by
  obtain ⟨l, t, Sf, h1, h2, h3⟩ := h.cel
  have hh := header_any b fb ab ca base l0 l c t x w Sf h1 hx hb (by omega)
  rw [e1] at hh
  refine hh.mono ?_
  rintro r w' ⟨rfl, ⟨t', a1, a2, hc'⟩, g⟩
  exact ⟨rfl, One.turn h3 hc' (by omega) (arena_foot g) (fun j hj => .inl hj)⟩
theorem o_get {x z kk nn e : Int} (h : One L b fb ab ca base l0 c t0 w0 w) (hb : base ≤ 1000000000) (ht : t0 ≤ 900000000000) (hx : -9223372036854775808 ≤ x ∧ x ≤ 9223372036854775807) (e1 : get c x z = ((kk, nn), e)) :
    Calls Try.prog 25 #[.pointer (some ⟨b, 0, none⟩), .int .i64 x, .int .i64 z] w fun r w' => r = .returned (.tuple #[.agg #[.int .i64 kk, .int .u64 nn], .int .i64 e]) ∧ One L b fb ab ca base l0 c (t0 + 1) w0 w' := by
  obtain ⟨l, t, Sf, h1, h2, h3⟩ := h.cel
  have hh := get_any b fb ab ca base l0 l c t x z w Sf h1 hx hb (by omega)
  rw [e1] at hh
  refine hh.mono ?_
  rintro r w' ⟨rfl, ⟨t', a1, a2, hc'⟩, g⟩
  exact ⟨rfl, One.turn h3 hc' (by omega) (arena_foot g) (fun j hj => .inl hj)⟩
theorem o_slots {x q : Int} (h : One L b fb ab ca base l0 c t0 w0 w) (hx : -9223372036854775808 ≤ x ∧ x ≤ 9223372036854775807) (e1 : slots c.f.s x = q) :
    Calls Try.prog 18 #[.pointer (some ⟨b, 0, none⟩), .int .i64 x] w fun r w' => r = .returned (.int .i64 q) ∧ One L b fb ab ca base l0 c t0 w0 w' ∧ But (fun _ => False) w w' := by
  obtain ⟨l, t, Sf, h1, h2, h3⟩ := h.cel
  refine (slots_any b fb ab base c.f.s x w h1.blk hx).mono ?_
  rintro r w' ⟨rfl, g⟩
  exact ⟨by rw [e1], h.same g, g⟩
theorem o_room {x p q : Int} (h : One L b fb ab ca base l0 c t0 w0 w) (e1 : Free.free c.f x = p) (e2 : Free.retired c.f x = q) :
    Calls Try.prog 17 #[.pointer (some ⟨b, 0, none⟩), .int .i64 x] w fun r w' => r = .returned (.tuple #[.int .i64 p, .int .i64 q]) ∧ One L b fb ab ca base l0 c t0 w0 w' ∧ But (fun _ => False) w w' := by
  obtain ⟨l, t, Sf, h1, h2, h3⟩ := h.cel
  refine (room_any b fb ab ca base l0 l c t x w Sf h1).mono ?_
  rintro r w' ⟨rfl, g⟩
  exact ⟨by rw [e1, e2], h.same g, g⟩
theorem o_live {m : List Int} (h : One L b fb ab ca base l0 c t0 w0 w) (e1 : live c = m) :
    Calls Try.prog 15 #[.pointer (some ⟨b, 0, none⟩)] w fun r w' => ∃ a cap o, r = .returned (.slice a m.length cap) ∧ Row w' 3 1 (.slice a m.length cap) o m.length (ints m) ∧ (∀ k, o = some k → w.heap.size ≤ k) ∧ One L b fb ab ca base l0 c t0 w0 w' ∧ But (fun _ => False) w w' := by
  obtain ⟨l, t, Sf, h1, h2, h3⟩ := h.cel
  refine (live_any b fb ab ca base l0 l c t w Sf h1).mono ?_
  rw [e1]
  rintro r w' ⟨v, o, rfl, hR, hN, g⟩
  obtain ⟨a, cap, rfl, -, -⟩ := hR.val
  exact ⟨a, cap, o, rfl, hR, hN, h.same g, g⟩
/-- A word of the arena is read by the law itself. -/
theorem o_read {i x e : Int} {l : List Int} {t : Int} {Sf : Nat → Prop} (h1 : Cel b fb ab ca base l0 c l t w Sf) (h2 : t ≤ t0) (h3 : Own w0 w (Pc.cob b fb ab ca base l0 c t0 (foot b ab ca Sf) :: L)) (ht : t0 ≤ 900000000000) (e1 : Arena.rd l i = (x, e)) :
    Calls Try.prog 30 #[.pointer (some ⟨ab, 0, none⟩), .int .i64 i] w fun r w' => r = .returned (.tuple #[.int .u64 x, .int .i64 e]) ∧ One L b fb ab ca base l0 c (t0 + 1) w0 w' := by
  refine (Arena.read_any ab ca l t i w h1.ar (by omega)).mono ?_
  rw [e1]
  rintro r w' ⟨rfl, ha, g⟩
  have gB : But (fun k => k = ab ∨ k = ca) w w' := g.mono (fun k q => .inl (.inl q))
  have hr := h1.raw.arena gB ha
  refine ⟨rfl, One.turn h3 (h1.back hr) (by unfold Arena.by1; split <;> omega) (arena_foot gB) (fun j hj => .inl hj)⟩
end

end Cells
end Go.Proofs.Ytngbhhcicakolaa
