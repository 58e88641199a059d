/- The laws of layer 6 (free), walked: they answer true. -/
import Derived.Test.YtngbhhcicakolaaFreePlain2
import Derived.Test.YtngbhhcicakolaaReads
set_option linter.unusedVariables false
set_option linter.unusedSimpArgs false
namespace Go.Proofs.Ytngbhhcicakolaa
open Go.RowKit Go.ChangeShapes Go.WideShapes

namespace Free

/-- Both lists in memory that the law has made since w0. -/
structure Both (b d : Nat) (f : Fr) (r : Rf) (w0 w : World) : Prop where
  out : ∃ S T, Fob b f w S ∧ Rob d r w T ∧ Apart S T ∧ (∀ k, S k → w0.heap.size ≤ k) ∧ (∀ k, T k → w0.heap.size ≤ k)
  but : But (fun _ => False) w0 w
theorem Rob.lt {d : Nat} {r : Rf} {w : World} {T : Nat → Prop} (h : Rob d r w T) : ∀ k, T k → k < w.heap.size := by
  obtain ⟨bg, bi, v, o, h, rfl⟩ := h; exact h.lt
theorem Fob.lt {b : Nat} {f : Fr} {w : World} {S : Nat → Prop} (h : Fob b f w S) : ∀ k, S k → k < w.heap.size := by
  obtain ⟨bg, bt, pv, po, h, rfl⟩ := h; exact h.lt
theorem Both.stepF {b d : Nat} {f' : Fr} {r : Rf} {w0 w w' : World} {S T : Nat → Prop} (hR : Rob d r w T) (ha : Apart S T) (hS : ∀ k, S k → w0.heap.size ≤ k) (hT : ∀ k, T k → w0.heap.size ≤ k) (hb : But (fun _ => False) w0 w)
    (hm : Moves (Fob b f') S w w') : Both b d f' r w0 w' := by
  obtain ⟨S', h1, h2, h3⟩ := hm
  have hz := hb.size
  exact ⟨⟨S', T, h1, hR.but h2 ha, ha.step hR.lt h3, fun k hk => by rcases h3 k hk with q | q; exact hS k q; omega, hT⟩, hb.trans' h2 (fun k hk => .inr (hS k hk))⟩
theorem Both.stepR {b d : Nat} {f : Fr} {r' : Rf} {w0 w w' : World} {S T : Nat → Prop} (hF : Fob b f w S) (ha : Apart S T) (hS : ∀ k, S k → w0.heap.size ≤ k) (hT : ∀ k, T k → w0.heap.size ≤ k) (hb : But (fun _ => False) w0 w)
    (hm : Moves (Rob d r') T w w') : Both b d f r' w0 w' := by
  obtain ⟨T', h1, h2, h3⟩ := hm
  have hz := hb.size
  exact ⟨⟨S, T', hF.but h2 ha.symm, h1, (ha.symm.step hF.lt h3).symm, hS, fun k hk => by rcases h3 k hk with q | q; exact hT k q; omega⟩, hb.trans' h2 (fun k hk => .inr (hT k hk))⟩
theorem Both.more {b d : Nat} {f : Fr} {r : Rf} {w0 w w' : World} (h : Both b d f r w0 w) (hb : But (fun _ => False) w w') : Both b d f r w0 w' := by
  obtain ⟨S, T, h1, h2, h3, h4, h5⟩ := h.out
  exact ⟨⟨S, T, h1.but hb (fun _ q _ => q), h2.but hb (fun _ q _ => q), h3, h4, h5⟩, h.but.trans hb⟩

theorem b_take {b d : Nat} {f : Fr} {r : Rf} {w0 w : World} (h : Both b d f r w0 w) (hI : Inv f) (hr : Rel f r) (x : Int) : Calls Try.prog 60 #[.pointer (some ⟨b, 0, none⟩), .int .i64 x] w fun e w' => e = .returned (.tuple #[.int .i64 (take f x).2.1, .int .i64 (take f x).2.2]) ∧ Both b d (take f x).1 r w0 w' := by
  obtain ⟨S, T, h1, h2, h3, h4, h5⟩ := h.out
  exact (take_any b f x w S h1 hI).mono fun e w' ⟨he, hm⟩ => ⟨he, Both.stepF h2 h3 h4 h5 h.but hm⟩

theorem b_give {b d : Nat} {f : Fr} {r : Rf} {w0 w : World} (h : Both b d f r w0 w) (hI : Inv f) (hr : Rel f r) (x : Int) (hx : -9223372036854775808 ≤ x ∧ x ≤ 9223372036854775807) : Calls Try.prog 64 #[.pointer (some ⟨b, 0, none⟩), .int .i64 x] w fun e w' => e = .returned (.tuple #[.bool (give f x).2.1, .int .i64 (give f x).2.2]) ∧ Both b d (give f x).1 r w0 w' := by
  obtain ⟨S, T, h1, h2, h3, h4, h5⟩ := h.out
  exact (give_any b f x w S h1 hI hx).mono fun e w' ⟨he, hm⟩ => ⟨he, Both.stepF h2 h3 h4 h5 h.but hm⟩

theorem b_rtake {b d : Nat} {f f' : Fr} {r : Rf} {w0 w : World} (h : Both b d f' r w0 w) (hI : Inv f) (hr : Rel f r) (x : Int) : Calls Try.prog 75 #[.pointer (some ⟨d, 0, none⟩), .int .i64 x] w fun e w' => e = .returned (.tuple #[.int .i64 (take f x).2.1, .int .i64 (take f x).2.2]) ∧ Both b d f' (takeR r x).1 w0 w' := by
  obtain ⟨S, T, h1, h2, h3, h4, h5⟩ := h.out
  rw [← (rel_take hr hI x).1]
  exact (ref_take d r x w T h2 hr.top).mono fun e w' ⟨he, hm⟩ => ⟨he, Both.stepR h1 h3 h4 h5 h.but hm⟩

theorem Rel.room {f : Fr} {r : Rf} (h : Rel f r) (hI : Inv f) {x : Nat} (hx : x < Free.n f) (ht : takenAt f x = true) : r.p.length < 192 := by
  have h1 : (x : Int) ∉ r.p := fun q => by
    obtain ⟨c, hc, hcl⟩ := hI.cls_lt hx
    have : (x : Int) ∈ f.p c := by
      rw [← h.p c hc, List.mem_filter]
      exact ⟨q, by unfold cls at hcl; simp [hcl]⟩
    have := (hI.p c hc _ this).2.2.2.1
    rw [ht] at this; cases this
  have h2 : ((x : Int) :: r.p).Nodup := List.nodup_cons.2 ⟨h1, h.nd⟩
  have h3 := nodup_len (Free.n f) ((x : Int) :: r.p) h2 (fun y hy => by
    rcases List.mem_cons.1 hy with q | q
    · omega
    · exact h.mem y q)
  have := hI.small
  simp at h3
  omega
theorem ref_give' (b : Nat) (f : Fr) (r : Rf) (x : Int) (w : World) (S : Nat → Prop) (h : Rob b r w S) (hr : Rel f r) (hI : Inv f) : Calls Try.prog 73 #[.pointer (some ⟨b, 0, none⟩), .int .i64 x] w fun e w' =>
    e = .returned (.tuple #[.bool (giveR r x).2.1, .int .i64 (giveR r x).2.2]) ∧ Moves (Rob b (giveR r x).1) S w w' := by
  refine ref_give b r x w S h ?_ ?_
  · refine ⟨hr.len hI, fun h1 h2 => ?_⟩
    rw [rcell_iff, hr.n] at h1
    obtain ⟨x, rfl⟩ : ∃ k : Nat, x = k := ⟨x.toNat, by omega⟩
    rw [Int.toNat_natCast, hr.is x (by omega), isOf_one] at h2
    exact hr.room hI (by omega) h2
  · intro k hk
    rw [hr.n] at hk
    rw [hr.gen]
    have := hI.gen_bd hk
    omega

theorem b_rgive {b d : Nat} {f f' : Fr} {r : Rf} {w0 w : World} (h : Both b d f' r w0 w) (hI : Inv f) (hr : Rel f r) (x : Int) : Calls Try.prog 73 #[.pointer (some ⟨d, 0, none⟩), .int .i64 x] w fun e w' => e = .returned (.tuple #[.bool (give f x).2.1, .int .i64 (give f x).2.2]) ∧ Both b d f' (giveR r x).1 w0 w' := by
  obtain ⟨S, T, h1, h2, h3, h4, h5⟩ := h.out
  rw [← (rel_give hr hI x).1]
  exact (ref_give' d f r x w T h2 hr hI).mono fun e w' ⟨he, hm⟩ => ⟨he, Both.stepR h1 h3 h4 h5 h.but hm⟩

theorem b_gen {b d : Nat} {f : Fr} {r : Rf} {w0 w : World} (h : Both b d f r w0 w) (hI : Inv f) (hr : Rel f r) (x : Int) : Calls Try.prog 62 #[.pointer (some ⟨b, 0, none⟩), .int .i64 x] w fun e w' => e = .returned (.int .i64 (gen f x)) ∧ w = w' := by
  obtain ⟨S, T, h1, h2, h3, h4, h5⟩ := h.out
  exact gen_any b f x w S h1 hI

theorem b_rgen {b d : Nat} {f : Fr} {r : Rf} {w0 w : World} (h : Both b d f r w0 w) (hI : Inv f) (hr : Rel f r) (x : Int) : Calls Try.prog 49 #[.pointer (some ⟨d, 0, none⟩), .int .i64 x] w fun e w' => e = .returned (.int .i64 (gen f x)) ∧ w = w' := by
  obtain ⟨S, T, h1, h2, h3, h4, h5⟩ := h.out
  rw [← genR_is hr x]
  exact ref_gen d r x w T h2

theorem b_taken {b d : Nat} {f : Fr} {r : Rf} {w0 w : World} (h : Both b d f r w0 w) (hI : Inv f) (hr : Rel f r) (x : Int) : Calls Try.prog 51 #[.pointer (some ⟨b, 0, none⟩), .int .i64 x] w fun e w' => e = .returned (.bool (taken f x)) ∧ w = w' := by
  obtain ⟨S, T, h1, h2, h3, h4, h5⟩ := h.out
  exact taken_any b f x w S h1 hI

theorem b_rtaken {b d : Nat} {f : Fr} {r : Rf} {w0 w : World} (h : Both b d f r w0 w) (hI : Inv f) (hr : Rel f r) (x : Int) : Calls Try.prog 50 #[.pointer (some ⟨d, 0, none⟩), .int .i64 x] w fun e w' => e = .returned (.bool (taken f x)) ∧ w = w' := by
  obtain ⟨S, T, h1, h2, h3, h4, h5⟩ := h.out
  rw [← takenR_is hr x]
  exact ref_taken d r x w T h2

theorem b_free {b d : Nat} {f : Fr} {r : Rf} {w0 w : World} (h : Both b d f r w0 w) (hI : Inv f) (hr : Rel f r) (x : Int) : Calls Try.prog 52 #[.pointer (some ⟨b, 0, none⟩), .int .i64 x] w fun e w' => e = .returned (.int .i64 (free f x)) ∧ w = w' := by
  obtain ⟨S, T, h1, h2, h3, h4, h5⟩ := h.out
  exact free_any b f x w S h1

theorem b_rfree {b d : Nat} {f : Fr} {r : Rf} {w0 w : World} (h : Both b d f r w0 w) (hI : Inv f) (hr : Rel f r) (x : Int) : Calls Try.prog 20 #[.pointer (some ⟨d, 0, none⟩), .int .i64 x] w fun e w' => e = .returned (.int .i64 (free f x)) ∧ Both b d f r w0 w' := by
  obtain ⟨S, T, h1, h2, h3, h4, h5⟩ := h.out
  rw [← numR_free hr hI x]
  exact (ref_free d r x w T h2).mono fun e w' ⟨he, hb⟩ => ⟨he, h.more hb⟩

theorem b_retired {b d : Nat} {f : Fr} {r : Rf} {w0 w : World} (h : Both b d f r w0 w) (hI : Inv f) (hr : Rel f r) (x : Int) : Calls Try.prog 53 #[.pointer (some ⟨b, 0, none⟩), .int .i64 x] w fun e w' => e = .returned (.int .i64 (retired f x)) ∧ w = w' := by
  obtain ⟨S, T, h1, h2, h3, h4, h5⟩ := h.out
  exact retired_any b f x w S h1

theorem b_rretired {b d : Nat} {f : Fr} {r : Rf} {w0 w : World} (h : Both b d f r w0 w) (hI : Inv f) (hr : Rel f r) (x : Int) : Calls Try.prog 21 #[.pointer (some ⟨d, 0, none⟩), .int .i64 x] w fun e w' => e = .returned (.int .i64 (retired f x)) ∧ Both b d f r w0 w' := by
  obtain ⟨S, T, h1, h2, h3, h4, h5⟩ := h.out
  rw [← numR_ret hr hI x]
  exact (ref_retired d r x w T h2).mono fun e w' ⟨he, hb⟩ => ⟨he, h.more hb⟩

end Free
end Go.Proofs.Ytngbhhcicakolaa
