/- strings.IndexRune in the sixteen figures, walked: a rune that is no ASCII one is not there. -/
import Derived.Test.YtpfpbbbenjljfaaDoorHandleText
import Derived.Test.YtpfpbbbenjljfaaDoorShelf
import Derived.Laws.Runes
import Derived.Laws.RangeAny
import Derived.Lib.OthersKept
import Derived.Lib.IndexLaws
import Derived.BigQuiet
set_option linter.unusedVariables false
set_option linter.unusedSimpArgs false
namespace Go.Proofs.YtpfpbbbenjljfaaDoor
open Go.RowKit

namespace Handle

theorem figures_ascii : ∀ i : Fin 16, (figures[i.val]'(i.isLt)).toNat < 128 := by decide
theorem figures_all : ∀ b ∈ figures.data.toList, b.toNat < 128 := by decide
theorem indexByte_high (l : List UInt8) (c : UInt8) (hl : ∀ b ∈ l, b.toNat < 128) (hc : 128 ≤ c.toNat) : Lib.indexByte l c = -1 := by
  induction l with
  | nil => rfl
  | cons b l ih =>
    have h1 := ih (fun x hx => hl x (List.mem_cons_of_mem _ hx))
    have h2 : (b == c) = false := by
      have := hl b (List.mem_cons_self ..)
      rw [beq_eq_false_iff_ne]
      intro e; subst e; omega
    unfold Lib.indexByte
    rw [h1, h2]; rfl

theorem index_byte_high (s : ByteArray) (c : Int) (w : World) (hs : ∀ b ∈ s.data.toList, b.toNat < 128) (hc : 128 ≤ c ∧ c ≤ 255) :
    Calls Tryd.prog 42 #[.string s, .int .u8 c] w fun e w' => e = .returned (.int .i64 (-1)) ∧ w' = w := by
  have h := Shf.strings_IndexByte s c w
  rw [indexByte_high _ _ hs (by
    obtain ⟨m, rfl⟩ : ∃ m : Nat, c = m := ⟨c.toNat, by omega⟩
    rw [Int.toNat_natCast]; simp; omega)] at h
  exact h

set_option maxHeartbeats 4000000 in
set_option maxRecDepth 100000 in
theorem index_rune_high (c : Int) (w : World) (h : 128 ≤ c ∧ c ≤ 2147483647) : Calls Tryd.prog 38 #[.string figures, .int .i32 c] w fun e w' => e = .returned (.int .i64 (-1)) ∧ But (fun _ => False) w w' := by
  by_cases h1 : c = 65533
  · subst h1
    clear h
    go_enter Tryd.func38, Tryd.ntmps38
    go_wp2_with fail
    go_loopg [] 16 (fun k wr => ∃ pos : Nat, pos + k = 16 ∧ wr.heap[w.heap.size]? = some (.stringIter figures pos) ∧ Below w.heap.size w wr)
    case atStart => exact ⟨0, by omega, World.iter_heap w figures 0, (Below.refl _ w).alloc (Nat.le_refl _) _⟩
    case round =>
      obtain ⟨pos, hp, hit, hw⟩ := hrel
      have HIT := Lib.hid hit
      have HW := Lib.hid hw
      by_cases hlt : pos < figures.size
      · have hfa := figures_ascii ⟨pos, hlt⟩
        have hnx : ∀ ty, (Instr.next (.pointer (some ⟨w.heap.size, 0, none⟩)) true ty).run Tryd.prog wr = _ := fun ty => Lib.run_next_ascii_at wr w.heap.size figures pos ty hit hlt hfa
        have hne : (((figures[pos]'hlt).toNat : Int) == 65533) = false := by
          rw [beq_eq_false_iff_ne]
          intro e
          have : (figures[pos]'hlt).toNat < 128 := hfa
          omega
        clear hit hw hfa
        go_wp2_with fail
        go_roundg (16 - (pos + 1))
        case measure => have : figures.size = 16 := rfl; omega
        case rel => exact ⟨pos + 1, by have : figures.size = 16 := rfl; omega, Lib.iterAt_heap wr w.heap.size figures pos (pos + 1) HIT.out, Lib.below_iterAt HW.out (k := w.heap.size) (Nat.le_refl _) figures (pos + 1)⟩
      · have hnx : ∀ ty, (Instr.next (.pointer (some ⟨w.heap.size, 0, none⟩)) true ty).run Tryd.prog wr = _ := fun ty => Lib.run_next_end_at wr w.heap.size figures pos ty hit hlt
        clear hit hw
        go_wp2_with fail
        go_ret
        exact ⟨rfl, But.of_below HW.out _⟩
  · have b1 : (c == 65533) = false := by simpa using h1
    by_cases hv : Lib.validRune c = true
    · have hv2 : Utf8.valid c = true := by
        have q : (0 ≤ c ∧ c < 55296) ∨ (57343 < c ∧ c ≤ 1114111) := by simpa [Lib.validRune] using hv
        unfold Utf8.valid; simp; omega
      obtain ⟨hs1, hs2, hs3⟩ := encode_facts c hv2 h.1
      obtain ⟨rs, hrs⟩ : ∃ rs, Utf8.encode c = rs := ⟨_, rfl⟩
      rw [hrs] at hs1 hs2 hs3
      obtain ⟨q, hq⟩ : ∃ q : Nat, rs.size = q + 1 := ⟨rs.size - 1, by omega⟩
      have hq3 : 1 ≤ q ∧ q ≤ 3 := by omega
      have hr1 : q < rs.size := by omega
      have hr2 : q < figures.size := by show q < 16; omega
      have hv128 : 128 ≤ (rs[q]'hr1).toNat := by
        have := hs3 (by omega)
        have e : rs.size - 1 = q := by omega
        simpa [e] using this
      have hv255 := (rs[q]'hr1).toNat_lt
      have hf := figures_ascii ⟨q, by omega⟩
      have hne : (((figures[q]'hr2).toNat : Int) != ((rs[q]'hr1).toNat : Int)) = true := by
        simp only [bne_iff_ne, ne_eq]
        intro e
        have : (figures[q]'hr2).toNat < 128 := hf
        omega
      have HV := Lib.hid hv
      have hw1 : IntKind.i64.wrap ((q : Int) + 1) = (q : Int) + 1 := IntWalk.i64_in _ (by omega)
      have hsl : (q : Int) + 1 ≤ (figures.size : Int) := by have : figures.size = 16 := rfl; omega
      have hsl0 : (0 : Int) ≤ (q : Int) + 1 := by omega
      have HIB := Lib.hid (fun w => index_byte_high (figures.extract (q + 1) figures.size) ((rs[q]'hr1).toNat : Int) w (fun b hb => figures_all b (mem_extract hb)) (by omega))
      have hqi : (rs.size : Int) - 1 = (q : Int) := by omega
      clear hf hv hv2 h1 hs3 hq
      go_enter Tryd.func38, Tryd.ntmps38
      go_wp2_with fail
      refine (Shf.utf8_ValidRune c _).mono ?_
      rintro e wa ⟨rfl, rfl⟩
      rw [HV.out]
      go_wp2_with fail
      go_step3
      go_wp2_with fail
      go_loopg [9] 1 (fun k iv wr => k = 1 ∧ iv = .int .i64 q ∧ wr = wa)
      case atStart => exact ⟨rfl, by first | rfl | go_num, rfl⟩
      case round =>
        obtain ⟨rfl, rfl, rfl⟩ := hrel
        go_wp2_with fail
        go_step3
        go_wp2_with fail
        go_quiet (fail)
        obtain ⟨w2, hw2⟩ : ∃ w2, w2 = wr.drewN nq := ⟨_, rfl⟩
        have G2 := Lib.hid (show But (fun _ => False) wr w2 by rw [hw2]; exact (But.refl _ _).drewN _)
        rw [← hw2]
        clear hw2
        go_wp2_with fail
        go_quiet ((go_at_call 42; exact Calls.quiet_of_same (HIB.out _)))
        go_wp2_with fail
        rw [Exit.noGoto_ret]
        go_wp2_with fail
        rw [Exit.noGoto_ret]
        go_wp2_with fail
        go_ret
        exact ⟨rfl, G2.out.drewN _⟩
    · have HV := Lib.hid (show Lib.validRune c = false by simpa using hv)
      clear hv h1
      go_enter Tryd.func38, Tryd.ntmps38
      go_wp2_with fail
      refine (Shf.utf8_ValidRune c _).mono ?_
      rintro e wa ⟨rfl, rfl⟩
      rw [HV.out]
      go_wp2_with fail
      go_ret
      exact ⟨rfl, But.refl _ _⟩

end Handle
end Go.Proofs.YtpfpbbbenjljfaaDoor
