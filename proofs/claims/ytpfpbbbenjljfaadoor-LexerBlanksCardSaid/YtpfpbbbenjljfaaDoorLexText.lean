/- The document's text of a token (layer 18), walked. -/
import Derived.Test.YtpfpbbbenjljfaaDoorLexTextPure
import Derived.Test.YtpfpbbbenjljfaaDoorHandleRefText
import Derived.Lib.SlBytesConst
set_option linter.unusedVariables false
set_option linter.unusedSimpArgs false
namespace Go.Proofs.YtpfpbbbenjljfaaDoor
open Go.RowKit

namespace Lex

set_option maxHeartbeats 4000000 in
set_option maxRecDepth 100000 in
theorem figs_any (m : Nat) : m < 18446744073709551616 → ∀ w : World, Calls Tryd.prog 20 #[.int .u64 m] w fun e w' => e = .returned (.string ⟨(Lib.decDigits m).toArray⟩) ∧ But (fun _ => False) w w' := by
  induction m using Nat.strongRecOn with
  | ind m ih =>
    intro hm w
    obtain ⟨d, hd⟩ : ∃ d : Nat, d = m % 10 := ⟨_, rfl⟩
    have hd9 : d < 10 := by omega
    have hmd : (m : Int) % 10 = (d : Int) := by omega
    have hmt : (m : Int).tmod 10 = (d : Int) := by rw [Int.tmod_eq_emod_of_nonneg (by omega)]; exact hmd
    obtain ⟨b, hb⟩ : ∃ b : UInt8, UInt8.ofNat (48 + d) = b := ⟨_, rfl⟩
    have hbn : b.toNat = 48 + d := by rw [← hb, UInt8.toNat_ofNat']; omega
    have hcv : (convert 32 9 (.slice (some ⟨w.heap.size, 0, none⟩) 1 1)).run Tryd.prog (w.alloc (.cells #[.int .u8 (48 + (d : Int))] 5)) = .ok (.string ⟨[b].toArray⟩) (w.alloc (.cells #[.int .u8 (48 + (d : Int))] 5)) := by
      refine run_convert_bytes_back (P := Tryd.prog) _ 32 9 5 ⟨w.heap.size, 0, none⟩ 1 [b] Tryd.underlying32 Tryd.underlying5 Tryd.underlying9 (fun j hj => ?_)
      have hj0 : j = 0 := by simpa using hj
      subst hj0
      rw [Lib.add_plain, (Blk.new w #[.int .u8 (48 + (d : Int))] 5).cell]
      show some (Value.int .u8 (48 + (d : Int))) = some (Value.int .u8 ((b.toNat : Nat) : Int))
      rw [hbn]; simp
    have HD := Lib.hid hd
    have HB := Lib.hid hb
    clear hd hb hbn
    by_cases hs : m < 10
    · have E := Lib.hid (show Lib.decDigits m = [b] by rw [dec_small hs, ← HB.out]; congr 2; have := HD.out; omega)
      have hI : (m : Int) < 10 := by omega
      clear ih
      go_enter Tryd.func20, Tryd.ntmps20
      go_wp2_with fail
      go_ret
      exact ⟨by rw [E.out]; rfl, (But.refl _ _).alloc _⟩
    · obtain ⟨q, hqe⟩ : ∃ q : Nat, q = m / 10 := ⟨_, rfl⟩
      have E := Lib.hid (show Lib.decDigits m = Lib.decDigits q ++ [b] by rw [dec_big hs, ← HD.out, hqe, HB.out])
      have hI : ¬ (m : Int) < 10 := by omega
      have hq : (m : Int) / 10 = (q : Int) := by omega
      have hqt : (m : Int).tdiv 10 = (q : Int) := by rw [Int.tdiv_eq_ediv_of_nonneg (by omega)]; exact hq
      have hl := digits_len (m := q) (by omega)
      have IH := Lib.hid (ih q (by omega) (by omega))
      obtain ⟨L, hL⟩ : ∃ L, Lib.decDigits q = L := ⟨_, rfl⟩
      rw [hL] at hl IH E
      clear ih hL hs hqe
      go_enter Tryd.func20, Tryd.ntmps20
      go_wp2_with fail
      refine (IH.out _).mono ?_
      rintro e w3 ⟨rfl, g3⟩
      go_wp2_with fail
      go_ret
      refine ⟨?_, ((But.refl _ _).alloc _).trans g3⟩
      rw [E.out]
      exact ret_eq (congrArg Value.string (ByteArray.ext (by simp [ByteArray.data_append])))


set_option maxHeartbeats 4000000 in
set_option maxRecDepth 100000 in
theorem text_any (t : Tk) (ht : okTk t) (w : World) : Calls Tryd.prog 11 #[.agg #[.int .i64 t.kind, .string t.text, .int .u64 t.num, .int .i64 0]] w fun e w' => e = .returned (.string (textOf t)) ∧ But (fun _ => False) w w' := by
  obtain ⟨k, a, x, n⟩ := t
  have G0 := Lib.hid ((But.refl (fun _ => False) w).alloc (.cells #[.int .i64 k, .string a, .int .u64 x, .int .i64 0] 37))
  have H := Lib.hid ht
  have hsz : a.size ≤ 20 := by
    rcases ht with ⟨-, -, h, -⟩ | ⟨-, h, -⟩ | ⟨-, h, -⟩
    · exact h
    · have : a = ⟨#[]⟩ := h
      subst this; decide
    · have : a = ⟨#[]⟩ := h
      subst this; decide
  by_cases h1 : k = 1
  · subst h1
    clear ht
    go_enter Tryd.func11, Tryd.ntmps11
    go_wp2_with fail
    go_ret
    exact ⟨rfl, G0.out⟩
  by_cases h2 : k = 2
  · subst h2
    have hx : 0 ≤ x ∧ x ≤ 18446744073709551615 := by
      rcases ht with ⟨h, -⟩ | ⟨-, -, h⟩ | ⟨h, -⟩
      · have h : (2 : Int) = 0 ∨ (2 : Int) = 1 := h
        omega
      · exact h
      · have h : (2 : Int) = 4 := h
        omega
    obtain ⟨m, rfl⟩ : ∃ m : Nat, x = m := ⟨x.toNat, by omega⟩
    have F := Lib.hid (figs_any m (by omega))
    clear ht hx h1
    go_enter Tryd.func11, Tryd.ntmps11
    go_wp2_with fail
    refine (F.out _).mono ?_
    rintro e w2 ⟨rfl, g2⟩
    go_wp2_with fail
    go_ret
    exact ⟨rfl, G0.out.trans g2⟩
  by_cases h3 : k = 3
  · subst h3
    have hx : 0 ≤ x ∧ x ≤ 18446744073709551615 := by
      rcases ht with ⟨h, -⟩ | ⟨-, -, h⟩ | ⟨h, -⟩
      · have h : (3 : Int) = 0 ∨ (3 : Int) = 1 := h
        omega
      · exact h
      · have h : (3 : Int) = 4 := h
        omega
    have F := Lib.hid (Handle.ref_text x · hx)
    have hts := Handle.text_size x
    have HTS := Lib.hid hts
    have htl : (Handle.text x).size ≤ 16 := by omega
    clear ht hx h1 h2 hts
    go_enter Tryd.func11, Tryd.ntmps11
    go_wp2_with fail
    refine (F.out _).mono ?_
    rintro e w2 ⟨rfl, g2⟩
    go_wp2_with fail
    go_ret
    exact ⟨rfl, G0.out.trans g2⟩
  by_cases h4 : k = 4
  · subst h4
    clear ht h1 h2 h3
    go_enter Tryd.func11, Tryd.ntmps11
    go_wp2_with fail
    go_ret
    exact ⟨rfl, G0.out⟩
  · have E := Lib.hid (show textOf ⟨k, a, x, n⟩ = a by unfold textOf; rw [if_neg h1, if_neg h2, if_neg h3, if_neg h4])
    clear ht
    go_enter Tryd.func11, Tryd.ntmps11
    go_wp2_with fail
    go_ret
    exact ⟨by rw [E.out]; rfl, G0.out⟩

end Lex
end Go.Proofs.YtpfpbbbenjljfaaDoor
