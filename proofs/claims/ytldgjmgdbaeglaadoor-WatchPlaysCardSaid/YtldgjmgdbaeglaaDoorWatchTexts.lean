/- Texts of a book (layer 23), walked. -/
import Derived.Test.YtldgjmgdbaeglaaDoorWatchLen
import Derived.Test.YtldgjmgdbaeglaaDoorAnswerRef
set_option linter.unusedVariables false
set_option linter.unusedSimpArgs false
namespace Go.Proofs.YtldgjmgdbaeglaaDoor
open Go.RowKit

namespace Watch

def strA (a : Ans) : Value := .string ⟨(Answer.textL a.e a.k a.n).toArray⟩
def strs (l : List Ans) : List Value := l.map strA
theorem infoStr : (Tryd.prog.info? 9).map (fun i => (i.zero, i.size, i.bytes)) = some (some (.string ⟨#[]⟩), 1, 16) := by kernel_rfl
theorem strs_len (l : List Ans) : (strs l).length = l.length * 1 := by simp [strs]
def AllOk (l : List Nt) : Prop := ∀ x ∈ l, x.a.ok
theorem logOf_ok {H : List Nt} (h : AllOk H) (t : Int) : ∀ a ∈ logOf H t, a.ok := fun a ha => by
  unfold logOf at ha
  obtain ⟨x, hx, rfl⟩ := List.mem_map.1 ha
  exact h x (List.mem_filter.1 hx).1

set_option maxHeartbeats 8000000 in
set_option maxRecDepth 100000 in
theorem texts_nil (t : Int) (w : World) : Calls Tryd.prog 23 #[.pointer none, .int .i64 t] w fun r w' => r = .returned (.slice none 0 0) ∧ But (fun _ => False) w w' := by
  go_enter Tryd.func23, Tryd.ntmps23
  go_wp2_with fail
  refine (log_nil t w).mono ?_
  rintro r w2 ⟨rfl, g2⟩
  go_wp2_with fail
  refine wp_loop_rounds 1 ?_
  rw [rounds_succ]
  go_wp2_with fail
  go_ret
  exact ⟨rfl, g2⟩

set_option maxHeartbeats 8000000 in
set_option maxRecDepth 100000 in
theorem texts_any (T : Int) (b : Nat) (H : List Nt) (t : Int) (w : World) (S : Nat → Prop) (h : Bk T b H w S) (hH : H.length ≤ 200) (hok : AllOk H) (ht : Tens w) :
    Calls Tryd.prog 23 #[.pointer (some ⟨b, 0, none⟩), .int .i64 t] w fun r w' => ∃ v o, r = .returned v ∧ Row w' 9 1 v o (logOf H t).length (strs (logOf H t)) ∧ (∀ c, o = some c → w.heap.size ≤ c) ∧ But (fun _ => False) w w' := by
  have HT := Lib.hid ht
  have HOK := Lib.hid (logOf_ok hok t)
  have hlen := Nat.le_trans (logOf_le H t) hH
  have HH := Lib.hid h
  obtain ⟨i0, hi, hz0, hz1, hz2⟩ := info_parts infoStr
  clear ht hok h
  go_enter Tryd.func23, Tryd.ntmps23
  go_wp2_with fail
  refine (log_any T b H t w S HH.out hH).mono ?_
  rintro r w2 ⟨v2, o2, rfl, hR2, hO2, g2⟩
  obtain ⟨a2, cap2, hv2, hc1, hc2⟩ := hR2.val
  subst hv2
  obtain ⟨l, hl⟩ : ∃ l, logOf H t = l := ⟨_, rfl⟩
  rw [hl] at hR2 HOK hlen hc1 ⊢
  obtain ⟨n, hn⟩ : ∃ n, n = l.length := ⟨_, rfl⟩
  have HN := Lib.hid hn
  have HL := Lib.hid hl
  have HR2 := Lib.hid hR2
  have HG2 := Lib.hid g2
  rw [← hn] at hlen hc1 ⊢
  clear hl hn hR2 g2 HH hO2
  go_wp2_with fail
  go_loopg [5, 12] n (fun k u i wr => ∃ (j : Nat) (ob : Option Nat), j + k = n ∧ i = .int .i64 j ∧ Row wr 9 1 u ob j (strs (l.take j)) ∧ (∀ c, ob = some c → w.heap.size ≤ c) ∧ But (fun _ => False) w2 wr ∧ (∀ c, ob = some c → w2.heap.size ≤ c))
  case atStart => exact ⟨0, none, by omega, rfl, Row.nil _ _ _, (fun k hk => by cases hk), But.refl _ _, (fun k hk => by cases hk)⟩
  case round =>
    obtain ⟨j, ob, hj, rfl, hU, hO, hB, hO2⟩ := hrel
    obtain ⟨ua, uc, hu, huc, huc2⟩ := hU.val
    subst hu
    have HU := Lib.hid hU
    have HO := Lib.hid hO
    have HO2 := Lib.hid hO2
    have HB := Lib.hid hB
    clear hU hO hB hO2
    by_cases hlt : j < n
    · have HRw := Lib.hid (HR2.out.but HB.out (fun _ _ q => q))
      obtain ⟨c, off, cp, e1, -, p4, -, p0, p1, p2⟩ := rowA_at HRw.out (i := j) (by rw [← HN.out]; exact hlt)
      obtain ⟨rfl, -, -⟩ := Value.slice.inj e1
      clear e1
      have HTK := Lib.hid (show strs (l.take (j + 1)) = strs (l.take j) ++ [strA (nthA l j)] by rw [nthA_take (by rw [← HN.out]; exact hlt)]; simp [strs])
      have hxok := HOK.out _ (nthA_mem (l := l) (i := j) (by rw [← HN.out]; exact hlt))
      generalize nthA l j = x at *
      obtain ⟨xe, xk, xn⟩ := x
      have hx : 0 ≤ xn ∧ xn ≤ 18446744073709551615 := hxok
      clear hxok
      go_wp2_with fail
      refine (Answer.text_any xe xk xn _ hx (HT.out.keep ((HG2.out.trans HB.out).alloc _))).mono ?_
      rintro r w4 ⟨rfl, g4⟩
      have HA := Lib.hid (((But.refl (fun _ => False) wr).alloc (.cells #[.int .i64 xe, .int .i64 xk, .int .u64 xn] 42)).trans g4)
      have HU4 := Lib.hid (HU.out.but HA.out (fun _ _ q => q))
      have HS := Lib.hid (show strA ⟨xe, xk, xn⟩ = .string ⟨(Answer.textL xe xk xn).toArray⟩ from rfl)
      obtain ⟨sx, hsx⟩ : ∃ sx : ByteArray, sx = ⟨(Answer.textL xe xk xn).toArray⟩ := ⟨_, rfl⟩
      rw [← hsx] at HS ⊢
      obtain ⟨bw, hbw⟩ : ∃ b, b = wr.heap.size := ⟨_, rfl⟩
      rw [← hbw]
      clear hsx g4 hbw p0 p1 p2
      go_wp2_with (at_builtin; refine wpList_append_row _ rfl _ _ _ rfl 9 i0 (.string ⟨#[]⟩) 1 16 Tryd.underlying51 hi hz0 hz1 hz2 rfl (by decide) _ ob j (strs (l.take j)) (HU4.out.alloc _) rfl ⟨w4.heap.size, 0, none⟩ 1 1 [.string sx] rfl rfl (new_src _ _ _) (fun u hu => by simp at hu; subst hu; rfl) (by unfold maxLen; omega) (by omega) ?_; intro v5 w5 o5 hR5 hB5 hN5; have HR5 := Lib.hid hR5; have HB5 := Lib.hid hB5; have HN5 := Lib.hid hN5; clear hR5 hB5 hN5)
      have HW := Lib.hid (show ∀ c, o5 = some c → w2.heap.size ≤ c from fun c hc => by
        rcases HN5.out c hc with q | q
        · exact HO2.out c q
        · have h1 := HB.out.size
          have h2 := HA.out.size
          simp at q; omega)
      go_roundg (n - (j + 1))
      case measure => omega
      case rel =>
        exact ⟨j + 1, o5, by omega, by go_num, by rw [HTK.out, HS.out]; exact HR5.out, (fun c hc => Nat.le_trans HG2.out.size (HW.out c hc)), ((HB.out.trans HA.out).alloc _).trans' HB5.out (fun c hc => .inr (HO2.out c hc)), HW.out⟩
    · obtain rfl : j = n := by omega
      have HALL := Lib.hid (show l.take j = l by rw [List.take_of_length_le (by rw [← HN.out]; omega)])
      go_wp2_with fail
      go_ret
      refine ⟨_, ob, rfl, ?_, HO.out, HG2.out.trans HB.out⟩
      have := HU.out
      rw [HALL.out] at this
      rw [HL.out, ← HN.out]
      exact this

end Watch
end Go.Proofs.YtldgjmgdbaeglaaDoor
