/- slices.IndexFunc and ContainsFunc of numbers with a function value that only reads, walked. -/
import Derived.Test.YtldgjmgdbaeglaaGraphLists
set_option linter.unusedVariables false
set_option linter.unusedSimpArgs false
namespace Go.Proofs.Ytldgjmgdbaeglaa
open Go.RowKit

set_option maxHeartbeats 2000000 in
set_option maxRecDepth 100000 in
theorem asks_index (a : Option Addr) (n cap : Nat) (l : List Int) (fid : FuncId) (caps : Array Value) (p : Int → Bool) (w : World) (h : Nums w a n l) (hn : n ≤ 1000000000) (hfid : ∀ (args : Array Value) (w : World), (callFunc fid args).run Try.prog w = .ok (.enter fid args) w)
    (hp : ∀ x, Calls Try.prog fid (#[.int .i64 x] ++ caps) w fun e w' => e = .returned (.bool (p x)) ∧ w = w') :
    Calls Try.prog 89 #[.slice a n cap, .func (.func fid) #[] caps] w fun e w' => ∃ i : Int, e = .returned (.int .i64 i) ∧ decide (0 ≤ i) = l.any p ∧ w = w' := by
  have H := Lib.hid h
  have HP := Lib.hid hp
  clear h hp
  go_enter Try.func89, Try.ntmps89
  go_wp2_with fail
  go_loopg [8] n (fun k iv wr => ∃ j : Nat, j + k = n ∧ iv = .int .i64 j ∧ (∀ t, t < j → p (nthI l t) = false) ∧ wr = w)
  case atStart => exact ⟨0, by omega, rfl, fun t ht => absurd ht (Nat.not_lt_zero t), rfl⟩
  case round =>
    obtain ⟨j, hj, rfl, hno, rfl⟩ := hrel
    have HN := Lib.hid hno
    clear hno
    by_cases hlt : j < n
    · obtain ⟨b, off, rfl, hb, hc⟩ := H.out.at_ j hlt
      obtain ⟨y, hy⟩ : ∃ y, nthI l j = y := ⟨_, rfl⟩
      rw [hy] at hc
      have HY := Lib.hid hy
      clear hy
      go_wp2_with fail
      refine (HP.out y).mono ?_
      rintro e wa ⟨rfl, rfl⟩
      cases hx : p y with
      | true =>
        have E := Lib.hid (show l.any p = true from List.any_eq_true.2 ⟨y, by rw [← HY.out]; exact nthI_mem (by rw [H.out.len]; exact hlt), hx⟩)
        clear hx
        go_wp2_with fail
        go_ret
        exact ⟨_, rfl, by rw [E.out]; exact decide_eq_true (by omega), rfl⟩
      | false =>
        have HX := Lib.hid hx
        clear hx
        go_wp2_with fail
        go_roundg (n - (j + 1))
        case measure => omega
        case rel => exact ⟨j + 1, by omega, by go_num, fun t ht => by
          by_cases e : t = j
          · subst e; rw [HY.out]; exact HX.out
          · exact HN.out t (by omega), rfl⟩
    · have E := Lib.hid (show l.any p = false by
        rw [← Bool.not_eq_true, List.any_eq_true]
        rintro ⟨y, hy, hp⟩
        obtain ⟨t, ht, rfl⟩ := mem_nthI hy
        rw [HN.out t (by have := H.out.len; omega)] at hp
        cases hp)
      go_wp2_with fail
      go_ret
      exact ⟨-1, rfl, by rw [E.out]; rfl, rfl⟩

set_option maxHeartbeats 2000000 in
set_option maxRecDepth 100000 in
theorem asks_any (a : Option Addr) (n cap : Nat) (l : List Int) (fid : FuncId) (caps : Array Value) (p : Int → Bool) (w : World) (h : Nums w a n l) (hn : n ≤ 1000000000) (hfid : ∀ (args : Array Value) (w : World), (callFunc fid args).run Try.prog w = .ok (.enter fid args) w)
    (hp : ∀ x, Calls Try.prog fid (#[.int .i64 x] ++ caps) w fun e w' => e = .returned (.bool (p x)) ∧ w = w') :
    Calls Try.prog 71 #[.slice a n cap, .func (.func fid) #[] caps] w fun e w' => e = .returned (.bool (l.any p)) ∧ w = w' := by
  have H := Lib.hid h
  have HP := Lib.hid hp
  clear h hp
  go_enter Try.func71, Try.ntmps71
  go_wp2_with fail
  refine (asks_index a n cap l fid caps p _ H.out hn hfid HP.out).mono ?_
  rintro e wa ⟨i, rfl, hi, rfl⟩
  have HI := Lib.hid hi
  clear hi
  go_wp2_with fail
  go_ret
  exact ⟨by rw [← HI.out]; rfl, rfl⟩

end Go.Proofs.Ytldgjmgdbaeglaa
