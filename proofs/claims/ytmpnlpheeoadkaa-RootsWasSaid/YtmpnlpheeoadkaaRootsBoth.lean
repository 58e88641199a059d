/- A set, and the document's list, side by side (layer 8). -/
import Derived.Test.YtmpnlpheeoadkaaRootsAll
import Derived.Test.YtmpnlpheeoadkaaRootsRef
import Derived.Test.YtmpnlpheeoadkaaOwn
set_option linter.unusedVariables false
set_option linter.unusedSimpArgs false
namespace Go.Proofs.Ytmpnlpheeoadkaa
open Go.RowKit

namespace Roots

def Pc.set (b : Nat) (ks : List Int) (S : Nat → Prop) : Pc := ⟨fun w => Set_ b ks w S, S, fun h g a => h.but g a, fun h k hk => h.lt k hk⟩

/-- A set, in memory since w0, ahead of other things. -/
structure One (L : List Pc) (b : Nat) (ks : List Int) (w0 w : World) : Prop where
  ex : ∃ S, Own w0 w (Pc.set b ks S :: L)
theorem One.but {L : List Pc} {b : Nat} {ks : List Int} {w0 w : World} (h : One L b ks w0 w) : But (fun _ => False) w0 w := by
  obtain ⟨S, h⟩ := h.ex
  exact h.but
theorem One.same {L : List Pc} {b : Nat} {ks : List Int} {w0 w w' : World} (h : One L b ks w0 w) (g : But (fun _ => False) w w') : One L b ks w0 w' := by
  obtain ⟨S, h⟩ := h.ex
  exact ⟨S, h.same g⟩
theorem o_add {L : List Pc} {b : Nat} {ks ks' : List Int} {c : Int} {p : Bool} {q : Int} {w0 w : World} (h : One L b ks w0 w) (hk : ks.length ≤ 1000000) (e1 : addT ks c = (p, q)) (e2 : addTo ks c = ks') :
    Calls Try.prog 39 #[.pointer (some ⟨b, 0, none⟩), .int .i64 c] w fun e w' => e = .returned (.tuple #[.bool p, .int .i64 q]) ∧ One L b ks' w0 w' := by
  obtain ⟨S, h⟩ := h.ex
  refine (add_any b ks c w S (h.get 0 rfl) hk).mono ?_
  rintro e w' ⟨rfl, h1, g⟩
  rw [e1]
  rw [e2] at h1
  exact ⟨rfl, S, h.put 0 rfl (q := Pc.set b ks' S) h1 g (fun k hk => .inl hk)⟩
theorem o_drop {L : List Pc} {b : Nat} {ks ks' : List Int} {c q : Int} {w0 w : World} (h : One L b ks w0 w) (e1 : dropT ks c = q) (e2 : dropTo ks c = ks') :
    Calls Try.prog 37 #[.pointer (some ⟨b, 0, none⟩), .int .i64 c] w fun e w' => e = .returned (.int .i64 q) ∧ One L b ks' w0 w' := by
  obtain ⟨S, h⟩ := h.ex
  refine (drop_any b ks c w S (h.get 0 rfl)).mono ?_
  rintro e w' ⟨rfl, h1, g⟩
  rw [e1]
  rw [e2] at h1
  exact ⟨rfl, S, h.put 0 rfl (q := Pc.set b ks' S) h1 g (fun k hk => .inl hk)⟩
theorem o_has {L : List Pc} {b : Nat} {ks : List Int} {c : Int} {p : Bool} {w0 w : World} (h : One L b ks w0 w) (e1 : has ks c = p) :
    Calls Try.prog 43 #[.pointer (some ⟨b, 0, none⟩), .int .i64 c] w fun e w' => e = .returned (.bool p) ∧ w = w' := by
  obtain ⟨S, h⟩ := h.ex
  rw [← e1]
  exact has_any b ks c w S (h.get 0 rfl)
theorem o_len {L : List Pc} {b : Nat} {ks : List Int} {n : Nat} {w0 w : World} (h : One L b ks w0 w) (e1 : ks.length = n) :
    Calls Try.prog 42 #[.pointer (some ⟨b, 0, none⟩)] w fun e w' => e = .returned (.int .i64 n) ∧ w = w' := by
  obtain ⟨S, h⟩ := h.ex
  rw [← e1]
  exact len_any b ks w S (h.get 0 rfl)
theorem o_all {L : List Pc} {b : Nat} {ks m : List Int} {w0 w : World} (h : One L b ks w0 w) (hr : Rel ks m) :
    Calls Try.prog 41 #[.pointer (some ⟨b, 0, none⟩)] w fun e w' => ∃ a cap o, e = .returned (.slice a m.length cap) ∧ Row w' 3 1 (.slice a m.length cap) o m.length (ints m) ∧ (∀ k, o = some k → w.heap.size ≤ k) ∧ One L b ks w0 w' ∧ But (fun _ => False) w w' := by
  obtain ⟨S, h⟩ := h.ex
  refine (all_any b ks m w S (h.get 0 rfl) hr).mono ?_
  rintro e w' ⟨v, o, rfl, h1, h2, g⟩
  obtain ⟨a, cap, rfl, -, -⟩ := h1.val
  exact ⟨a, cap, o, rfl, h1, h2, ⟨S, h.same g⟩, g⟩

/-- A set and a list. -/
structure Two (b : Nat) (ks m : List Int) (a : Option Addr) (cap : Nat) (w0 w : World) : Prop where
  ex : ∃ S o, Own w0 w [Pc.set b ks S, Pc.row 3 1 (.slice a m.length cap) o m.length (ints m)]
theorem Two.but {b : Nat} {ks m : List Int} {a : Option Addr} {cap : Nat} {w0 w : World} (h : Two b ks m a cap w0 w) : But (fun _ => False) w0 w := by
  obtain ⟨S, o, h⟩ := h.ex
  exact h.but
theorem Two.same {b : Nat} {ks m : List Int} {a : Option Addr} {cap : Nat} {w0 w w' : World} (h : Two b ks m a cap w0 w) (g : But (fun _ => False) w w') : Two b ks m a cap w0 w' := by
  obtain ⟨S, o, h⟩ := h.ex
  exact ⟨S, o, h.same g⟩
theorem Two.row {b : Nat} {ks m : List Int} {a : Option Addr} {cap : Nat} {w0 w : World} (h : Two b ks m a cap w0 w) : ∃ o, Row w 3 1 (.slice a m.length cap) o m.length (ints m) := by
  obtain ⟨S, o, h⟩ := h.ex
  exact ⟨o, h.get 1 rfl⟩
theorem t_add {b : Nat} {ks m : List Int} {a : Option Addr} {cap : Nat} {c : Int} {w0 w : World} (h : Two b ks m a cap w0 w) (hk : ks.length ≤ 1000000) :
    Calls Try.prog 39 #[.pointer (some ⟨b, 0, none⟩), .int .i64 c] w fun e w' => e = .returned (.tuple #[.bool (addT ks c).1, .int .i64 (addT ks c).2]) ∧ Two b (addTo ks c) m a cap w0 w' := by
  obtain ⟨S, o, h⟩ := h.ex
  refine (add_any b ks c w S (h.get 0 rfl) hk).mono ?_
  rintro e w' ⟨rfl, h1, g⟩
  exact ⟨rfl, S, o, h.put 0 rfl (q := Pc.set b (addTo ks c) S) h1 g (fun k hk => .inl hk)⟩
theorem t_drop {b : Nat} {ks m : List Int} {a : Option Addr} {cap : Nat} {c : Int} {w0 w : World} (h : Two b ks m a cap w0 w) :
    Calls Try.prog 37 #[.pointer (some ⟨b, 0, none⟩), .int .i64 c] w fun e w' => e = .returned (.int .i64 (dropT ks c)) ∧ Two b (dropTo ks c) m a cap w0 w' := by
  obtain ⟨S, o, h⟩ := h.ex
  refine (drop_any b ks c w S (h.get 0 rfl)).mono ?_
  rintro e w' ⟨rfl, h1, g⟩
  exact ⟨rfl, S, o, h.put 0 rfl (q := Pc.set b (dropTo ks c) S) h1 g (fun k hk => .inl hk)⟩
theorem raddT_is {ks m : List Int} (h : Rel ks m) (c : Int) : raddT m c = addT ks c := by unfold raddT addT; rw [h.has]
theorem rdropT_is {ks m : List Int} (h : Rel ks m) (c : Int) : rdropT m c = dropT ks c := by unfold rdropT dropT; rw [h.has]
theorem rel_add {ks m : List Int} (h : Rel ks m) (c : Int) : Rel (addTo ks c) (raddTo m c) := by
  unfold addTo raddTo
  cases ho : okc c with
  | true => rw [if_pos rfl, if_pos rfl]; exact h.add ho
  | false => rw [if_neg (by simp), if_neg (by simp)]; exact h
theorem rel_drop {ks m : List Int} (h : Rel ks m) (c : Int) : Rel (dropTo ks c) (rdropTo m c) := by
  unfold dropTo rdropTo
  rw [h.has]
  cases ho : okc c with
  | true =>
    rw [if_pos rfl, if_pos rfl]
    cases has ks c with
    | true => rw [if_pos rfl, if_pos rfl]; exact h.drop c
    | false => rw [if_neg (by simp), if_neg (by simp)]; exact h
  | false => rw [if_neg (by simp), if_neg (by simp)]; exact h
theorem t_radd {b : Nat} {ks ks' m : List Int} {a : Option Addr} {cap : Nat} {c : Int} {w0 w : World} (h : Two b ks' m a cap w0 w) (hr : Rel ks m) :
    Calls Try.prog 40 #[.slice a m.length cap, .int .i64 c] w fun e w' => ∃ a' cap', e = .returned (.tuple #[.slice a' (raddTo m c).length cap', .bool (addT ks c).1, .int .i64 (addT ks c).2]) ∧ Two b ks' (raddTo m c) a' cap' w0 w' := by
  obtain ⟨S, o, h⟩ := h.ex
  have hs := hr.small
  have hl := hr.len
  refine (ref_add _ o m c w (h.get 1 rfl) (by omega)).mono ?_
  rintro e w' ⟨v, o', rfl, h1, h2, g⟩
  obtain ⟨a', cap', rfl, -, -⟩ := h1.val
  rw [raddT_is hr]
  exact ⟨a', cap', rfl, S, o', h.put 1 rfl (q := Pc.row 3 1 (.slice a' (raddTo m c).length cap') o' (raddTo m c).length (ints (raddTo m c))) h1 (g.mono (fun k q => q.elim)) h2⟩
theorem t_rdrop {b : Nat} {ks ks' m : List Int} {a : Option Addr} {cap : Nat} {c : Int} {w0 w : World} (h : Two b ks' m a cap w0 w) (hr : Rel ks m) :
    Calls Try.prog 38 #[.slice a m.length cap, .int .i64 c] w fun e w' => ∃ a' cap', e = .returned (.tuple #[.slice a' (rdropTo m c).length cap', .int .i64 (dropT ks c)]) ∧ Two b ks' (rdropTo m c) a' cap' w0 w' := by
  obtain ⟨S, o, h⟩ := h.ex
  have hs := hr.small
  have hl := hr.len
  refine (ref_drop _ o m c w (h.get 1 rfl) (by omega)).mono ?_
  rintro e w' ⟨v, o', rfl, h1, h2, g⟩
  obtain ⟨a', cap', rfl, -, -⟩ := h1.val
  rw [rdropT_is hr]
  exact ⟨a', cap', rfl, S, o', h.put 1 rfl (q := Pc.row 3 1 (.slice a' (rdropTo m c).length cap') o' (rdropTo m c).length (ints (rdropTo m c))) h1 (g.mono (fun k q => q.elim)) h2⟩
theorem t_has {b : Nat} {ks m : List Int} {a : Option Addr} {cap : Nat} {c : Int} {w0 w : World} (h : Two b ks m a cap w0 w) :
    Calls Try.prog 43 #[.pointer (some ⟨b, 0, none⟩), .int .i64 c] w fun e w' => e = .returned (.bool (has ks c)) ∧ w = w' := by
  obtain ⟨S, o, h⟩ := h.ex
  exact has_any b ks c w S (h.get 0 rfl)
theorem t_rhas {b : Nat} {ks m : List Int} {a : Option Addr} {cap : Nat} {c : Int} {w0 w : World} (h : Two b ks m a cap w0 w) (hr : Rel ks m) :
    Calls Try.prog 44 #[.slice a m.length cap, .int .i64 c] w fun e w' => e = .returned (.bool (has ks c)) ∧ w = w' := by
  obtain ⟨S, o, h⟩ := h.ex
  have hs := hr.small
  have hl := hr.len
  rw [← hr.has]
  exact ref_has _ o _ m c w (h.get 1 rfl) (by omega)
theorem t_len {b : Nat} {ks m : List Int} {a : Option Addr} {cap : Nat} {w0 w : World} (h : Two b ks m a cap w0 w) (hr : Rel ks m) :
    Calls Try.prog 42 #[.pointer (some ⟨b, 0, none⟩)] w fun e w' => e = .returned (.int .i64 m.length) ∧ w = w' := by
  obtain ⟨S, o, h⟩ := h.ex
  rw [hr.len]
  exact len_any b ks w S (h.get 0 rfl)
theorem t_all {b : Nat} {ks m : List Int} {a : Option Addr} {cap : Nat} {w0 w : World} (h : Two b ks m a cap w0 w) (hr : Rel ks m) :
    Calls Try.prog 41 #[.pointer (some ⟨b, 0, none⟩)] w fun e w' => ∃ a' cap', e = .returned (.slice a' m.length cap') ∧ (∃ o, Row w' 3 1 (.slice a' m.length cap') o m.length (ints m)) ∧ Two b ks m a cap w0 w' := by
  obtain ⟨S, o, h⟩ := h.ex
  refine (all_any b ks m w S (h.get 0 rfl) hr).mono ?_
  rintro e w' ⟨v, o', rfl, h1, h2, g⟩
  obtain ⟨a', cap', rfl, -, -⟩ := h1.val
  exact ⟨a', cap', rfl, ⟨o', h1⟩, S, o, h.same g⟩
theorem t_ints {b : Nat} {ks m : List Int} {a a' : Option Addr} {cap cap' : Nat} {w0 w : World} (h : Two b ks m a cap w0 w) (hr : Rel ks m) (hR : ∃ o, Row w 3 1 (.slice a' m.length cap') o m.length (ints m)) :
    Calls Try.prog 18 #[.slice a' m.length cap', .slice a m.length cap] w fun e w' => e = .returned (.bool true) ∧ Two b ks m a cap w0 w' := by
  obtain ⟨o', hR⟩ := hR
  obtain ⟨S, o, h⟩ := h.ex
  have hs := hr.small
  have hl := hr.len
  refine (ints_any _ _ o' o _ _ m m w hR (h.get 1 rfl) (by omega) (by omega)).mono ?_
  rintro e w' ⟨rfl, n, rfl⟩
  exact ⟨by rw [decide_eq_true rfl], S, o, h.drewN n⟩

end Roots
end Go.Proofs.Ytmpnlpheeoadkaa
