/- The plain law of layer 6 (free): what FreeOnce asks of each act. -/
import Derived.Test.YtngbhhcicakolaaFreePlain3
set_option linter.unusedVariables false
set_option linter.unusedSimpArgs false
namespace Go.Proofs.Ytngbhhcicakolaa
open Go.RowKit

namespace Free

theorem gen_in {f : Fr} {y : Nat} (h : y < n f) : gen f y = genAt f y := by unfold gen; rw [if_pos ((cellB_iff f y).2 (by omega))]
theorem taken_in {f : Fr} {y : Nat} (h : y < n f) : taken f y = takenAt f y := by unfold taken; rw [(cellB_iff f y).2 (by omega), Bool.true_and]

theorem give_not {f : Fr} {x : Int} (h : (give f x).2.2 ≠ 0) : taken f x = false := by
  unfold give at h
  unfold taken
  cases hc : cellB f x with
  | false => rfl
  | true =>
    cases ht : takenAt f x with
    | false => rfl
    | true => rw [hc, if_pos rfl, ht, if_pos rfl] at h; exact absurd rfl h
theorem give_yes {f : Fr} (hI : Inv f) {x : Int} (h : (give f x).2.2 = 0) : taken f x = true ∧ taken (give f x).1 x = false ∧ gen (give f x).1 x = gen f x + 1 ∧ (give f x).2.1 = decide (gen f x + 1 = 4294967295) := by
  obtain ⟨y, rfl, hy, ht, hg, ht', -, hn, -, hd, -⟩ := give_ok hI h
  rw [taken_in hy, gen_in hy, taken_in (by rw [hn]; exact hy), gen_in (by rw [hn]; exact hy)]
  exact ⟨ht, ht', hg, hd⟩
theorem take_yes {f : Fr} (hI : Inv f) {c : Int} (h : (take f c).2.2 = 0) : taken (take f c).1 (take f c).2.1 = true ∧ gen (take f c).1 (take f c).2.1 = genAt (take f c).1 (take f c).2.1 ∧ gen (take f c).1 (take f c).2.1 < 4294967295 ∧ cls f (take f c).2.1 = c := by
  obtain ⟨x, e1, hx, hc, -, hg, ht, hge, -, hn, -, -⟩ := take_ok hI h
  rw [e1, taken_in (by rw [hn]; exact hx), gen_in (by rw [hn]; exact hx), hge]
  exact ⟨ht, rfl, hg, hc⟩
/-- No pair that was seen is taken again. -/
theorem Once.never {f : Fr} {cs gs : List Int} {held : Int} (h : Once f cs gs held) (hI : Inv f) {c : Int} (e : (take f c).2.2 = 0) : ∀ k, k < cs.length → ¬ (cs.getD k 0 = (take f c).2.1 ∧ gs.getD k 0 = gen (take f c).1 (take f c).2.1) := by
  obtain ⟨x, e1, hx, -, ht, -, -, hge, -, hn, -, -⟩ := take_ok hI e
  rw [e1, gen_in (by rw [hn]; exact hx), hge]
  exact h.fresh ht

theorem give_s (f : Fr) (x : Int) : (give f x).1.s = f.s := by
  unfold give gave
  split
  · split
    · split <;> rfl
    · rfl
  · rfl
theorem take_s (f : Fr) (x : Int) : (take f x).1.s = f.s := by
  unfold take took
  split
  · split <;> rfl
  · rfl

/-- How far held may go. -/
theorem Once.bd {f : Fr} {cs gs : List Int} {held : Int} (h : Once f cs gs held) (hI : Inv f) : -400 ≤ held ∧ held ≤ 400 := by
  have := h.bal
  have h1 := hI.len (c := 0) (by omega)
  have h2 := hI.small
  have h3 := hI.r 0 (by omega)
  have h4 := (Conf.ok_iff f.s).1 hI.ok
  omega
theorem Once.end_ {f : Fr} {cs gs : List Int} {held : Int} (h : Once f cs gs held) : free f 0 + retired f 0 + held = f.s.c0 := by
  have := h.bal
  unfold free retired
  rw [if_pos (by decide), if_pos (by decide)]
  exact this

end Free
end Go.Proofs.Ytngbhhcicakolaa
