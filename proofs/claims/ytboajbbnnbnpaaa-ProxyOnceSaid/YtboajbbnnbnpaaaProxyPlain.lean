/- The plain law of layer 15 (proxy): the document's answer is the program's, its entries' cells forgotten once they are revoked. -/
import Derived.Test.YtboajbbnnbnpaaaProxyPure
set_option linter.unusedVariables false
set_option linter.unusedSimpArgs false
namespace Go.Proofs.Ytboajbbnnbnpaaa
open Go.RowKit

namespace Proxy

theorem ent_rep {n i : Nat} {x : En} (h : i < n) : ent (List.replicate n x) i = x := by unfold ent; simp [h]
/-- Revoke, as the document has it. -/
def revokeR (l : List En) (i : Int) : List En × Int :=
  if inB i = true then (if (ent l i.toNat).is = 1 then (l.set i.toNat ⟨2, (ent l i.toNat).gen, 0, 0⟩, 0) else (l, 9)) else (l, 1)
theorem revokeR_out {l : List En} {i : Int} (h : inB i = false) : revokeR l i = (l, 1) := by unfold revokeR; rw [h]; rfl
theorem revokeR_yes {l : List En} {i : Nat} (h : i < 8) (h1 : (ent l i).is = 1) : revokeR l i = (l.set i ⟨2, (ent l i).gen, 0, 0⟩, 0) := by
  unfold revokeR; rw [if_pos ((inB_iff _).2 (by omega)), Int.toNat_natCast, if_pos h1]
theorem revokeR_no {l : List En} {i : Nat} (h : i < 8) (h1 : (ent l i).is ≠ 1) : revokeR l i = (l, 9) := by
  unfold revokeR; rw [if_pos ((inB_iff _).2 (by omega)), Int.toNat_natCast, if_neg h1]
def newB (e : En) : Bool := decide (e.is = 0) && decide (e.gen = 1)
theorem newB_iff (e : En) : newB e = true ↔ e.is = 0 ∧ e.gen = 1 := by simp [newB]
theorem newB_not (e : En) : newB e = false ↔ e.is ≠ 0 ∨ e.gen ≠ 1 := by rw [← Bool.not_eq_true, newB_iff]; omega
/-- Start, as the document has it. -/
def startR (l : List En) (g : Int) : List En × Int :=
  if okS g = true ∧ l.all newB = true then (List.replicate 8 (freshE g), 0) else (l, 1)
theorem all_new {l : List En} (h : ∀ k, k < l.length → newB (ent l k) = true) : l.all newB = true := by
  rw [List.all_eq_true]
  intro x hx
  obtain ⟨k, hk, rfl⟩ := List.getElem_of_mem hx
  have := h k hk
  unfold ent at this
  simpa [hk] using this
theorem not_all_new {l : List En} {k : Nat} (hk : k < l.length) (h : newB (ent l k) = false) : ¬ l.all newB = true := fun q => by
  rw [List.all_eq_true] at q
  have := q l[k] (by simp)
  unfold ent at h
  simp [hk] at h
  rw [h] at this; cases this


/-- An entry, as the document has it. -/
def norm (e : En) : En := if e.is = 2 then ⟨2, e.gen, 0, 0⟩ else e
theorem norm_is (e : En) : (norm e).is = e.is := by unfold norm; split <;> simp_all
theorem norm_gen (e : En) : (norm e).gen = e.gen := by unfold norm; split <;> rfl
theorem norm_of {e : En} (h : e.is ≠ 2) : norm e = e := by unfold norm; rw [if_neg h]
theorem norm_fresh (g : Int) : norm (freshE g) = freshE g := norm_of (by show (0 : Int) ≠ 2; decide)
theorem ent_norm (l : List En) (k : Nat) : ent (l.map norm) k = norm (ent l k) := by
  unfold ent; rw [← norm_fresh 1]; simp only [List.getD_eq_getElem?_getD, List.getElem?_map, norm_fresh]
  cases l[k]? <;> simp [norm_fresh]
theorem canB_norm (e : En) : canB (norm e) = canB e := by unfold canB; rw [norm_is, norm_gen]
theorem slot_norm (l : List En) : slot (l.map norm) = slot l := by
  unfold slot; rw [List.findIdx_map]; congr 1; funext e; exact canB_norm e
theorem wrong_norm (l : List En) (i g : Int) : wrong (l.map norm) i g = wrong l i g := by unfold wrong; rw [ent_norm, norm_is, norm_gen]
theorem gen_norm (l : List En) (i : Int) : gen (l.map norm) i = gen l i := by unfold gen; rw [ent_norm, norm_gen]
theorem look_norm (l : List En) (i g : Int) : look (l.map norm) i g = look l i g := by
  unfold look; rw [wrong_norm, ent_norm, norm_is]
  split
  · split
    · rfl
    · rename_i h; rw [norm_of h]
  · rfl
theorem grant_norm (l : List En) (c g : Int) : grant (l.map norm) c g = ((grant l c g).1.map norm, (grant l c g).2) := by
  unfold grant; rw [slot_norm, ent_norm, norm_gen]
  split
  · split
    · simp only [List.map_set]; rw [norm_of (e := ⟨1, _, c, g⟩) (by show (1 : Int) ≠ 2; decide)]
    · rfl
  · rfl
theorem close_norm (l : List En) (i g : Int) : close (l.map norm) i g = ((close l i g).1.map norm, (close l i g).2) := by
  unfold close; rw [wrong_norm, ent_norm, norm_gen]
  split
  · simp only [List.map_set, norm_fresh]
  · rfl
theorem revoke_norm (l : List En) (i : Int) : revokeR (l.map norm) i = ((revoke l i).1.map norm, (revoke l i).2) := by
  unfold revokeR revoke; rw [ent_norm, norm_is, norm_gen]
  split
  · split
    · simp only [List.map_set]; rfl
    · rfl
  · rfl

/-- What holds of a table's entries. -/
structure Inv (l : List En) : Prop where
  len : l.length = 8
  is : ∀ k, k < 8 → (ent l k).is = 0 ∨ (ent l k).is = 1 ∨ (ent l k).is = 2
  nil : ∀ k, k < 8 → (ent l k).is = 0 → (ent l k).cell = 0 ∧ (ent l k).cg = 0
  gen : ∀ k, k < 8 → 1 ≤ (ent l k).gen ∧ (ent l k).gen ≤ 4294967295
  low : ∀ k, k < 8 → (ent l k).is ≠ 0 → (ent l k).gen < 4294967295

theorem inv_rep {g : Int} (h : 1 ≤ g ∧ g ≤ 4294967295) : Inv (List.replicate 8 (freshE g)) := by
  refine ⟨by simp, fun k hk => ?_, fun k hk h0 => ?_, fun k hk => ?_, fun k hk h0 => ?_⟩ <;> rw [ent_rep hk] at *
  · exact .inl rfl
  · exact ⟨rfl, rfl⟩
  · exact h
  · exact absurd rfl h0
theorem inv_set {l : List En} (h : Inv l) (i : Nat) (x : En) (h1 : x.is = 0 ∨ x.is = 1 ∨ x.is = 2) (h2 : x.is = 0 → x.cell = 0 ∧ x.cg = 0) (h3 : 1 ≤ x.gen ∧ x.gen ≤ 4294967295) (h4 : x.is ≠ 0 → x.gen < 4294967295) : Inv (l.set i x) := by
  have hl := h.len
  have e : ∀ k, k < 8 → ent (l.set i x) k = x ∨ ent (l.set i x) k = ent l k := fun k hk => by
    rw [ent_set x (by omega)]; split
    · exact .inl rfl
    · exact .inr rfl
  refine ⟨by simp [hl], fun k hk => ?_, fun k hk => ?_, fun k hk => ?_, fun k hk => ?_⟩ <;> rcases e k hk with q | q <;> rw [q]
  · exact h1
  · exact h.is k hk
  · exact h2
  · exact h.nil k hk
  · exact h3
  · exact h.gen k hk
  · exact h4
  · exact h.low k hk

theorem inv_grant {l : List En} (h : Inv l) (c g : Int) : Inv (grant l c g).1 := by
  unfold grant; split
  · split
    · rename_i h8
      have hc := slot_can (l := l) (by rw [h.len]; exact h8)
      rw [canB_iff] at hc
      exact inv_set h _ _ (.inr (.inl rfl)) (fun q => by simp at q) (h.gen _ h8) (fun _ => hc.2)
    · exact h
  · exact h
theorem inv_revoke {l : List En} (h : Inv l) (i : Int) : Inv (revoke l i).1 := by
  unfold revoke; split
  · rename_i hi
    rw [inB_iff] at hi
    split
    · rename_i h1
      exact inv_set h _ _ (.inr (.inr rfl)) (fun q => by simp at q) (h.gen _ (by omega)) (fun _ => h.low i.toNat (by omega) (by omega))
    · exact h
  · exact h
theorem inv_close {l : List En} (h : Inv l) (i g : Int) : Inv (close l i g).1 := by
  unfold close; split
  · rename_i hw
    obtain ⟨k, rfl, hk, hg, h0⟩ := wrong_ok hw
    have h5 := h.low k hk h0
    have h6 := h.gen k hk
    exact inv_set h _ _ (.inl rfl) (fun _ => ⟨rfl, rfl⟩) ⟨by show 1 ≤ (ent l (Int.toNat k)).gen + 1; rw [Int.toNat_natCast]; omega, by show (ent l (Int.toNat k)).gen + 1 ≤ _; rw [Int.toNat_natCast]; omega⟩ (fun q => absurd rfl q)
  · exact h
theorem inv_start {l : List En} (h : Inv l) (g : Int) : Inv (start l g).1 := by
  unfold start; split
  · rename_i hs; exact inv_rep ((okS_iff g).1 hs.1)
  · exact h
theorem start_norm {l : List En} (h : Inv l) (g : Int) : startR (l.map norm) g = ((start l g).1.map norm, (start l g).2) := by
  have e : (l.map norm).all newB = true ↔ l = news := by
    constructor
    · intro q
      rw [List.all_eq_true] at q
      apply List.ext_getElem
      · rw [h.len]; rfl
      · intro k h1 h2
        have hk : k < 8 := by rw [h.len] at h1; exact h1
        have := q (norm l[k]) (List.mem_map.2 ⟨_, List.getElem_mem _, rfl⟩)
        rw [newB_iff, norm_is, norm_gen] at this
        have ek : ent l k = l[k] := by simp [ent, h1]
        have h5 := h.nil k hk (by rw [ek]; exact this.1)
        rw [ek] at h5
        have : l[k] = freshE 1 := by
          cases hx : l[k] with
          | mk a b c d => rw [hx] at this h5; simp at this h5; unfold freshE; simp [this, h5]
        rw [this]; exact (List.eq_of_mem_replicate (List.getElem_mem h2)).symm
    · rintro rfl
      rw [List.all_eq_true]
      intro x hx
      obtain ⟨y, hy, rfl⟩ := List.mem_map.1 hx
      rw [show y = freshE 1 from List.eq_of_mem_replicate hy, norm_fresh]; rfl
  unfold startR start
  by_cases q : okS g = true ∧ l = news
  · rw [if_pos q, if_pos ⟨q.1, e.2 q.2⟩]; simp [norm_fresh]
  · rw [if_neg q, if_neg (fun q' => q ⟨q'.1, e.1 q'.2⟩)]

/-- What an act tells, and the entries behind it. -/
def saidP (l : List En) (k a b : Int) : List En × Int × Int × Int :=
  if k % 6 = 2 then ((revoke l a).1, 0, 0, (revoke l a).2) else if k % 6 = 3 then (l, look l a b) else if k % 6 = 4 then ((close l a b).1, 0, 0, (close l a b).2)
  else if k % 6 = 5 then ((start l b).1, 0, 0, (start l b).2) else ((grant l a b).1, (grant l a b).2.1, 0, (grant l a b).2.2)
def wantP (l : List En) (k a b : Int) : List En × Int × Int × Int :=
  if k % 6 = 2 then ((revokeR l a).1, 0, 0, (revokeR l a).2) else if k % 6 = 3 then (l, look l a b) else if k % 6 = 4 then ((close l a b).1, 0, 0, (close l a b).2)
  else if k % 6 = 5 then ((startR l b).1, 0, 0, (startR l b).2) else ((grant l a b).1, (grant l a b).2.1, 0, (grant l a b).2.2)
theorem want_norm {l : List En} (h : Inv l) (k a b : Int) : wantP (l.map norm) k a b = ((saidP l k a b).1.map norm, (saidP l k a b).2) := by
  unfold wantP saidP
  rw [revoke_norm, look_norm, close_norm, start_norm h, grant_norm]
  repeat' split
  all_goals rfl
theorem inv_said {l : List En} (h : Inv l) (k a b : Int) : Inv (saidP l k a b).1 := by
  unfold saidP
  repeat' split
  · exact inv_revoke h a
  · exact h
  · exact inv_close h a b
  · exact inv_start h b
  · exact inv_grant h a b

end Proxy
end Go.Proofs.Ytboajbbnnbnpaaa
