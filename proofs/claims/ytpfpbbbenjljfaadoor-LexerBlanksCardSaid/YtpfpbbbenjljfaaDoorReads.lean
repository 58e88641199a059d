/- How arguments without pointers inside are read: a value of such a type is a row of cells, each of its kind. -/
import Derived.Test.YtpfpbbbenjljfaaDoorEls
import Derived.ProofKit
import Derived.OpenShut
import Derived.Deep.Slices
import Derived.SizedLaws
set_option linter.unusedVariables false
set_option linter.unusedSimpArgs false
namespace Go.Proofs.YtpfpbbbenjljfaaDoor
open Go.RowKit Go.ChangeShapes Go.WideShapes Go.Deep

/-- What a cell has. -/
inductive CK where
  | i (k : IntKind)
  | b
  | s

def CK.fits : CK → Value → Prop
  | .i k, v => ∃ n, v = .int k n ∧ (Lit.int k n).wf = true
  | .b, v => ∃ b, v = .bool b
  | .s, v => ∃ s : ByteArray, v = .string s ∧ s.size ≤ maxLen

def All2 : List CK → List Value → Prop
  | [], [] => True
  | k :: ks, v :: vs => k.fits v ∧ All2 ks vs
  | _, _ => False

theorem All2.length : ∀ {ks : List CK} {vs : List Value}, All2 ks vs → ks.length = vs.length
  | [], [], _ => rfl
  | [], _ :: _, h => h.elim
  | _ :: _, [], h => h.elim
  | k :: ks, v :: vs, h => by have := All2.length h.2; simp [this]

theorem All2.append : ∀ {ks ks' : List CK} {vs vs' : List Value}, All2 ks vs → All2 ks' vs' → All2 (ks ++ ks') (vs ++ vs')
  | [], _, [], _, _, h => h
  | [], _, _ :: _, _, h, _ => h.elim
  | _ :: _, _, [], _, h, _ => h.elim
  | k :: ks, _, v :: vs, _, h, h' => ⟨h.1, All2.append h.2 h'⟩

theorem All2.get : ∀ {ks : List CK} {vs : List Value}, All2 ks vs → ∀ (j : Nat) (k : CK), ks[j]? = some k → ∃ v, vs[j]? = some v ∧ k.fits v
  | [], [], _, _, _, h => by simp at h
  | [], _ :: _, h, _, _, _ => h.elim
  | _ :: _, [], h, _, _, _ => h.elim
  | k :: ks, v :: vs, h, 0, k', e => by simp at e; subst e; exact ⟨v, rfl, h.1⟩
  | k :: ks, v :: vs, h, j + 1, k', e => by simpa using All2.get h.2 j k' (by simpa using e)

theorem all2_cons {k : CK} {ks : List CK} {l : List Value} (h : All2 (k :: ks) l) : ∃ v vs, l = v :: vs ∧ k.fits v ∧ All2 ks vs := by
  cases l with
  | nil => exact h.elim
  | cons v vs => exact ⟨v, vs, rfl, h.1, h.2⟩
theorem all2_nil {l : List Value} (h : All2 [] l) : l = [] := by
  cases l with
  | nil => rfl
  | cons v vs => exact h.elim

def flatFields (P : Program) (r : TypeId → Option (List CK)) : List Field → Nat → Option (List CK)
  | [], _ => some []
  | f :: fs, off =>
    if f.offset = off then (r f.type).bind fun ks => if ks.length = P.cellsOf f.type then (flatFields P r fs (off + ks.length)).map (ks ++ ·) else none
    else none

def flatTimes (ks : List CK) : Nat → List CK
  | 0 => []
  | n + 1 => ks ++ flatTimes ks n

/-- The cells of a type without memory inside. -/
def flat (P : Program) : Nat → TypeId → Option (List CK)
  | 0, _ => none
  | n + 1, t =>
    match P.underlying t with
    | some .bool => some [.b]
    | some (.int k) => some [.i k]
    | some .string => some [.s]
    | some (.struct fs) => (flatFields P (flat P n) fs.toList 0).bind fun ks => if ks.length = P.cellsOf t then some ks else none
    | some (.array m e) => (flat P n e).bind fun ks => if ks.length = P.cellsOf e ∧ (flatTimes ks m).length = P.cellsOf t then some (flatTimes ks m) else none
    | _ => none

theorem flatFields_all {P : Program} {r : TypeId → Option (List CK)} {cs : List Value} : ∀ (fs : List Field) (off : Nat) (ks : List CK), flatFields P r fs off = some ks →
    (∀ f, f ∈ fs → ∀ ks', r f.type = some ks' → All2 ks' ((cs.drop f.offset).take (P.cellsOf f.type))) → All2 ks ((cs.drop off).take ks.length)
  | [], off, ks, h, _ => by simp [flatFields] at h; subst h; simp [All2]
  | f :: fs, off, ks, h, hr => by
    unfold flatFields at h
    split at h
    · rename_i ho
      cases hq : r f.type with
      | none => simp [hq] at h
      | some k1 =>
        simp only [hq, Option.bind_some] at h
        split at h
        · rename_i hl
          cases hz : flatFields P r fs (off + k1.length) with
          | none => simp [hz] at h
          | some k2 =>
            simp only [hz, Option.map_some, Option.some.injEq] at h
            subst h
            have a1 := hr f (by simp) k1 hq
            have a2 := flatFields_all fs (off + k1.length) k2 hz (fun g hg => hr g (by simp [hg]))
            rw [ho, ← hl] at a1
            rw [List.length_append, List.take_add, List.drop_drop]
            exact a1.append a2
        · simp at h
    · simp at h

theorem flatTimes_all {ks : List CK} {cs : List Value} : ∀ (m o : Nat), (∀ i, i < m → All2 ks ((cs.drop (o + i * ks.length)).take ks.length)) → All2 (flatTimes ks m) ((cs.drop o).take (flatTimes ks m).length)
  | 0, _, _ => by simp [flatTimes, All2]
  | m + 1, o, h => by
    have a1 := h 0 (by omega)
    simp only [Nat.zero_mul, Nat.add_zero] at a1
    have a2 := flatTimes_all m (o + ks.length) (fun i hi => by
      have := h (i + 1) (by omega)
      rw [show o + ks.length + i * ks.length = o + (i + 1) * ks.length by rw [Nat.add_mul]; omega]
      exact this)
    show All2 (ks ++ flatTimes ks m) _
    rw [show (flatTimes ks (m + 1)).length = ks.length + (flatTimes ks m).length by simp [flatTimes], List.take_add, List.drop_drop]
    exact a1.append a2

theorem flat_all {H : Type} {enc : TypeId × Value → H} {P : Program} {w : World} {base : Nat} {spare : Nat → Bool} {held : Bool} : ∀ (n : Nat) (t : TypeId) (ks : List CK), flat P n t = some ks →
    ∀ (fuel : Nat) (cs : List Value) (x : DataW H × List MemPlace), DataW.trod enc P w base spare held fuel t cs = some x → All2 ks cs
  | 0, _, _, h, _, _, _, _ => by simp [flat] at h
  | n + 1, t, ks, h, fuel, cs, x, hx => by
    unfold flat at h
    split at h
    · rename_i hu; obtain ⟨b, rfl, _⟩ := DataW.trod_bool hu hx; simp at h; subst h; exact ⟨⟨b, rfl⟩, trivial⟩
    · rename_i k hu; obtain ⟨m, rfl, _, wf⟩ := DataW.trod_int hu hx; simp at h; subst h; exact ⟨⟨m, rfl, wf⟩, trivial⟩
    · rename_i hu; obtain ⟨s, rfl, _, hs⟩ := DataW.trod_string hu hx; simp at h; subst h; exact ⟨⟨s, rfl, hs⟩, trivial⟩
    · rename_i fs hu
      obtain ⟨xs, m, _, _, hlen, hxl, hf⟩ := DataW.trod_struct hu hx
      cases hq : flatFields P (flat P n) fs.toList 0 with
      | none => simp [hq] at h
      | some k1 =>
        simp only [hq, Option.bind_some] at h
        split at h
        · rename_i hl
          simp at h; subst h
          have := flatFields_all (cs := cs) fs.toList 0 k1 hq (fun f hmem ks' hk => by
            obtain ⟨i, hi, he⟩ := List.getElem_of_mem hmem
            have e1 : fs[i]? = some f := by
              have : i < fs.size := by simpa using hi
              rw [Array.getElem?_eq_getElem this, ← he]; simp
            have e2 := hf i f e1
            have : i < xs.length := by rw [hxl]; simpa using hi
            rw [List.getElem?_eq_getElem this] at e2
            exact flat_all n _ _ hk _ _ _ e2)
          rw [List.drop_zero, List.take_of_length_le (by omega)] at this
          exact this
        · simp at h
    · rename_i m e hu
      obtain ⟨xs, m', _, _, hlen, hxl, hf⟩ := DataW.trod_array hu hx
      cases hq : flat P n e with
      | none => simp [hq] at h
      | some k1 =>
        simp only [hq, Option.bind_some] at h
        split at h
        · rename_i hl
          simp at h; subst h
          have := flatTimes_all (ks := k1) (cs := cs) m 0 (fun i hi => by
            have e2 := hf i hi
            rw [List.getElem?_eq_getElem (by omega), ← hl.1] at e2
            rw [Nat.zero_add]
            exact flat_all n _ _ hq _ _ _ e2)
          rw [List.drop_zero, List.take_of_length_le (by omega)] at this
          exact this
        · simp at h
    · simp at h

/-- The number of a cell of a whole number's kind. -/
theorem CK.fits_i {k : IntKind} {v : Value} (h : (CK.i k).fits v) : v = .int k (intOf v) ∧ (Lit.int k (intOf v)).wf = true := by
  obtain ⟨n, rfl, wf⟩ := h
  exact ⟨rfl, wf⟩

/-- A slice of such elements, opened: its rows. -/
theorem open_rows {H : Type} {enc : TypeId × Value → H} {P : Program} {W : World} {t e : TypeId} {n size : Nat} {ks : List CK} {v : Value} {d : DataW H} {ps : List MemPlace} {r : Reach} {base : Nat}
    (hu : P.underlying t = some (.slice e)) (hf : flat P n e = some ks) (hc : P.cellsOf e = size) (h0 : 0 < size)
    (hv : Value.okWide P W r base t v) (h : DataW.Trod enc P W 0 (fun _ => true) true t v d ps) :
    ∃ a len cap V, v = .slice a len cap ∧ (len ≤ cap ∧ cap ≤ maxLen) ∧ Els W a len size V ∧ (∀ i, i < len → All2 ks ((List.range size).map (V i))) ∧
      (len = 0 ∨ ∃ elems spare, d = .slice elems spare ∧ len ≤ elems.length) := by
  obtain ⟨a, len, cap, rfl⟩ := okWide_slice hu hv
  obtain ⟨fuel, h⟩ := h
  rcases open_slice hu h with ⟨hcs, _⟩ | ⟨x, l, c, m, n', D, Pl, hcs, _, hl, hm, hmm, hx, hall⟩
  · simp [Value.cells] at hcs
    obtain ⟨rfl, rfl, rfl⟩ := hcs
    exact ⟨_, _, _, fun _ _ => undef, rfl, ⟨Nat.zero_le _, Nat.zero_le _⟩, ⟨fun i hi => absurd hi (by omega)⟩, fun i hi => absurd hi (by omega), .inl rfl⟩
  · simp [Value.cells] at hcs
    obtain ⟨rfl, rfl, rfl⟩ := hcs
    simp at hmm
    subst hmm
    have each : ∀ i, i < len → ∃ cs' : List Value, cs'.length = size ∧ (∀ j, j < size → W.cell? (x.add (i * size + j)) = cs'[j]?) ∧ All2 ks cs' := by
      intro i hi
      obtain ⟨cs', h1, h2⟩ := hall i (by omega)
      rw [hc] at h1
      obtain ⟨_, hlen, hcell⟩ := World.cells?_some h1
      exact ⟨cs', hlen, fun j hj => by rw [← add_add]; exact hcell j hj, flat_all n _ _ hf _ _ _ h2⟩
    obtain ⟨F, hF⟩ := choose_lt each
    refine ⟨_, _, _, fun i j => ((F i)[j]?).getD undef, rfl, ⟨hl, hm⟩, ⟨fun i hi => ?_⟩, fun i hi => ?_, .inr ⟨_, _, (Prod.mk.inj hx).1, by simp⟩⟩
    · obtain ⟨hlen, hcell, _⟩ := hF i hi
      have g0 := hcell 0 h0
      rw [List.getElem?_eq_getElem (by omega)] at g0
      have g00 := (hF 0 (by omega)).2.1 0 h0
      simp only [Nat.zero_mul, Nat.zero_add] at g00
      rw [List.getElem?_eq_getElem (by have := (hF 0 (by omega)).1; omega)] at g00
      have hx0 : x.add 0 = x := by simp [Addr.add]
      rw [hx0] at g00
      obtain ⟨b, off, sp⟩ := x
      have hsp : sp = none := by
        unfold World.cell? at g00
        split at g00
        · cases sp with
          | none => rfl
          | some q => simp at g00
        · simp at g00
      subst hsp
      refine ⟨b, off, rfl, ?_, fun j hj => ?_⟩
      · unfold World.cell? at g00
        split at g00
        · rename_i hb; exact (Array.getElem?_eq_some_iff.1 hb).1
        · simp at g00
      · have := hcell j hj
        rw [List.getElem?_eq_getElem (by omega)] at this
        have ea : (⟨b, off + (i * size + j), none⟩ : Addr) = (⟨b, off, none⟩ : Addr).add (i * size + j) := by
          unfold Addr.add; split
          · simp_all
          · rfl
        rw [ea, this, List.getElem?_eq_getElem (by omega)]; rfl
    · obtain ⟨hlen, _, hA⟩ := hF i hi
      have : (List.range size).map (fun j => ((F i)[j]?).getD undef) = F i := by
        apply List.ext_getElem
        · simp [hlen]
        · intro j h1 h2
          simp [List.getElem?_eq_getElem h2]
      rw [this]; exact hA

/-- A struct, or an array, by value. -/
theorem open_flat {H : Type} {enc : TypeId × Value → H} {P : Program} {W : World} {t : TypeId} {n : Nat} {ks : List CK} {cs : Array Value} {d : DataW H} {ps : List MemPlace} {base : Nat} {spare : Nat → Bool} {held : Bool}
    (hf : flat P n t = some ks) (h : DataW.Trod enc P W base spare held t (.agg cs) d ps) : All2 ks cs.toList := by
  obtain ⟨fuel, h⟩ := h
  exact flat_all n _ _ hf _ _ _ h

theorem trod_lt {H : Type} {enc : TypeId × Value → H} {P : Program} {W : World} {t : TypeId} {v : Value} {d : DataW H} {ps : List MemPlace} {base : Nat} {spare : Nat → Bool} {held : Bool}
    (h : DataW.Trod enc P W base spare held t v d ps) : ∀ x ∈ ps, x.block < W.heap.size := by
  obtain ⟨m, hm⟩ := h
  exact DataW.trod_lt m _ _ _ hm

end Go.Proofs.YtpfpbbbenjljfaaDoor
