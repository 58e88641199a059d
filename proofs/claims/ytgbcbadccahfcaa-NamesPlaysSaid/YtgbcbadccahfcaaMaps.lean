/- A map in a block of its own, told as the list of its entries: looked up, stored into, deleted from. -/
import Derived.Test.YtgbcbadccahfcaaWords
import Derived.Maps.OwnSet
import Derived.Maps.OwnOps
set_option linter.unusedVariables false
set_option linter.unusedSimpArgs false
set_option linter.unusedSectionVars false
namespace Go.Proofs.Ytgbcbadccahfcaa
open Go.RowKit
open Go.ChangeMaps (setBlock)

/-- Keys of type kt, each the value kv a of some a: how the map finds them. -/
structure KeyOK {α : Type} (P : Program) (kt : TypeId) (kv : α → Value) : Prop where
  inj : ∀ a b, kv a = kv b → a = b
  check : ∀ (w : World) (em : Bool) (a : α), (Instr.checkKey em 10000 kt (kv a)).run P w = .ok () w
  find : ∀ (w : World) (a : α) (es : List MapEntry), (∀ e ∈ es, ∃ c, e.key = kv c) →
    ((Instr.findKey kt (kv a) es).run P w = .ok none w ∧ ∀ e ∈ es, e.key ≠ kv a) ∨ ∃ j e, (Instr.findKey kt (kv a) es).run P w = .ok (some (j, e.val)) w ∧ es[j]? = some e ∧ e.key = kv a
  stays : ∀ (w : World) (a : α), (Instr.keyThatStays (kv a) (kv a)).run P w = .ok (kv a) w

theorem keyInt {P : Program} {kt : TypeId} (hk : P.underlying kt = some (.int .i64)) : KeyOK P kt (fun n : Int => Value.int .i64 n) where
  inj := fun a b h => by simpa using h
  check := fun w em a => by unfold Instr.checkKey; simp [run_underlying hk]
  find := fun w a es hes => by
    have key : ∀ (es : List MapEntry) (i : Nat), (∀ e ∈ es, ∃ c, e.key = Value.int .i64 c) →
        (Instr.findNow (.int .i64) (.int .i64 a) es i = some none ∧ ∀ e ∈ es, e.key ≠ Value.int .i64 a) ∨ ∃ j e, Instr.findNow (.int .i64) (.int .i64 a) es i = some (some (i + j, e.val)) ∧ es[j]? = some e ∧ e.key = Value.int .i64 a := by
      intro es
      induction es with
      | nil => intro i _; exact .inl ⟨rfl, fun e he => by cases he⟩
      | cons e es ih =>
        intro i h
        obtain ⟨c, hc⟩ := h e (by simp)
        by_cases hac : a = c
        · refine .inr ⟨0, e, ?_, rfl, by rw [hc, hac]⟩
          unfold Instr.findNow
          rw [hc]; simp [Instr.sameNow, hac]
        · have hs : Instr.sameNow (.int .i64) (.int .i64 a) e.key = some false := by rw [hc]; simp [Instr.sameNow, hac]
          rcases ih (i + 1) (fun x hx => h x (by simp [hx])) with ⟨h1, h2⟩ | ⟨j, e0, h1, h2, h3⟩
          · refine .inl ⟨?_, ?_⟩
            · unfold Instr.findNow; rw [hs]; exact h1
            · intro x hx
              rcases List.mem_cons.1 hx with rfl | hx
              · rw [hc]; simpa using fun h => hac h.symm
              · exact h2 x hx
          · refine .inr ⟨j + 1, e0, ?_, by simpa using h2, h3⟩
            unfold Instr.findNow; rw [hs]; rw [show i + (j + 1) = i + 1 + j by omega]; exact h1
    rcases key es 0 hes with ⟨h1, h2⟩ | ⟨j, e, h1, h2, h3⟩
    · exact .inl ⟨by simp [Instr.findKey, run_underlying hk, h1], h2⟩
    · exact .inr ⟨j, e, by simp only [Nat.zero_add] at h1; simp [Instr.findKey, run_underlying hk, h1], h2, h3⟩
  stays := fun w a => by simp [Instr.keyThatStays, Instr.sameBits]

/-- Block b is a map with these entries, in the order in which they came. -/
structure Mp {α : Type} (w : World) (b : Nat) (kv : α → Value) (L : List (α × Value)) : Prop where
  nodup : (L.map (·.1)).Nodup
  small : L.length ≤ maxLen
  out : ∃ es clock, w.heap[b]? = some (.map es clock) ∧ MapKept.Stamped es clock ∧ es.toList.map (fun e => (e.key, e.val)) = L.map (fun p => (kv p.1, p.2))

section
variable {α : Type} {w : World} {b : Nat} {kv : α → Value} {L : List (α × Value)}

theorem Mp.lt (h : Mp w b kv L) : b < w.heap.size := by
  obtain ⟨es, clock, hb, _⟩ := h.out
  exact (Array.getElem?_eq_some_iff.1 hb).1
theorem Mp.of_block {w' : World} (h : Mp w b kv L) (e : w'.heap[b]? = w.heap[b]?) : Mp w' b kv L := by
  obtain ⟨es, clock, hb, r⟩ := h.out
  exact ⟨h.nodup, h.small, es, clock, e.trans hb, r⟩
theorem Mp.but {w' : World} (h : Mp w b kv L) {S : Nat → Prop} (hb : But S w w') (hs : ¬ S b) : Mp w' b kv L := h.of_block (hb.block b h.lt hs)
theorem Mp.drewN (h : Mp w b kv L) (n : Nat) : Mp (w.drewN n) b kv L := h.of_block rfl
theorem Mp.drew (h : Mp w b kv L) : Mp w.drew b kv L := h.of_block rfl
theorem Mp.alloc (h : Mp w b kv L) (o : Obj) : Mp (w.alloc o) b kv L := h.of_block (Below.heap_alloc w o b h.lt)
theorem Mp.far (h : Mp w b kv L) {p : Addr} (hp : b ≠ p.block) (u : Value) : Mp (w.setCell p u) b kv L := h.of_block (Below.heap_setCell w p u b hp)
end

theorem Mp.new {α : Type} (w : World) (kv : α → Value) : Mp (w.alloc (.map #[] 0)) w.heap.size kv [] :=
  ⟨by simp, by simp, #[], 0, by show (w.heap.push _)[w.heap.size]? = _; simp, ⟨by simp, by simp, by simp⟩, by simp⟩

/-- The entry of a key. -/
def look {α : Type} [DecidableEq α] (L : List (α × Value)) (a : α) : Option Value := (L.find? (fun p => decide (p.1 = a))).map (·.2)
def put {α : Type} [DecidableEq α] (L : List (α × Value)) (a : α) (v : Value) : List (α × Value) := if (look L a).isSome then L.map (fun p => if p.1 = a then (a, v) else p) else L ++ [(a, v)]
def del {α : Type} [DecidableEq α] (L : List (α × Value)) (a : α) : List (α × Value) := L.filter (fun p => decide (p.1 ≠ a))

section
variable {α : Type} [DecidableEq α]

theorem look_get {L : List (α × Value)} (hn : (L.map (·.1)).Nodup) {j : Nat} {a : α} {v : Value} (h : L[j]? = some (a, v)) : look L a = some v := by
  induction L generalizing j with
  | nil => simp at h
  | cons p L ih =>
    simp only [List.map_cons, List.nodup_cons] at hn
    cases j with
    | zero => simp at h; subst h; simp [look]
    | succ j =>
      have hm : (a, v) ∈ L := List.mem_of_getElem? (by simpa using h)
      have hne : p.1 ≠ a := fun e => hn.1 (List.mem_map.2 ⟨_, hm, e.symm⟩)
      have := ih hn.2 (j := j) (by simpa using h)
      unfold look at this ⊢
      rw [List.find?_cons_of_neg (by simpa using hne)]; exact this
theorem look_none {L : List (α × Value)} {a : α} : look L a = none ↔ ∀ p ∈ L, p.1 ≠ a := by
  unfold look; simp
theorem look_mem {L : List (α × Value)} {a : α} {v : Value} (h : look L a = some v) : (a, v) ∈ L := by
  unfold look at h
  simp only [Option.map_eq_some_iff] at h
  obtain ⟨p, hp, rfl⟩ := h
  have h1 := List.mem_of_find?_eq_some hp
  have h2 := List.find?_some hp
  simp at h2; rw [← h2]; exact h1

theorem map_get {es : List MapEntry} {L : List (α × Value)} {kv : α → Value} (E : es.map (fun e => (e.key, e.val)) = L.map (fun p => (kv p.1, p.2))) {j : Nat} {e : MapEntry} (h : es[j]? = some e) :
    ∃ p, L[j]? = some p ∧ e.key = kv p.1 ∧ e.val = p.2 := by
  have := congrArg (·[j]?) E
  simp only [List.getElem?_map, h, Option.map_some] at this
  cases hp : L[j]? with
  | none => simp [hp] at this
  | some p => simp [hp] at this; exact ⟨p, rfl, this.1, this.2⟩

theorem map_keys {es : List MapEntry} {L : List (α × Value)} {kv : α → Value} (E : es.map (fun e => (e.key, e.val)) = L.map (fun p => (kv p.1, p.2))) : ∀ e ∈ es, ∃ c, e.key = kv c := by
  intro e he
  obtain ⟨j, hj, rfl⟩ := List.getElem_of_mem he
  obtain ⟨p, _, h, _⟩ := map_get E (List.getElem?_eq_getElem hj)
  exact ⟨p.1, h⟩

theorem map_none {es : List MapEntry} {L : List (α × Value)} {kv : α → Value} (E : es.map (fun e => (e.key, e.val)) = L.map (fun p => (kv p.1, p.2))) {a : α} (h : ∀ e ∈ es, e.key ≠ kv a) : look L a = none := by
  rw [look_none]
  intro p hp e
  obtain ⟨j, hj, rfl⟩ := List.getElem_of_mem hp
  have := congrArg (·[j]?) E
  simp only [List.getElem?_map, List.getElem?_eq_getElem hj, Option.map_some] at this
  cases hq : es[j]? with
  | none => simp [hq] at this
  | some x => simp [hq] at this; exact h x (List.mem_of_getElem? hq) (by rw [this.1, e])

theorem put_set {L : List (α × Value)} (hn : (L.map (·.1)).Nodup) {j : Nat} {a : α} {v u : Value} (h : L[j]? = some (a, v)) : put L a u = L.set j (a, u) := by
  unfold put
  rw [look_get hn h]
  simp only [Option.isSome_some, if_true]
  apply List.ext_getElem?
  intro i
  rw [List.getElem?_map, List.getElem?_set]
  have hj : j < L.length := (List.getElem?_eq_some_iff.1 h).1
  by_cases e : j = i
  · subst e
    have g := (List.getElem?_eq_some_iff.1 h).2
    simp [hj, g]
  · rw [if_neg e]
    cases hi : L[i]? with
    | none => rfl
    | some p =>
      simp only [Option.map_some, Option.some.injEq]
      rw [if_neg]
      intro e'
      apply e
      have hil : i < L.length := (List.getElem?_eq_some_iff.1 hi).1
      have h1 : (L.map (·.1))[j]'(by simpa using hj) = (L.map (·.1))[i]'(by simpa using hil) := by
        have g1 := (List.getElem?_eq_some_iff.1 h).2
        have g2 := (List.getElem?_eq_some_iff.1 hi).2
        simp [g1, g2, e']
      exact (List.getElem_inj hn).1 h1

theorem del_erase {L : List (α × Value)} (hn : (L.map (·.1)).Nodup) {j : Nat} {a : α} {v : Value} (h : L[j]? = some (a, v)) : del L a = L.eraseIdx j := by
  induction L generalizing j with
  | nil => simp at h
  | cons p L ih =>
    simp only [List.map_cons, List.nodup_cons] at hn
    cases j with
    | zero =>
      simp at h; subst h
      have : ∀ q ∈ L, q.1 ≠ a := fun q hq e => hn.1 (List.mem_map.2 ⟨q, hq, e⟩)
      simp only [del, List.eraseIdx_cons_zero]
      rw [List.filter_cons_of_neg (by simp), List.filter_eq_self.2 (by simpa using this)]
    | succ j =>
      have hm : (a, v) ∈ L := List.mem_of_getElem? (by simpa using h)
      have hne : p.1 ≠ a := fun e => hn.1 (List.mem_map.2 ⟨_, hm, e.symm⟩)
      have := ih hn.2 (j := j) (by simpa using h)
      unfold del at this ⊢
      rw [List.filter_cons_of_pos (by simpa using hne), this, List.eraseIdx_cons_succ]
theorem map_eraseIdx' {β γ : Type} (f : β → γ) : ∀ (l : List β) (j : Nat), (l.eraseIdx j).map f = (l.map f).eraseIdx j
  | [], j => by simp
  | x :: l, 0 => by simp
  | x :: l, j + 1 => by simp [map_eraseIdx' f l j]
theorem del_none {L : List (α × Value)} {a : α} (h : look L a = none) : del L a = L := by
  unfold del; rw [List.filter_eq_self]; rw [look_none] at h; simpa using h

theorem look_put {L : List (α × Value)} {a c : α} {v : Value} : look (put L a v) c = if a = c then some v else look L c := by
  unfold put
  by_cases h : (look L a).isSome
  · rw [if_pos h]
    by_cases e : a = c
    · subst e
      rw [if_pos rfl]
      unfold look at h ⊢
      induction L with
      | nil => simp at h
      | cons p L ih =>
        by_cases hp : p.1 = a
        · simp [hp]
        · simp only [List.map_cons, if_neg hp]
          rw [List.find?_cons_of_neg (by simpa using hp)] at h ⊢
          exact ih h
    · rw [if_neg e]
      unfold look
      clear h
      induction L with
      | nil => rfl
      | cons p L ih =>
        by_cases hp : p.1 = a
        · simp only [List.map_cons, if_pos hp]
          rw [List.find?_cons_of_neg (by simpa using e), List.find?_cons_of_neg (by simpa [hp] using e)]; exact ih
        · simp only [List.map_cons, if_neg hp]
          by_cases hc : p.1 = c
          · simp [hc]
          · rw [List.find?_cons_of_neg (by simpa using hc), List.find?_cons_of_neg (by simpa using hc)]; exact ih
  · rw [if_neg h]
    simp at h
    unfold look at h ⊢
    rw [List.find?_append]
    by_cases e : a = c
    · subst e
      simp only [Option.map_eq_none_iff] at h
      rw [h]; simp
    · rw [if_neg e]; simp [e]
theorem look_del {L : List (α × Value)} {a c : α} : look (del L a) c = if a = c then none else look L c := by
  unfold look del
  rw [List.find?_filter]
  by_cases e : a = c
  · subst e; simp
  · rw [if_neg e]
    congr 2
    funext p
    by_cases h : p.1 = c
    · simp [h, Ne.symm e]
    · simp [h]
theorem put_nodup {L : List (α × Value)} (hn : (L.map (·.1)).Nodup) (a : α) (v : Value) : ((put L a v).map (·.1)).Nodup := by
  unfold put
  split
  · have : (L.map fun p => if p.1 = a then (a, v) else p).map (·.1) = L.map (·.1) := by
      rw [List.map_map]; apply List.map_congr_left; intro p _; simp only [Function.comp]; split <;> simp_all
    rw [this]; exact hn
  · rename_i h
    simp at h
    rw [look_none] at h
    simp only [List.map_append, List.map_cons, List.map_nil]
    rw [List.nodup_append]
    refine ⟨hn, by simp, ?_⟩
    intro x hx y hy
    simp at hy; subst hy
    obtain ⟨p, hp, rfl⟩ := List.mem_map.1 hx
    exact h p hp
theorem del_nodup {L : List (α × Value)} (hn : (L.map (·.1)).Nodup) (a : α) : ((del L a).map (·.1)).Nodup :=
  List.Nodup.sublist (List.filter_sublist.map _) hn
theorem put_length {L : List (α × Value)} {a : α} {v : Value} : (put L a v).length ≤ L.length + 1 := by unfold put; split <;> simp
theorem del_length {L : List (α × Value)} {a : α} : (del L a).length ≤ L.length := List.length_filter_le _ _

variable {P : Program} {kt et t : TypeId} {kv : α → Value} {w : World} {b : Nat} {L : List (α × Value)}

theorem Mp.run_look (h : Mp w b kv L) (K : KeyOK P kt kv) (ht : P.underlying t = some (.map kt et)) {z : Value} (hz : (zeroValue et).run P w = .ok z w) (a : α) (c : Bool) :
    (Instr.lookup t (.map (some b)) (kv a) c).run P w = .ok (if c then .tuple #[(look L a).getD z, .bool (look L a).isSome] else (look L a).getD z) w := by
  obtain ⟨es, clock, hb, hst, E⟩ := h.out
  rcases K.find w a es.toList (map_keys E) with ⟨h1, h2⟩ | ⟨j, e, h1, h2, h3⟩
  · rw [map_none E h2]
    simp [Instr.lookup, run_underlying ht, MapKept.run_getObj_map hb, K.check w _ a, h1, hz, Result.andThen]
  · obtain ⟨p, hp, hk, hv⟩ := map_get E h2
    have : p = (a, e.val) := by rw [hv]; rw [h3] at hk; rw [K.inj _ _ hk]
    rw [look_get h.nodup (by rw [hp, this])]
    simp [Instr.lookup, run_underlying ht, MapKept.run_getObj_map hb, K.check w _ a, h1, Result.andThen]

theorem heap_setBlock {w : World} {b k : Nat} {o : Obj} (hk : k ≠ b) : (setBlock w b o).heap[k]? = w.heap[k]? := by
  show (w.heap.setIfInBounds b o)[k]? = _
  rw [Array.getElem?_setIfInBounds, if_neg (fun e => hk e.symm)]
theorem heap_setBlock_same {w : World} {b : Nat} {o : Obj} (hb : b < w.heap.size) : (setBlock w b o).heap[b]? = some o := by
  show (w.heap.setIfInBounds b o)[b]? = _
  rw [Array.getElem?_setIfInBounds, if_pos rfl, if_pos hb]
theorem But.setBlock {w : World} {b : Nat} {o : Obj} : But (fun k => k = b) w (setBlock w b o) :=
  ⟨rfl, rfl, rfl, by show w.heap.size ≤ (w.heap.setIfInBounds b o).size; simp, fun k _ hs => heap_setBlock hs⟩

theorem Mp.run_update (h : Mp w b kv L) (K : KeyOK P kt kv) (ht : P.underlying t = some (.map kt et)) (a : α) (v : Value) (hr : L.length < maxLen) :
    ∃ w', (Instr.mapUpdate t (.map (some b)) (kv a) v).run P w = .ok () w' ∧ Mp w' b kv (put L a v) ∧ But (fun k => k = b) w w' := by
  have hlt := h.lt
  have hn := h.nodup
  obtain ⟨es, clock, hb, hst, E⟩ := h.out
  rcases K.find w a es.toList (map_keys E) with ⟨h1, h2⟩ | ⟨j, e, h1, h2, h3⟩
  · have hl := map_none E h2
    refine ⟨setBlock w b (.map (es.push ⟨kv a, v, clock⟩) (clock + 1)), ?_, ⟨put_nodup hn a v, by have := put_length (L := L) (a := a) (v := v); omega, _, _, heap_setBlock_same hlt, MapKept.stamped_push hst h2, ?_⟩, But.setBlock⟩
    · simp [Instr.mapUpdate, run_underlying ht, MapKept.run_getObj_map hb, K.check w false a, h1, MapKept.run_setObj_map _ hb, Result.andThen, setBlock]
    · unfold put; rw [hl]; simp [E]
  · obtain ⟨p, hp, hk, hv⟩ := map_get E h2
    have hpe : p = (a, e.val) := by rw [hv]; rw [h3] at hk; rw [K.inj _ _ hk]
    have hj : es[j]? = some e := by simpa using h2
    have hput := put_set hn (u := v) (show L[j]? = some (a, e.val) by rw [hp, hpe])
    refine ⟨setBlock w b (.map (es.modify j fun e' => { e' with key := kv a, val := v }) clock), ?_, ⟨put_nodup hn a v, by rw [hput, List.length_set]; exact h.small, _, _, heap_setBlock_same hlt,
      MapKept.stamped_modify hst _ _ (fun _ _ => rfl) (fun e' _ he' => by rw [hj] at he'; cases he'; exact h3.symm), ?_⟩, But.setBlock⟩
    · simp [Instr.mapUpdate, run_underlying ht, MapKept.run_getObj_map hb, K.check w false a, h1, hj, h3, K.stays w a, MapKept.run_setObj_map _ hb, Result.andThen, setBlock]
    · rw [hput, Array.toList_modify, List.map_set, ← E]
      apply List.ext_getElem?
      intro i
      simp only [List.getElem?_map, List.getElem?_modify, List.getElem?_set, List.length_map]
      have hjl : j < es.toList.length := (List.getElem?_eq_some_iff.1 h2).1
      by_cases e1 : j = i
      · subst e1; simp [h2]; simpa using hjl
      · simp [e1]

theorem Mp.run_delete (h : Mp w b kv L) (K : KeyOK P kt kv) (ht : P.underlying t = some (.map kt et)) (a : α) (ty : TypeId) :
    ∃ w', (Builtin.delete_ #[t, kt] ty #[.map (some b), kv a]).run P w = .ok (.tuple #[]) w' ∧ Mp w' b kv (del L a) ∧ But (fun k => k = b) w w' := by
  have hlt := h.lt
  have hn := h.nodup
  obtain ⟨es, clock, hb, hst, E⟩ := h.out
  rcases K.find w a es.toList (map_keys E) with ⟨h1, h2⟩ | ⟨j, e, h1, h2, h3⟩
  · have hl := map_none E h2
    refine ⟨setBlock w b (.map es clock), ?_, ⟨del_nodup hn a, by have := del_length (L := L) (a := a); have := h.small; omega, _, _, heap_setBlock_same hlt, hst, by rw [del_none hl]; exact E⟩, But.setBlock⟩
    simp [Builtin.delete_, run_underlying ht, MapKept.run_getObj_map hb, K.check w _ a, h1, MapKept.run_setObj_map _ hb, Result.andThen, setBlock]
  · obtain ⟨p, hp, hk, hv⟩ := map_get E h2
    have hpe : p = (a, e.val) := by rw [hv]; rw [h3] at hk; rw [K.inj _ _ hk]
    have hjl : j < es.toList.length := (List.getElem?_eq_some_iff.1 h2).1
    have hjs : j < es.size := by simpa using hjl
    have hsub : (es.eraseIdxIfInBounds j).toList = es.toList.eraseIdx j := by
      unfold Array.eraseIdxIfInBounds
      rw [dif_pos hjs]; simp
    have hdel := del_erase hn (show L[j]? = some (a, e.val) by rw [hp, hpe])
    refine ⟨setBlock w b (.map (es.eraseIdxIfInBounds j) clock), ?_, ⟨del_nodup hn a, by have := del_length (L := L) (a := a); have := h.small; omega, _, _, heap_setBlock_same hlt, MapKept.stamped_erase hst j, ?_⟩, But.setBlock⟩
    · simp [Builtin.delete_, run_underlying ht, MapKept.run_getObj_map hb, K.check w _ a, h1, MapKept.run_setObj_map _ hb, Result.andThen, setBlock]
    · rw [hdel, hsub, map_eraseIdx', map_eraseIdx', E]

theorem Mp.run_len (h : Mp w b kv L) (ht : P.underlying t = some (.map kt et)) (ty : TypeId) : (Builtin.len_ #[t] ty #[.map (some b)]).run P w = .ok (.int .i64 L.length) w := by
  obtain ⟨es, clock, hb, hst, E⟩ := h.out
  have hl : es.size = L.length := by
    have := congrArg List.length E
    simpa using this
  simp [Builtin.len_, run_underlying ht, MapKept.run_getObj_map hb, hl, goInt]

/-! ### At the operations of a walk -/
variable {ops : Array Oper} {rest : List Oper} {o : Oper} {act : Act} {Q : Exit → Act → World → Prop}

theorem wpList_look (h : Mp w b kv L) (hg : o.guard = none) (m x : Operand) (t : TypeId) (c : Bool) (hop : o.op = Op.lookup t m x c) (K : KeyOK P kt kv) (ht : P.underlying t = some (.map kt et)) (z : Value) (hz : (zeroValue et).run P w = .ok z w)
    (hm : act.eval m = .map (some b)) (a : α) (hx : act.eval x = kv a)
    (hK : wpList P ops Q rest (act.put o.dst (if c then .tuple #[(look L a).getD z, .bool (look L a).isSome] else (look L a).getD z)) w) : wpList P ops Q (o :: rest) act w := by
  refine wpList_plain hg fun K' hK' => ?_
  have hrun := h.run_look K ht hz a c
  unfold Oper.wp
  simp [execOp, hop, hm, hx, hrun, Result.andThen]
  exact hK' _ _ hK

theorem wpList_look1 (h : Mp w b kv L) (hg : o.guard = none) (m x : Operand) (t : TypeId) (hop : o.op = Op.lookup t m x false) (K : KeyOK P kt kv) (ht : P.underlying t = some (.map kt et)) (z : Value) (hz : (zeroValue et).run P w = .ok z w)
    (hm : act.eval m = .map (some b)) (a : α) (hx : act.eval x = kv a) (r : Value) (hr : (look L a).getD z = r)
    (hK : wpList P ops Q rest (act.put o.dst r) w) : wpList P ops Q (o :: rest) act w :=
  wpList_look h hg m x t false hop K ht z hz hm a hx (by rw [if_neg (by simp), hr]; exact hK)

theorem wpList_look2 (h : Mp w b kv L) (hg : o.guard = none) (m x : Operand) (t : TypeId) (hop : o.op = Op.lookup t m x true) (K : KeyOK P kt kv) (ht : P.underlying t = some (.map kt et)) (z : Value) (hz : (zeroValue et).run P w = .ok z w)
    (hm : act.eval m = .map (some b)) (a : α) (hx : act.eval x = kv a) (r : Value) (hr : (look L a).getD z = r) (ok : Bool) (hok : (look L a).isSome = ok)
    (hK : wpList P ops Q rest (act.put o.dst (.tuple #[r, .bool ok])) w) : wpList P ops Q (o :: rest) act w :=
  wpList_look h hg m x t true hop K ht z hz hm a hx (by rw [if_pos rfl, hr, hok]; exact hK)

theorem wpList_update (h : Mp w b kv L) (hg : o.guard = none) (m x v : Operand) (t : TypeId) (hop : o.op = Op.mapUpdate t m x v) (K : KeyOK P kt kv) (ht : P.underlying t = some (.map kt et))
    (hm : act.eval m = .map (some b)) (a : α) (hx : act.eval x = kv a) (hr : L.length < maxLen)
    (hK : ∀ w', Mp w' b kv (put L a (act.eval v)) → But (fun k => k = b) w w' → wpList P ops Q rest (act.put o.dst undef) w') : wpList P ops Q (o :: rest) act w := by
  refine wpList_plain hg fun K' hK' => ?_
  obtain ⟨w', hrun, h1, h2⟩ := h.run_update K ht a (act.eval v) hr
  unfold Oper.wp
  simp [execOp, hop, hm, hx, hrun, Result.andThen]
  exact hK' _ _ (hK w' h1 h2)

theorem wpList_del (h : Mp w b kv L) (hg : o.guard = none) (m x : Operand) (t : TypeId) (hop : o.op = Op.call { callee := Callee.builtin Builtin.delete, args := #[m, x], argTypes := #[t, kt] }) (K : KeyOK P kt kv) (ht : P.underlying t = some (.map kt et))
    (hm : act.eval m = .map (some b)) (a : α) (hx : act.eval x = kv a)
    (hK : ∀ w', Mp w' b kv (del L a) → But (fun k => k = b) w w' → wpList P ops Q rest (act.put o.dst (.tuple #[])) w') : wpList P ops Q (o :: rest) act w := by
  refine wpList_plain hg fun K' hK' => ?_
  obtain ⟨w', hrun, h1, h2⟩ := h.run_delete K ht a o.type
  unfold Oper.wp
  simp [execOp, hop, resolve, invoke, builtin, hm, hx, hrun, Result.andThen]
  exact hK' _ _ (hK w' h1 h2)

theorem wpList_mlen (h : Mp w b kv L) (hg : o.guard = none) (m : Operand) (t : TypeId) (hop : o.op = Op.call { callee := Callee.builtin Builtin.len, args := #[m], argTypes := #[t] }) (ht : P.underlying t = some (.map kt et))
    (hm : act.eval m = .map (some b)) (hK : wpList P ops Q rest (act.put o.dst (.int .i64 L.length)) w) : wpList P ops Q (o :: rest) act w := by
  refine wpList_plain hg fun K' hK' => ?_
  have hrun := h.run_len ht o.type
  unfold Oper.wp
  simp [execOp, hop, resolve, invoke, builtin, hm, hrun, Result.andThen]
  exact hK' _ _ hK
end

end Go.Proofs.Ytgbcbadccahfcaa
