/- A range over a map: what the step leaves as it was; a sum of what the entries tell. -/
import Derived.Test.YtldgjmgdbaeglaaDoorMaps
import Derived.Laws.IdiomRangeMap
set_option linter.unusedVariables false
set_option linter.unusedSimpArgs false
namespace Go.Proofs.YtldgjmgdbaeglaaDoor
open Go.RowKit

/-- The tape is left as it was. -/
def TK {α : Type} (P : Program) (s : Sem α) : Prop := ∀ w v w', s.run P w = .ok v w' → w'.tape = w.tape
theorem TK.pure {α : Type} {P : Program} (a : α) : TK P (pure a : Sem α) := fun w v w' h => by
  change Result.ok a w = .ok v w' at h
  injection h with _ h
  rw [h]
theorem TK.bind {α β : Type} {P : Program} {s : Sem α} {f : α → Sem β} (h : TK P s) (g : ∀ a, TK P (f a)) : TK P (s >>= f) := fun w v w' e => by
  rw [Sem.run_bind] at e
  cases hs : s.run P w with
  | ok a w1 => rw [hs] at e; exact (g a w1 v w' e).trans (h w a w1 hs)
  | _ => rw [hs] at e; simp [Result.andThen] at e
theorem TK.halt {α : Type} {P : Program} (x : Halt) : TK P (Sem.halt x : Sem α) := fun w v w' e => by simp [Sem.run] at e
theorem TK.getObj {P : Program} (r : Nat) : TK P (getObj r) := fun w v w' e => by
  unfold Go.getObj at e
  simp only [Sem.run] at e
  split at e
  · cases e
  · injection e with _ e; rw [e]
  · cases e
theorem TK.setObj {P : Program} (r : Nat) (o : Obj) : TK P (setObj r o) := fun w v w' e => by
  unfold Go.setObj at e
  simp only [Sem.run] at e
  split at e
  · cases e
  · injection e with _ e; rw [← e]
  · cases e
theorem TK.choose {P : Program} (q : Question) : TK P (choose q) := fun w v w' e => by
  unfold Go.choose at e
  simp only [Sem.run] at e
  split at e
  · injection e with _ e; rw [e]
  · injection e with _ e; rw [← e]
theorem TK.next {P : Program} (r : Nat) (ty : TypeId) : TK P (Instr.next (.pointer (some ⟨r, 0, none⟩)) false ty) := by
  unfold Instr.next
  refine TK.bind (TK.getObj r) fun o => ?_
  split
  · rename_i h; cases h
  · exact TK.pure _
  · refine TK.bind (TK.getObj _) fun o2 => ?_
    split
    · split
      · exact TK.bind (TK.halt _) fun _ => TK.bind (TK.choose _) fun _ => by
          split
          · exact TK.bind (TK.setObj _ _) fun _ => TK.pure _
          · exact TK.pure _
          · exact TK.halt _
      · exact TK.bind (TK.choose _) fun _ => by
          split
          · exact TK.bind (TK.setObj _ _) fun _ => TK.pure _
          · exact TK.pure _
          · exact TK.halt _
    · exact TK.halt _
  · exact TK.halt _

theorem But.alike {w w1 : World} (h : w1.Alike w) (t : w1.tape = w.tape) : But (fun _ => False) w w1 :=
  ⟨h.2.1, t, h.2.2, by rw [h.1]; exact Nat.le_refl _, fun k _ _ => by rw [h.1]⟩

/-- How long a slice is. -/
def lenV : Value → Nat | .slice _ n _ => n | _ => 0
def asLen (e : MapEntry) : MapEntry := { e with val := .int .i64 (lenV e.val) }
def seenLen (es : List MapEntry) (seen : Array Nat) : Int := seenSum (es.map asLen) seen
def tot {α : Type} (L : List (α × Value)) : Nat := (L.map (fun p => lenV p.2)).sum

theorem asLen_born (es : List MapEntry) : (es.map asLen).map (·.born) = es.map (·.born) := by rw [List.map_map]; rfl
theorem seenLen_none (es : List MapEntry) : seenLen es #[] = 0 := seenSum_none _
theorem seenLen_push (seen : Array Nat) (e : MapEntry) (hs : seen.contains e.born = false) (es : List MapEntry) (hn : (es.map (·.born)).Nodup) (he : e ∈ es) : seenLen es (seen.push e.born) = seenLen es seen + lenV e.val :=
  seenSum_push seen (asLen e) hs (es.map asLen) (by rw [asLen_born]; exact hn) (List.mem_map.2 ⟨e, he, rfl⟩)
theorem seenLen_all (es : Array MapEntry) (seen : Array Nat) (h : (leftOf es seen).size = 0) : seenLen es.toList seen = ((es.toList.map (fun e => lenV e.val)).sum : Nat) := by
  unfold seenLen
  rw [seenSum_full seen _ (fun x hx => by
    obtain ⟨y, hy, rfl⟩ := List.mem_map.1 hx
    exact all_seen es seen h y hy)]
  generalize es.toList = l
  induction l with
  | nil => rfl
  | cons e l ih => simp only [List.map_cons, List.sum_cons]; rw [ih]; simp [asLen, valOf]
theorem seenSum_bound (seen : Array Nat) : ∀ es : List MapEntry, (0 : Int) ≤ seenLen es seen ∧ seenLen es seen ≤ ((es.map (fun e => lenV e.val)).sum : Nat)
  | [] => ⟨Int.le_refl _, Int.le_refl _⟩
  | e :: es => by
    have ih := seenSum_bound seen es
    unfold seenLen at ih ⊢
    simp only [List.map_cons, List.sum_cons, seenSum]
    have hv : valOf (asLen e).val = lenV e.val := rfl
    split <;> (try simp only [hv]) <;> omega

theorem tot_rep {α : Type} [DecidableEq α] {a : α} {v : Value} : ∀ (L : List (α × Value)), (L.map (·.1)).Nodup → ∀ u, look L a = some u → tot (L.map fun p => if p.1 = a then (a, v) else p) + lenV u = tot L + lenV v
  | [], _, u, h => by simp [look] at h
  | p :: L, hn, u, h => by
    simp only [List.map_cons, List.nodup_cons] at hn
    by_cases hp : p.1 = a
    · have hu : p.2 = u := by
        unfold look at h
        rw [List.find?_cons_of_pos (by simpa using hp)] at h
        simpa using h
      have hrest : (L.map fun p => if p.1 = a then (a, v) else p) = L := by
        have : ∀ q ∈ L, (if q.1 = a then (a, v) else q) = q := fun q hq => if_neg (fun e => hn.1 (List.mem_map.2 ⟨q, hq, by rw [e, hp]⟩))
        calc (L.map fun p => if p.1 = a then (a, v) else p) = L.map id := List.map_congr_left this
          _ = L := by simp
      simp only [tot, List.map_cons, List.sum_cons]
      rw [hrest, if_pos hp, hu]
      simp only []
      omega
    · have h2 : look L a = some u := by
        unfold look at h ⊢
        rw [List.find?_cons_of_neg (by simpa using hp)] at h
        exact h
      have ih := tot_rep L hn.2 u h2 (v := v)
      simp only [tot, List.map_cons, List.sum_cons] at ih ⊢
      rw [if_neg hp]
      omega
theorem tot_put {α : Type} [DecidableEq α] {L : List (α × Value)} (hn : (L.map (·.1)).Nodup) (a : α) (v z : Value) (hz : lenV z = 0) : tot (put L a v) + lenV ((look L a).getD z) = tot L + lenV v := by
  unfold put
  cases hl : look L a with
  | none =>
    simp only [Option.isSome_none, Bool.false_eq_true, if_false, Option.getD_none, hz]
    simp [tot]
  | some u =>
    simp only [Option.isSome_some, if_true, Option.getD_some]
    exact tot_rep L hn u hl

end Go.Proofs.YtldgjmgdbaeglaaDoor
