/- The program's Counts of layer 10, walked. -/
import Derived.Test.YtldgjmgdbaeglaaGraphRight
import Derived.Test.YtldgjmgdbaeglaaGraphRef3
set_option linter.unusedVariables false
set_option linter.unusedSimpArgs false
namespace Go.Proofs.Ytldgjmgdbaeglaa
open Go.RowKit

namespace Graph

theorem made_intsV (n : Nat) : madeCells #[.int .i64 0] n = (ints (List.replicate n 0)).toArray := by
  apply Array.ext'; rw [toList_madeCells_one]; unfold ints; simp
theorem mk_intsV (n : Nat) (hn : n ≤ 65536) (w : World) : (Instr.makeSlice 43 (.int .i64 n) (.int .i64 n)).run Try.prog w = .ok (.slice (some ⟨w.heap.size, 0, none⟩) n n) (w.alloc (.cells (ints (List.replicate n 0)).toArray 3)) := by
  obtain ⟨i0, hi, hz0, hz1, hz2⟩ := info_parts infoInt
  have h := run_make w 43 3 i0 (.int .i64 0) Try.underlying43 hi hz0 .i64 .i64 n n (by omega) (Int.le_refl _) (by rw [hz2]; omega) (by omega)
  rw [h, hz1]
  simp only [Int.toNat_natCast, Nat.mul_one]
  rw [show (Value.int .i64 0).cells = #[.int .i64 0] from rfl, made_intsV]

/-- Numbers that rise are no two of them one. -/
theorem rise_lt {l : List Nd} (h : riseB (idsOf l) = true) {i : Nat} : ∀ {k}, i < k → k < l.length → (nd l i).id < (nd l k).id
  | 0, hik, _ => absurd hik (Nat.not_lt_zero i)
  | k + 1, hik, hk => by
    rw [riseB_iff] at h
    have h1 := (h (k + 1) (by rw [idsOf_length]; exact hk)).2 (by omega)
    rw [show k + 1 - 1 = k from rfl, idsOf_nth (by omega), idsOf_nth hk] at h1
    by_cases e : i = k
    · subst e; exact h1
    · have := rise_lt ((riseB_iff _).2 h) (i := i) (k := k) (by omega) (by omega)
      omega
theorem rise_inj {l : List Nd} (h : riseB (idsOf l) = true) {i k : Nat} (hi : i < l.length) (hk : k < l.length) (e : (nd l i).id = (nd l k).id) : i = k := by
  rcases Nat.lt_trichotomy i k with q | q | q
  · have := rise_lt h q hk; omega
  · exact q
  · have := rise_lt h q hi; omega
theorem right_parts {l : List Nd} {R : List Int} (h : rightB l R = true) : (∀ i, i < l.length → withinB (nd l i).out (idsOf l) = true) ∧ riseB (idsOf l) = true ∧ riseB R = true ∧ withinB R (idsOf l) = true := by
  unfold rightB at h
  simp only [Bool.and_eq_true] at h
  exact ⟨(all_nd _ _).1 h.1.1.1, h.1.1.2, h.1.2, h.2⟩
/-- A number that is a node's: its place. -/
theorem place_of {l : List Nd} (h : riseB (idsOf l) = true) {x : Int} (hx : x ∈ idsOf l) : ∃ i, i < l.length ∧ (nd l i).id = x ∧ look (placesTo l l.length) x = some (.int .i64 (i : Int)) := by
  rcases places_look (l := l) (x := x) l.length with ⟨-, h2⟩ | q
  · obtain ⟨i, hi, e⟩ := mem_nthI hx
    rw [idsOf_length] at hi
    rw [idsOf_nth hi] at e
    exact absurd e (h2 i hi)
  · exact q

/-- The counts so far: c k is that of node k. -/
def Cnt (l : List Nd) (s : List Int) (c : Nat → Nat) : Prop := s.length = l.length ∧ ∀ k, k < l.length → nthI s k = (c k : Int)
theorem Cnt.bump {l : List Nd} {s : List Int} {c : Nat → Nat} (h : Cnt l s c) {i : Nat} (hi : i < l.length) : Cnt l (s.set i ((c i : Int) + 1)) (fun k => c k + if k = i then 1 else 0) := by
  refine ⟨by rw [List.length_set]; exact h.1, fun k hk => ?_⟩
  rw [nthI_set (by rw [h.1]; exact hi)]
  by_cases e : i = k
  · subst e; simp
  · have e2 : ¬ k = i := fun q => e q.symm
    rw [if_neg e, h.2 k hk]; simp [e2]

def outs (ob : Nat) (s : List Int) (mb : Nat) (L : List (Int × Value)) (b : Nat) (a : Option Addr) (n cap : Nat) (ra : Option Addr) (rn rc : Nat) : List Pc :=
  [Pc.row 3 1 (.slice (some ⟨ob, 0, none⟩) n n) (some ob) n (ints s), Pc.mp mb L, Pc.blk b #[.slice a n cap, .slice ra rn rc] 47]
theorem outs.at_ {w w2 : World} {ob : Nat} {s : List Int} {mb : Nat} {L : List (Int × Value)} {b : Nat} {a : Option Addr} {n cap : Nat} {ra : Option Addr} {rn rc : Nat} (h : Own w w2 (outs ob s mb L b a n cap ra rn rc)) {m : Nat} (hm : m < n) :
    w2.cell? ⟨ob, m, none⟩ = some (.int .i64 (nthI s m)) ∧ w2.frozen? ⟨ob, m, none⟩ = false := by
  have h1 : Row w2 3 1 (.slice (some ⟨ob, 0, none⟩) n n) (some ob) n (ints s) := h.get 0 rfl
  obtain ⟨cb, coff, e, -, -, h2, h3, -⟩ := row_nth h1 hm
  simp at e
  obtain ⟨rfl, rfl⟩ := e
  rw [Nat.zero_add] at h2 h3
  exact ⟨h2, h3⟩
theorem outs.set {w w2 : World} {ob : Nat} {s : List Int} {mb : Nat} {L : List (Int × Value)} {b : Nat} {a : Option Addr} {n cap : Nat} {ra : Option Addr} {rn rc : Nat} (h : Own w w2 (outs ob s mb L b a n cap ra rn rc)) {m : Nat} (hm : m < n) (x : Int) :
    Own w (w2.setCell ⟨ob, m, none⟩ (.int .i64 x)) (outs ob (s.set m x) mb L b a n cap ra rn rc) := by
  have h1 : Row w2 3 1 (.slice (some ⟨ob, 0, none⟩) n n) (some ob) n (ints s) := h.get 0 rfl
  have h2 := h1.set (j := m) (by omega) (.int .i64 x)
  rw [Nat.zero_add, ints_set] at h2
  exact h.put 0 (q := Pc.row 3 1 (.slice (some ⟨ob, 0, none⟩) n n) (some ob) n (ints (s.set m x))) rfl h2 ((But.one ob m (.int .i64 x)).mono (fun k hk => .inl (by subst hk; rfl))) (fun k q => .inl q)

/-- Where a bump leads: from the first m of some numbers to the first m + 1. -/
theorem Cnt.next {l : List Nd} {s : List Int} {base : Nat → Nat} {xs : List Int} {m i : Nat} (hr : riseB (idsOf l) = true) (h : Cnt l s (fun k => base k + times (xs.take m) (nd l k).id)) (hm : m < xs.length) (hi : i < l.length) (e : (nd l i).id = nthI xs m) :
    Cnt l (s.set i (nthI s i + 1)) (fun k => base k + times (xs.take (m + 1)) (nd l k).id) := by
  have h2 := h.bump hi
  rw [h.2 i hi]
  refine ⟨h2.1, fun k hk => ?_⟩
  rw [h2.2 k hk]
  congr 1
  show base k + times (xs.take m) (nd l k).id + _ = base k + times (xs.take (m + 1)) (nd l k).id
  rw [times_take hm, ← e, Nat.add_assoc]
  congr 2
  by_cases q : k = i
  · subst q; simp
  · rw [if_neg q, if_neg (fun z => q (rise_inj hr hi hk z).symm)]

set_option maxHeartbeats 8000000 in
set_option maxRecDepth 100000 in
theorem counts_any (a : Option Addr) (n cap : Nat) (l : List Nd) (ra : Option Addr) (rn rc : Nat) (R : List Int) (w : World) (h : Nodes w a n l) (hr : Nums w ra rn R) (hn : n ≤ 65536) (hrn : rn ≤ 1000000) (ho : ∀ i, i < n → (nd l i).out.length ≤ 1000000) :
    Calls Try.prog 35 #[.agg #[.slice a n cap, .slice ra rn rc]] w fun e w' => ∃ m, Copied (ints (countsR l R)) m w e w' := by
  have H := Lib.hid h
  have HR := Lib.hid hr
  have HL := Lib.hid h.len
  have HRL := Lib.hid hr.len
  have OUT := Lib.hid ho
  clear h hr ho
  have G0 := (But.refl (fun _ => False) w).alloc (.cells #[.slice a n cap, .slice ra rn rc] 47)
  have O0 := boxed.start (w := w) (a := a) (n := n) (cap := cap) (ra := ra) (rn := rn) (rc := rc) (But.refl _ _)
  obtain ⟨k0, k1, -⟩ := boxed.cells O0
  go_enter Try.func35, Try.ntmps35
  go_wp2_with fail
  refine (right_any a n cap l ra rn rc R _ (H.out.keep G0) (HR.out.keep G0) (by omega) hrn OUT.out).mono ?_
  rintro e w2 ⟨rfl, g2⟩
  have O2 := Lib.hid (O0.same g2)
  obtain ⟨b, hb⟩ : ∃ b, b = w.heap.size := ⟨_, rfl⟩
  rw [← hb] at O2 ⊢
  clear k0 k1 O0 G0 g2 hb
  cases hrt : rightB l R with
  | false =>
    have HRT := Lib.hid hrt
    clear hrt
    go_wp2_with fail
    go_ret
    refine ⟨0, ?_⟩
    rw [countsR_no HRT.out]
    exact boxed.copied O2.out
  | true =>
    have HRT := Lib.hid hrt
    have RP := Lib.hid (right_parts hrt)
    obtain ⟨k0, k1, hbl⟩ := boxed.cells O2.out
    clear hrt
    go_wp2_with fail
    refine (places_any a n cap l ra rn rc _ (H.out.keep O2.out.but) (by omega)).mono ?_
    rintro e w3 ⟨mb, rfl, hM, hmb, g3⟩
    have O3 := Lib.hid (O2.out.drop.add (q := Pc.mp mb (placesTo l n)) hM g3 (fun k q => by have : k = mb := q; omega))
    clear k0 k1 hbl hM hmb g3
    have hB3 : Blk w3 b #[.slice a n cap, .slice ra rn rc] 47 := O3.out.get 1 rfl
    have k0 : w3.cell? ⟨b, 0, none⟩ = some (.slice a n cap) := hB3.cell 0
    have k1 : w3.cell? ⟨b, 1, none⟩ = some (.slice ra rn rc) := hB3.cell 1
    have hbl := hB3.lt
    have hmk := mk_intsV n hn w3
    clear hB3
    go_wp2_with fail
    obtain ⟨ob, hob⟩ : ∃ ob, ob = w3.heap.size := ⟨_, rfl⟩
    have O4 : Own w (w3.alloc (.cells (ints (List.replicate n 0)).toArray 3)) (outs ob (List.replicate n 0) mb (placesTo l n) b a n cap ra rn rc) :=
      O3.out.add (q := Pc.row 3 1 (.slice (some ⟨ob, 0, none⟩) n n) (some ob) n (ints (List.replicate n 0))) (by rw [hob]; exact Row.new w3 _ 1 n _ (by rw [ints_length, List.length_replicate]) (by unfold maxLen; omega)) ((But.refl _ _).alloc _) (fun k hk => by have : some ob = some k := hk; injection this; omega)
    rw [← hob]
    have O4 := Lib.hid O4
    clear hmk k0 k1 hbl hob O3 O2
    go_loopg [23] n (fun k iv wr => ∃ (j : Nat) (s : List Int), j + k = n ∧ iv = .int .i64 j ∧ Own w wr (outs ob s mb (placesTo l n) b a n cap ra rn rc) ∧ Cnt l s (fun k => sumTo l (nd l k).id j))
    case atStart => exact ⟨0, _, by omega, rfl, O4.out, by simp [HL.out], fun k hk => by rw [HL.out] at hk; unfold nthI; simp [List.getD_eq_getElem?_getD, List.getElem?_replicate, sumTo, hk]⟩
    case round =>
      clear O4
      obtain ⟨j, s, hj, rfl, hO, hC⟩ := hrel
      have HO := Lib.hid hO
      have HC := Lib.hid hC
      clear hO hC
      by_cases hlt : j < n
      · obtain ⟨nb, off, oa, on, oc, rfl, hnb, c0w, c1w, -, -, hout⟩ := H.out.at_ j hlt
        have hkk := HO.out.but.block nb hnb (fun q => q)
        have c0 : wr.cell? ⟨nb, off + j * 2, none⟩ = some (.int .i64 (nd l j).id) := by rw [← c0w]; exact World.cell?_of_block (w := w) hkk
        have c1 : wr.cell? ⟨nb, off + j * 2 + 1, none⟩ = some (.slice oa on oc) := by rw [← c1w]; exact World.cell?_of_block (w := w) hkk
        have hnb2 : nb < wr.heap.size := Nat.lt_of_lt_of_le hnb HO.out.but.size
        have hol := OUT.out j hlt
        rw [hout.len] at hol
        have HIN := Lib.hid ((withinB_iff _ _).1 (RP.out.1 j (by rw [HL.out]; exact hlt)))
        have OO := Lib.hid hout
        clear hout hkk c0w c1w
        obtain ⟨y, hy⟩ : ∃ y, (nd l j).id = y := ⟨_, rfl⟩
        rw [hy] at c0
        clear hy
        go_wp2_with fail
        have O5 := Lib.hid (HO.out.same ((But.refl _ wr).alloc (.cells #[.int .i64 y, .slice oa on oc] 54)))
        obtain ⟨w5, hw5⟩ : ∃ w5, w5 = wr.alloc (.cells #[.int .i64 y, .slice oa on oc] 54) := ⟨_, rfl⟩
        rw [← hw5] at O5 ⊢
        clear hw5 c0 c1 hnb hnb2
        go_loopg [30] on (fun k mv wr => ∃ (m : Nat) (s2 : List Int), m + k = on ∧ mv = .int .i64 m ∧ Own w wr (outs ob s2 mb (placesTo l n) b (some ⟨nb, off, none⟩) n cap ra rn rc) ∧ Cnt l s2 (fun k => sumTo l (nd l k).id j + times ((nd l j).out.take m) (nd l k).id))
        case atStart => exact ⟨0, s, by omega, rfl, O5.out, by simpa [times] using HC.out⟩
        case round =>
          clear O5
          obtain ⟨m, s2, hm, rfl, hO2, hC2⟩ := hrel
          have HO2 := Lib.hid hO2
          have HC2 := Lib.hid hC2
          clear hO2 hC2
          by_cases hmn : m < on
          · skip
            obtain ⟨xb, xoff, rfl, hxb, cx⟩ := (OO.out.keep HO2.out.but).at_ m hmn
            have hml : m < ((nd l j).out).length := by rw [OO.out.len]; exact hmn
            obtain ⟨i, hil, hie, hlk⟩ := place_of RP.out.2.1 (HIN.out m hml)
            have hin : i < n := by rw [← HL.out]; exact hil
            obtain ⟨mi, fi⟩ := outs.at_ HO2.out hin
            have CN := Lib.hid (HC2.out.next RP.out.2.1 hml hil hie)
            have hvi := HC2.out.2 i hil
            have hs1 := sumTo_le (l := l) (x := (nd l i).id) (fun q hq => OUT.out q (by rw [HL.out] at hq; exact hq)) (j := j) (by rw [HL.out]; omega)
            have ht1 := times_le (((nd l j).out).take m) (nd l i).id
            rw [List.length_take] at ht1
            obtain ⟨v, hv⟩ : ∃ v, nthI s2 i = v := ⟨_, rfl⟩
            rw [hv] at mi CN hvi
            have hv0 : 0 ≤ v ∧ v ≤ 1000001000000 := by
              constructor
              · rw [hvi]; exact Int.natCast_nonneg _
              · rw [hvi]
                have : sumTo l (nd l i).id j + times (((nd l j).out).take m) (nd l i).id ≤ 1000001000000 := by omega
                show ((sumTo l (nd l i).id j + times (((nd l j).out).take m) (nd l i).id : Nat) : Int) ≤ 1000001000000
                omega
            clear hvi hs1 ht1 hv
            obtain ⟨x, hx⟩ : ∃ x, nthI ((nd l j).out) m = x := ⟨_, rfl⟩
            rw [hx] at cx hlk
            rw [HL.out] at hlk
            have LK := Lib.hid (show (look (placesTo l n) x).getD (.int .i64 0) = .int .i64 (i : Int) by rw [hlk]; rfl)
            clear hx hlk hie
            have HMP := Lib.hid (show Mp wr mb (fun n : Int => Value.int .i64 n) (placesTo l n) from HO2.out.get 1 rfl)
            go_wp2_with (at_lookup; refine wpList_look1 HMP.out rfl _ _ _ rfl keyI Try.underlying85 (.int .i64 0) (zeroInt _) rfl x rfl (.int .i64 (i : Int)) LK.out ?_)
            go_roundg (on - (m + 1))
            case measure => omega
            case rel => exact ⟨m + 1, _, by omega, by go_num, outs.set HO2.out hin (v + 1), CN.out⟩
          · obtain rfl : m = on := by omega
            go_wp2_with fail
            go_roundg (n - (j + 1))
            case measure => omega
            case rel => exact ⟨j + 1, s2, by omega, by go_num, HO2.out, by
              have := HC2.out
              rw [List.take_of_length_le (by rw [OO.out.len]; exact Nat.le_refl _)] at this
              exact this⟩
      · obtain rfl : j = n := by omega
        have hB : Blk wr b #[.slice a j cap, .slice ra rn rc] 47 := HO.out.get 2 rfl
        have k1 : wr.cell? ⟨b, 1, none⟩ = some (.slice ra rn rc) := hB.cell 1
        have OO := HR
        have HIN := Lib.hid ((withinB_iff _ _).1 RP.out.2.2.2)
        go_wp2_with fail
        go_loopg [47] rn (fun k mv wr => ∃ (m : Nat) (s2 : List Int), m + k = rn ∧ mv = .int .i64 m ∧ Own w wr (outs ob s2 mb (placesTo l j) b a j cap ra rn rc) ∧ Cnt l s2 (fun k => sumTo l (nd l k).id j + times (R.take m) (nd l k).id))
        case atStart => exact ⟨0, s, by omega, rfl, HO.out, by simpa [times] using HC.out⟩
        case round =>
          clear HO k1 hB
          obtain ⟨m, s2, hm, rfl, hO2, hC2⟩ := hrel
          have HO2 := Lib.hid hO2
          have HC2 := Lib.hid hC2
          clear hO2 hC2
          by_cases hmn : m < rn
          · skip
            obtain ⟨xb, xoff, rfl, hxb, cx⟩ := (OO.out.keep HO2.out.but).at_ m hmn
            have hml : m < (R).length := by rw [OO.out.len]; exact hmn
            obtain ⟨i, hil, hie, hlk⟩ := place_of RP.out.2.1 (HIN.out m hml)
            have hin : i < j := by rw [← HL.out]; exact hil
            obtain ⟨mi, fi⟩ := outs.at_ HO2.out hin
            have CN := Lib.hid (HC2.out.next RP.out.2.1 hml hil hie)
            have hvi := HC2.out.2 i hil
            have hs1 := sumTo_le (l := l) (x := (nd l i).id) (fun q hq => OUT.out q (by rw [HL.out] at hq; exact hq)) (j := j) (by rw [HL.out]; omega)
            have ht1 := times_le ((R).take m) (nd l i).id
            rw [List.length_take] at ht1
            obtain ⟨v, hv⟩ : ∃ v, nthI s2 i = v := ⟨_, rfl⟩
            rw [hv] at mi CN hvi
            have hv0 : 0 ≤ v ∧ v ≤ 1000001000000 := by
              constructor
              · rw [hvi]; exact Int.natCast_nonneg _
              · rw [hvi]
                have : sumTo l (nd l i).id j + times ((R).take m) (nd l i).id ≤ 1000001000000 := by omega
                show ((sumTo l (nd l i).id j + times ((R).take m) (nd l i).id : Nat) : Int) ≤ 1000001000000
                omega
            clear hvi hs1 ht1 hv
            obtain ⟨x, hx⟩ : ∃ x, nthI (R) m = x := ⟨_, rfl⟩
            rw [hx] at cx hlk
            rw [HL.out] at hlk
            have LK := Lib.hid (show (look (placesTo l j) x).getD (.int .i64 0) = .int .i64 (i : Int) by rw [hlk]; rfl)
            clear hx hlk hie
            have HMP := Lib.hid (show Mp wr mb (fun n : Int => Value.int .i64 n) (placesTo l j) from HO2.out.get 1 rfl)
            go_wp2_with (at_lookup; refine wpList_look1 HMP.out rfl _ _ _ rfl keyI Try.underlying85 (.int .i64 0) (zeroInt _) rfl x rfl (.int .i64 (i : Int)) LK.out ?_)
            go_roundg (rn - (m + 1))
            case measure => omega
            case rel => exact ⟨m + 1, _, by omega, by go_num, outs.set HO2.out hin (v + 1), CN.out⟩
          · obtain rfl : m = rn := by omega
            have HE := Lib.hid (show s2 = countsOf l R from nthI_ext (by rw [HC2.out.1, countsOf_length]) (fun k hk => by
              have hk' : k < l.length := by rw [HC2.out.1] at hk; exact hk
              have := HC2.out.2 k hk'
              rw [this, List.take_of_length_le (by rw [OO.out.len]; exact Nat.le_refl _)]
              unfold countsOf nthI
              rw [List.getD_eq_getElem?_getD, List.getElem?_map, List.getElem?_range hk']
              show _ = countOf l R k
              unfold countOf
              rw [HL.out]
              push_cast
              omega))
            go_wp2_with fail
            go_ret
            refine ⟨j, ?_⟩
            rw [countsR_yes HRT.out, ← HE.out]
            exact ⟨_, some ob, rfl, HO2.out.get 0 rfl, fun k hk => HO2.out.new 0 (by simp [outs]) k hk, HO2.out.but⟩

end Graph
end Go.Proofs.Ytldgjmgdbaeglaa
