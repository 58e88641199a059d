/- The document's Names for layer 22, walked. -/
import Derived.Test.YtgbcbadccahfcaaNamesRefNames
import Derived.Laws.Cover1
set_option linter.unusedVariables false
set_option linter.unusedSimpArgs false
namespace Go.Proofs.Ytgbcbadccahfcaa
open Go.RowKit

namespace Names
open Lex

abbrev nd (K : List Wd) (k : Nat) : List UInt8 := (nm K k).data.toList
/-- The least name above a text, of the first m; none: nothing. -/
def bestTo (K : List Wd) (l : List UInt8) : Nat → List UInt8
  | 0 => []
  | m + 1 => if l < nd K m ∧ (bestTo K l m = [] ∨ nd K m < bestTo K l m) then nd K m else bestTo K l m
theorem best_is {K : List Wd} {l : List UInt8} {n : Nat} (hne : ∀ i, i < n → nd K i ≠ []) : ∀ m, m ≤ n →
    (bestTo K l m = [] ∧ ∀ i, i < m → ¬ l < nd K i) ∨ (∃ i, i < m ∧ bestTo K l m = nd K i ∧ l < nd K i ∧ ∀ j, j < m → l < nd K j → nd K i ≤ nd K j)
  | 0, _ => .inl ⟨rfl, fun i hi => absurd hi (Nat.not_lt_zero i)⟩
  | m + 1, h => by
    have ih := best_is (l := l) hne m (by omega)
    unfold bestTo
    by_cases hx : l < nd K m
    · rcases ih with ⟨h1, h2⟩ | ⟨i, hi, h1, h2, h3⟩
      · rw [if_pos ⟨hx, .inl h1⟩]
        refine .inr ⟨m, by omega, rfl, hx, fun j hj hlj => ?_⟩
        rcases Nat.lt_or_ge j m with q | q
        · exact absurd hlj (h2 j q)
        · rw [show j = m by omega]; exact List.le_refl _
      · by_cases hb : nd K m < bestTo K l m
        · rw [if_pos ⟨hx, .inr hb⟩]
          refine .inr ⟨m, by omega, rfl, hx, fun j hj hlj => ?_⟩
          rcases Nat.lt_or_ge j m with q | q
          · rw [h1] at hb
            exact List.le_trans (List.le_of_lt hb) (h3 j q hlj)
          · rw [show j = m by omega]; exact List.le_refl _
        · rw [if_neg (fun q => by
            rcases q.2 with r | r
            · rw [h1] at r; exact hne i (by omega) r
            · exact hb r)]
          refine .inr ⟨i, by omega, h1, h2, fun j hj hlj => ?_⟩
          rcases Nat.lt_or_ge j m with q | q
          · exact h3 j q hlj
          · rw [show j = m by omega, ← h1]
            exact List.not_lt.1 hb
    · rw [if_neg (fun q => hx q.1)]
      rcases ih with ⟨h1, h2⟩ | ⟨i, hi, h1, h2, h3⟩
      · refine .inl ⟨h1, fun j hj => ?_⟩
        rcases Nat.lt_or_ge j m with q | q
        · exact h2 j q
        · rw [show j = m by omega]; exact hx
      · refine .inr ⟨i, by omega, h1, h2, fun j hj hlj => ?_⟩
        rcases Nat.lt_or_ge j m with q | q
        · exact h3 j q hlj
        · rw [show j = m by omega] at hlj; exact absurd hlj hx

/-- The text that was told last. -/
def prev (ss : List (List UInt8)) (t : Nat) : List UInt8 := if t = 0 then [] else ss.getD (t - 1) []
theorem Kp.mem {K L : List Wd} (h : Kp K L) {ss : List (List UInt8)} (hS : Sorted L ss) {i : Nat} (hi : i < K.length) : nd K i ∈ ss := by
  have h1 : nm K i ∈ keys L := by
    rw [← lk_mem, h.yes (nm K i) i hi rfl]; rfl
  exact hS.perm.mem_iff.2 (List.mem_map.2 ⟨_, h1, rfl⟩)
theorem Kp.idx {K L : List Wd} (h : Kp K L) {ss : List (List UInt8)} (hS : Sorted L ss) {j : Nat} (hj : j < ss.length) : ∃ i, i < K.length ∧ nd K i = ss[j] := by
  have := h.has hS hj
  unfold hasTo at this
  rw [List.any_eq_true] at this
  obtain ⟨i, hi, e⟩ := this
  exact ⟨i, List.mem_range.1 hi, by simpa using e⟩
theorem Sorted.lt {L : List Wd} {ss : List (List UInt8)} (h : Sorted L ss) (hn : (keys L).Nodup) {i j : Nat} (hij : i < j) (hj : j < ss.length) : ss[i] < ss[j] := by
  have h1 : ss[i] ≤ ss[j] := List.pairwise_iff_getElem.1 h.rise i j (by omega) hj hij
  have hnd : ss.Nodup := (List.Perm.nodup_iff h.perm).2 (List.pairwise_map.2 (hn.imp (fun hne e => hne (data_inj e))))
  have h2 := List.pairwise_iff_getElem.1 hnd i j (by omega) hj hij
  refine List.not_le.1 fun q => h2 (List.le_antisymm h1 q)
theorem best_next {K L : List Wd} (h : Kp K L) {ss : List (List UInt8)} (hS : Sorted L ss) (hn : (keys L).Nodup) (hne : ∀ i, i < K.length → nd K i ≠ []) {t : Nat} (ht : t ≤ ss.length) : bestTo K (prev ss t) K.length = ss.getD t [] := by
  have hb := best_is (l := prev ss t) hne K.length (Nat.le_refl _)
  by_cases hlt : t < ss.length
  · have hg : ss.getD t [] = ss[t] := by rw [List.getD_eq_getElem?_getD, List.getElem?_eq_getElem hlt]; rfl
    rw [hg]
    obtain ⟨i, hi, e⟩ := h.idx hS hlt
    have hly : prev ss t < ss[t] := by
      unfold prev
      split
      · rw [← e]
        have := hne i hi
        cases q : nd K i with
        | nil => exact absurd q this
        | cons a b => exact List.nil_lt_cons a b
      · rw [List.getD_eq_getElem?_getD, List.getElem?_eq_getElem (by omega)]
        exact hS.lt hn (by omega) hlt
    rcases hb with ⟨h1, h2⟩ | ⟨i0, hi0, h1, h2, h3⟩
    · exact absurd (by rw [e]; exact hly) (h2 i hi)
    · rw [h1]
      have hle : nd K i0 ≤ ss[t] := by rw [← e]; exact h3 i hi (by rw [e]; exact hly)
      obtain ⟨u, hu, eu⟩ := List.getElem_of_mem (h.mem hS hi0)
      refine List.le_antisymm hle ?_
      rw [← eu]
      rcases Nat.lt_or_ge u t with q | q
      · exfalso
        rw [← eu] at h2
        unfold prev at h2
        rw [if_neg (by omega), List.getD_eq_getElem?_getD, List.getElem?_eq_getElem (by omega)] at h2
        have hlt2 : ss[t - 1] < ss[u] := h2
        rcases Nat.lt_or_ge u (t - 1) with r | r
        · exact List.lt_irrefl _ (List.lt_trans hlt2 (hS.lt hn r (by omega)))
        · have : u = t - 1 := by omega
          subst this
          exact List.lt_irrefl _ hlt2
      · rcases Nat.lt_or_ge t u with r | r
        · exact List.le_of_lt (hS.lt hn r hu)
        · have : u = t := by omega
          subst this
          exact List.le_refl _
  · have hg : ss.getD t [] = [] := by rw [List.getD_eq_getElem?_getD, List.getElem?_eq_none (by omega)]; rfl
    rw [hg]
    rcases hb with ⟨h1, h2⟩ | ⟨i0, hi0, h1, h2, h3⟩
    · exact h1
    · exfalso
      obtain ⟨u, hu, eu⟩ := List.getElem_of_mem (h.mem hS hi0)
      rw [← eu] at h2
      unfold prev at h2
      rw [if_neg (by omega), List.getD_eq_getElem?_getD, List.getElem?_eq_getElem (by omega)] at h2
      have hlt2 : ss[t - 1] < ss[u] := h2
      rcases Nat.lt_or_ge u (t - 1) with r | r
      · exact List.lt_irrefl _ (List.lt_trans hlt2 (hS.lt hn r (by omega)))
      · have : u = t - 1 := by omega
        subst this
        exact List.lt_irrefl _ hlt2

theorem infoStr : (Try.prog.info? 9).map (fun i => (i.zero, i.size, i.bytes)) = some (some (.string ⟨#[]⟩), 1, 16) := by kernel_rfl
theorem encStr_of {s : ByteArray} {x : List UInt8} (h : s.data.toList = x) : encStr x = .string s := by
  subst h
  rcases s with ⟨d⟩
  rfl
theorem empty_txt (s : ByteArray) : s.toList.isEmpty = decide (s.data.toList = []) := by
  rw [Lib.toList_data, Bool.eq_iff_iff, List.isEmpty_iff, decide_eq_true_iff]

set_option maxHeartbeats 8000000 in
set_option maxRecDepth 100000 in
theorem ref_names {w : World} {a1 : Option Addr} {cap1 n : Nat} {o1 : Option Nat} {K L : List Wd} (hR : Row w 55 2 (.slice a1 n cap1) o1 n (cellsK K)) (hK : K.length = n) (hn : n ≤ 1000) (h : Kp K L) {ss : List (List UInt8)} (hS : Sorted L ss) (hnd : (keys L).Nodup) (hne : ∀ i, i < K.length → nd K i ≠ []) :
    Calls Try.prog 14 #[.slice a1 n cap1] w fun e w' => ∃ v o, e = .returned v ∧ Row w' 9 1 v o ss.length (ss.map encStr) ∧ (∀ k, o = some k → w.heap.size ≤ k) ∧ But (fun _ => False) w w' := by
  obtain ⟨i0, hi, hz0, hz1, hz2⟩ := info_parts infoStr
  obtain ⟨kb, koff, hA, hC⟩ := row_nm hR hK
  have HA := Lib.hid hA
  have HC := Lib.hid hC
  have hlen : ss.length ≤ 1000 := by rw [hS.len]; have := h.len; omega
  obtain ⟨N, hN⟩ : ∃ N, ss.length = N := ⟨_, rfl⟩
  have HN := Lib.hid hN
  have HB := Lib.hid (show ∀ t, t ≤ N → bestTo K (prev ss t) n = ss.getD t [] from fun t ht => by rw [← hK]; exact best_next h hS hnd hne (by omega))
  have HNE := Lib.hid (show ∀ t, t < N → ss.getD t [] ≠ [] from fun t ht => by
    rw [List.getD_eq_getElem?_getD, List.getElem?_eq_getElem (by omega)]
    obtain ⟨i, hi, e⟩ := h.idx hS (j := t) (by omega)
    show ss[t] ≠ []
    rw [← e]
    exact hne i hi)
  rw [hN] at hlen ⊢
  clear hR hK h hS hnd hne hA hC hN
  go_enter Try.func14, Try.ntmps14
  go_wp2_with fail
  go_loopg [3, 4] N (fun k ov lv wr => ∃ (t : Nat) (a3 : Option Addr) (cap3 : Nat) (o3 : Option Nat) (ls : ByteArray), t + k = N ∧ ov = .slice a3 t cap3 ∧ lv = .string ls ∧ ls.data.toList = prev ss t ∧ Row wr 9 1 (.slice a3 t cap3) o3 t ((ss.take t).map encStr) ∧ (∀ c, o3 = some c → w.heap.size ≤ c) ∧ But (fun _ => False) w wr)
  case atStart => exact ⟨0, none, 0, none, ⟨#[]⟩, by omega, rfl, rfl, rfl, Row.nil _ _ _, (fun c q => by cases q), But.refl _ w⟩
  case round =>
    obtain ⟨t, a3, cap3, o3, ls, ht, rfl, rfl, hls, hR3, hO3, hB3⟩ := hrel
    obtain ⟨w3, hw3⟩ : ∃ w3, w3 = wr := ⟨_, rfl⟩
    rw [← hw3] at hR3 hB3 ⊢
    clear hw3
    have HR3 := Lib.hid hR3
    have HO3 := Lib.hid hO3
    have HB3 := Lib.hid hB3
    have HLS := Lib.hid hls
    have HCW := Lib.hid (fun k hk => HC.out w3 hB3 k hk)
    clear hR3 hO3 hB3 hls
    go_wp2_with fail
    go_loopg [5, 6] n (fun k' bv iv wr' => ∃ (m : Nat) (bs : ByteArray), m + k' = n ∧ iv = .int .i64 m ∧ bv = .string bs ∧ bs.data.toList = bestTo K (prev ss t) m ∧ wr' = w3)
    case atStart => exact ⟨0, ⟨#[]⟩, by omega, rfl, rfl, rfl, rfl⟩
    case round =>
      obtain ⟨m, bs, hm, rfl, rfl, hbs, rfl⟩ := hrel
      have HBS := Lib.hid hbs
      clear hbs
      by_cases hlt : m < n
      · obtain rfl := HA.out (by omega)
        obtain ⟨c0, -⟩ := HCW.out m hlt
        have e1 : Op.bytesLess (nm K m).toList ls.toList = decide (nd K m < prev ss t) := by rw [Lib.toList_data, Lib.toList_data, bytesLess_eq, HLS.out]
        have e2 : ((nm K m).toList == ls.toList) = decide (nd K m = prev ss t) := by rw [Lib.toList_data, Lib.toList_data, HLS.out, Bool.eq_iff_iff, beq_iff_eq, decide_eq_true_iff]
        have e3 : bs.toList.isEmpty = decide (bestTo K (prev ss t) m = []) := by rw [empty_txt, HBS.out]
        have e4 : Op.bytesLess (nm K m).toList bs.toList = decide (nd K m < bestTo K (prev ss t) m) := by rw [Lib.toList_data, Lib.toList_data, bytesLess_eq, HBS.out]
        by_cases p1 : prev ss t < nd K m
        · rw [decide_eq_false (fun q => List.lt_irrefl _ (List.lt_trans p1 q))] at e1
          rw [decide_eq_false (fun q => by rw [q] at p1; exact List.lt_irrefl _ p1)] at e2
          by_cases p2 : bestTo K (prev ss t) m = []
          · rw [decide_eq_true p2] at e3
            have HV := Lib.hid (show nd K m = bestTo K (prev ss t) (m + 1) by unfold bestTo; rw [if_pos ⟨p1, .inl p2⟩])
            clear e4 p1 p2
            go_wp2_with fail
            go_roundg (n - (m + 1))
            case measure => omega
            case rel => exact ⟨m + 1, nm K m, by omega, by go_num, rfl, HV.out, rfl⟩
          · rw [decide_eq_false p2] at e3
            by_cases p3 : nd K m < bestTo K (prev ss t) m
            · rw [decide_eq_true p3] at e4
              have HV := Lib.hid (show nd K m = bestTo K (prev ss t) (m + 1) by unfold bestTo; rw [if_pos ⟨p1, .inr p3⟩])
              clear p1 p2 p3
              go_wp2_with fail
              go_roundg (n - (m + 1))
              case measure => omega
              case rel => exact ⟨m + 1, nm K m, by omega, by go_num, rfl, HV.out, rfl⟩
            · rw [decide_eq_false p3] at e4
              have HV := Lib.hid (show bs.data.toList = bestTo K (prev ss t) (m + 1) by unfold bestTo; rw [if_neg (fun q => by rcases q.2 with r | r; exact p2 r; exact p3 r)]; exact HBS.out)
              clear p1 p2 p3
              go_wp2_with fail
              go_roundg (n - (m + 1))
              case measure => omega
              case rel => exact ⟨m + 1, bs, by omega, by go_num, rfl, HV.out, rfl⟩
        · have HV := Lib.hid (show bs.data.toList = bestTo K (prev ss t) (m + 1) by unfold bestTo; rw [if_neg (fun q => p1 q.1)]; exact HBS.out)
          by_cases p5 : nd K m = prev ss t
          · rw [decide_eq_true p5] at e2
            rw [decide_eq_false (fun q => by rw [p5] at q; exact List.lt_irrefl _ q)] at e1
            clear p1 p5 e3 e4
            go_wp2_with fail
            go_roundg (n - (m + 1))
            case measure => omega
            case rel => exact ⟨m + 1, bs, by omega, by go_num, rfl, HV.out, rfl⟩
          · rw [decide_eq_false p5] at e2
            rw [decide_eq_true (List.not_le.1 (fun q => p1 (by
              rcases List.le_iff_lt_or_eq.1 q with r | r
              · exact r
              · exact absurd r.symm p5)))] at e1
            clear p1 p5 e3 e4
            go_wp2_with fail
            go_roundg (n - (m + 1))
            case measure => omega
            case rel => exact ⟨m + 1, bs, by omega, by go_num, rfl, HV.out, rfl⟩
      · have hme : m = n := by omega
        have hb := HB.out t (by omega)
        have hbs := HBS.out
        rw [hme, hb] at hbs
        clear hb hme
        by_cases htn : t < N
        · have he : bs.toList.isEmpty = false := by rw [empty_txt, hbs, decide_eq_false (HNE.out t htn)]
          have HX := Lib.hid (show (ss.take t).map encStr ++ [.string bs] = (ss.take (t + 1)).map encStr by
            have hl := HN.out
            rw [List.take_add_one, List.map_append, List.getElem?_eq_getElem (by omega)]
            rw [List.getD_eq_getElem?_getD, List.getElem?_eq_getElem (by omega)] at hbs
            have : encStr ss[t] = .string bs := encStr_of hbs
            simp [this])
          have HP := Lib.hid (show bs.data.toList = prev ss (t + 1) by unfold prev; rw [if_neg (by omega)]; exact hbs)
          clear hbs
          go_wp2_with (first
            | (at_builtin; have HH := HR3.out.alloc (.cells #[.string bs] 9); refine wpList_append_row _ rfl _ _ _ rfl 9 i0 (.string ⟨#[]⟩) 1 16 Try.underlying46 hi hz0 hz1 hz2 rfl (by decide) _ o3 t ((ss.take t).map encStr) HH (by rfl) ⟨wr.heap.size, 0, none⟩ 1 1 [.string bs] (by rfl) (by rfl) (new_src wr [.string bs] _) (by simp [Value.oneCell']) (by unfold maxLen; omega) (by omega) ?_; intro v4 w4 o4 hR4 hB4 hN4; obtain ⟨a4, cap4, rfl, -, -⟩ := hR4.val))
          have HR4 := Lib.hid (show Row w4 9 1 (.slice a4 (t + 1) cap4) o4 (t + 1) ((ss.take (t + 1)).map encStr) by rw [← HX.out]; exact hR4)
          have HO4 := Lib.hid (show ∀ c, o4 = some c → w.heap.size ≤ c from fun c hc => by
            rcases hN4 c hc with q | q
            · exact HO3.out c q
            · have h2 := HB3.out.size
              have h3 : wr.heap.size + 1 ≤ c := by simpa using q
              omega)
          have HB4 := Lib.hid ((HB3.out.alloc _).trans' hB4 (fun c hc => .inr (HO3.out c hc)))
          clear hR4 hB4 hN4
          go_roundg (N - (t + 1))
          case measure => omega
          case rel => exact ⟨t + 1, a4, cap4, o4, bs, by omega, rfl, rfl, HP.out, HR4.out, HO4.out, HB4.out⟩
        · have hte : t = N := by omega
          have he : bs.toList.isEmpty = true := by
            rw [empty_txt, hbs, List.getD_eq_getElem?_getD, List.getElem?_eq_none (by have := HN.out; omega)]
            rfl
          have hRR := HR3.out
          rw [List.take_of_length_le (by have := HN.out; omega)] at hRR
          have HRR := Lib.hid hRR
          clear hbs hRR
          subst hte
          go_wp2_with fail
          go_ret
          exact ⟨_, o3, rfl, HRR.out, HO3.out, HB3.out⟩

end Names
end Go.Proofs.Ytgbcbadccahfcaa
