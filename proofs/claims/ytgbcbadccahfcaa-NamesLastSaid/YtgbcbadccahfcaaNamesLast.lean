/- The law NamesLast of layer 22, walked: it answers true. -/
import Derived.Test.YtgbcbadccahfcaaNamesKept
import Derived.Test.YtgbcbadccahfcaaReads
import Derived.StillTailTactics
import Derived.BigQuiet
import Derived.Laws.Cover1
set_option linter.unusedVariables false
set_option linter.unusedSimpArgs false
namespace Go.Proofs.Ytgbcbadccahfcaa
open Go.RowKit Go.ChangeShapes Go.WideShapes

namespace Names
open Lex

theorem infoBound : (Try.prog.info? 34).map (fun i => (i.zero, i.size, i.bytes)) = some (some (.agg #[.string ⟨#[]⟩, .int .u64 0]), 2, 24) := by kernel_rfl

theorem n_bind2 {b mb : Nat} {L L' : List Wd} {w0 w : World} {s : ByteArray} {n e : Int} (h : Nw b mb L w0 w) (hs : s.size ≤ 1000000000) (hL : L.length ≤ 1000000) (h1 : (if nameB s = true then pt L s n else L) = L') (h2 : (if nameB s = true then (0 : Int) else 1) = e) :
    Calls Try.prog 7 #[.pointer (some ⟨b, 0, none⟩), .string s, .int .u64 n] w fun r w' => r = .returned (.int .i64 e) ∧ Nw b mb L' w0 w' ∧ But (fun k => k = mb) w w' := by
  have hb := bind_any h.bk s n hs hL
  rw [h1, h2] at hb
  exact hb.mono fun r w' ⟨a, B, g⟩ => ⟨a, ⟨B, h.but.trans' g (fun k hk => .inr (by rw [hk]; exact h.nb.2)), h.nb⟩, g⟩

def th (ss : List (List UInt8)) (k : Nat) : List UInt8 := ss.getD k []
theorem th_in {ss : List (List UInt8)} {k : Nat} (h : k < ss.length) : th ss k = ss[k] := by
  unfold th
  rw [List.getD_eq_getElem?_getD, List.getElem?_eq_getElem h]
  rfl

set_option maxHeartbeats 8000000 in
set_option maxRecDepth 100000 in
theorem last_any (a : Option Addr) (len cap : Nat) (V : Nat → Nat → Value) (S : Nat → ByteArray) (X : Nat → Int) (w : World) (hE : Els w a len 2 V) (hlen : len ≤ 1000000000000000)
    (hS : ∀ i, i < len → V i 0 = .string (S i) ∧ (S i).size ≤ maxLen) (hX : ∀ i, i < len → V i 1 = .int .u64 (X i) ∧ 0 ≤ X i ∧ X i ≤ 18446744073709551615) :
    Calls Try.prog 4 #[.slice a len cap] w fun e w' => e = .returned (.bool true) ∧ But (fun _ => False) w w' := by
  obtain ⟨i0, hi, hz0, hz1, hz2⟩ := info_parts infoBound
  by_cases hbig : 100 < len
  · go_enter Try.func4, Try.ntmps4
    go_wp2_with fail
    refine (alive_any _).mono ?_
    rintro e w1 ⟨rfl, g1⟩
    go_wp2_with fail
    go_ret
    exact ⟨rfl, g1⟩
  have hl : len ≤ 100 := by omega
  clear hbig
  go_enter Try.func4, Try.ntmps4
  go_wp2_with fail
  refine (new_any _).mono ?_
  rintro e w0 ⟨b, mb, rfl, H0, hb, hmb, g0⟩
  have HN0 := Lib.hid (show Nw b mb [] w w0 from ⟨H0, g0, hb, hmb⟩)
  clear H0 g0 hb hmb
  go_wp2_with fail
  go_loopg [4, 5] len (fun k kv iv wr => ∃ (j nK : Nat) (K L : List Wd) (a1 : Option Addr) (cap1 : Nat) (o1 : Option Nat), j + k = len ∧ iv = .int .i64 j ∧ nK = K.length ∧ nK ≤ j ∧ kv = .slice a1 nK cap1 ∧ Row wr 34 2 (.slice a1 nK cap1) o1 nK (cellsK K) ∧
    (∀ c, o1 = some c → w.heap.size ≤ c ∧ c ≠ b ∧ c ≠ mb) ∧ Kp K L ∧ Nw b mb L w wr)
  case atStart => exact ⟨0, 0, [], [], none, 0, none, by omega, rfl, rfl, by omega, rfl, Row.nil _ _ _, (fun c q => by cases q), Kp.nil, HN0.out⟩
  case round =>
    obtain ⟨j, nK, K, L, a1, cap1, o1, hj, rfl, hnK, hKj, rfl, hR, hO, hKp, hN⟩ := hrel
    clear HN0
    have HR := Lib.hid hR
    have HO := Lib.hid hO
    have HK := Lib.hid hKp
    have HN := Lib.hid hN
    have HNK := Lib.hid hnK
    clear hR hO hKp hN hnK
    by_cases hlt : j < len
    · obtain ⟨xb, xoff, rfl, hxb, hxc⟩ := hE.at_ j hlt
      have HC := Lib.hid (show ∀ w', But (fun _ => False) w w' → (w'.cell? ⟨xb, xoff + (j * 2), none⟩ = some (.string (S j)) ∧ w'.cell? ⟨xb, xoff + (j * 2) + 1, none⟩ = some (.int .u64 (X j))) from fun w' h => by
        have cc : ∀ i, w'.cell? ⟨xb, i, none⟩ = w.cell? ⟨xb, i, none⟩ := fun i => World.cell?_of_block (w := w) (h.block xb hxb (fun q => q))
        refine ⟨?_, ?_⟩
        · rw [cc, ← (hS j hlt).1, ← hxc 0 (by omega)]; rfl
        · rw [cc, ← (hX j hlt).1, ← hxc 1 (by omega)]; rfl)
      have bs := (hS j hlt).2
      have bx := (hX j hlt).2
      clear hxc
      obtain ⟨q0, q1⟩ := HC.out _ HN.out.but
      obtain ⟨s, hs⟩ : ∃ s, S j = s := ⟨_, rfl⟩
      obtain ⟨x, hx⟩ : ∃ x, X j = x := ⟨_, rfl⟩
      rw [hs] at q0 bs HC
      rw [hx] at q1 bx HC
      clear hs hx
      have bs2 : s.size ≤ 9223372036854775807 := by unfold maxLen at bs; omega
      clear bs
      by_cases hsz : 100 < s.size
      · have hsz2 : (100 : Int) < s.size := by omega
        go_wp2_with fail
        refine (alive_any _).mono ?_
        rintro e w1 ⟨rfl, g1⟩
        go_wp2_with fail
        go_ret
        exact ⟨rfl, HN.out.but.trans g1⟩
      · have hsz2 : ¬ (100 : Int) < s.size := by omega
        go_wp2_with fail
        go_still_tail 11, (by kernel_rfl)
        change wpList _ _ _ _ _ wr.drew
        have N2 := HN.out.keep ((But.refl (fun _ => False) wr).drew)
        have R2 := HR.out.drew
        obtain ⟨wd, hwd⟩ : ∃ wd, wd = wr.drew := ⟨_, rfl⟩
        rw [← hwd] at N2 R2 ⊢
        clear hwd q0 q1
        obtain ⟨q0, q1⟩ := HC.out _ N2.but
        have HN2 := Lib.hid N2
        have HR2 := Lib.hid R2
        clear N2 R2
        cases hn : nameB s with
        | false =>
          have HB := Lib.hid (n_bind2 (s := s) (n := x) (L' := L) (e := 1) HN2.out (by omega) (by have := HK.out.len; have := HNK.out; omega) (by rw [hn]; rfl) (by rw [hn]; rfl))
          clear hn
          go_wp2_with fail
          refine HB.out.mono ?_
          rintro e w3 ⟨rfl, N3, g3⟩
          have HN3 := Lib.hid N3
          have HR3 := Lib.hid (HR2.out.but g3 (fun c hc q => (HO.out c hc).2.2 q))
          clear N3 g3
          go_wp2_with fail
          go_roundg (len - (j + 1))
          case measure => omega
          case rel => exact ⟨j + 1, nK, K, L, a1, cap1, o1, by omega, by go_num, HNK.out, by omega, rfl, HR3.out, HO.out, HK.out, HN3.out⟩
        | true =>
          have HB := Lib.hid (n_bind2 (s := s) (n := x) (L' := pt L s x) (e := 0) HN2.out (by omega) (by have := HK.out.len; have := HNK.out; omega) (by rw [hn]; rfl) (by rw [hn]; rfl))
          clear hn
          go_wp2_with fail
          refine HB.out.mono ?_
          rintro e w3 ⟨rfl, N3, g3⟩
          have HN3 := Lib.hid N3
          have HR3 := Lib.hid (HR2.out.but g3 (fun c hc q => (HO.out c hc).2.2 q))
          have hbl := N3.bk.blk.lt
          have hml := N3.bk.mp.lt
          have HLT := Lib.hid (And.intro hbl hml)
          clear q0 q1 g3 hbl hml
          obtain ⟨q0, q1⟩ := HC.out _ N3.but
          clear N3
          go_wp2_with (first
            | (at_builtin; have HH := HR3.out.alloc (.cells #[.string s, .int .u64 x] 34); refine wpList_append_row _ rfl _ _ _ rfl 34 i0 (.agg #[.string ⟨#[]⟩, .int .u64 0]) 2 24 Try.underlying22 hi hz0 hz1 hz2 rfl (by decide) _ o1 nK (cellsK K) HH (by rfl) ⟨w3.heap.size, 0, none⟩ 1 1 [.string s, .int .u64 x] (by rfl) (by rfl) (new_src w3 [.string s, .int .u64 x] _) (by simp [Value.oneCell']) (by unfold maxLen; omega) (by omega) ?_; intro v4 w4 o4 hR4 hB4 hN4; obtain ⟨a4, cap4, rfl, -, -⟩ := hR4.val))
          have HR4 := Lib.hid (show Row w4 34 2 (.slice a4 (nK + 1) cap4) o4 (nK + 1) (cellsK (K ++ [(s, x)])) by rw [cellsK_push]; exact hR4)
          have ho1 : ∀ c, o1 = some c → c ≠ b ∧ c ≠ mb := fun c hc => (HO.out c hc).2
          have HN4 := Lib.hid (show Nw b mb (pt L s x) w w4 from ⟨(HN3.out.bk.keep ((But.refl (fun _ => False) w3).alloc _)).but hB4 (fun q => (ho1 b q).1 rfl) (fun q => (ho1 mb q).2 rfl), (HN3.out.but.alloc _).trans' hB4 (fun c hc => .inr (HO.out c hc).1), HN3.out.nb⟩)
          have HO4 := Lib.hid (show ∀ c, o4 = some c → w.heap.size ≤ c ∧ c ≠ b ∧ c ≠ mb from fun c hc => by
            rcases hN4 c hc with q | q
            · exact HO.out c q
            · have h1 := HLT.out
              have h2 := HN3.out.but.size
              have h3 : w3.heap.size + 1 ≤ c := by simpa using q
              exact ⟨by omega, by omega, by omega⟩)
          clear hR4 hB4 hN4 ho1 q0 q1
          go_roundg (len - (j + 1))
          case measure => omega
          case rel => exact ⟨j + 1, nK + 1, K ++ [(s, x)], pt L s x, a4, cap4, o4, by omega, by go_num, by rw [List.length_append, ← HNK.out]; rfl, by omega, rfl, HR4.out, HO4.out, HK.out.push s x, HN4.out⟩
    · obtain ⟨w2, hw2⟩ : ∃ w2, w2 = wr := ⟨_, rfl⟩
      rw [← hw2] at HR HN ⊢
      clear hw2
      have hcap : nK ≤ 100 := by omega
      obtain ⟨kb, koff, hkb⟩ : ∃ kb koff, (0 < nK → a1 = some ⟨kb, koff, none⟩) ∧ ∀ w', But (fun _ => False) w2 w' → ∀ k, k < nK → w'.cell? ⟨kb, koff + k * 2, none⟩ = some (.string (nm K k)) ∧ w'.cell? ⟨kb, koff + k * 2 + 1, none⟩ = some (.int .u64 (vl K k)) := by
        by_cases hz : 0 < nK
        · obtain ⟨kb, koff, kcap, e, -, hlt2, -, hc, -⟩ := HR.out.cells (by omega)
          simp at e
          refine ⟨kb, koff, fun _ => e.1, fun w' g k hk => ?_⟩
          have cc : ∀ i, w'.cell? ⟨kb, i, none⟩ = w2.cell? ⟨kb, i, none⟩ := fun i => World.cell?_of_block (w := w2) (g.block kb hlt2 (fun q => q))
          have hg := cellsK_get K k (by rw [← HNK.out]; exact hk)
          exact ⟨by rw [cc, hc (k * 2) (by omega), hg.1], by rw [cc, Nat.add_assoc, hc (k * 2 + 1) (by omega), hg.2]⟩
        · exact ⟨0, 0, fun q => absurd q hz, fun w' g k hk => absurd hk (by omega)⟩
      have HKC := Lib.hid hkb.2
      have HA1 := Lib.hid hkb.1
      clear hkb
      go_wp2_with fail
      go_loopg [7] nK (fun k iv wr => ∃ j, j + k = nK ∧ iv = .int .i64 j ∧ But (fun _ => False) w2 wr)
      case atStart => exact ⟨0, by omega, rfl, But.refl _ w2⟩
      case round =>
        obtain ⟨j2, hj2, rfl, hB2⟩ := hrel
        by_cases hlt2 : j2 < nK
        · obtain rfl := HA1.out (by omega)
          obtain ⟨q0, q1⟩ := HKC.out _ hB2 j2 hlt2
          have HB2 := Lib.hid hB2
          clear hB2
          go_wp2_with fail
          go_loopg [8, 9] (nK - j2) (fun k' lv kv wr' => ∃ m, m + k' = nK ∧ kv = .int .i64 m ∧ j2 ≤ m ∧ lv = .int .u64 (if m = j2 then vl K j2 else lastVal K (nm K j2) m) ∧ But (fun _ => False) w2 wr')
          case atStart => exact ⟨j2, by omega, rfl, by omega, by rw [if_pos rfl], HB2.out⟩
          case round =>
            obtain ⟨m, hm, rfl, hjm, rfl, hB3⟩ := hrel
            obtain ⟨lv, hlv⟩ : ∃ lv, (if m = j2 then vl K j2 else lastVal K (nm K j2) m) = lv := ⟨_, rfl⟩
            rw [hlv]
            have HLV := Lib.hid hlv
            have HB3 := Lib.hid hB3
            clear hlv q0 q1
            obtain ⟨q0, q1⟩ := HKC.out _ hB3 j2 hlt2
            by_cases hltm : m < nK
            · obtain ⟨p0, p1⟩ := HKC.out _ hB3 m hltm
              clear hB3
              by_cases he : nm K m = nm K j2
              · have heq : ((nm K m).toList == (nm K j2).toList) = true := by rw [beq_txt, decide_eq_true he]
                have HV := Lib.hid (show vl K m = (if m + 1 = j2 then vl K j2 else lastVal K (nm K j2) (m + 1)) by
                  rw [if_neg (by omega)]
                  show _ = if nm K m = nm K j2 then vl K m else _
                  rw [if_pos he])
                clear he
                go_wp2_with fail
                go_quiet (fail)
                have GB := Lib.hid (HB3.out.drewN nq)
                have k1 : (wr.drewN nq).cell? ⟨kb, koff + m * 2 + 1, none⟩ = some (Value.int .u64 (vl K m)) := p1
                go_wp2_with fail
                go_roundg (nK - (m + 1))
                case measure => omega
                case rel => exact ⟨m + 1, by omega, by go_num, by omega, by rw [HV.out], GB.out⟩
              · have heq : ((nm K m).toList == (nm K j2).toList) = false := by rw [beq_txt, decide_eq_false he]
                have HV := Lib.hid (show lv = (if m + 1 = j2 then vl K j2 else lastVal K (nm K j2) (m + 1)) by
                  rw [if_neg (by omega)]
                  show _ = if nm K m = nm K j2 then vl K m else lastVal K (nm K j2) m
                  rw [if_neg he, ← HLV.out, if_neg (fun q => he (by rw [q]))])
                clear he
                go_wp2_with fail
                go_quiet (fail)
                have GB := Lib.hid (HB3.out.drewN nq)
                go_wp2_with fail
                go_roundg (nK - (m + 1))
                case measure => omega
                case rel => exact ⟨m + 1, by omega, by go_num, by omega, by rw [HV.out], GB.out⟩
            · have hme : m = nK := by omega
              have HW := Lib.hid (show wordR L (nm K j2) = (lv, 0) by
                unfold wordR
                rw [HK.out.yes (nm K j2) j2 (by rw [← HNK.out]; exact hlt2) rfl, ← HLV.out, if_neg (by omega), hme, HNK.out])
              have HN4 := Lib.hid (HN.out.keep hB3)
              clear hB3
              go_wp2_with fail
              refine (word_any HN4.out.bk (nm K j2)).mono ?_
              rintro e wx ⟨rfl, rfl⟩
              rw [HW.out]
              go_wp2_with fail
              go_roundg (nK - (j2 + 1))
              case measure => omega
              case rel => exact ⟨j2 + 1, by omega, by go_num, HB3.out⟩
        · have HN4 := Lib.hid (HN.out.keep hB2)
          have HB2 := Lib.hid hB2
          clear hB2
          go_wp2_with fail
          refine (names_any HN4.out.bk (by have := HK.out.len; have := HNK.out; omega)).mono ?_
          rintro e w5 ⟨v5, o5, ss, rfl, hSs, hR5, hO5, g5⟩
          obtain ⟨a5, cap5, rfl, -, -⟩ := hR5.val
          have HSS := Lib.hid hSs
          have HN5 := Lib.hid (HN4.out.keep g5)
          have HB5 := Lib.hid (HB2.out.trans g5)
          obtain ⟨nS, hnS⟩ : ∃ nS, ss.length = nS := ⟨_, rfl⟩
          rw [hnS] at hR5 ⊢
          have HNS := Lib.hid hnS
          have hle : nS ≤ nK := by rw [← hnS, hSs.len, HNK.out]; exact HK.out.len
          have hND := HN5.out.bk.nd
          obtain ⟨sb5, soff, hsb⟩ : ∃ sb5 soff, (0 < nS → a5 = some ⟨sb5, soff, none⟩) ∧ ∀ w', But (fun _ => False) w5 w' → ∀ k, k < nS → w'.cell? ⟨sb5, soff + k, none⟩ = some (.string ⟨(th ss k).toArray⟩) := by
            by_cases hz : 0 < nS
            · obtain ⟨sb5, soff, scap, e, -, hlt5, -, hc, -⟩ := hR5.cells (by omega)
              simp at e
              refine ⟨sb5, soff, fun _ => e.1, fun w' g k hk => ?_⟩
              rw [World.cell?_of_block (w := w5) (g.block sb5 hlt5 (fun q => q)), hc k (by omega), List.getElem?_map, List.getElem?_eq_getElem (by omega), th_in (by omega)]
              rfl
            · exact ⟨0, 0, fun q => absurd q hz, fun w' g k hk => absurd hk (by omega)⟩
          have HSC := Lib.hid hsb.2
          have HA5 := Lib.hid hsb.1
          have HLE := Lib.hid (show ∀ k, k + 1 < nS → Op.bytesLess (⟨(th ss k).toArray⟩ : ByteArray).toList (⟨(th ss (k + 1)).toArray⟩ : ByteArray).toList = true from fun k hk => by rw [th_in (by omega), th_in (by omega)]; exact less_txt hSs hND (by omega))
          have HHA := Lib.hid (show ∀ k, k < nS → hasTo K (th ss k) nK = true from fun k hk => by rw [HNK.out, th_in (by omega)]; exact HK.out.has hSs (by omega))
          clear hSs hR5 hO5 g5 hsb hnS hND
          go_wp2_with fail
          go_loopg [13] nS (fun k iv wr => ∃ j, j + k = nS ∧ iv = .int .i64 j ∧ But (fun _ => False) w5 wr)
          case atStart => exact ⟨0, by omega, rfl, But.refl _ w5⟩
          case round =>
            obtain ⟨j3, hj3, rfl, hB6⟩ := hrel
            have HB6 := Lib.hid hB6
            by_cases hlt3 : j3 < nS
            · obtain rfl := HA5.out (by omega)
              obtain rfl := HA1.out (by omega)
              clear hB6
              obtain ⟨x, hx⟩ : ∃ x, th ss j3 = x := ⟨_, rfl⟩
              have HXX := Lib.hid hx
              have HSJ := Lib.hid (show ∀ w', But (fun _ => False) w5 w' → w'.cell? ⟨sb5, soff + j3, none⟩ = some (.string ⟨x.toArray⟩) from fun w' g => by rw [← hx]; exact HSC.out w' g j3 hlt3)
              have HHJ := Lib.hid (show hasTo K x nK = true by rw [← hx]; exact HHA.out j3 hlt3)
              clear hx
              go_wp2_with fail
              go_loopg [14, 15] nK (fun k' iv kv wr' => ∃ m, m + k' = nK ∧ kv = .int .i64 m ∧ iv = .bool (hasTo K x m) ∧ But (fun _ => False) w5 wr')
              case atStart => exact ⟨0, by omega, rfl, rfl, HB6.out⟩
              case round =>
                obtain ⟨m, hm, rfl, rfl, hB7⟩ := hrel
                have HB7 := Lib.hid hB7
                by_cases hltm : m < nK
                · have hsucc := hasTo_succ K x m
                  cases hh : hasTo K x m with
                  | true =>
                    have HH1 := Lib.hid (show hasTo K x (m + 1) = true by rw [hsucc, hh]; rfl)
                    clear hsucc hB7 hh
                    go_wp2_with fail
                    go_quiet (fail)
                    have GB := Lib.hid (HB7.out.drewN nq)
                    go_wp2_with fail
                    go_roundg (nK - (m + 1))
                    case measure => omega
                    case rel => exact ⟨m + 1, by omega, by go_num, by rw [HH1.out], GB.out⟩
                  | false =>
                    obtain ⟨p0, -⟩ := HKC.out _ (HB5.out.trans hB7) m hltm
                    have p1 := HSJ.out _ hB7
                    obtain ⟨z, hz⟩ : ∃ z, decide ((nm K m).data.toList = x) = z := ⟨_, rfl⟩
                    have heq : ((nm K m).toList == (⟨x.toArray⟩ : ByteArray).toList) = z := by
                      rw [Lib.toList_data, Lib.toList_data, ← hz, Bool.eq_iff_iff, beq_iff_eq, decide_eq_true_iff]
                    have HH1 := Lib.hid (show hasTo K x (m + 1) = z by rw [hsucc, hh, hz]; rfl)
                    have HEQ := Lib.hid (show ((nm K m).toList == x) = z by rw [Lib.toList_data, ← hz, Bool.eq_iff_iff, beq_iff_eq, decide_eq_true_iff])
                    clear hsucc hB7 hh hz
                    go_wp2_with fail
                    go_quiet (fail)
                    have GB := Lib.hid (HB7.out.drewN nq)
                    go_wp2_with fail
                    go_roundg (nK - (m + 1))
                    case measure => omega
                    case rel => exact ⟨m + 1, by omega, by go_num, by rw [HH1.out, HEQ.out], GB.out⟩
                · have hme : m = nK := by omega
                  have hh : hasTo K x m = true := by rw [hme]; exact HHJ.out
                  rw [hh]
                  have s1 := HSJ.out _ hB7
                  rcases Nat.eq_zero_or_pos j3 with hz | hz
                  · subst hz
                    clear hB7 hh s1
                    go_wp2_with fail
                    go_quiet (fail)
                    have GB := Lib.hid (HB7.out.drewN nq)
                    go_wp2_with fail
                    go_roundg (nS - (0 + 1))
                    case measure => omega
                    case rel => exact ⟨0 + 1, by omega, by go_num, GB.out⟩
                  · obtain ⟨i3, rfl⟩ : ∃ i, j3 = i + 1 := ⟨j3 - 1, by omega⟩
                    have s0 := HSC.out _ hB7 i3 (by omega)
                    have hls := HLE.out i3 (by omega)
                    have hxx : th ss (i3 + 1) = x := HXX.out
                    rw [hxx] at hls
                    obtain ⟨y, hy⟩ : ∃ y, th ss i3 = y := ⟨_, rfl⟩
                    rw [hy] at hls s0
                    have hls2 : Op.bytesLess y x = true := by
                      rw [Lib.toList_data, Lib.toList_data] at hls
                      exact hls
                    have hsub : ((i3 + 1 : Nat) : Int) - 1 = (i3 : Int) := by omega
                    clear hB7 hh hy hxx
                    go_wp2_with fail
                    go_quiet (fail)
                    have GB := Lib.hid (HB7.out.drewN nq)
                    go_wp2_with fail
                    go_roundg (nS - (i3 + 1 + 1))
                    case measure => omega
                    case rel => exact ⟨i3 + 1 + 1, by omega, by go_num, GB.out⟩
            · clear hB6
              go_wp2_with fail
              refine (alive_any _).mono ?_
              rintro e w9 ⟨rfl, g9⟩
              have HG9 := Lib.hid ((HN5.out.but.trans HB6.out).trans g9)
              clear g9
              have hle2 : (nS : Int) ≤ nK := by omega
              go_wp2_with fail
              go_ret
              exact ⟨rfl, HG9.out⟩

theorem last_law (W : World) (a : Option Addr) (len cap : Nat) (V : Nat → Nat → Value) (hE : Els W a len 2 V)
    (hf : ∀ i, i < len → All2 [.s, .i .u64] ((List.range 2).map (V i))) (hz : len * 24 ≤ 140737488351232) (hm : len ≤ cap ∧ cap ≤ maxLen) :
    Calls Try.prog 4 #[.slice a len cap] W fun e w' => e = .returned (.bool true) ∧ But (fun _ => False) W w' := by
  refine last_any a len cap V (fun i => match V i 0 with | .string s => s | _ => ⟨#[]⟩) (fun i => intOf (V i 1)) W hE (by omega) (fun i hi => ?_) (fun i hi => ?_)
  all_goals obtain ⟨f1, f2, -⟩ := hf i hi
  · obtain ⟨s, e, hs⟩ := f1
    have e' : V i 0 = .string s := e
    rw [e']
    exact ⟨rfl, hs⟩
  · exact ⟨(CK.fits_i f2).1, bounds_u64 (CK.fits_i f2).2⟩

end Names
end Go.Proofs.Ytgbcbadccahfcaa
