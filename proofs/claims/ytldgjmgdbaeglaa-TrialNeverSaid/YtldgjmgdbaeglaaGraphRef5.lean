/- The document's Reach of layer 10, walked. -/
import Derived.Test.YtldgjmgdbaeglaaGraphRef4
set_option linter.unusedVariables false
set_option linter.unusedSimpArgs false
namespace Go.Proofs.Ytldgjmgdbaeglaa
open Go.RowKit

namespace Graph

/-- The marks, and the box of a graph. -/
def marks (ib : Nat) (s : List Bool) (b : Nat) (a : Option Addr) (n cap : Nat) (ra : Option Addr) (rn rc : Nat) : List Pc :=
  [Pc.row 4 1 (.slice (some ⟨ib, 0, none⟩) n n) (some ib) n (boolsV s), Pc.blk b #[.slice a n cap, .slice ra rn rc] 47]
theorem marks.cells {w w2 : World} {ib : Nat} {s : List Bool} {b : Nat} {a : Option Addr} {n cap : Nat} {ra : Option Addr} {rn rc : Nat} (h : Own w w2 (marks ib s b a n cap ra rn rc)) :
    w2.cell? ⟨b, 0, none⟩ = some (.slice a n cap) ∧ w2.cell? ⟨b, 1, none⟩ = some (.slice ra rn rc) ∧ b < w2.heap.size := by
  have h1 : Blk w2 b #[.slice a n cap, .slice ra rn rc] 47 := h.get 1 rfl
  exact ⟨h1.cell 0, h1.cell 1, h1.lt⟩
theorem marks.at_ {w w2 : World} {ib : Nat} {s : List Bool} {b : Nat} {a : Option Addr} {n cap : Nat} {ra : Option Addr} {rn rc : Nat} (h : Own w w2 (marks ib s b a n cap ra rn rc)) {m : Nat} (hm : m < n) :
    w2.cell? ⟨ib, m, none⟩ = some (.bool (nthB s m)) ∧ w2.frozen? ⟨ib, m, none⟩ = false := by
  have h1 : Row w2 4 1 (.slice (some ⟨ib, 0, none⟩) n n) (some ib) n (boolsV s) := h.get 0 rfl
  obtain ⟨-, h2, h3⟩ := row_nthB h1 hm
  rw [Nat.zero_add] at h2 h3
  exact ⟨h2, h3⟩
theorem marks.set {w w2 : World} {ib : Nat} {s : List Bool} {b : Nat} {a : Option Addr} {n cap : Nat} {ra : Option Addr} {rn rc : Nat} (h : Own w w2 (marks ib s b a n cap ra rn rc)) {m : Nat} (hm : m < n) (x : Bool) :
    Own w (w2.setCell ⟨ib, m, none⟩ (.bool x)) (marks ib (s.set m x) b a n cap ra rn rc) := by
  have h1 : Row w2 4 1 (.slice (some ⟨ib, 0, none⟩) n n) (some ib) n (boolsV s) := h.get 0 rfl
  have h2 := h1.set (j := m) (by omega) (.bool x)
  rw [Nat.zero_add, boolsV_set] at h2
  exact h.put 0 (q := Pc.row 4 1 (.slice (some ⟨ib, 0, none⟩) n n) (some ib) n (boolsV (s.set m x))) rfl h2 ((But.one ib m (.bool x)).mono (fun k hk => .inl (by subst hk; rfl))) (fun k q => .inl q)

set_option maxHeartbeats 8000000 in
set_option maxRecDepth 100000 in
theorem ref_reach (a : Option Addr) (n cap : Nat) (l : List Nd) (ra : Option Addr) (rn rc : Nat) (R : List Int) (fa : Option Addr) (fn fc : Nat) (F : List Int) (w : World) (h : Nodes w a n l) (hr : Nums w ra rn R) (hf : Nums w fa fn F)
    (hn : n ≤ 65536) (hrn : rn ≤ 1000000) (hfn : fn ≤ 1000000) (ho : ∀ i, i < n → (nd l i).out.length ≤ 1000000) :
    Calls Try.prog 32 #[.agg #[.slice a n cap, .slice ra rn rc], .slice fa fn fc] w fun e w' => ∃ m, Copied (ints (reachR l R F)) m w e w' := by
  obtain ⟨i0, hi, hz0, hz1, hz2⟩ := info_parts infoInt
  have H := Lib.hid h
  have HR := Lib.hid hr
  have HF := Lib.hid hf
  have HL := Lib.hid h.len
  have OUT := Lib.hid ho
  clear h hr hf ho
  have G0 := (But.refl (fun _ => False) w).alloc (.cells #[.slice a n cap, .slice ra rn rc] 47)
  have O0 := boxed.start (w := w) (a := a) (n := n) (cap := cap) (ra := ra) (rn := rn) (rc := rc) (But.refl _ _)
  obtain ⟨k0, k1, -⟩ := boxed.cells O0
  go_enter Try.func32, Try.ntmps32
  go_wp2_with fail
  refine (ref_right a n cap l ra rn rc R _ (H.out.keep G0) (HR.out.keep G0) (by omega) (by omega)).mono ?_
  rintro e w2 ⟨rfl, g2⟩
  have O2 := Lib.hid (O0.same g2)
  obtain ⟨b, hb⟩ : ∃ b, b = w.heap.size := ⟨_, rfl⟩
  rw [← hb] at O2 ⊢
  clear k0 k1 O0 G0 g2 hb
  cases hrt : rightB l R with
  | false =>
    have HRT := Lib.hid hrt
    clear hrt
    go_wp2_with fail
    go_ret
    refine ⟨0, ?_⟩
    rw [reachR_no HRT.out]
    exact boxed.copied O2.out
  | true =>
    have HRT := Lib.hid hrt
    obtain ⟨k0, k1, hbl⟩ := boxed.cells O2.out
    have hmk := mk_boolsV n hn w2
    clear hrt
    go_wp2_with fail
    obtain ⟨ib, hib⟩ : ∃ ib, ib = w2.heap.size := ⟨_, rfl⟩
    have O3 : Own w (w2.alloc (.cells (boolsV (List.replicate n false)).toArray 4)) (marks ib (firstTo l F 0) b a n cap ra rn rc) := by
      rw [firstTo_zero, HL.out]
      exact O2.out.drop.add (q := Pc.row 4 1 (.slice (some ⟨ib, 0, none⟩) n n) (some ib) n (boolsV (List.replicate n false))) (by rw [hib]; exact Row.new w2 _ 1 n _ (by rw [boolsV_length, List.length_replicate]) (by unfold maxLen; omega)) ((But.refl _ _).alloc _) (fun k hk => by have : some ib = some k := hk; injection this; omega)
    rw [← hib]
    have O3 := Lib.hid O3
    clear hmk k0 k1 hbl hib O2
    go_loopg [7] n (fun k iv wr => ∃ j : Nat, j + k = n ∧ iv = .int .i64 j ∧ Own w wr (marks ib (firstTo l F j) b a n cap ra rn rc))
    case atStart => exact ⟨0, by omega, rfl, O3.out⟩
    case round =>
      clear O3
      obtain ⟨j, hj, rfl, hO⟩ := hrel
      obtain ⟨k0, k1, hbl⟩ := marks.cells hO
      have HO := Lib.hid hO
      by_cases hlt : j < n
      · obtain ⟨nb, off, oa, on, oc, rfl, hnb, c0, -, -, -, -⟩ := (H.out.keep HO.out.but).at_ j hlt
        obtain ⟨m0, f0⟩ := marks.at_ hO hlt
        have FF := Lib.hid (HF.out.keep HO.out.but)
        clear hO
        obtain ⟨x, hx⟩ : ∃ x, (nd l j).id = x := ⟨_, rfl⟩
        rw [hx] at c0
        have HX := Lib.hid hx
        clear hx
        go_wp2_with fail
        refine (has_any fa fn fc F x _ FF.out (by omega)).mono ?_
        rintro e wa ⟨rfl, rfl⟩
        obtain ⟨p, hp⟩ : ∃ p, decide (x ∈ F) = p := ⟨_, rfl⟩
        rw [hp]
        have HP := Lib.hid hp
        clear hp
        go_wp2_with fail
        go_roundg (n - (j + 1))
        case measure => omega
        case rel => exact ⟨j + 1, by omega, by go_num, by rw [firstTo_succ (by rw [HL.out]; exact hlt), HX.out, HP.out]; exact marks.set HO.out hlt p⟩
      · obtain rfl : j = n := by omega
        clear hO
        have HLJ := Lib.hid HL.out
        obtain ⟨s0, hs0⟩ : ∃ s0, firstTo l F j = s0 := ⟨_, rfl⟩
        have hsl : s0.length = j := by rw [← hs0, firstTo_length, HL.out]
        have HSL := Lib.hid hsl
        rw [hs0] at HO
        have HS0 := Lib.hid hs0
        clear hs0 hsl
        go_wp2_with fail
        go_loopg [8] j (fun k rv wr => ∃ r : Nat, r + k = j ∧ rv = .int .i64 r ∧ Own w wr (marks ib (outTo l s0 r) b a j cap ra rn rc))
        case atStart => exact ⟨0, by omega, rfl, HO.out⟩
        case round =>
          clear HO k0 k1 hbl
          obtain ⟨r, hr, rfl, hO⟩ := hrel
          obtain ⟨k0, k1, hbl⟩ := marks.cells hO
          have HO := Lib.hid hO
          clear hO
          obtain ⟨s1, hs1⟩ : ∃ s1, outTo l s0 r = s1 := ⟨_, rfl⟩
          have HS1 := Lib.hid hs1
          rw [hs1] at HO
          clear hs1
          by_cases hrn2 : r < j
          · go_wp2_with fail
            go_loopg [9] j (fun k iv wr => ∃ i : Nat, i + k = j ∧ iv = .int .i64 i ∧ Own w wr (marks ib (midTo l s1 i) b a j cap ra rn rc))
            case atStart => exact ⟨0, by omega, rfl, HO.out⟩
            case round =>
              clear HO k0 k1 hbl
              obtain ⟨i, hii, rfl, hO⟩ := hrel
              obtain ⟨k0, k1, hbl⟩ := marks.cells hO
              have HO := Lib.hid hO
              clear hO
              obtain ⟨s2, hs2⟩ : ∃ s2, midTo l s1 i = s2 := ⟨_, rfl⟩
              have HS2 := Lib.hid hs2
              rw [hs2] at HO
              clear hs2
              by_cases hin : i < j
              · go_wp2_with fail
                go_loopg [10] j (fun k kv wr => ∃ m : Nat, m + k = j ∧ kv = .int .i64 m ∧ Own w wr (marks ib (innerTo l i s2 m) b a j cap ra rn rc))
                case atStart => exact ⟨0, by omega, rfl, HO.out⟩
                case round =>
                  clear HO k0 k1 hbl
                  obtain ⟨m, hmm, rfl, hO⟩ := hrel
                  obtain ⟨k0, k1, hbl⟩ := marks.cells hO
                  have HO := Lib.hid hO
                  clear hO
                  obtain ⟨s3, hs3⟩ : ∃ s3, innerTo l i s2 m = s3 := ⟨_, rfl⟩
                  have HS3 := Lib.hid hs3
                  rw [hs3] at HO
                  clear hs3
                  by_cases hmn : m < j
                  · obtain ⟨mi, -⟩ := marks.at_ HO.out hin
                    have NXT := Lib.hid (show ∀ q, q = (nthB s3 m || (nthB s3 i && decide ((nd l m).id ∈ (nd l i).out))) → ∀ wz, Own w wz (marks ib (s3.set m q) b a j cap ra rn rc) → Own w wz (marks ib (innerTo l i s2 (m + 1)) b a j cap ra rn rc) from fun q hq wz hw => by
                      have e : innerTo l i s2 (m + 1) = s3.set m q := by show look1 l i m (innerTo l i s2 m) = _; rw [HS3.out, hq]; rfl
                      rw [e]; exact hw)
                    have HN := Lib.hid (H.out.keep HO.out.but)
                    obtain ⟨nb, off, oa, on, oc, rfl, hnb, -, c1, -, -, hout⟩ := HN.out.at_ i hin
                    obtain ⟨nb2, off2, oa2, on2, oc2, e2, hnb2, c0, -, -, -, -⟩ := HN.out.at_ m hmn
                    simp at e2
                    obtain ⟨rfl, rfl⟩ := e2
                    have HOUT := Lib.hid hout
                    have hol := OUT.out i hin
                    rw [hout.len] at hol
                    obtain ⟨x, hx⟩ : ∃ x, (nd l m).id = x := ⟨_, rfl⟩
                    rw [hx] at c0
                    obtain ⟨p, hp⟩ : ∃ p, decide (x ∈ (nd l i).out) = p := ⟨_, rfl⟩
                    have HP := Lib.hid (show decide ((nd l m).id ∈ (nd l i).out) = p by rw [hx]; exact hp)
                    have HAS := Lib.hid (fun w h => has_any oa on oc (nd l i).out x w h (by omega))
                    rw [hp] at HAS
                    clear hx hp hout
                    have CC := Lib.hid (show ∀ wz, But (fun _ => False) wr wz → (wz.cell? ⟨ib, m, none⟩ = some (.bool (nthB s3 m)) ∧ wz.frozen? ⟨ib, m, none⟩ = false) from fun wz g => marks.at_ (HO.out.same g) hmn)
                    cases hbi : nthB s3 i with
                    | true =>
                      rw [hbi] at mi
                      have HBI := Lib.hid hbi
                      clear hbi
                      as_aux_lemma =>
                      go_wp2_with fail
                      go_quiet ((go_at_call 39; exact quiet_same (HAS.out _ (HOUT.out.keep ((But.refl _ _).drewN _)))))
                      obtain ⟨w5, hw5⟩ : ∃ w5, w5 = wr.drewN nq := ⟨_, rfl⟩
                      have G5 := Lib.hid (show But (fun _ => False) wr w5 by rw [hw5]; exact (But.refl _ _).drewN _)
                      rw [← hw5]
                      clear hw5 k0 k1 hbl mi c0 c1
                      obtain ⟨d0, d1⟩ := CC.out w5 G5.out
                      cases hbm : nthB s3 m with
                      | true =>
                        rw [hbm] at d0
                        have NX := Lib.hid (NXT.out true (by rw [hbm]; rfl))
                        clear hbm
                        go_wp2_with fail
                        go_roundg (j - (m + 1))
                        case measure => omega
                        case rel => exact ⟨m + 1, by omega, by go_num, NX.out _ (marks.set (HO.out.same G5.out) hmn true)⟩
                      | false =>
                        rw [hbm] at d0
                        have NX := Lib.hid (NXT.out p (by rw [hbm, HBI.out, HP.out]; simp))
                        clear hbm
                        go_wp2_with fail
                        go_roundg (j - (m + 1))
                        case measure => omega
                        case rel => exact ⟨m + 1, by omega, by go_num, NX.out _ (marks.set (HO.out.same G5.out) hmn p)⟩
                    | false =>
                      rw [hbi] at mi
                      have HBI := Lib.hid hbi
                      clear hbi
                      as_aux_lemma =>
                      go_wp2_with fail
                      go_quiet (fail)
                      obtain ⟨w5, hw5⟩ : ∃ w5, w5 = wr.drewN nq := ⟨_, rfl⟩
                      have G5 := Lib.hid (show But (fun _ => False) wr w5 by rw [hw5]; exact (But.refl _ _).drewN _)
                      rw [← hw5]
                      clear hw5 k0 k1 hbl mi c0 c1
                      obtain ⟨d0, d1⟩ := CC.out w5 G5.out
                      cases hbm : nthB s3 m with
                      | true =>
                        rw [hbm] at d0
                        have NX := Lib.hid (NXT.out true (by rw [hbm]; rfl))
                        clear hbm
                        go_wp2_with fail
                        go_roundg (j - (m + 1))
                        case measure => omega
                        case rel => exact ⟨m + 1, by omega, by go_num, NX.out _ (marks.set (HO.out.same G5.out) hmn true)⟩
                      | false =>
                        rw [hbm] at d0
                        have NX := Lib.hid (NXT.out false (by rw [hbm, HBI.out]; rfl))
                        clear hbm
                        go_wp2_with fail
                        go_roundg (j - (m + 1))
                        case measure => omega
                        case rel => exact ⟨m + 1, by omega, by go_num, NX.out _ (marks.set (HO.out.same G5.out) hmn false)⟩
                  · obtain rfl : m = j := by omega
                    go_wp2_with fail
                    go_roundg (m - (i + 1))
                    case measure => omega
                    case rel => exact ⟨i + 1, by omega, by go_num, by show Own w wr (marks ib (innerTo l i (midTo l s1 i) l.length) b a m cap ra rn rc); rw [HS2.out, HLJ.out, HS3.out]; exact HO.out⟩
              · obtain rfl : i = j := by omega
                go_wp2_with fail
                go_roundg (i - (r + 1))
                case measure => omega
                case rel => exact ⟨r + 1, by omega, by go_num, by show Own w wr (marks ib (midTo l (outTo l s0 r) l.length) b a i cap ra rn rc); rw [HS1.out, HLJ.out, HS2.out]; exact HO.out⟩
          · obtain rfl : r = j := by omega
            have HEND := Lib.hid (show reachR l R F = tellTo l s1 r by rw [reachR_yes HRT.out, HL.out, HS0.out, HS1.out])
            have OA := Lib.hid (HO.out.add (q := Pc.row 3 1 (.slice none 0 0) none 0 (ints (tellTo l s1 0))) (Row.nil _ _ _) (But.refl _ _) (fun k q => by cases q))
            go_wp2_with fail
            go_loopg [12, 13] r (fun k v iv wr => ∃ (m q : Nat) (o : Option Nat), m + k = r ∧ iv = .int .i64 m ∧ q ≤ m ∧ Own w wr (Pc.row 3 1 v o q (ints (tellTo l s1 m)) :: marks ib s1 b a r cap ra rn rc))
            case atStart => exact ⟨0, 0, none, by omega, rfl, Nat.le_refl _, OA.out⟩
            case round =>
              clear HO OA k0 k1 hbl
              obtain ⟨m, q, o, hm, rfl, hqm, hO⟩ := hrel
              obtain ⟨k0, k1, hbl⟩ := marks.cells hO.drop
              have hRw : Row wr 3 1 _ o q (ints (tellTo l s1 m)) := hO.get 0 rfl
              obtain ⟨av, acap, rfl, -, -⟩ := hRw.val
              have HRW := Lib.hid hRw
              have HO := Lib.hid hO
              clear hRw hO
              by_cases hmn : m < r
              · obtain ⟨mi, -⟩ := marks.at_ HO.out.drop hmn
                obtain ⟨nb, off, oa, on, oc, rfl, hnb, c0, -, -, -, -⟩ := (H.out.keep HO.out.but).at_ m hmn
                obtain ⟨x, hx⟩ : ∃ x, (nd l m).id = x := ⟨_, rfl⟩
                rw [hx] at c0
                have HT := Lib.hid (tellTo_succ l s1 m)
                rw [hx] at HT
                clear hx
                cases hbi : nthB s1 m with
                | true =>
                  rw [hbi] at mi HT
                  have HT2 := Lib.hid (show tellTo l s1 (m + 1) = tellTo l s1 m ++ [x] by rw [HT.out, if_pos rfl])
                  clear hbi HT
                  go_wp2_with ((at_builtin; refine wpList_append_row _ rfl _ _ _ rfl 3 i0 (.int .i64 0) 1 8 Try.underlying43 hi hz0 hz1 hz2 rfl (by decide) (.slice av q acap) o q (ints (tellTo l s1 m)) (HRW.out.alloc _) rfl ⟨wr.heap.size, 0, none⟩ 1 1 [.int .i64 x] rfl rfl (new_src _ _ _) (by simp [Value.oneCell']) (by unfold maxLen; omega) (by omega) ?_; intro v4 w4 o4 hR4 hB4 hN4; obtain ⟨a4, cap4, rfl, -, -⟩ := hR4.val; have O5 := Lib.hid (HO.out.put 0 (q := Pc.row 3 1 (.slice a4 (q + 1) cap4) o4 (q + 1) (ints (tellTo l s1 (m + 1)))) rfl (by show Row _ _ _ _ _ _ _; rw [HT2.out, ints_push]; exact hR4) (((But.refl _ wr).alloc _).trans hB4) (fun k hk => by rcases hN4 k hk with z | z; exact .inl z; (try simp at z); exact .inr (by omega))); clear hR4 hB4 hN4))
                  go_roundg (r - (m + 1))
                  case measure => omega
                  case rel => exact ⟨m + 1, q + 1, o4, by omega, by go_num, by omega, O5.out⟩
                | false =>
                  rw [hbi] at mi HT
                  have HT2 := Lib.hid (show tellTo l s1 (m + 1) = tellTo l s1 m by rw [HT.out]; rfl)
                  clear hbi HT
                  go_wp2_with fail
                  go_roundg (r - (m + 1))
                  case measure => omega
                  case rel => exact ⟨m + 1, q, o, by omega, by go_num, by omega, by rw [HT2.out]; exact HO.out⟩
              · obtain rfl : m = r := by omega
                go_wp2_with fail
                go_ret
                refine ⟨q, ?_⟩
                rw [HEND.out]
                exact ⟨_, o, rfl, HRW.out, fun k hk => HO.out.new 0 (by simp) k hk, HO.out.but⟩

end Graph
end Go.Proofs.Ytldgjmgdbaeglaa
