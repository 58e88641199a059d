/- The law WatchOwn of layer 23, walked: it answers true. -/
import Derived.Test.YtldgjmgdbaeglaaDoorWatchOwn
set_option linter.unusedVariables false
set_option linter.unusedSimpArgs false
namespace Go.Proofs.YtldgjmgdbaeglaaDoor
open Go.RowKit Go.ChangeShapes Go.WideShapes Go.Deep

namespace Watch

/-- Two books, apart, both new. -/
structure Two (w0 : World) (b1 b2 : Nat) (t : Int) (l : List Nt) (j : Nat) (w : World) : Prop where
  ex : ∃ S1 S2, Bk 16 b1 (nA 16 l j) w S1 ∧ Bk 16 b2 (nB 16 t l j) w S2 ∧ Apart S1 S2 ∧ (∀ c, S1 c → w0.heap.size ≤ c) ∧ (∀ c, S2 c → w0.heap.size ≤ c)
  but : But (fun _ => False) w0 w

theorem Two.keep {w0 w w' : World} {b1 b2 : Nat} {t : Int} {l : List Nt} {j : Nat} (h : Two w0 b1 b2 t l j w) (g : But (fun _ => False) w w') : Two w0 b1 b2 t l j w' := by
  obtain ⟨S1, S2, h1, h2, h3, h4, h5⟩ := h.ex
  exact ⟨⟨S1, S2, h1.keep g, h2.keep g, h3, h4, h5⟩, h.but.trans g⟩

/-- The first book has noted the next one. -/
structure Mid (w0 : World) (b1 b2 : Nat) (t : Int) (l : List Nt) (j : Nat) (w : World) : Prop where
  ex : ∃ S1 S2, Bk 16 b1 (nA 16 l (j + 1)) w S1 ∧ Bk 16 b2 (nB 16 t l j) w S2 ∧ Apart S1 S2 ∧ (∀ c, S1 c → w0.heap.size ≤ c) ∧ (∀ c, S2 c → w0.heap.size ≤ c)
  but : But (fun _ => False) w0 w
theorem Mid.keep {w0 w w' : World} {b1 b2 : Nat} {t : Int} {l : List Nt} {j : Nat} (h : Mid w0 b1 b2 t l j w) (g : But (fun _ => False) w w') : Mid w0 b1 b2 t l j w' := by
  obtain ⟨S1, S2, h1, h2, h3, h4, h5⟩ := h.ex
  exact ⟨⟨S1, S2, h1.keep g, h2.keep g, h3, h4, h5⟩, h.but.trans g⟩

theorem Two.note {w0 w : World} {b1 b2 : Nat} {t : Int} {l : List Nt} {j : Nat} (h : Two w0 b1 b2 t l j w) (x : Nt) (hx : nthN l j = x) (hj : j ≤ 200) (hok : x.a.ok) :
    Calls Tryd.prog 18 #[.pointer (some ⟨b1, 0, none⟩), .int .i64 x.t, .agg #[.int .i64 x.a.e, .int .i64 x.a.k, .int .u64 x.a.n]] w fun r w' => r = .returned (.int .i64 (noteE 16 x)) ∧ Mid w0 b1 b2 t l j w' := by
  obtain ⟨S1, S2, h1, h2, h3, h4, h5⟩ := h.ex
  obtain ⟨xt, ⟨xe, xk, xn⟩⟩ := x
  refine (note_any 16 b1 (nA 16 l j) xt xe xk xn w S1 h1 (Nat.le_trans (nA_le _ _ _) hj) hok).mono ?_
  rintro r w' ⟨rfl, S', k1, g, hs⟩
  have hz := h.but.size
  refine ⟨rfl, ⟨S', S2, ?_, h2.but g h3, h3.step h2.lt hs, (fun c hc => ?_), h5⟩, h.but.trans' g (fun c hc => .inr (h4 c hc))⟩
  · show Bk 16 b1 (Watch.note 16 (nA 16 l j) (nthN l j)) w' S'
    rw [hx]; exact k1
  · rcases hs c hc with q | q
    · exact h4 c q
    · omega
theorem Mid.other {w0 w : World} {b1 b2 : Nat} {t : Int} {l : List Nt} {j : Nat} (h : Mid w0 b1 b2 t l j w) (ht : (nthN l j).t ≠ t) : Two w0 b1 b2 t l (j + 1) w := by
  obtain ⟨S1, S2, h1, h2, h3, h4, h5⟩ := h.ex
  refine ⟨⟨S1, S2, h1, ?_, h3, h4, h5⟩, h.but⟩
  show Bk 16 b2 (if (nthN l j).t = t then _ else nB 16 t l j) w S2
  rw [if_neg ht]; exact h2
theorem Mid.note {w0 w : World} {b1 b2 : Nat} {t : Int} {l : List Nt} {j : Nat} (h : Mid w0 b1 b2 t l j w) (x : Nt) (hx : nthN l j = x) (ht : x.t = t) (hj : j ≤ 200) (hok : x.a.ok) :
    Calls Tryd.prog 18 #[.pointer (some ⟨b2, 0, none⟩), .int .i64 t, .agg #[.int .i64 x.a.e, .int .i64 x.a.k, .int .u64 x.a.n]] w fun r w' => r = .returned (.int .i64 (noteE 16 x)) ∧ Two w0 b1 b2 t l (j + 1) w' := by
  obtain ⟨S1, S2, h1, h2, h3, h4, h5⟩ := h.ex
  obtain ⟨xt, ⟨xe, xk, xn⟩⟩ := x
  subst ht
  refine (note_any 16 b2 (nB 16 xt l j) xt xe xk xn w S2 h2 (Nat.le_trans (nB_le _ _ _ _) hj) hok).mono ?_
  rintro r w' ⟨rfl, S', k1, g, hs⟩
  have hz := h.but.size
  refine ⟨rfl, ⟨S1, S', h1.but g h3.symm, ?_, (h3.symm.step h1.lt hs).symm, h4, (fun c hc => ?_)⟩, h.but.trans' g (fun c hc => .inr (h5 c hc))⟩
  · show Bk 16 b2 (if (nthN l j).t = xt then Watch.note 16 (nB 16 xt l j) (nthN l j) else _) w' S'
    rw [hx, if_pos rfl]; exact k1
  · rcases hs c hc with q | q
    · exact h5 c q
    · omega

set_option maxHeartbeats 32000000 in
set_option maxRecDepth 100000 in
theorem own_any (w : World) (ht : Lib.TabIs Tryd.prog w "internal/strconv.uint64pow10" .u64 Lib.pow10Tab) (a : Option Addr) (n cap : Nat) (V : Nat → Nat → Value) (e : Els w a n 4 V)
    (f : ∀ i, i < n → All2 [.i .i64, .i .i64, .i .i64, .i .u64] ((List.range 4).map (V i))) (z : n * 32 ≤ 140737488351232) (m : n ≤ cap ∧ cap ≤ maxLen) (x : Int) (wx : (Lit.int .u8 x).wf = true) :
    Calls Tryd.prog 6 #[.slice a n cap, .int .u8 x] w fun r w' => r = .returned (.bool true) ∧ But (fun _ => False) w w' := by
  obtain ⟨l, hs, hok⟩ := open_src e f
  obtain ⟨hn1, hn2⟩ := m
  have T := Lib.hid (show Tens w from ht)
  have HS := Lib.hid hs
  have HOK := Lib.hid hok
  have hx := bounds_u8 wx
  obtain ⟨d, hd⟩ : ∃ d : Nat, d = (x % 16).toNat := ⟨_, rfl⟩
  have hd16 : d < 16 := by omega
  have hm : x % 16 = (d : Int) := by omega
  have hmt : x.tmod 16 = (d : Int) := by rw [Int.tmod_eq_emod_of_nonneg (by omega)]; exact hm
  clear ht hs hok e f wx z hd
  have hx1 := hx.1
  have hx2 := hx.2
  by_cases hbig : 200 < n
  · clear hm hmt hd16
    go_enter Tryd.func6, Tryd.ntmps6
    go_wp2_with fail
    refine (alive_any w T.out).mono ?_
    rintro r w2 ⟨rfl, g2⟩
    go_wp2_with fail
    go_ret
    exact ⟨rfl, g2⟩
  · go_enter Tryd.func6, Tryd.ntmps6
    go_wp2_with fail
    refine (new_any 16 w (by decide) (by decide)).mono ?_
    rintro r w1 ⟨b1, S1, rfl, hk1, hs1, g1⟩
    have K1 := Lib.hid hk1
    have HS1 := Lib.hid hs1
    have G1 := Lib.hid g1
    clear hk1 hs1 g1
    go_wp2_with fail
    refine (new_any 16 w1 (by decide) (by decide)).mono ?_
    rintro r w2 ⟨b2, S2, rfl, hk2, hs2, g2⟩
    obtain ⟨t, htd⟩ : ∃ t : Int, t = (d : Int) + 1 := ⟨_, rfl⟩
    have H0 := Lib.hid (show Two w b1 b2 t l 0 w2 from ⟨⟨S1, S2, K1.out.keep g2, hk2, (fun c p q => by have := K1.out.lt c p; have := hs2 c q; omega), HS1.out, (fun c hc => Nat.le_trans G1.out.size (hs2 c hc))⟩, G1.out.trans g2⟩)
    have HTD := Lib.hid htd
    clear hk2 hs2 g2 K1 HS1 G1
    go_wp2_with fail
    try rw [hmt]
    try rw [hm]
    rw [← htd]
    clear htd hm hmt hd16
    go_loopg [10, 11] n (fun k c i wr => ∃ j : Nat, j + k = n ∧ i = .int .i64 j ∧ c = .int .i64 ((nA 16 l j).length : Int) ∧ Two w b1 b2 t l j wr)
    case atStart => exact ⟨0, by omega, rfl, rfl, H0.out⟩
    case round =>
      obtain ⟨j, hj, rfl, rfl, h2⟩ := hrel
      have H2 := Lib.hid h2
      have hle := nA_le 16 l j
      clear h2
      by_cases hlt : j < n
      · obtain ⟨c, off, rfl, hc, p0, p1, p2, p3⟩ := (HS.out.keep H2.out.but).at_ j hlt
        have hj200 : j ≤ 200 := by omega
        have hxo : (nthN l j).a.ok := HOK.out _ (by
          unfold nthN
          rw [List.getD_eq_getElem?_getD, List.getElem?_eq_getElem (by rw [HS.out.len]; exact hlt)]
          exact List.getElem_mem _)
        obtain ⟨y, hy⟩ : ∃ y, nthN l j = y := ⟨_, rfl⟩
        have HL := Lib.hid (show ((nA 16 l (j + 1)).length : Int) = (nA 16 l j).length + (if noteE 16 y = 0 then 1 else 0) from hy ▸ note_len 16 (nA 16 l j) (nthN l j))
        rw [hy] at p0 p1 p2 p3 hxo
        have HY := Lib.hid hy
        have HXO := Lib.hid hxo
        obtain ⟨q, hq⟩ : ∃ q : Nat, q = (nA 16 l j).length := ⟨_, rfl⟩
        rw [← hq] at HL hle ⊢
        obtain ⟨yt, ⟨ye, yk, yn⟩⟩ := y
        clear hy hxo hq
        go_wp2_with fail
        go_still_tail 11, (by kernel_rfl)
        change wpList _ _ _ _ _ wr.drew
        obtain ⟨wd, hwd⟩ : ∃ wd, wd = wr.drew := ⟨_, rfl⟩
        have H3 := Lib.hid (show Two w b1 b2 t l j wd from hwd ▸ H2.out.keep ((But.refl _ wr).drew))
        rw [← hwd]
        clear hwd p0 p1 p2 p3
        go_wp2_with fail
        refine (H3.out.note ⟨yt, ⟨ye, yk, yn⟩⟩ HY.out hj200 HXO.out).mono ?_
        rintro r w4 ⟨rfl, h4⟩
        have H4 := Lib.hid h4
        obtain ⟨c2, off2, e2, hc2, p0, p1, p2, p3⟩ := (HS.out.keep h4.but).at_ j hlt
        obtain ⟨rfl, rfl⟩ : c = c2 ∧ off = off2 := by simpa using e2
        rw [HY.out] at p0 p1 p2 p3
        clear h4 e2
        rcases (show noteE 16 ⟨yt, ⟨ye, yk, yn⟩⟩ = 0 ∨ noteE 16 ⟨yt, ⟨ye, yk, yn⟩⟩ = 1 by unfold noteE; split; exact .inl rfl; exact .inr rfl) with hg | hg
        all_goals
          rw [hg] at HL ⊢
          have HL2 := Lib.hid HL.out
          clear HL hg
          by_cases ht : yt = t
          · subst ht
            go_wp2_with fail
            refine (H4.out.note ⟨yt, ⟨ye, yk, yn⟩⟩ HY.out rfl hj200 HXO.out).mono ?_
            rintro r w5 ⟨rfl, h5⟩
            have H5 := Lib.hid h5
            clear h5 p0 p1 p2 p3
            go_wp2_with fail
            go_roundg (n - (j + 1))
            case measure => omega
            case rel => exact ⟨j + 1, by omega, by go_num, by rw [HL2.out]; first | rfl | go_num, H5.out⟩
          · have ht0 : (yt == t) = false := by simpa using ht
            have H5 := Lib.hid (H4.out.other (by rw [HY.out]; exact ht))
            clear ht
            go_wp2_with fail
            go_roundg (n - (j + 1))
            case measure => omega
            case rel => exact ⟨j + 1, by omega, by go_num, by rw [HL2.out]; first | rfl | go_num, H5.out⟩
      · have hjn : j = n := by omega
        have hn200 : (nA 16 l j).length ≤ 200 := by omega
        have hb200 : (nB 16 t l j).length ≤ 200 := Nat.le_trans (nB_le 16 t l j) (by omega)
        clear hjn hle
        obtain ⟨A, hA⟩ : ∃ A, A = nA 16 l j := ⟨_, rfl⟩
        obtain ⟨B, hB⟩ : ∃ B, B = nB 16 t l j := ⟨_, rfl⟩
        have HLG := Lib.hid (show logOf B t = logOf A t by rw [hA, hB]; exact own_log 16 t l j)
        have HLB := Lib.hid (show (logOf B t).length = B.length by rw [hB]; exact own_len 16 t l j)
        obtain ⟨S1, S2, k1, k2, -, -, -⟩ := H2.out.ex
        rw [← hA] at k1 hn200 ⊢
        rw [← hB] at k2 hb200
        have K1 := Lib.hid k1
        have K2 := Lib.hid k2
        have G0 := Lib.hid H2.out.but
        clear hA hB k1 k2 H2
        have hla : (logOf A t).length ≤ 1000 := Nat.le_trans (logOf_le A t) (by omega)
        obtain ⟨p, hp⟩ : ∃ p, p = A.length := ⟨_, rfl⟩
        have HP := Lib.hid hp
        rw [← hp] at hn200 ⊢
        clear hp
        go_wp2_with fail
        refine (log_any 16 b1 A t wr S1 K1.out (by rw [← HP.out]; exact hn200)).mono ?_
        rintro r w5 ⟨v5, o5, rfl, hR5, -, g5⟩
        have HR5 := Lib.hid hR5
        have HG5 := Lib.hid g5
        obtain ⟨a5, cap5, hv5, hc51, hc52⟩ := hR5.val
        subst hv5
        clear hR5 g5
        go_wp2_with fail
        refine (log_any 16 b2 B t w5 S2 (K2.out.keep HG5.out) hb200).mono ?_
        rintro r w6 ⟨v6, o6, rfl, hR6, -, g6⟩
        rw [HLG.out] at hR6
        have HR6 := Lib.hid hR6
        have HG6 := Lib.hid g6
        obtain ⟨a6, cap6, hv6, hc61, hc62⟩ := hR6.val
        subst hv6
        clear hR6 g6
        go_wp2_with fail
        refine (same_any _ _ o5 o6 (logOf A t) (logOf A t) w6 (HR5.out.but HG6.out (fun _ _ q => q)) HR6.out hla hla).mono ?_
        rintro r w7 ⟨rfl, g7⟩
        rw [decide_eq_true rfl]
        have HG7 := Lib.hid (((G0.out.trans HG5.out).trans HG6.out).trans g7)
        have K17 := Lib.hid (((K1.out.keep HG5.out).keep HG6.out).keep g7)
        have K27 := Lib.hid (((K2.out.keep HG5.out).keep HG6.out).keep g7)
        clear g7 hc51 hc52 hc61 hc62
        go_wp2_with fail
        refine (alive_any w7 (T.out.keep HG7.out)).mono ?_
        rintro r w8 ⟨rfl, g8⟩
        have HG8 := Lib.hid g8
        clear g8
        go_wp2_with fail
        refine (len_any 16 b1 A w8 S1 (K17.out.keep HG8.out) (by rw [← HP.out]; exact hn200)).mono ?_
        rintro r w9 ⟨rfl, g9⟩
        rw [← HP.out]
        have HG9 := Lib.hid g9
        clear g9
        go_wp2_with fail
        refine (len_any 16 b2 B w9 S2 ((K27.out.keep HG8.out).keep HG9.out) hb200).mono ?_
        rintro r w10 ⟨rfl, g10⟩
        have HG10 := Lib.hid g10
        clear g10
        go_wp2_with fail
        refine (log_any 16 b2 B t w10 S2 (((K27.out.keep HG8.out).keep HG9.out).keep HG10.out) hb200).mono ?_
        rintro r w11 ⟨v11, o11, rfl, hR11, -, g11⟩
        have HR11 := Lib.hid hR11
        obtain ⟨a11, cap11, hv11, hc11, hc12⟩ := hR11.val
        subst hv11
        rw [HLB.out] at hc11 ⊢
        clear hR11
        go_wp2_with fail
        go_ret
        exact ⟨rfl, (((HG7.out.trans HG8.out).trans HG9.out).trans HG10.out).trans g11⟩

end Watch
end Go.Proofs.YtldgjmgdbaeglaaDoor
