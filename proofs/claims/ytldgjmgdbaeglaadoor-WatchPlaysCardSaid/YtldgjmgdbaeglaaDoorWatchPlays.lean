/- The law WatchPlays of layer 23, walked: it answers true; printed by gen_watch3.py. -/
import Derived.Test.YtldgjmgdbaeglaaDoorWatchOwn
set_option linter.unusedVariables false
set_option linter.unusedSimpArgs false
namespace Go.Proofs.YtldgjmgdbaeglaaDoor
open Go.RowKit Go.ChangeShapes Go.WideShapes Go.Deep

namespace Watch

theorem rowS_at {w : World} {v : Value} {o : Option Nat} {l : List Ans} (h : Row w 9 1 v o l.length (strs l)) {i : Nat} (hi : i < l.length) :
    ∃ c off cap, v = .slice (some ⟨c, off, none⟩) l.length cap ∧ c < w.heap.size ∧ l.length ≤ cap ∧ w.cell? ⟨c, off + i, none⟩ = some (strA (nthA l i)) := by
  obtain ⟨c, off, cap, rfl, ho, hlt, hcap, hc, -⟩ := h.cells (by omega)
  refine ⟨c, off, cap, rfl, hlt, hcap, ?_⟩
  rw [hc i (by omega)]
  unfold strs nthA
  rw [List.getElem?_map, List.getD_eq_getElem?_getD, List.getElem?_eq_getElem hi]
  rfl
theorem note_ok {T : Int} {H : List Nt} {x : Nt} (h : AllOk H) (hx : x.a.ok) : AllOk (note T H x) := by
  unfold note
  split
  · intro y hy
    rcases List.mem_append.1 hy with q | q
    · exact h y q
    · simp at q; subst q; exact hx
  · exact h
theorem nth_ok {l : List Nt} (h : AllOk l) {j : Nat} (hj : j < l.length) : (nthN l j).a.ok := h _ (by
  unfold nthN
  rw [List.getD_eq_getElem?_getD, List.getElem?_eq_getElem hj]
  exact List.getElem_mem _)
theorem nA_ok {T : Int} {l : List Nt} (h : AllOk l) : ∀ j, j ≤ l.length → AllOk (nA T l j)
  | 0, _ => fun x hx => by cases hx
  | j + 1, hj => note_ok (nA_ok h j (by omega)) (nth_ok h (by omega))

/-- The book, and the document's list. -/
structure Both (w0 : World) (b : Nat) (T : Int) (H : List Nt) (v : Value) (w : World) : Prop where
  ex : ∃ S o, Bk T b H w S ∧ RowN w v o H ∧ Apart S (fun c => o = some c) ∧ (∀ c, S c → w0.heap.size ≤ c) ∧ (∀ c, o = some c → w0.heap.size ≤ c)
  but : But (fun _ => False) w0 w
theorem Both.keep {w0 w w' : World} {b : Nat} {T : Int} {H : List Nt} {v : Value} (h : Both w0 b T H v w) (g : But (fun _ => False) w w') : Both w0 b T H v w' := by
  obtain ⟨S, o, h1, h2, h3, h4, h5⟩ := h.ex
  exact ⟨⟨S, o, h1.keep g, h2.but g (fun _ _ q => q), h3, h4, h5⟩, h.but.trans g⟩
/-- The book has noted x, the document has not yet. -/
structure Half (w0 : World) (b : Nat) (T : Int) (H : List Nt) (x : Nt) (v : Value) (w : World) : Prop where
  ex : ∃ S o, Bk T b (note T H x) w S ∧ RowN w v o H ∧ Apart S (fun c => o = some c) ∧ (∀ c, S c → w0.heap.size ≤ c) ∧ (∀ c, o = some c → w0.heap.size ≤ c)
  but : But (fun _ => False) w0 w
theorem Half.keep {w0 w w' : World} {b : Nat} {T : Int} {H : List Nt} {x : Nt} {v : Value} (h : Half w0 b T H x v w) (g : But (fun _ => False) w w') : Half w0 b T H x v w' := by
  obtain ⟨S, o, h1, h2, h3, h4, h5⟩ := h.ex
  exact ⟨⟨S, o, h1.keep g, h2.but g (fun _ _ q => q), h3, h4, h5⟩, h.but.trans g⟩
theorem Both.note {w0 w : World} {b : Nat} {T : Int} {H : List Nt} {v : Value} (h : Both w0 b T H v w) (x : Nt) (hH : H.length ≤ 200) (hok : x.a.ok) :
    Calls Tryd.prog 18 #[.pointer (some ⟨b, 0, none⟩), .int .i64 x.t, .agg #[.int .i64 x.a.e, .int .i64 x.a.k, .int .u64 x.a.n]] w fun r w' => r = .returned (.int .i64 (noteE T x)) ∧ Half w0 b T H x v w' := by
  obtain ⟨S, o, h1, h2, h3, h4, h5⟩ := h.ex
  obtain ⟨xt, ⟨xe, xk, xn⟩⟩ := x
  refine (note_any T b H xt xe xk xn w S h1 hH hok).mono ?_
  rintro r w' ⟨rfl, S', k1, g, hs⟩
  have hz := h.but.size
  refine ⟨rfl, ⟨S', o, k1, h2.but g (fun c hc q => h3 c q hc), h3.step (fun c hc => h2.lt hc) hs, (fun c hc => ?_), h5⟩, h.but.trans' g (fun c hc => .inr (h4 c hc))⟩
  rcases hs c hc with q | q
  · exact h4 c q
  · omega
theorem Half.note {w0 w : World} {b : Nat} {T : Int} {H : List Nt} {x : Nt} {v : Value} (h : Half w0 b T H x v w) (hH : H.length ≤ 200) (hok : x.a.ok) :
    Calls Tryd.prog 19 #[v, .int .i64 T, .int .i64 x.t, .agg #[.int .i64 x.a.e, .int .i64 x.a.k, .int .u64 x.a.n]] w fun r w' => ∃ v', r = .returned (.tuple #[v', .int .i64 (noteE T x)]) ∧ Both w0 b T (note T H x) v' w' := by
  obtain ⟨S, o, h1, h2, h3, h4, h5⟩ := h.ex
  obtain ⟨xt, ⟨xe, xk, xn⟩⟩ := x
  refine (ref_note v o H T xt xe xk xn w h2 hH hok).mono ?_
  rintro r w' ⟨v', o', rfl, k1, ho, g⟩
  have hz := h.but.size
  refine ⟨v', rfl, ⟨S, o', h1.keep g, k1, (fun c p q => ?_), h4, (fun c hc => ?_)⟩, h.but.trans g⟩
  · rcases ho c q with y | y
    · exact h3 c p y
    · have := h1.lt c p; omega
  · rcases ho c hc with y | y
    · exact h5 c y
    · omega

set_option maxHeartbeats 32000000 in
set_option maxRecDepth 100000 in
theorem plays_any (w : World) (ht : Lib.TabIs Tryd.prog w "internal/strconv.uint64pow10" .u64 Lib.pow10Tab) (T : Int) (wT : (Lit.int .i64 T).wf = true) (a : Option Addr) (n cap : Nat) (V : Nat → Nat → Value) (e : Els w a n 4 V)
    (f : ∀ i, i < n → All2 [.i .i64, .i .i64, .i .i64, .i .u64] ((List.range 4).map (V i))) (z : n * 32 ≤ 140737488351232) (m : n ≤ cap ∧ cap ≤ maxLen) :
    Calls Tryd.prog 5 #[.int .i64 T, .slice a n cap] w fun r w' => r = .returned (.bool true) ∧ But (fun _ => False) w w' := by
  obtain ⟨l, hs, hok⟩ := open_src e f
  obtain ⟨hn1, hn2⟩ := m
  have TT := Lib.hid (show Tens w from ht)
  have HS := Lib.hid hs
  have HOK := Lib.hid hok
  clear ht hs hok e f z wT
  by_cases hbig : 200 < n
  · go_enter Tryd.func5, Tryd.ntmps5
    go_wp2_with fail
    refine (alive_any w TT.out).mono ?_
    rintro r w2 ⟨rfl, g2⟩
    go_wp2_with fail
    go_ret
    exact ⟨rfl, g2⟩
  by_cases hT : T < 1 ∨ 16 < T
  · have HN := Lib.hid (fun w => new_not T w hT)
    rcases (show T < 1 ∨ (1 ≤ T ∧ 16 < T) by omega) with h1 | ⟨h1, h2⟩
    all_goals
      clear hT
      go_enter Tryd.func5, Tryd.ntmps5
      go_wp2_with fail
      refine (HN.out w).mono ?_
      rintro r w1 ⟨rfl, g1⟩
      go_wp2_with fail
      refine (alive_any w1 (TT.out.keep g1)).mono ?_
      rintro r w2 ⟨rfl, g2⟩
      go_wp2_with fail
      go_ret
      exact ⟨rfl, g1.trans g2⟩
  have hT1 : 1 ≤ T := by omega
  have hT2 : T ≤ 16 := by omega
  clear hT
  go_enter Tryd.func5, Tryd.ntmps5
  go_wp2_with fail
  refine (new_any T w hT1 hT2).mono ?_
  rintro r w1 ⟨b, S1, rfl, hk1, hs1, g1⟩
  have H0 := Lib.hid (show Both w b T (nA T l 0) (.slice none 0 0) w1 from ⟨⟨S1, none, hk1, Row.nil _ _ _, (fun c p q => by cases q), hs1, (fun c q => by cases q)⟩, g1⟩)
  clear hk1 hs1 g1
  go_wp2_with fail
  go_loopg [7, 8] n (fun k v i wr => ∃ j : Nat, j + k = n ∧ i = .int .i64 j ∧ Both w b T (nA T l j) v wr)
  case atStart => exact ⟨0, by omega, rfl, H0.out⟩
  case round =>
    obtain ⟨j, hj, rfl, h2⟩ := hrel
    have H2 := Lib.hid h2
    have hle := nA_le T l j
    clear h2
    by_cases hlt : j < n
    · obtain ⟨c, off, rfl, hc, p0, p1, p2, p3⟩ := (HS.out.keep H2.out.but).at_ j hlt
      have hj200 : (nA T l j).length ≤ 200 := by omega
      have hj201 : (nA T l (j + 1)).length ≤ 200 := Nat.le_trans (nA_le T l (j + 1)) (by omega)
      have HAO := Lib.hid (nA_ok (T := T) HOK.out (j + 1) (by rw [HS.out.len]; omega))
      have hxo : (nthN l j).a.ok := nth_ok HOK.out (by rw [HS.out.len]; exact hlt)
      obtain ⟨y, hy⟩ : ∃ y, nthN l j = y := ⟨_, rfl⟩
      rw [hy] at p0 p1 p2 p3 hxo
      have HY := Lib.hid hy
      have HXO := Lib.hid hxo
      have HNX := Lib.hid (show note T (nA T l j) y = nA T l (j + 1) by rw [← hy]; rfl)
      obtain ⟨yt, ⟨ye, yk, yn⟩⟩ := y
      obtain ⟨S0, o0, -, k2, -⟩ := id H2.out.ex
      obtain ⟨am, cm, hvm, -, -⟩ := k2.val
      subst hvm
      obtain ⟨g, hg⟩ : ∃ g, g = noteE T ⟨yt, ⟨ye, yk, yn⟩⟩ := ⟨_, rfl⟩
      have HG := Lib.hid hg
      have hgg : (g != g) = false := by simp
      obtain ⟨A, hA⟩ : ∃ A, A = nA T l (j + 1) := ⟨_, rfl⟩
      have HA := Lib.hid hA
      rw [← hA] at HNX HAO hj201
      clear hy hxo k2 hg hA
      go_wp2_with fail
      go_still_tail 11, (by kernel_rfl)
      change wpList _ _ _ _ _ wr.drew
      obtain ⟨wd, hwd⟩ : ∃ wd, wd = wr.drew := ⟨_, rfl⟩
      have H3 := Lib.hid (show Both w b T (nA T l j) _ wd from hwd ▸ H2.out.keep ((But.refl _ wr).drew))
      rw [← hwd]
      clear hwd p0 p1 p2 p3
      go_wp2_with fail
      refine (H3.out.note ⟨yt, ⟨ye, yk, yn⟩⟩ hj200 HXO.out).mono ?_
      rintro r w4 ⟨rfl, h4⟩
      rw [← HG.out]
      have H4 := Lib.hid h4
      obtain ⟨c2, off2, e2, hc2, p0, p1, p2, p3⟩ := (HS.out.keep h4.but).at_ j hlt
      obtain ⟨rfl, rfl⟩ : c = c2 ∧ off = off2 := by simpa using e2
      rw [HY.out] at p0 p1 p2 p3
      clear h4 e2
      go_wp2_with fail
      refine wp_region_any (by kernel_rfl) ?_
      change wpAny _ _ _ _ _ _ _ (World.drew _)
      obtain ⟨we, hwe⟩ : ∃ we, we = w4.drew := ⟨_, rfl⟩
      have H5 := Lib.hid (show Half w b T (nA T l j) ⟨yt, ⟨ye, yk, yn⟩⟩ _ we from hwe ▸ H4.out.keep ((But.refl _ w4).drew))
      replace p0 : we.cell? ⟨c, off + j * 4, none⟩ = some (.int .i64 yt) := hwe ▸ p0
      replace p1 : we.cell? ⟨c, off + j * 4 + 1, none⟩ = some (.int .i64 ye) := hwe ▸ p1
      replace p2 : we.cell? ⟨c, off + j * 4 + 2, none⟩ = some (.int .i64 yk) := hwe ▸ p2
      replace p3 : we.cell? ⟨c, off + j * 4 + 3, none⟩ = some (.int .u64 yn) := hwe ▸ p3
      rw [← hwe]
      clear hwe
      refine wpAny_take (i := 0) (oi := ⟨some 66, _, _, _, _, _⟩) (v := ?_) rfl (by kernel_rfl) (by kernel_rfl) (by kernel_rfl) (fun _ _ _ h => h) (Or.inl ⟨by rfl, ?_⟩) ?_
      rotate_left
      · intro w
        go_simp
        try with_reducible rfl
      simp only [Act.put, List.setIfInBounds_toArray, List.set_cons_zero, List.set_cons_succ]
      refine wpAny_take (i := 1) (oi := ⟨some 67, _, _, _, _, _⟩) (v := ?_) rfl (by kernel_rfl) (by kernel_rfl) (by kernel_rfl) (fun _ _ _ h => h) (Or.inl ⟨by rfl, ?_⟩) ?_
      rotate_left
      · intro w
        go_simp
        try with_reducible rfl
      simp only [Act.put, List.setIfInBounds_toArray, List.set_cons_zero, List.set_cons_succ]
      refine wpAny_take (i := 2) (oi := ⟨some 68, _, _, _, _, _⟩) (v := ?_) rfl (by kernel_rfl) (by kernel_rfl) (by kernel_rfl) (fun _ _ _ h => h) (Or.inl ⟨by rfl, ?_⟩) ?_
      rotate_left
      · intro w
        go_simp
        try with_reducible rfl
      simp only [Act.put, List.setIfInBounds_toArray, List.set_cons_zero, List.set_cons_succ]
      refine wpAny_take (i := 3) (oi := ⟨some 69, _, _, _, _, _⟩) (v := ?_) rfl (by kernel_rfl) (by kernel_rfl) (by kernel_rfl) (fun _ _ _ h => h) (Or.inl ⟨by rfl, ?_⟩) ?_
      rotate_left
      · intro w
        go_simp
        try with_reducible rfl
      simp only [Act.put, List.setIfInBounds_toArray, List.set_cons_zero, List.set_cons_succ]
      refine wpAny_take (i := 4) (oi := ⟨some 70, _, _, _, _, _⟩) (v := ?_) rfl (by kernel_rfl) (by kernel_rfl) (by kernel_rfl) (fun _ _ _ h => h) (Or.inl ⟨by rfl, ?_⟩) ?_
      rotate_left
      · intro w
        go_simp
        try with_reducible rfl
      simp only [Act.put, List.setIfInBounds_toArray, List.set_cons_zero, List.set_cons_succ]
      refine wpAny_take (i := 5) (oi := ⟨some 71, _, _, _, _, _⟩) (v := ?_) rfl (by kernel_rfl) (by kernel_rfl) (by kernel_rfl) (fun _ _ _ h => h) (Or.inl ⟨by rfl, ?_⟩) ?_
      rotate_left
      · intro w
        go_simp
        try with_reducible rfl
      simp only [Act.put, List.setIfInBounds_toArray, List.set_cons_zero, List.set_cons_succ]
      refine wpAny_take (i := 7) (oi := ⟨some 73, _, _, _, _, _⟩) (v := ?_) rfl (by kernel_rfl) (by kernel_rfl) (by kernel_rfl) (fun _ _ _ h => h) (Or.inl ⟨by rfl, ?_⟩) ?_
      rotate_left
      · intro w
        go_simp
        try with_reducible rfl
      simp only [Act.put, List.setIfInBounds_toArray, List.set_cons_zero, List.set_cons_succ]
      refine wpAny_take (i := 8) (oi := ⟨some 74, _, _, _, _, _⟩) (v := ?_) rfl (by kernel_rfl) (by kernel_rfl) (by kernel_rfl) (fun _ _ _ h => h) (Or.inl ⟨by rfl, ?_⟩) ?_
      rotate_left
      · intro w
        go_simp
        try with_reducible rfl
      simp only [Act.put, List.setIfInBounds_toArray, List.set_cons_zero, List.set_cons_succ]
      refine wpAny_take (i := 9) (oi := ⟨some 75, _, _, _, _, _⟩) (v := ?_) rfl (by kernel_rfl) (by kernel_rfl) (by kernel_rfl) (fun _ _ _ h => h) (Or.inl ⟨by rfl, ?_⟩) ?_
      rotate_left
      · intro w
        go_simp
        try with_reducible rfl
      simp only [Act.put, List.setIfInBounds_toArray, List.set_cons_zero, List.set_cons_succ]
      refine wpAny_take (i := 10) (oi := ⟨some 76, _, _, _, _, _⟩) (v := ?_) rfl (by kernel_rfl) (by kernel_rfl) (by kernel_rfl) (fun _ _ _ h => h) (Or.inl ⟨by rfl, ?_⟩) ?_
      rotate_left
      · intro w
        go_simp
        try with_reducible rfl
      simp only [Act.put, List.setIfInBounds_toArray, List.set_cons_zero, List.set_cons_succ]
      refine wpAny_ready (rs := [6, 11]) (by kernel_rfl) (by simp) ?_
      refine AllReady.cons rfl (fun K hK => ?_) (AllReady.cons rfl (fun K hK => ?_) AllReady.nil)
      go_simp
      refine hK _ _ ?_
      clear hK K
      refine wpAny_ready (rs := [11]) (by kernel_rfl) (by simp) ?_
      refine AllReady.cons rfl (fun K hK => ?_) AllReady.nil
      go_simp
      refine hK _ _ ?_
      clear hK K
      rotate_left
      go_simp
      refine hK _ _ ?_
      clear hK K
      refine wpAny_ready (rs := [6]) (by kernel_rfl) (by simp) ?_
      refine AllReady.cons rfl (fun K hK => ?_) AllReady.nil
      go_simp
      refine hK _ _ ?_
      clear hK K
      rotate_left
      all_goals
        refine wpAny_ready (rs := [12]) (by kernel_rfl) (by simp) ?_
        refine AllReady.cons rfl (fun K hK => ?_) AllReady.nil
        go_simp
        clear p0 p1 p2 p3
        refine (H5.out.note hj200 HXO.out).mono ?_
        rintro r w6 ⟨v6, rfl, h6⟩
        rw [HNX.out] at h6
        rw [← HG.out]
        refine hK _ _ ?_
        clear hK K
        try simp only [Act.put, List.setIfInBounds_toArray, List.set_cons_zero, List.set_cons_succ]
        refine wpAny_take (i := 13) (oi := ⟨some 65, _, _, _, _, _⟩) (v := ?_) rfl (by kernel_rfl) (by kernel_rfl) (by kernel_rfl) (fun _ _ _ h => h) (Or.inl ⟨by rfl, ?_⟩) ?_
        rotate_left
        · intro w
          go_simp
          try with_reducible rfl
        simp only [Act.put, List.setIfInBounds_toArray, List.set_cons_zero, List.set_cons_succ]
        refine wpAny_take (i := 14) (oi := ⟨some 79, _, _, _, _, _⟩) (v := ?_) rfl (by kernel_rfl) (by kernel_rfl) (by kernel_rfl) (fun _ _ _ h => h) (Or.inl ⟨by rfl, ?_⟩) ?_
        rotate_left
        · intro w
          go_simp
          try with_reducible rfl
        simp only [Act.put, List.setIfInBounds_toArray, List.set_cons_zero, List.set_cons_succ]
        refine wpAny_take (i := 15) (oi := ⟨some 80, _, _, _, _, _⟩) (v := ?_) rfl (by kernel_rfl) (by kernel_rfl) (by kernel_rfl) (fun _ _ _ h => h) (Or.inl ⟨by rfl, ?_⟩) ?_
        rotate_left
        · intro w
          go_simp
          try with_reducible rfl
        simp only [Act.put, List.setIfInBounds_toArray, List.set_cons_zero, List.set_cons_succ]
        refine wpAny_take (i := 16) (oi := ⟨some 10, _, _, _, _, _⟩) (v := ?_) rfl (by kernel_rfl) (by kernel_rfl) (by kernel_rfl) (fun _ _ _ h => h) (Or.inl ⟨by rfl, ?_⟩) ?_
        rotate_left
        · intro w
          go_simp
          try with_reducible rfl
        simp only [Act.put, List.setIfInBounds_toArray, List.set_cons_zero, List.set_cons_succ]
        refine wpAny_take (i := 17) (oi := ⟨some 11, _, _, _, _, _⟩) (v := ?_) rfl (by kernel_rfl) (by kernel_rfl) (by kernel_rfl) (fun _ _ _ h => h) (Or.inl ⟨by rfl, ?_⟩) ?_
        rotate_left
        · intro w
          go_simp
          try with_reducible rfl
        simp only [Act.put, List.setIfInBounds_toArray, List.set_cons_zero, List.set_cons_succ]
        refine wpAny_done (by kernel_rfl) ?_ _
        obtain ⟨S, o6, kb, kr, -⟩ := id h6.ex
        obtain ⟨a6, c6, hv6, -, -⟩ := kr.val
        subst hv6
        have H6 := Lib.hid h6
        have KB := Lib.hid kb
        have KR := Lib.hid kr
        obtain ⟨c2, off2, e2, hc3, p0, -, -, -⟩ := (HS.out.keep h6.but).at_ j hlt
        obtain ⟨rfl, rfl⟩ : c = c2 ∧ off = off2 := by simpa using e2
        rw [HY.out] at p0
        clear h6 e2 kb kr
        have hA1 : A.length ≤ 1000 := by omega
        have hla : (logOf A yt).length ≤ 1000 := Nat.le_trans (logOf_le A yt) hA1
        go_wp2_with fail
        refine (ref_log _ o6 A yt w6 KR.out hA1).mono ?_
        rintro r w7 ⟨v7, o7, rfl, hR7, -, g7⟩
        have HR7 := Lib.hid hR7
        have HG7 := Lib.hid g7
        obtain ⟨a7, c7, hv7, hc71, -⟩ := hR7.val
        subst hv7
        replace p0 : w7.cell? ⟨c, off + j * 4, none⟩ = some (.int .i64 yt) := by rw [World.cell?_of_block (w := w6) (g7.block c hc3 (fun q => q))]; exact p0
        have hc7 : c < w7.heap.size := Nat.lt_of_lt_of_le hc3 g7.size
        clear hR7 g7
        go_wp2_with fail
        refine (log_any T b A yt w7 S (KB.out.keep HG7.out) hj201).mono ?_
        rintro r w8 ⟨v8, o8, rfl, hR8, -, g8⟩
        have HR8 := Lib.hid hR8
        have HG8 := Lib.hid g8
        obtain ⟨a8, c8, hv8, hc81, -⟩ := hR8.val
        subst hv8
        clear hR8 g8
        go_wp2_with fail
        refine (same_any _ _ o8 o7 (logOf A yt) (logOf A yt) w8 HR8.out (HR7.out.but HG8.out (fun _ _ q => q)) hla hla).mono ?_
        rintro r w9 ⟨rfl, g9⟩
        rw [decide_eq_true rfl]
        have HG9 := Lib.hid ((HG7.out.trans HG8.out).trans g9)
        have HG79 := Lib.hid (HG8.out.trans g9)
        replace p0 : w9.cell? ⟨c, off + j * 4, none⟩ = some (.int .i64 yt) := by rw [World.cell?_of_block (w := w7) (HG79.out.block c hc7 (fun q => q))]; exact p0
        clear g9
        go_wp2_with fail
        refine (texts_any T b A yt w9 S (KB.out.keep HG9.out) hj201 HAO.out (TT.out.keep (H6.out.but.trans HG9.out))).mono ?_
        rintro r w10 ⟨v10, o10, rfl, hR10, -, g10⟩
        have HR10 := Lib.hid hR10
        have HG10 := Lib.hid (HG9.out.trans g10)
        have HG710 := Lib.hid (HG79.out.trans g10)
        obtain ⟨a10, c10, hv10, hc101, -⟩ := hR10.val
        subst hv10
        clear hR10 g10 p0
        obtain ⟨q, hq⟩ : ∃ q, q = (logOf A yt).length := ⟨_, rfl⟩
        obtain ⟨u, hu⟩ : ∃ u, u = A.length := ⟨_, rfl⟩
        have HQ := Lib.hid hq
        have HU := Lib.hid hu
        rw [← hq] at hla hc101 hc71 ⊢
        rw [← hu]
        clear hq hu
        go_wp2_with fail
        refine (len_any T b A w10 S (KB.out.keep HG10.out) hj201).mono ?_
        rintro r w11 ⟨rfl, g11⟩
        rw [← HU.out]
        have HG11 := Lib.hid (HG10.out.trans g11)
        have HR11 := Lib.hid (HR10.out.but g11 (fun _ _ q => q))
        have HW11 := Lib.hid (HR7.out.but (HG710.out.trans g11) (fun _ _ q => q))
        have H11 := Lib.hid (H6.out.keep HG11.out)
        clear g11
        go_wp2_with fail
        go_loopg [15] q (fun k i wq => ∃ i' : Nat, i' + k = q ∧ i = .int .i64 i' ∧ But (fun _ => False) w11 wq)
        case atStart => exact ⟨0, by omega, rfl, But.refl _ _⟩
        case round =>
          obtain ⟨i, hi, rfl, hX⟩ := hrel
          by_cases hlti : i < q
          · obtain ⟨cs, offs, cps, e1, hcs, -, hps⟩ := rowS_at (HR11.out.but hX (fun _ _ q => q)) (i := i) (by rw [← HQ.out]; exact hlti)
            obtain ⟨rfl, -, rfl⟩ := Value.slice.inj e1
            obtain ⟨ca, offa, cpa, e2, -, hca, -, pa0, pa1, pa2⟩ := rowA_at (HW11.out.but hX (fun _ _ q => q)) (i := i) (by rw [← HQ.out]; exact hlti)
            obtain ⟨rfl, -, rfl⟩ := Value.slice.inj e2
            have hxok := logOf_ok HAO.out yt _ (nthA_mem (l := logOf A yt) (i := i) (by rw [← HQ.out]; exact hlti))
            clear e1 e2
            generalize nthA (logOf A yt) i = x at *
            obtain ⟨xe, xk, xn⟩ := x
            have HREF := Lib.hid (fun w => Answer.ref_text xe xk xn w hxok)
            have hps' : wr.cell? ⟨cs, offs + i, none⟩ = some (.string ⟨(Answer.textL xe xk xn).toArray⟩) := hps
            obtain ⟨sx, hsx⟩ : ∃ sx : ByteArray, sx = ⟨(Answer.textL xe xk xn).toArray⟩ := ⟨_, rfl⟩
            rw [← hsx] at hps' HREF
            have hss : decide (sx = sx) = true := decide_eq_true rfl
            have HX := Lib.hid hX
            clear hps hxok hsx hX
            go_wp2_with fail
            refine wp_region_any (by kernel_rfl) ?_
            change wpAny _ _ _ _ _ _ _ (World.drew _)
            obtain ⟨u0, hu0⟩ : ∃ u, u = wr.drew := ⟨_, rfl⟩
            have HXu0 := Lib.hid (show But (fun _ => False) w11 u0 from hu0 ▸ HX.out.drew)
            have ps0 : u0.cell? ⟨cs, offs + i, none⟩ = some (.string sx) := hu0 ▸ hps'
            have HPS := Lib.hid ps0
            have pb0 : u0.cell? ⟨ca, offa + i * 3, none⟩ = some (.int .i64 xe) := hu0 ▸ pa0
            have pb1 : u0.cell? ⟨ca, offa + i * 3 + 1, none⟩ = some (.int .i64 xk) := hu0 ▸ pa1
            have pb2 : u0.cell? ⟨ca, offa + i * 3 + 2, none⟩ = some (.int .u64 xn) := hu0 ▸ pa2
            have hcs0 : cs < u0.heap.size := hu0 ▸ hcs
            rw [← hu0]
            clear hu0 pa0 pa1 pa2 hps' hcs hca
            refine wpAny_take (i := 0) (oi := ⟨some 132, _, _, _, _, _⟩) (v := ?_) rfl (by kernel_rfl) (by kernel_rfl) (by kernel_rfl) (fun _ _ _ h => h) (Or.inl ⟨by rfl, ?_⟩) ?_
            rotate_left
            · intro w
              go_simp
              try with_reducible rfl
            simp only [Act.put, List.setIfInBounds_toArray, List.set_cons_zero, List.set_cons_succ]
            refine wpAny_take (i := 1) (oi := ⟨some 133, _, _, _, _, _⟩) (v := ?_) rfl (by kernel_rfl) (by kernel_rfl) (by kernel_rfl) (fun _ _ _ h => h) (Or.inl ⟨by rfl, ?_⟩) ?_
            rotate_left
            · intro w
              go_simp
              try with_reducible rfl
            simp only [Act.put, List.setIfInBounds_toArray, List.set_cons_zero, List.set_cons_succ]
            refine wpAny_take (i := 2) (oi := ⟨some 134, _, _, _, _, _⟩) (v := ?_) rfl (by kernel_rfl) (by kernel_rfl) (by kernel_rfl) (fun _ _ _ h => h) (Or.inl ⟨by rfl, ?_⟩) ?_
            rotate_left
            · intro w
              go_simp
              try with_reducible rfl
            simp only [Act.put, List.setIfInBounds_toArray, List.set_cons_zero, List.set_cons_succ]
            refine wpAny_take (i := 4) (oi := ⟨some 136, _, _, _, _, _⟩) (v := ?_) rfl (by kernel_rfl) (by kernel_rfl) (by kernel_rfl) (fun _ _ _ h => h) (Or.inl ⟨by rfl, ?_⟩) ?_
            rotate_left
            · intro w
              go_simp
              try with_reducible rfl
            simp only [Act.put, List.setIfInBounds_toArray, List.set_cons_zero, List.set_cons_succ]
            refine wpAny_take (i := 5) (oi := ⟨some 137, _, _, _, _, _⟩) (v := ?_) rfl (by kernel_rfl) (by kernel_rfl) (by kernel_rfl) (fun _ _ _ h => h) (Or.inl ⟨by rfl, ?_⟩) ?_
            rotate_left
            · intro w
              go_simp
              try with_reducible rfl
            simp only [Act.put, List.setIfInBounds_toArray, List.set_cons_zero, List.set_cons_succ]
            refine wpAny_take (i := 6) (oi := ⟨some 138, _, _, _, _, _⟩) (v := ?_) rfl (by kernel_rfl) (by kernel_rfl) (by kernel_rfl) (fun _ _ _ h => h) (Or.inl ⟨by rfl, ?_⟩) ?_
            rotate_left
            · intro w
              go_simp
              try with_reducible rfl
            simp only [Act.put, List.setIfInBounds_toArray, List.set_cons_zero, List.set_cons_succ]
            refine wpAny_ready (rs := [3, 7]) (by kernel_rfl) (by simp) ?_
            refine AllReady.cons rfl (fun K hK => ?_) (AllReady.cons rfl (fun K hK => ?_) AllReady.nil)
            · go_simp
              refine hK _ _ ?_
              clear hK K
              refine wpAny_ready (rs := [7]) (by kernel_rfl) (by simp) ?_
              refine AllReady.cons rfl (fun K hK => ?_) AllReady.nil
              go_simp
              refine hK _ _ ?_
              clear hK K
              refine wpAny_ready (rs := [8]) (by kernel_rfl) (by simp) ?_
              refine AllReady.cons rfl (fun K hK => ?_) AllReady.nil
              go_simp
              refine (HREF.out u0).mono ?_
              rintro r u1 ⟨rfl, g1⟩
              have HXu1 := Lib.hid (HXu0.out.trans g1)
              have ps1 : u1.cell? ⟨cs, offs + i, none⟩ = some (.string sx) := by rw [World.cell?_of_block (w := u0) (g1.block cs hcs0 (fun q => q))]; exact HPS.out
              clear g1
              refine hK _ _ ?_
              clear hK K
              try simp only [Act.put, List.setIfInBounds_toArray, List.set_cons_zero, List.set_cons_succ]
              refine wpAny_take (i := 9) (oi := ⟨some 141, _, _, _, _, _⟩) (v := ?_) rfl (by kernel_rfl) (by kernel_rfl) (by kernel_rfl) (fun _ _ _ h => h) (Or.inl ⟨by rfl, ?_⟩) ?_
              rotate_left
              · intro w
                go_simp
                try with_reducible rfl
              simp only [Act.put, List.setIfInBounds_toArray, List.set_cons_zero, List.set_cons_succ]
              refine wpAny_done (by kernel_rfl) ?_ _
              go_wp2_with fail
              go_roundg (q - (i + 1))
              case measure => omega
              case rel => exact ⟨i + 1, by omega, by go_num, HXu1.out⟩
            · go_simp
              refine hK _ _ ?_
              clear hK K
              refine wpAny_ready (rs := [3, 8]) (by kernel_rfl) (by simp) ?_
              refine AllReady.cons rfl (fun K hK => ?_) (AllReady.cons rfl (fun K hK => ?_) AllReady.nil)
              · go_simp
                refine hK _ _ ?_
                clear hK K
                refine wpAny_ready (rs := [8]) (by kernel_rfl) (by simp) ?_
                refine AllReady.cons rfl (fun K hK => ?_) AllReady.nil
                go_simp
                refine (HREF.out u0).mono ?_
                rintro r u1 ⟨rfl, g1⟩
                have HXu1 := Lib.hid (HXu0.out.trans g1)
                have ps1 : u1.cell? ⟨cs, offs + i, none⟩ = some (.string sx) := by rw [World.cell?_of_block (w := u0) (g1.block cs hcs0 (fun q => q))]; exact HPS.out
                clear g1
                refine hK _ _ ?_
                clear hK K
                try simp only [Act.put, List.setIfInBounds_toArray, List.set_cons_zero, List.set_cons_succ]
                refine wpAny_take (i := 9) (oi := ⟨some 141, _, _, _, _, _⟩) (v := ?_) rfl (by kernel_rfl) (by kernel_rfl) (by kernel_rfl) (fun _ _ _ h => h) (Or.inl ⟨by rfl, ?_⟩) ?_
                rotate_left
                · intro w
                  go_simp
                  try with_reducible rfl
                simp only [Act.put, List.setIfInBounds_toArray, List.set_cons_zero, List.set_cons_succ]
                refine wpAny_done (by kernel_rfl) ?_ _
                go_wp2_with fail
                go_roundg (q - (i + 1))
                case measure => omega
                case rel => exact ⟨i + 1, by omega, by go_num, HXu1.out⟩
              · go_simp
                refine (HREF.out u0).mono ?_
                rintro r u1 ⟨rfl, g1⟩
                have HXu1 := Lib.hid (HXu0.out.trans g1)
                have ps1 : u1.cell? ⟨cs, offs + i, none⟩ = some (.string sx) := by rw [World.cell?_of_block (w := u0) (g1.block cs hcs0 (fun q => q))]; exact HPS.out
                clear g1
                refine hK _ _ ?_
                clear hK K
                try simp only [Act.put, List.setIfInBounds_toArray, List.set_cons_zero, List.set_cons_succ]
                refine wpAny_ready (rs := [3]) (by kernel_rfl) (by simp) ?_
                refine AllReady.cons rfl (fun K hK => ?_) AllReady.nil
                go_simp
                refine hK _ _ ?_
                clear hK K
                refine wpAny_take (i := 9) (oi := ⟨some 141, _, _, _, _, _⟩) (v := ?_) rfl (by kernel_rfl) (by kernel_rfl) (by kernel_rfl) (fun _ _ _ h => h) (Or.inl ⟨by rfl, ?_⟩) ?_
                rotate_left
                · intro w
                  go_simp
                  try with_reducible rfl
                simp only [Act.put, List.setIfInBounds_toArray, List.set_cons_zero, List.set_cons_succ]
                refine wpAny_done (by kernel_rfl) ?_ _
                go_wp2_with fail
                go_roundg (q - (i + 1))
                case measure => omega
                case rel => exact ⟨i + 1, by omega, by go_num, HXu1.out⟩
          · have H12 := Lib.hid (H11.out.keep hX)
            clear hX
            go_wp2_with fail
            go_roundg (n - (j + 1))
            case measure => omega
            case rel => exact ⟨j + 1, by omega, by go_num, by rw [← HA.out, HU.out]; exact H12.out⟩
    · go_wp2_with fail
      refine (alive_any wr (TT.out.keep H2.out.but)).mono ?_
      rintro r w2 ⟨rfl, g2⟩
      have G2 := Lib.hid (H2.out.but.trans g2)
      clear g2
      go_wp2_with fail
      refine (note_nil 1 0 0 0 w2).mono ?_
      rintro r w3 ⟨rfl, g3⟩
      go_wp2_with fail
      refine (log_nil 1 w3).mono ?_
      rintro r w4 ⟨rfl, g4⟩
      go_wp2_with fail
      refine (texts_nil 1 w4).mono ?_
      rintro r w5 ⟨rfl, g5⟩
      go_wp2_with fail
      refine (len_nil w5).mono ?_
      rintro r w6 ⟨rfl, g6⟩
      go_wp2_with fail
      go_ret
      exact ⟨rfl, (((G2.out.trans g3).trans g4).trans g5).trans g6⟩

end Watch
end Go.Proofs.YtldgjmgdbaeglaaDoor

