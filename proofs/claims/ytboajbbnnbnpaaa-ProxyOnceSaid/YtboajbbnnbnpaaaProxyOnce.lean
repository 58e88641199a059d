/- The law ProxyOnce of layer 15, walked: it answers true. -/
import Derived.Test.YtboajbbnnbnpaaaProxyPlays
import Derived.Test.YtboajbbnnbnpaaaProxyPlain2
import Derived.Test.YtboajbbnnbnpaaaAppend
import Derived.Deep.CutRange
set_option linter.unusedVariables false
set_option linter.unusedSimpArgs false
namespace Go.Proofs.Ytboajbbnnbnpaaa
open Go.RowKit Go.ChangeShapes Go.WideShapes

namespace Proxy

theorem infoAct : (Try.prog.info? 102).map (fun i => (i.zero, i.size, i.bytes)) = some (some (.agg #[.int .u8 0, .int .i64 0, .int .i64 0]), 3, 24) := by kernel_rfl

def Pc.tb (b : Nat) (l : List En) : Pc := ⟨fun w => Tb w b l, fun k => k = b, fun h g a => h.but g (fun q => a b q rfl), fun h k hk => by subst hk; exact h.lt⟩
/-- What ProxyOnce keeps: the table, and four rows. -/
def kept (b : Nat) (l : List En) (av ev gv iv : Value) (oa oe og oi : Option Nat) (na ne ng ni : Nat) (ts : List Tr) (es gs is : List Int) : List Pc :=
  [Pc.tb b l, Pc.row 102 3 av oa na (encs3 ts), Pc.row 3 1 ev oe ne (ints es), Pc.row 3 1 gv og ng (ints gs), Pc.row 3 1 iv oi ni (ints is)]

/-- The two boxes of a round: what was said, and the act. -/
theorem boxes {w0 w : World} {L : List Pc} {bs bx : Nat} {K A B p q r : Int} (h : Own w0 w (Pc.blk bs #[.int .i64 p, .int .i64 q, .int .i64 r] 99 :: Pc.blk bx #[.int .u8 K, .int .i64 A, .int .i64 B] 102 :: L)) :
    (w.cell? ⟨bx, 0, none⟩ = some (.int .u8 K) ∧ w.cell? ⟨bx, 1, none⟩ = some (.int .i64 A) ∧ w.cell? ⟨bx, 2, none⟩ = some (.int .i64 B)) ∧ (w.cell? ⟨bs, 0, none⟩ = some (.int .i64 p) ∧ w.cell? ⟨bs, 2, none⟩ = some (.int .i64 r)) ∧ bx < w.heap.size ∧ bs < w.heap.size := by
  have h0 : Blk w bs #[.int .i64 p, .int .i64 q, .int .i64 r] 99 := h.get 0 rfl
  have h1 : Blk w bx #[.int .u8 K, .int .i64 A, .int .i64 B] 102 := h.get 1 rfl
  exact ⟨⟨h1.cell 0, h1.cell 1, h1.cell 2⟩, ⟨h0.cell 0, h0.cell 2⟩, h1.lt, h0.lt⟩

theorem row_act {w : World} {a : Option Addr} {cap n : Nat} {o : Option Nat} {xs : List Tr} (h : Row w 102 3 (.slice a n cap) o n (encs3 xs)) {m : Nat} (hm : m < n) :
    ∃ cb coff, a = some ⟨cb, coff, none⟩ ∧ ∀ w', But (fun _ => False) w w' → w'.cell? ⟨cb, coff + m * 3 + 1, none⟩ = some (.int .i64 (act xs m).a) ∧ w'.cell? ⟨cb, coff + m * 3 + 2, none⟩ = some (.int .i64 (act xs m).b) := by
  have hn : xs.length = n := by have := h.len; rw [encs3_length] at this; omega
  obtain ⟨cb, coff, cap', e, ho, hlt, -, hc, hf⟩ := h.cells (by omega)
  simp at e
  obtain ⟨e1, e2⟩ := encs3_get (l := xs) (i := m) (by omega)
  refine ⟨cb, coff, e.1, fun w' g => ⟨?_, ?_⟩⟩
  · rw [World.cell?_of_block (w := w) (g.block cb hlt (fun q => q)), Nat.add_assoc, hc _ (by omega), e1]
  · rw [World.cell?_of_block (w := w) (g.block cb hlt (fun q => q)), Nat.add_assoc, hc _ (by omega), e2]

theorem look_quiet (b : Nat) (l : List En) (i g x y z : Int) (w : World) (n : Nat) (h : Tb (w.drewN n) b l) (hl : look l i g = (x, y, z)) : Calls Try.prog 76 #[.pointer (some ⟨b, 0, none⟩), .int .i64 i, .int .i64 g] (w.drewN n) fun e w'' =>
    e = .returned (.tuple #[.int .i64 x, .int .i64 y, .int .i64 z]) ∧ ∃ m, w'' = w.drewN m := by
  have := look_any b l i g (w.drewN n) h
  rw [hl] at this
  exact Calls.quiet_of this

set_option maxHeartbeats 8000000 in
set_option maxRecDepth 100000 in
theorem once_any (a : Option Addr) (len cap : Nat) (V : Nat → Nat → Value) (K A B : Nat → Int) (w : World) (hE : Els w a len 3 V) (hlen : len ≤ 1000000000000000)
    (hK : ∀ i, i < len → V i 0 = .int .u8 (K i) ∧ 0 ≤ K i ∧ K i ≤ 255) (hA : ∀ i, i < len → V i 1 = .int .i64 (A i) ∧ -9223372036854775808 ≤ A i ∧ A i ≤ 9223372036854775807)
    (hB : ∀ i, i < len → V i 2 = .int .i64 (B i) ∧ -9223372036854775808 ≤ B i ∧ B i ≤ 9223372036854775807) :
    Calls Try.prog 14 #[.slice a len cap] w fun e w' => e = .returned (.bool true) ∧ But (fun _ => False) w w' := by
  obtain ⟨i0, hi, hz0, hz1, hz2⟩ := info_parts infoInt
  obtain ⟨i1, hi1, hy0, hy1, hy2⟩ := info_parts infoAct
  by_cases hbig : 100 < len
  · go_enter Try.func14, Try.ntmps14
    go_wp2_with fail
    refine (alive_any _).mono ?_
    rintro e w1 ⟨rfl, g1⟩
    go_wp2_with fail
    go_ret
    exact ⟨rfl, g1⟩
  go_enter Try.func14, Try.ntmps14
  go_wp2_with fail
  refine (new_any _).mono ?_
  rintro e w1 ⟨rfl, h1, g1⟩
  obtain ⟨b, hb⟩ : ∃ b, b = w.heap.size := ⟨_, rfl⟩
  have hO : Own w w1 (kept b news (.slice none 0 0) (.slice none 0 0) (.slice none 0 0) (.slice none 0 0) none none none none 0 0 0 0 [] [] [] []) := by
    have e0 : Own w w [] := Own.nil (But.refl _ _)
    have e1 := e0.add (q := Pc.row 3 1 (.slice none 0 0) none 0 (ints [])) (Row.nil _ _ _) (But.refl _ _) (fun k q => by cases q)
    have e2 := e1.add (q := Pc.row 3 1 (.slice none 0 0) none 0 (ints [])) (Row.nil _ _ _) (But.refl _ _) (fun k q => by cases q)
    have e3 := e2.add (q := Pc.row 3 1 (.slice none 0 0) none 0 (ints [])) (Row.nil _ _ _) (But.refl _ _) (fun k q => by cases q)
    have e4 := e3.add (q := Pc.row 102 3 (.slice none 0 0) none 0 (encs3 [])) (Row.nil _ _ _) (But.refl _ _) (fun k q => by cases q)
    have e5 := e4.add (q := Pc.tb b news) (by rw [hb]; exact h1) g1 (fun k q => by have : k = b := q; omega)
    exact e5
  rw [← hb] at h1 ⊢
  have HO := Lib.hid hO
  clear hO h1 g1 hb
  go_wp2_with fail
  go_loopg [4, 5, 6, 7, 8] len (fun k av ev gv iv jv wr => ∃ (j : Nat) (l : List En) (ts : List Tr) (es gs is : List Int) (oa oe og oi : Option Nat), j + k = len ∧ jv = .int .i64 j ∧ Own w wr (kept b l av ev gv iv oa oe og oi ts.length es.length gs.length is.length ts es gs is) ∧ Inv l ∧ Once l ts es gs is ∧ es.length ≤ j)
  case atStart => exact ⟨0, news, [], [], [], [], none, none, none, none, by omega, rfl, HO.out, inv_rep ⟨by omega, by omega⟩, once_nil _, by simp⟩
  case round =>
    obtain ⟨j, l, ts, es, gs, is, oa, oe, og, oi, hj, rfl, hO, hI, hN, hn⟩ := hrel
    clear HO
    have ra : Row wr 102 3 _ oa ts.length (encs3 ts) := hO.get 1 rfl
    have re : Row wr 3 1 _ oe es.length (ints es) := hO.get 2 rfl
    have rg : Row wr 3 1 _ og gs.length (ints gs) := hO.get 3 rfl
    have ri : Row wr 3 1 _ oi is.length (ints is) := hO.get 4 rfl
    obtain ⟨aa, capa, rfl, -, -⟩ := ra.val
    obtain ⟨ae, cape, rfl, -, -⟩ := re.val
    obtain ⟨ag, capg, rfl, -, -⟩ := rg.val
    obtain ⟨ai, capi, rfl, -, -⟩ := ri.val
    clear ra re rg ri
    have HO := Lib.hid hO
    have HI := Lib.hid hI
    have HN := Lib.hid hN
    clear hO hI hN
    by_cases hlt : j < len
    · obtain ⟨xb, xoff, rfl, hxb, hxc⟩ := hE.at_ j hlt
      obtain ⟨k0, k1, k2⟩ : wr.cell? ⟨xb, xoff + (j * 3), none⟩ = some (.int .u8 (K j)) ∧ wr.cell? ⟨xb, xoff + (j * 3) + 1, none⟩ = some (.int .i64 (A j)) ∧ wr.cell? ⟨xb, xoff + (j * 3) + 2, none⟩ = some (.int .i64 (B j)) := by
        have cc : ∀ i, wr.cell? ⟨xb, i, none⟩ = w.cell? ⟨xb, i, none⟩ := fun i => World.cell?_of_block (w := w) (HO.out.but.block xb hxb (fun q => q))
        refine ⟨?_, ?_, ?_⟩
        · rw [cc, ← (hK j hlt).1, ← hxc 0 (by omega)]; rfl
        · rw [cc, ← (hA j hlt).1, ← hxc 1 (by omega)]; rfl
        · rw [cc, ← (hB j hlt).1, ← hxc 2 (by omega)]; rfl
      have bk := (hK j hlt).2
      have ba := (hA j hlt).2
      have bb := (hB j hlt).2
      clear hxc
      obtain ⟨l2, p, q, r, hS⟩ : ∃ l2 p q r, saidP l (K j) (A j) (B j) = (l2, p, q, r) := ⟨_, _, _, _, rfl⟩
      have HI2 := Lib.hid (show Inv l2 by have := inv_said HI.out (K j) (A j) (B j); rw [hS] at this; exact this)
      have HS := Lib.hid hS
      clear hS
      go_wp2_with fail
      obtain ⟨bx, hbx⟩ : ∃ bx, bx = wr.heap.size := ⟨_, rfl⟩
      have O2 := HO.out.add (q := Pc.blk bx #[.int .u8 (K j), .int .i64 (A j), .int .i64 (B j)] 102) (by rw [hbx]; exact Blk.new wr _ _) ((But.refl _ _).alloc _) (fun k q => by have : k = bx := q; omega)
      rw [← hbx]
      clear hbx k0 k1 k2
      refine (said_is b l l2 (K j) (A j) (B j) p q r _ (O2.get 1 rfl) HI.out bk HS.out).mono ?_
      rintro e w3 ⟨rfl, h3, g3⟩
      have O3 := Lib.hid (O2.put 1 (q := Pc.tb b l2) rfl h3 g3 (fun k q => .inl q))
      clear O2 h3 g3
      go_wp2_with fail
      obtain ⟨bs, hbs⟩ : ∃ bs, bs = w3.heap.size := ⟨_, rfl⟩
      have O4 : Own w (w3.alloc (.cells #[.int .i64 p, .int .i64 q, .int .i64 r] 99)) (Pc.blk bs #[.int .i64 p, .int .i64 q, .int .i64 r] 99 :: Pc.blk bx #[.int .u8 (K j), .int .i64 (A j), .int .i64 (B j)] 102 :: kept b l2 (.slice aa ts.length capa) (.slice ae es.length cape) (.slice ag gs.length capg) (.slice ai is.length capi) oa oe og oi ts.length es.length gs.length is.length ts es gs  is) := O3.out.add (by rw [hbs]; exact Blk.new w3 _ _) ((But.refl _ _).alloc _) (fun k q => by have : k = bs := q; omega)
      obtain ⟨w4, hw4⟩ : ∃ w4, w4 = w3.alloc (.cells #[.int .i64 p, .int .i64 q, .int .i64 r] 99) := ⟨_, rfl⟩
      rw [← hw4] at O4 ⊢
      rw [← hbs]
      have O4 := Lib.hid O4
      clear hw4 hbs O3
      have hng : gs.length = es.length := HN.out.lg
      have hni : is.length = es.length := HN.out.li
      have hna : ts.length = es.length := HN.out.la
      have HL := Lib.hid (show gs.length = es.length ∧ is.length = es.length ∧ ts.length = es.length from ⟨hng, hni, hna⟩)
      clear hng hni hna
      go_loopg [11] es.length (fun k kv wr => ∃ (m : Nat) (is' : List Int), m + k = es.length ∧ kv = .int .i64 m ∧ is'.length = es.length ∧ Own w wr (Pc.blk bs #[.int .i64 p, .int .i64 q, .int .i64 r] 99 :: Pc.blk bx #[.int .u8 (K j), .int .i64 (A j), .int .i64 (B j)] 102 :: kept b l2 (.slice aa ts.length capa) (.slice ae es.length cape) (.slice ag gs.length capg) (.slice ai is.length capi) oa oe og oi ts.length es.length gs.length is.length ts es gs  is') ∧ ∀ t, t < es.length → nthI is' t = if t < m then stat (K j) (A j) (B j) r (nthI es t) (nthI gs t) (nthI is t) else nthI is t)
      case atStart => exact ⟨0, is, by omega, rfl, HL.out.2.1, O4.out, fun t ht => by rw [if_neg (by omega)]⟩
      case round =>
        clear O4
        obtain ⟨m, is', hm, rfl, hil, hO5, hst⟩ := hrel
        have O5 := Lib.hid hO5
        have ST := Lib.hid hst
        have HIL := Lib.hid hil
        clear hO5 hst hil
        by_cases hmn : m < es.length
        · have hmg : m < gs.length := by have := HL.out; omega
          have hmi : m < is.length := by have := HL.out; omega
          obtain ⟨eb, eo, rfl, -, -, -, -, fe⟩ := row_nth (show Row wr 3 1 (.slice ae es.length cape) oe es.length (ints es) from O5.out.get 4 rfl) hmn
          obtain ⟨gb, go, rfl, -, -, -, -, fg⟩ := row_nth (show Row wr 3 1 (.slice ag gs.length capg) og gs.length (ints gs) from O5.out.get 5 rfl) hmg
          obtain ⟨ib, io, rfl, hoi, -, -, -, fi⟩ := row_nth (show Row wr 3 1 (.slice ai is.length capi) oi is.length (ints is') from O5.out.get 6 rfl) hmi
          have hz := ST.out m hmn
          rw [if_neg (by omega)] at hz
          obtain ⟨u, hu⟩ : ∃ u, nthI es m = u := ⟨_, rfl⟩
          obtain ⟨v, hv⟩ : ∃ v, nthI gs m = v := ⟨_, rfl⟩
          obtain ⟨z, hzz⟩ : ∃ z, nthI is' m = z := ⟨_, rfl⟩
          have HZ := Lib.hid (show stat (K j) (A j) (B j) r (nthI es m) (nthI gs m) (nthI is m) = stat (K j) (A j) (B j) r u v z by rw [hu, hv, ← hz, hzz])
          have HC := Lib.hid (show ∀ w', But (fun _ => False) wr w' → w'.cell? ⟨eb, eo + m, none⟩ = some (.int .i64 u) ∧ w'.cell? ⟨gb, go + m, none⟩ = some (.int .i64 v) ∧ w'.cell? ⟨ib, io + m, none⟩ = some (.int .i64 z) from fun w' h => ⟨hu ▸ fe w' h, hv ▸ fg w' h, hzz ▸ fi w' h⟩)
          have FZ := Lib.hid (show ∀ w', But (fun _ => False) wr w' → w'.frozen? ⟨ib, io + m, none⟩ = false from fun w' h => by
            have h5 : Row w' 3 1 (.slice (some ⟨ib, io, none⟩) is.length capi) oi is.length (ints is') := (O5.out.same h).get 6 rfl
            obtain ⟨cb, coff, e1, -, -, -, e2, -⟩ := row_nth h5 hmi
            simp at e1; obtain ⟨rfl, rfl⟩ := e1; exact e2)
          have NXT := Lib.hid (show ∀ is2 : List Int, (is2 = is' ∧ stat (K j) (A j) (B j) r u v z = z) ∨ (∃ c, is2 = is'.set m c ∧ stat (K j) (A j) (B j) r u v z = c) → is2.length = es.length ∧ ∀ t, t < es.length → nthI is2 t = if t < m + 1 then stat (K j) (A j) (B j) r (nthI es t) (nthI gs t) (nthI is t) else nthI is t from fun is2 h => by
            rcases h with ⟨rfl, hs⟩ | ⟨c, rfl, hs⟩
            · refine ⟨HIL.out, fun t ht => ?_⟩
              by_cases htm : t = m
              · subst htm; rw [if_pos (by omega), HZ.out, hs, hzz]
              · rw [ST.out t ht]
                by_cases h1 : t < m
                · rw [if_pos h1, if_pos (by omega)]
                · rw [if_neg h1, if_neg (by omega)]
            · refine ⟨by rw [List.length_set]; exact HIL.out, fun t ht => ?_⟩
              rw [nthI_set (by rw [HIL.out]; exact hmn)]
              by_cases htm : m = t
              · subst htm; rw [if_pos rfl, if_pos (by omega), HZ.out, hs]
              · rw [if_neg htm, ST.out t ht]
                by_cases h1 : t < m
                · rw [if_pos h1, if_pos (by omega)]
                · rw [if_neg h1, if_neg (by omega)])
          clear hu hv hz hzz fe fg fi
          obtain ⟨x0, x1, x2⟩ := (boxes O5.out).1
          obtain ⟨s0, s2⟩ := (boxes O5.out).2.1
          obtain ⟨c0, c1, c2⟩ := HC.out wr (But.refl _ _)
          by_cases h2 : K j % 6 = 2
          · have n4 : ¬ K j % 6 = 4 := by omega
            have t6 : (K j).tmod 6 = 2 := by rw [Int.tmod_eq_emod_of_nonneg bk.1]; exact h2
            by_cases hr : r = 0
            · by_cases hu : u = A j
              · by_cases hz : z = 1
                · as_aux_lemma =>
                    go_wp2_with fail
                    go_quiet (fail)

                    obtain ⟨w5, hw5⟩ : ∃ w5, w5 = wr.drewN nq := ⟨_, rfl⟩
                    have g5 : But (fun _ => False) wr w5 := by rw [hw5]; exact (But.refl _ _).drewN _
                    rw [← hw5]
                    clear x0 x1 x2 s0 s2 c0 c1 c2 hw5
                    have O6 := Lib.hid (O5.out.same g5)
                    obtain ⟨x0, x1, x2⟩ := (boxes O6.out).1
                    obtain ⟨s0, s2⟩ := (boxes O6.out).2.1
                    obtain ⟨c0, c1, c2⟩ := HC.out _ g5

                    have z5 := FZ.out _ g5
                    go_wp2_with fail
                    have O7 := Lib.hid (O6.out.put 6 (q := Pc.row 3 1 (.slice (some ⟨ib, io, none⟩) is.length capi) oi is.length (ints (is'.set m 2))) rfl (by have h5 : Row w5 3 1 (.slice (some ⟨ib, io, none⟩) is.length capi) oi is.length (ints is') := O6.out.get 6 rfl; rw [← ints_set]; exact h5.set (by omega) _) ((But.one ib (io + m) (.int .i64 2)).mono (fun k hk => .inl (by rw [hk]; exact hoi))) (fun k q => .inl q))
                    obtain ⟨w6, hw6⟩ : ∃ w6, w6 = w5.setCell ⟨ib, io + m, none⟩ (.int .i64 2) := ⟨_, rfl⟩
                    rw [← hw6] at O7 ⊢
                    clear x0 x1 x2 s0 s2 c0 c1 c2 z5 hw6
                    obtain ⟨x0, x1, x2⟩ := (boxes O7.out).1
                    obtain ⟨s0, s2⟩ := (boxes O7.out).2.1
                    go_quiet (fail)
                    go_wp2_with fail
                    go_roundg (es.length - (m + 1))
                    case measure => omega
                    case rel =>
                      obtain ⟨e1, e2⟩ := NXT.out (is'.set m 2) (.inr ⟨2, rfl, by rw [stat_rev h2 hr, if_pos ⟨hu, hz⟩]⟩)
                      exact ⟨m + 1, is'.set m 2, by omega, by go_num, e1, O7.out.drewN _, e2⟩
                · as_aux_lemma =>
                    have bz : (z == 1) = false := by simpa using hz

                    go_wp2_with fail
                    go_quiet (fail)

                    obtain ⟨w5, hw5⟩ : ∃ w5, w5 = wr.drewN nq := ⟨_, rfl⟩
                    have g5 : But (fun _ => False) wr w5 := by rw [hw5]; exact (But.refl _ _).drewN _
                    rw [← hw5]
                    clear x0 x1 x2 s0 s2 c0 c1 c2 hw5
                    have O6 := Lib.hid (O5.out.same g5)
                    obtain ⟨x0, x1, x2⟩ := (boxes O6.out).1
                    obtain ⟨s0, s2⟩ := (boxes O6.out).2.1
                    obtain ⟨c0, c1, c2⟩ := HC.out _ g5

                    go_wp2_with fail
                    go_quiet (fail)
                    go_wp2_with fail
                    go_roundg (es.length - (m + 1))
                    case measure => omega
                    case rel =>
                      obtain ⟨e1, e2⟩ := NXT.out is' (.inl ⟨rfl, by rw [stat_rev h2 hr, if_neg (fun q => hz q.2)]⟩)
                      exact ⟨m + 1, is', by omega, by go_num, e1, O6.out.drewN _, e2⟩
              · as_aux_lemma =>
                  have bu : (u == A j) = false := by simpa using hu

                  go_wp2_with fail
                  go_quiet (fail)

                  obtain ⟨w5, hw5⟩ : ∃ w5, w5 = wr.drewN nq := ⟨_, rfl⟩
                  have g5 : But (fun _ => False) wr w5 := by rw [hw5]; exact (But.refl _ _).drewN _
                  rw [← hw5]
                  clear x0 x1 x2 s0 s2 c0 c1 c2 hw5
                  have O6 := Lib.hid (O5.out.same g5)
                  obtain ⟨x0, x1, x2⟩ := (boxes O6.out).1
                  obtain ⟨s0, s2⟩ := (boxes O6.out).2.1
                  obtain ⟨c0, c1, c2⟩ := HC.out _ g5

                  go_wp2_with fail
                  go_quiet (fail)
                  go_wp2_with fail
                  go_roundg (es.length - (m + 1))
                  case measure => omega
                  case rel =>
                    obtain ⟨e1, e2⟩ := NXT.out is' (.inl ⟨rfl, by rw [stat_rev h2 hr, if_neg (fun q => hu q.1)]⟩)
                    exact ⟨m + 1, is', by omega, by go_num, e1, O6.out.drewN _, e2⟩
            · as_aux_lemma =>
                have br : (r == 0) = false := by simpa using hr

                go_wp2_with fail
                go_quiet (fail)

                obtain ⟨w5, hw5⟩ : ∃ w5, w5 = wr.drewN nq := ⟨_, rfl⟩
                have g5 : But (fun _ => False) wr w5 := by rw [hw5]; exact (But.refl _ _).drewN _
                rw [← hw5]
                clear x0 x1 x2 s0 s2 c0 c1 c2 hw5
                have O6 := Lib.hid (O5.out.same g5)
                obtain ⟨x0, x1, x2⟩ := (boxes O6.out).1
                obtain ⟨s0, s2⟩ := (boxes O6.out).2.1
                obtain ⟨c0, c1, c2⟩ := HC.out _ g5

                go_wp2_with fail
                go_quiet (fail)
                go_wp2_with fail
                go_roundg (es.length - (m + 1))
                case measure => omega
                case rel =>
                  obtain ⟨e1, e2⟩ := NXT.out is' (.inl ⟨rfl, by rw [stat_not (fun q => hr q.2) (fun q => hr q.2)]⟩)
                  exact ⟨m + 1, is', by omega, by go_num, e1, O6.out.drewN _, e2⟩
          · have b2 : ((K j).tmod 6 == 2) = false := by rw [Int.tmod_eq_emod_of_nonneg bk.1]; simpa using h2
            have b2' : (K j % 6 == 2) = false := by simpa using h2
            by_cases h4 : K j % 6 = 4
            · have t6 : (K j).tmod 6 = 4 := by rw [Int.tmod_eq_emod_of_nonneg bk.1]; exact h4
              by_cases hr : r = 0
              · by_cases hu : u = A j
                · by_cases hv : v = B j
                  · as_aux_lemma =>
                      go_wp2_with fail
                      go_quiet (fail)

                      obtain ⟨w5, hw5⟩ : ∃ w5, w5 = wr.drewN nq := ⟨_, rfl⟩
                      have g5 : But (fun _ => False) wr w5 := by rw [hw5]; exact (But.refl _ _).drewN _
                      rw [← hw5]
                      clear x0 x1 x2 s0 s2 c0 c1 c2 hw5
                      have O6 := Lib.hid (O5.out.same g5)
                      obtain ⟨x0, x1, x2⟩ := (boxes O6.out).1
                      obtain ⟨s0, s2⟩ := (boxes O6.out).2.1
                      obtain ⟨c0, c1, c2⟩ := HC.out _ g5

                      go_wp2_with fail
                      go_quiet (fail)
                      obtain ⟨w6, hw6⟩ : ∃ w6, w6 = w5.drewN nq := ⟨_, rfl⟩
                      have g6 : But (fun _ => False) wr w6 := by rw [hw6]; exact g5.drewN _
                      rw [← hw6]
                      clear x0 x1 x2 s0 s2 c0 c1 c2 hw6
                      have O7 := Lib.hid (O5.out.same g6)
                      have z6 := FZ.out _ g6
                      obtain ⟨c0, c1, c2⟩ := HC.out _ g6
                      go_wp2_with fail
                      have O8 := Lib.hid (O7.out.put 6 (q := Pc.row 3 1 (.slice (some ⟨ib, io, none⟩) is.length capi) oi is.length (ints (is'.set m 3))) rfl (by have h5 : Row w6 3 1 (.slice (some ⟨ib, io, none⟩) is.length capi) oi is.length (ints is') := O7.out.get 6 rfl; rw [← ints_set]; exact h5.set (by omega) _) ((But.one ib (io + m) (.int .i64 3)).mono (fun k hk => .inl (by rw [hk]; exact hoi))) (fun k q => .inl q))
                      go_roundg (es.length - (m + 1))
                      case measure => omega
                      case rel =>
                        obtain ⟨e1, e2⟩ := NXT.out (is'.set m 3) (.inr ⟨3, rfl, by rw [stat_close h4 hr, if_pos ⟨hu, hv⟩]⟩)
                        exact ⟨m + 1, is'.set m 3, by omega, by go_num, e1, O8.out, e2⟩
                  · as_aux_lemma =>
                      have bv : (v == B j) = false := by simpa using hv

                      go_wp2_with fail
                      go_quiet (fail)

                      obtain ⟨w5, hw5⟩ : ∃ w5, w5 = wr.drewN nq := ⟨_, rfl⟩
                      have g5 : But (fun _ => False) wr w5 := by rw [hw5]; exact (But.refl _ _).drewN _
                      rw [← hw5]
                      clear x0 x1 x2 s0 s2 c0 c1 c2 hw5
                      have O6 := Lib.hid (O5.out.same g5)
                      obtain ⟨x0, x1, x2⟩ := (boxes O6.out).1
                      obtain ⟨s0, s2⟩ := (boxes O6.out).2.1
                      obtain ⟨c0, c1, c2⟩ := HC.out _ g5

                      go_wp2_with fail
                      go_quiet (fail)
                      go_wp2_with fail
                      go_roundg (es.length - (m + 1))
                      case measure => omega
                      case rel =>
                        obtain ⟨e1, e2⟩ := NXT.out is' (.inl ⟨rfl, by rw [stat_close h4 hr, if_neg (fun q => hv q.2)]⟩)
                        exact ⟨m + 1, is', by omega, by go_num, e1, O6.out.drewN _, e2⟩
                · as_aux_lemma =>
                    have bu : (u == A j) = false := by simpa using hu

                    go_wp2_with fail
                    go_quiet (fail)

                    obtain ⟨w5, hw5⟩ : ∃ w5, w5 = wr.drewN nq := ⟨_, rfl⟩
                    have g5 : But (fun _ => False) wr w5 := by rw [hw5]; exact (But.refl _ _).drewN _
                    rw [← hw5]
                    clear x0 x1 x2 s0 s2 c0 c1 c2 hw5
                    have O6 := Lib.hid (O5.out.same g5)
                    obtain ⟨x0, x1, x2⟩ := (boxes O6.out).1
                    obtain ⟨s0, s2⟩ := (boxes O6.out).2.1
                    obtain ⟨c0, c1, c2⟩ := HC.out _ g5

                    go_wp2_with fail
                    go_quiet (fail)
                    go_wp2_with fail
                    go_roundg (es.length - (m + 1))
                    case measure => omega
                    case rel =>
                      obtain ⟨e1, e2⟩ := NXT.out is' (.inl ⟨rfl, by rw [stat_close h4 hr, if_neg (fun q => hu q.1)]⟩)
                      exact ⟨m + 1, is', by omega, by go_num, e1, O6.out.drewN _, e2⟩
              · as_aux_lemma =>
                  have br : (r == 0) = false := by simpa using hr

                  go_wp2_with fail
                  go_quiet (fail)

                  obtain ⟨w5, hw5⟩ : ∃ w5, w5 = wr.drewN nq := ⟨_, rfl⟩
                  have g5 : But (fun _ => False) wr w5 := by rw [hw5]; exact (But.refl _ _).drewN _
                  rw [← hw5]
                  clear x0 x1 x2 s0 s2 c0 c1 c2 hw5
                  have O6 := Lib.hid (O5.out.same g5)
                  obtain ⟨x0, x1, x2⟩ := (boxes O6.out).1
                  obtain ⟨s0, s2⟩ := (boxes O6.out).2.1
                  obtain ⟨c0, c1, c2⟩ := HC.out _ g5

                  go_wp2_with fail
                  go_quiet (fail)
                  go_wp2_with fail
                  go_roundg (es.length - (m + 1))
                  case measure => omega
                  case rel =>
                    obtain ⟨e1, e2⟩ := NXT.out is' (.inl ⟨rfl, by rw [stat_not (fun q => hr q.2) (fun q => hr q.2)]⟩)
                    exact ⟨m + 1, is', by omega, by go_num, e1, O6.out.drewN _, e2⟩
            · as_aux_lemma =>
                have b4 : ((K j).tmod 6 == 4) = false := by rw [Int.tmod_eq_emod_of_nonneg bk.1]; simpa using h4
                have b4' : (K j % 6 == 4) = false := by simpa using h4

                go_wp2_with fail
                go_quiet (fail)

                obtain ⟨w5, hw5⟩ : ∃ w5, w5 = wr.drewN nq := ⟨_, rfl⟩
                have g5 : But (fun _ => False) wr w5 := by rw [hw5]; exact (But.refl _ _).drewN _
                rw [← hw5]
                clear x0 x1 x2 s0 s2 c0 c1 c2 hw5
                have O6 := Lib.hid (O5.out.same g5)
                obtain ⟨x0, x1, x2⟩ := (boxes O6.out).1
                obtain ⟨s0, s2⟩ := (boxes O6.out).2.1
                obtain ⟨c0, c1, c2⟩ := HC.out _ g5

                go_wp2_with fail
                go_quiet (fail)
                go_wp2_with fail
                go_roundg (es.length - (m + 1))
                case measure => omega
                case rel =>
                  obtain ⟨e1, e2⟩ := NXT.out is' (.inl ⟨rfl, by rw [stat_not (fun q => h2 q.1) (fun q => h4 q.1)]⟩)
                  exact ⟨m + 1, is', by omega, by go_num, e1, O6.out.drewN _, e2⟩
        · have ext : K j % 6 < 2 ∧ r = 0 → is' = is := fun hg => nthI_ext (HIL.out.trans HL.out.2.1.symm) (fun t ht => by
            rw [HIL.out] at ht
            rw [ST.out t ht]
            split
            · exact stat_not (fun q => by omega) (fun q => by omega)
            · rfl)
          have HX := Lib.hid ext
          have NO := Lib.hid (show ¬ (K j % 6 < 2 ∧ r = 0) → Once l2 ts es gs is' from fun hg => HN.out.step HI.out bk.1 HS.out hg HIL.out (fun t ht => by rw [ST.out t ht, if_pos (by omega)]))
          clear ext
          have t6 : (K j).tmod 6 = K j % 6 := Int.tmod_eq_emod_of_nonneg bk.1
          go_upto_region 20 with fail
          go_cut [107] from 22 to 226 (fun v wc => v = .bool (decide (K j % 6 < 2 ∧ r = 0)) ∧ Own w wc (Pc.blk bs #[.int .i64 p, .int .i64 q, .int .i64 r] 99 :: Pc.blk bx #[.int .u8 (K j), .int .i64 (A j), .int .i64 (B j)] 102 :: kept b l2 (.slice aa ts.length capa) (.slice ae es.length cape) (.slice ag gs.length capg) (.slice ai is.length capi) oa oe og oi ts.length es.length gs.length is.length ts es gs  is'))
          case first =>
            obtain ⟨x0, x1, x2⟩ := (boxes O5.out).1
            obtain ⟨s0, s2⟩ := (boxes O5.out).2.1
            by_cases h6 : K j % 6 < 2
            · by_cases hr : r = 0
              · go_wp2_with fail
                go_meet
                case rel => exact ⟨by rw [decide_eq_true ⟨h6, hr⟩], O5.out⟩
              · have br : (r == 0) = false := by simpa using hr
                go_wp2_with fail
                go_meet
                case rel => exact ⟨by rw [decide_eq_false (fun q => hr q.2)], O5.out⟩
            · go_wp2_with fail
              go_meet
              case rel => exact ⟨by rw [decide_eq_false (fun q => absurd q.1 (by omega))], O5.out⟩
          case rest =>
            obtain ⟨rfl, hO⟩ := hcut
            clear O5 t6
            have O5 := Lib.hid hO
            clear hO
            go_upto_if 107 with fail
            go_cut [4, 5, 6, 7] from 22 to 226 (fun av ev gv iv wc => ∃ (ts2 : List Tr) (es2 gs2 is2 : List Int) (oa2 oe2 og2 oi2 : Option Nat), Own w wc (Pc.blk bs #[.int .i64 p, .int .i64 q, .int .i64 r] 99 :: Pc.blk bx #[.int .u8 (K j), .int .i64 (A j), .int .i64 (B j)] 102 :: kept b l2 av ev gv iv oa2 oe2 og2 oi2 ts2.length es2.length gs2.length is2.length ts2 es2 gs2 is2) ∧ Once l2 ts2 es2 gs2 is2 ∧ es2.length ≤ j + 1)
            case first =>
              by_cases hg : K j % 6 < 2 ∧ r = 0
              · rw [decide_eq_true hg]
                have hE2 := HX.out hg
                subst hE2
                obtain ⟨ng, nx⟩ := HN.out.grant HI.out bk.1 HS.out hg.1 hg.2
                have NG := Lib.hid ng
                have NX := Lib.hid nx
                clear ng nx hg
                go_wp2_with fail
                go_loopg [12] es.length (fun k kv wr => ∃ m : Nat, m + k = es.length ∧ kv = .int .i64 m ∧ Own w wr (Pc.blk bs #[.int .i64 p, .int .i64 q, .int .i64 r] 99 :: Pc.blk bx #[.int .u8 (K j), .int .i64 (A j), .int .i64 (B j)] 102 :: kept b l2 (.slice aa ts.length capa) (.slice ae es.length cape) (.slice ag gs.length capg) (.slice ai is'.length capi) oa oe og oi ts.length es.length gs.length is'.length ts es gs  is'))
                case atStart => exact ⟨0, by omega, rfl, O5.out⟩
                case round =>
                  clear O5
                  obtain ⟨m, hm, rfl, hO6⟩ := hrel
                  have O6 := Lib.hid hO6
                  clear hO6
                  by_cases hmn : m < es.length
                  · have hmg : m < gs.length := by have := HL.out; omega
                    have hmi : m < is'.length := by have := HL.out; omega
                    obtain ⟨eb, eo, rfl, -, -, c0, -, -⟩ := row_nth (show Row wr 3 1 (.slice ae es.length cape) oe es.length (ints es) from O6.out.get 4 rfl) hmn
                    obtain ⟨gb, go, rfl, -, -, c1, -, -⟩ := row_nth (show Row wr 3 1 (.slice ag gs.length capg) og gs.length (ints gs) from O6.out.get 5 rfl) hmg
                    obtain ⟨ib, io, rfl, -, -, c2, -, -⟩ := row_nth (show Row wr 3 1 (.slice ai is'.length capi) oi is'.length (ints is') from O6.out.get 6 rfl) hmi
                    obtain ⟨s0, s2⟩ := (boxes O6.out).2.1
                    obtain ⟨u, hu⟩ : ∃ u, nthI es m = u := ⟨_, rfl⟩
                    obtain ⟨v, hv⟩ : ∃ v, nthI gs m = v := ⟨_, rfl⟩
                    obtain ⟨z, hz⟩ : ∃ z, nthI is' m = z := ⟨_, rfl⟩
                    have hng := NG.out m hmn
                    rw [hu] at c0 hng
                    rw [hv] at c1 hng
                    rw [hz] at c2 hng
                    clear hu hv hz
                    by_cases hup : u = p
                    · obtain ⟨hv2, hz3⟩ := hng hup
                      have bv : (v == gen l2 p) = false := by simpa using hv2
                      subst hup
                      subst hz3
                      clear hng
                      as_aux_lemma =>
                      go_wp2_with fail
                      go_quiet ((go_at_call 74; exact quiet_same (gen_any b l2 u _ (show Tb _ b l2 from (O6.out.drewN _).get 2 rfl))))
                      go_wp2_with fail
                      go_roundg (es.length - (m + 1))
                      case measure => omega
                      case rel => exact ⟨m + 1, by omega, by go_num, O6.out.drewN _⟩
                    · have bu : (u == p) = false := by simpa using hup
                      clear hng
                      as_aux_lemma =>
                      go_wp2_with fail
                      go_quiet ((go_at_call 74; exact quiet_same (gen_any b l2 p _ (show Tb _ b l2 from (O6.out.drewN _).get 2 rfl))))
                      go_wp2_with fail
                      go_roundg (es.length - (m + 1))
                      case measure => omega
                      case rel => exact ⟨m + 1, by omega, by go_num, O6.out.drewN _⟩
                  · obtain ⟨x0, x1, x2⟩ := (boxes O6.out).1
                    obtain ⟨s0, s2⟩ := (boxes O6.out).2.1
                    have hb1 : ts.length ≤ 100 := by have := HL.out; omega
                    have hb2 : es.length ≤ 100 := by have := HL.out; omega
                    have hb3 : gs.length ≤ 100 := by have := HL.out; omega
                    have hb4 : is'.length ≤ 100 := by have := HL.out; omega
                    have RA := Lib.hid (show Row wr 102 3 (.slice aa ts.length capa) oa ts.length (encs3 ts) from O6.out.get 3 rfl)
                    go_wp2_with (first | (at_builtin; refine wpList_append_row _ rfl _ _ _ rfl 102 i1 (.agg #[.int .u8 0, .int .i64 0, .int .i64 0]) 3 24 Try.underlying93 hi1 hy0 hy1 hy2 rfl (by decide) (.slice aa ts.length capa) oa ts.length (encs3 ts) (RA.out.alloc _) rfl ⟨wr.heap.size, 0, none⟩ 1 1 (enc3 ⟨K j, A j, B j⟩) rfl rfl (new_src _ _ _) (by simp [enc3, Value.oneCell']) (by unfold maxLen; omega) (by omega) ?_; intro v4 w7 oa' hR4 hB4 hN4; obtain ⟨aO7, capO7, rfl, -, -⟩ := hR4.val; have O7 := Lib.hid (O6.out.put 3 (q := Pc.row 102 3 (.slice aO7 (ts.length + 1) capO7) oa' (ts.length + 1) (encs3 (ts ++ [⟨K j, A j, B j⟩]))) rfl (by show Row _ _ _ _ _ _ _; rw [encs3_push]; exact hR4) (((But.refl _ wr).alloc _).trans hB4) (fun k hk => by rcases hN4 k hk with q | q; exact .inl q; (try simp at q); exact .inr (by omega))); clear hR4 hB4 hN4; obtain ⟨s0, s2⟩ := (boxes O7.out).2.1; have RE := Lib.hid (show Row w7 3 1 (.slice ae es.length cape) oe es.length (ints es) from O7.out.get 4 rfl)) | (at_builtin; refine wpList_append_row _ rfl _ _ _ rfl 3 i0 (.int .i64 0) 1 8 Try.underlying49 hi hz0 hz1 hz2 rfl (by decide) (.slice ae es.length cape) oe es.length (ints es) (RE.out.alloc _) rfl ⟨w7.heap.size, 0, none⟩ 1 1 [.int .i64 p] rfl rfl (new_src _ _ _) (by simp [Value.oneCell']) (by unfold maxLen; omega) (by omega) ?_; intro v4 w8 oe' hR4 hB4 hN4; obtain ⟨aO8, capO8, rfl, -, -⟩ := hR4.val; have O8 := Lib.hid (O7.out.put 4 (q := Pc.row 3 1 (.slice aO8 (es.length + 1) capO8) oe' (es.length + 1) (ints (es ++ [p]))) rfl (by show Row _ _ _ _ _ _ _; rw [ints_push]; exact hR4) (((But.refl _ w7).alloc _).trans hB4) (fun k hk => by rcases hN4 k hk with q | q; exact .inl q; (try simp at q); exact .inr (by omega))); clear hR4 hB4 hN4; obtain ⟨s0, s2⟩ := (boxes O8.out).2.1))
                    refine (gen_any b l2 p _ (show Tb w8 b l2 from O8.out.get 2 rfl)).mono ?_
                    rintro e wa ⟨rfl, rfl⟩
                    have RG := Lib.hid (show Row w8 3 1 (.slice ag gs.length capg) og gs.length (ints gs) from O8.out.get 5 rfl)
                    go_wp2_with (first | (at_builtin; refine wpList_append_row _ rfl _ _ _ rfl 3 i0 (.int .i64 0) 1 8 Try.underlying49 hi hz0 hz1 hz2 rfl (by decide) (.slice ag gs.length capg) og gs.length (ints gs) (RG.out.alloc _) rfl ⟨w8.heap.size, 0, none⟩ 1 1 [.int .i64 (gen l2 p)] rfl rfl (new_src _ _ _) (by simp [Value.oneCell']) (by unfold maxLen; omega) (by omega) ?_; intro v4 w9 og' hR4 hB4 hN4; obtain ⟨aO9, capO9, rfl, -, -⟩ := hR4.val; have O9 := Lib.hid (O8.out.put 5 (q := Pc.row 3 1 (.slice aO9 (gs.length + 1) capO9) og' (gs.length + 1) (ints (gs ++ [gen l2 p]))) rfl (by show Row _ _ _ _ _ _ _; rw [ints_push]; exact hR4) (((But.refl _ w8).alloc _).trans hB4) (fun k hk => by rcases hN4 k hk with q | q; exact .inl q; (try simp at q); exact .inr (by omega))); clear hR4 hB4 hN4; have RI := Lib.hid (show Row w9 3 1 (.slice ai is'.length capi) oi is'.length (ints is') from O9.out.get 6 rfl)) | (at_builtin; refine wpList_append_row _ rfl _ _ _ rfl 3 i0 (.int .i64 0) 1 8 Try.underlying49 hi hz0 hz1 hz2 rfl (by decide) (.slice ai is'.length capi) oi is'.length (ints is') (RI.out.alloc _) rfl ⟨w9.heap.size, 0, none⟩ 1 1 [.int .i64 1] rfl rfl (new_src _ _ _) (by simp [Value.oneCell']) (by unfold maxLen; omega) (by omega) ?_; intro v4 w10 oi' hR4 hB4 hN4; obtain ⟨aO10, capO10, rfl, -, -⟩ := hR4.val; have O10 := Lib.hid (O9.out.put 6 (q := Pc.row 3 1 (.slice aO10 (is'.length + 1) capO10) oi' (is'.length + 1) (ints (is' ++ [1]))) rfl (by show Row _ _ _ _ _ _ _; rw [ints_push]; exact hR4) (((But.refl _ w9).alloc _).trans hB4) (fun k hk => by rcases hN4 k hk with q | q; exact .inl q; (try simp at q); exact .inr (by omega))); clear hR4 hB4 hN4; skip))
                    go_meet
                    case rel => exact ⟨ts ++ [⟨K j, A j, B j⟩], es ++ [p], gs ++ [gen l2 p], is' ++ [1], _, _, _, _, by rw [List.length_append, List.length_append, List.length_append, List.length_append]; exact O10.out, NX.out, by rw [List.length_append]; show es.length + 1 ≤ _; omega⟩
              · rw [decide_eq_false hg]
                go_wp2_with fail
                go_meet
                case rel => exact ⟨ts, es, gs, is', oa, oe, og, oi, by rw [show is'.length = is.length from HIL.out.trans HL.out.2.1.symm]; exact O5.out, NO.out hg, by omega⟩
            case rest => as_aux_lemma =>
              clear O5
              obtain ⟨ts2, es2, gs2, is2, oa2, oe2, og2, oi2, hO, hN2, hn2⟩ := hcut
              have ra : Row wc 102 3 _ oa2 ts2.length (encs3 ts2) := hO.get 3 rfl
              have re : Row wc 3 1 _ oe2 es2.length (ints es2) := hO.get 4 rfl
              have rg : Row wc 3 1 _ og2 gs2.length (ints gs2) := hO.get 5 rfl
              have ri : Row wc 3 1 _ oi2 is2.length (ints is2) := hO.get 6 rfl
              obtain ⟨aa2, capa2, rfl, -, -⟩ := ra.val
              obtain ⟨ae2, cape2, rfl, -, -⟩ := re.val
              obtain ⟨ag2, capg2, rfl, -, -⟩ := rg.val
              obtain ⟨ai2, capi2, rfl, -, -⟩ := ri.val
              clear ra re rg ri
              have O11 := Lib.hid hO
              have N2 := Lib.hid hN2
              have HL2 := Lib.hid (show gs2.length = es2.length ∧ is2.length = es2.length ∧ ts2.length = es2.length from ⟨hN2.lg, hN2.li, hN2.la⟩)
              clear hO hN2
              go_wp2_with fail
              go_loopg [13] es2.length (fun k kv wr => ∃ m : Nat, m + k = es2.length ∧ kv = .int .i64 m ∧ Own w wr (Pc.blk bs #[.int .i64 p, .int .i64 q, .int .i64 r] 99 :: Pc.blk bx #[.int .u8 (K j), .int .i64 (A j), .int .i64 (B j)] 102 :: kept b l2 (.slice aa2 ts2.length capa2) (.slice ae2 es2.length cape2) (.slice ag2 gs2.length capg2) (.slice ai2 is2.length capi2) oa2 oe2 og2 oi2 ts2.length es2.length gs2.length is2.length ts2 es2 gs2 is2))
              case atStart => exact ⟨0, by omega, rfl, O11.out⟩
              case round =>
                clear O11
                obtain ⟨m, hm, rfl, hO12⟩ := hrel
                have O12 := Lib.hid hO12
                clear hO12
                by_cases hmn : m < es2.length
                · have hmg : m < gs2.length := by have := HL2.out; omega
                  have hmi : m < is2.length := by have := HL2.out; omega
                  have hma : m < ts2.length := by have := HL2.out; omega
                  obtain ⟨eb, eo, rfl, -, -, c0, -, -⟩ := row_nth (show Row wr 3 1 (.slice ae2 es2.length cape2) oe2 es2.length (ints es2) from O12.out.get 4 rfl) hmn
                  obtain ⟨gb, go, rfl, -, -, c1, -, -⟩ := row_nth (show Row wr 3 1 (.slice ag2 gs2.length capg2) og2 gs2.length (ints gs2) from O12.out.get 5 rfl) hmg
                  obtain ⟨ib, io, rfl, -, -, -, -, fi⟩ := row_nth (show Row wr 3 1 (.slice ai2 is2.length capi2) oi2 is2.length (ints is2) from O12.out.get 6 rfl) hmi
                  obtain ⟨ab, ao, rfl, fa⟩ := row_act (show Row wr 102 3 (.slice aa2 ts2.length capa2) oa2 ts2.length (encs3 ts2) from O12.out.get 3 rfl) hma
                  obtain ⟨u, hu⟩ : ∃ u, nthI es2 m = u := ⟨_, rfl⟩
                  obtain ⟨v, hv⟩ : ∃ v, nthI gs2 m = v := ⟨_, rfl⟩
                  obtain ⟨z, hz⟩ : ∃ z, nthI is2 m = z := ⟨_, rfl⟩
                  have hlk := N2.out.looks hmn
                  obtain ⟨y1, hy1'⟩ : ∃ y, (act ts2 m).a = y := ⟨_, rfl⟩
                  obtain ⟨y2, hy2'⟩ : ∃ y, (act ts2 m).b = y := ⟨_, rfl⟩
                  rw [hu] at c0 hlk
                  rw [hv] at c1 hlk
                  rw [hz] at hlk
                  rw [hy1', hy2'] at hlk
                  have FA := Lib.hid (show ∀ w', But (fun _ => False) wr w' → w'.cell? ⟨ib, io + m, none⟩ = some (.int .i64 z) ∧ w'.cell? ⟨ab, ao + m * 3 + 1, none⟩ = some (.int .i64 y1) ∧ w'.cell? ⟨ab, ao + m * 3 + 2, none⟩ = some (.int .i64 y2) from fun w' h => ⟨hz ▸ fi w' h, hy1' ▸ (fa w' h).1, hy2' ▸ (fa w' h).2⟩)
                  clear hu hv hz hy1' hy2' fi fa
                  rcases hlk with ⟨rfl, hl⟩ | ⟨rfl, hl⟩ | ⟨rfl, hl⟩
                  all_goals
                    have HLK := Lib.hid hl
                    clear hl
                    as_aux_lemma =>
                    go_wp2_with fail
                    go_quiet ((go_at_call 76; exact look_quiet b l2 u v _ _ _ _ _ (show Tb _ b l2 from (O12.out.drewN _).get 2 rfl) HLK.out))
                    obtain ⟨w5, hw5⟩ : ∃ w5, w5 = wr.drewN nq := ⟨_, rfl⟩
                    have g5 : But (fun _ => False) wr w5 := by rw [hw5]; exact (But.refl _ _).drewN _
                    rw [← hw5]
                    clear c0 c1 hw5
                    obtain ⟨c2, c3, c4⟩ := FA.out w5 g5
                    go_wp2_with fail
                    go_roundg (es2.length - (m + 1))
                    case measure => omega
                    case rel => exact ⟨m + 1, by omega, by go_num, O12.out.same g5⟩
                · go_wp2_with fail
                  go_roundg (len - (j + 1))
                  case measure => omega
                  case rel => exact ⟨j + 1, l2, ts2, es2, gs2, is2, oa2, oe2, og2, oi2, by omega, by go_num, O12.out.drop.drop, HI2.out, N2.out, by omega⟩
    · go_wp2_with fail
      refine (alive_any _).mono ?_
      rintro e w9 ⟨rfl, g9⟩
      go_wp2_with fail
      go_ret
      exact ⟨rfl, HO.out.but.trans g9⟩

theorem once_law (W : World) (a : Option Addr) (len cap : Nat) (V : Nat → Nat → Value) (hE : Els W a len 3 V)
    (hf : ∀ i, i < len → All2 [.i .u8, .i .i64, .i .i64] ((List.range 3).map (V i))) (hz : len * 24 ≤ 140737488351232) (hm : len ≤ cap ∧ cap ≤ maxLen) :
    Calls Try.prog 14 #[.slice a len cap] W fun e w' => e = .returned (.bool true) ∧ But (fun _ => False) W w' := by
  refine once_any a len cap V (fun i => intOf (V i 0)) (fun i => intOf (V i 1)) (fun i => intOf (V i 2)) W hE (by omega) (fun i hi => ?_) (fun i hi => ?_) (fun i hi => ?_)
  all_goals obtain ⟨f1, f2, f3, -⟩ := hf i hi
  · exact ⟨(CK.fits_i f1).1, bounds_u8 (CK.fits_i f1).2⟩
  · exact ⟨(CK.fits_i f2).1, bounds_i64 (CK.fits_i f2).2⟩
  · exact ⟨(CK.fits_i f3).1, bounds_i64 (CK.fits_i f3).2⟩

end Proxy
end Go.Proofs.Ytboajbbnnbnpaaa
