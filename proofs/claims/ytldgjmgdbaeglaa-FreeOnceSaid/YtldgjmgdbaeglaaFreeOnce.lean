/- The law FreeOnce of layer 6, walked: it answers true. -/
import Derived.Test.YtldgjmgdbaeglaaFreePlays
import Derived.Test.YtldgjmgdbaeglaaFreeSeen
import Derived.Test.YtldgjmgdbaeglaaFreePlain4
import Derived.BigQuiet
set_option linter.unusedVariables false
set_option linter.unusedSimpArgs false
namespace Go.Proofs.Ytldgjmgdbaeglaa
open Go.RowKit Go.ChangeShapes Go.WideShapes

namespace Free

set_option maxHeartbeats 8000000 in
set_option maxRecDepth 100000 in
theorem once_any (s : Conf.Sh) (a : Option Addr) (len cap : Nat) (V : Nat → Nat → Value) (K N : Nat → Int) (w : World) (hE : Els w a len 2 V) (hlen : len ≤ 1000000000000000)
    (hK : ∀ i, i < len → V i 0 = .int .u8 (K i) ∧ 0 ≤ K i ∧ K i ≤ 255) (hN : ∀ i, i < len → V i 1 = .int .i64 (N i) ∧ -9223372036854775808 ≤ N i ∧ N i ≤ 9223372036854775807) :
    Calls Try.prog 4 #[.agg (Conf.sh s), .slice a len cap] w fun e w' => e = .returned (.bool true) ∧ But (fun _ => False) w w' := by
  obtain ⟨i0, hi, hz0, hz1, hz2⟩ := info_parts infoInt
  have hsh := fun w => Conf.ref_share s w
  have hny := fun w h => new_yes s w h
  have hcl := fun w i => Conf.ref_class s i w
  have hbx : ∀ (w : World) T, Blk (w.alloc (.cells (Conf.sh s) T)) w.heap.size (Conf.sh s) T := fun w T => Blk.new w _ T
  unfold Conf.sh at hsh hny hcl hbx ⊢
  have HSH := Lib.hid hsh
  have HNY := Lib.hid hny
  have HCL := Lib.hid hcl
  have HBX := Lib.hid hbx
  clear hsh hny hcl hbx
  by_cases hgo : Conf.ok s = false ∨ 100 < len
  · go_enter Try.func4, Try.ntmps4
    go_wp2_with fail
    refine (HSH.out _).mono ?_
    rintro e w1 ⟨rfl, g1⟩
    rcases hgo with hok | hbig
    · rw [hok]
      go_wp2_with fail
      refine (alive_any _).mono ?_
      rintro e w2 ⟨rfl, g2⟩
      go_wp2_with fail
      go_ret
      exact ⟨rfl, (((But.refl _ w).alloc _).trans g1).trans g2⟩
    · cases hok : Conf.ok s <;> (
        go_wp2_with fail
        refine (alive_any _).mono ?_
        rintro e w2 ⟨rfl, g2⟩
        go_wp2_with fail
        go_ret
        exact ⟨rfl, (((But.refl _ w).alloc _).trans g1).trans g2⟩)
  have hok : Conf.ok s = true := by cases h : Conf.ok s with | true => rfl | false => exact absurd (.inl h) hgo
  have hl : len ≤ 100 := by omega
  have HO := Lib.hid hok
  clear hok hgo
  go_enter Try.func4, Try.ntmps4
  go_wp2_with fail
  refine (HSH.out _).mono ?_
  rintro e w1 ⟨rfl, g1⟩
  rw [HO.out]
  have X1 := (HBX.out w 24).but g1 (fun q => q)
  have k0 : w1.cell? ⟨w.heap.size, 0, none⟩ = some (.int .i64 s.c0) := X1.cell 0
  have k1 : w1.cell? ⟨w.heap.size, 1, none⟩ = some (.int .i64 s.c1) := X1.cell 1
  have k2 : w1.cell? ⟨w.heap.size, 2, none⟩ = some (.int .i64 s.c2) := X1.cell 2
  have k3 : w1.cell? ⟨w.heap.size, 3, none⟩ = some (.int .i64 s.q) := X1.cell 3
  have k4 : w1.cell? ⟨w.heap.size, 4, none⟩ = some (.int .i64 s.st) := X1.cell 4
  have X1 := Lib.hid X1
  have G1 := Lib.hid (((But.refl (fun _ => False) w).alloc (.cells #[.int .i64 s.c0, .int .i64 s.c1, .int .i64 s.c2, .int .i64 s.q, .int .i64 s.st] 24)).trans g1)
  clear g1
  go_wp2_with fail
  refine (HNY.out _ HO.out).mono ?_
  rintro e w2 ⟨b, S, rfl, h2, g2, hl2⟩
  obtain ⟨m, hm⟩ : ∃ m : Nat, Conf.count s = m := ⟨(Conf.count s).toNat, by have := Conf.count_bd s; omega⟩
  have HM2 := Lib.hid (show Mem b (initTo s m m) (.slice none 0 0) (.slice none 0 0) [] [] w1 w2 from Mem.new (by rw [hm, Int.toNat_natCast] at h2; exact h2) g2 hl2 ⟨(rel_init HO.out hm).2, _, (rel_init HO.out hm).1⟩)
  have HN2 := Lib.hid (once_init HO.out hm)
  have hs0 : (initTo s m m).s = s := rfl
  clear h2 g2 hl2 k0 k1 k2 k3 k4
  go_wp2_with fail
  go_loopg [8, 9, 10, 11] len (fun k cv gv hv iv wr => ∃ (j : Nat) (f : Fr) (cs gs : List Int) (held : Int), j + k = len ∧ iv = .int .i64 j ∧ hv = .int .i64 held ∧ Mem b f cv gv cs gs w1 wr ∧ Once f cs gs held ∧ f.s = s ∧ cs.length ≤ j)
  case atStart => exact ⟨0, _, _, _, 0, by omega, rfl, rfl, HM2.out, HN2.out, hs0, by simp⟩
  case round =>
    obtain ⟨j, f, cs, gs, held, hj, rfl, rfl, hM, hO, hfs, hcj⟩ := hrel
    clear HM2 HN2 hs0
    have HM := Lib.hid hM
    have HQ := Lib.hid hO
    have HFS := Lib.hid hfs
    have hI := hM.inv.1
    have HI := Lib.hid hI
    have hbd := hO.bd hI
    clear hO hfs hI
    have hcg := HQ.out.len
    obtain ⟨_, _, _, -, hr1, hr2, -⟩ := hM.out
    rw [hcg] at hr2
    obtain ⟨ac, capc, rfl, -, -⟩ := hr1.val
    obtain ⟨ag, capg, rfl, -, -⟩ := hr2.val
    clear hM hr1 hr2
    by_cases hlt : j < len
    · obtain ⟨xb, xoff, rfl, hxb, hxc⟩ := hE.at_ j hlt
      have HC := Lib.hid (show ∀ w', But (fun _ => False) w w' → (w'.cell? ⟨xb, xoff + (j * 2), none⟩ = some (.int .u8 (K j)) ∧ w'.cell? ⟨xb, xoff + (j * 2) + 1, none⟩ = some (.int .i64 (N j))) from fun w' h => by
        have cc : ∀ i, w'.cell? ⟨xb, i, none⟩ = w.cell? ⟨xb, i, none⟩ := fun i => World.cell?_of_block (w := w) (h.block xb hxb (fun q => q))
        refine ⟨?_, ?_⟩
        · rw [cc, ← (hK j hlt).1, ← hxc 0 (by omega)]; rfl
        · rw [cc, ← (hN j hlt).1, ← hxc 1 (by omega)]; rfl)
      obtain ⟨e0, e1⟩ := HC.out _ (G1.out.trans HM.out.but)
      have bk := (hK j hlt).2
      have bn := (hN j hlt).2
      clear hxc
      go_wp2_with fail
      refine (m_taken HM.out (N j)).mono ?_
      rintro e wa ⟨rfl, rfl⟩
      go_wp2_with fail
      refine (m_gen HM.out (N j)).mono ?_
      rintro e wa ⟨rfl, rfl⟩
      by_cases hk : K j % 3 = 2
      · go_wp2_with fail
        refine (m_give HM.out (N j) bn).mono ?_
        rintro e w4 ⟨rfl, h4⟩
        have B4 := Lib.hid h4
        clear h4
        have X4 := (X1.out).but B4.out.but (fun q => q)
        have k0 : w4.cell? ⟨w.heap.size, 0, none⟩ = some (.int .i64 s.c0) := X4.cell 0
        have k1 : w4.cell? ⟨w.heap.size, 1, none⟩ = some (.int .i64 s.c1) := X4.cell 1
        have k2 : w4.cell? ⟨w.heap.size, 2, none⟩ = some (.int .i64 s.c2) := X4.cell 2
        have k3 : w4.cell? ⟨w.heap.size, 3, none⟩ = some (.int .i64 s.q) := X4.cell 3
        have k4 : w4.cell? ⟨w.heap.size, 4, none⟩ = some (.int .i64 s.st) := X4.cell 4
        clear X4
        by_cases he : (give f (N j)).2.2 = 0
        · obtain ⟨y1, y2, y3, y4⟩ := give_yes HI.out he
          have O4 := Lib.hid (HQ.out.gave HI.out he)
          have hS4 := Lib.hid ((give_s f (N j)).trans HFS.out)
          have hgb : 1 ≤ gen f (N j) ∧ gen f (N j) ≤ 4294967295 := by
            obtain ⟨y, h1, h2, -⟩ := give_ok HI.out he
            rw [h1, gen_in h2]; exact HI.out.gen_bd h2
          rw [he, y1, y4]
          go_wp2_with fail
          refine (m_gen B4.out (N j)).mono ?_
          rintro e wa ⟨rfl, rfl⟩
          rw [y3]
          by_cases hz : gen f (N j) + 1 = 4294967295
          · rw [decide_eq_true hz]
            go_wp2_with fail
            refine (m_taken B4.out (N j)).mono ?_
            rintro e wa ⟨rfl, rfl⟩
            rw [y2]
            go_wp2_with fail
            refine (HCL.out _ _).mono ?_
            rintro e w5 ⟨rfl, g5⟩
            by_cases hc0 : (Conf.find s (N j)).1 = 0
            · have O5 := O4.out
              rw [show cls f (N j) = 0 by unfold cls; rw [HFS.out]; exact hc0, if_pos rfl] at O5
              rw [hc0]
              have O5 := Lib.hid O5
              go_wp2_with fail
              go_roundg (len - (j + 1))
              case measure => omega
              case rel => exact ⟨j + 1, _, _, _, _, by omega, by go_num, by go_num, B4.out.same g5, O5.out, hS4.out, by omega⟩
            · have O5 := O4.out
              rw [if_neg (show ¬ cls f (N j) = 0 by unfold cls; rw [HFS.out]; exact hc0)] at O5
              have O5 := Lib.hid O5
              go_wp2_with fail
              go_roundg (len - (j + 1))
              case measure => omega
              case rel => exact ⟨j + 1, _, _, _, _, by omega, by go_num, rfl, B4.out.same g5, O5.out, hS4.out, by omega⟩
          · rw [decide_eq_false hz]
            go_wp2_with fail
            refine (m_taken B4.out (N j)).mono ?_
            rintro e wa ⟨rfl, rfl⟩
            rw [y2]
            go_wp2_with fail
            refine (HCL.out _ _).mono ?_
            rintro e w5 ⟨rfl, g5⟩
            by_cases hc0 : (Conf.find s (N j)).1 = 0
            · have O5 := O4.out
              rw [show cls f (N j) = 0 by unfold cls; rw [HFS.out]; exact hc0, if_pos rfl] at O5
              rw [hc0]
              have O5 := Lib.hid O5
              go_wp2_with fail
              go_roundg (len - (j + 1))
              case measure => omega
              case rel => exact ⟨j + 1, _, _, _, _, by omega, by go_num, by go_num, B4.out.same g5, O5.out, hS4.out, by omega⟩
            · have O5 := O4.out
              rw [if_neg (show ¬ cls f (N j) = 0 by unfold cls; rw [HFS.out]; exact hc0)] at O5
              have O5 := Lib.hid O5
              go_wp2_with fail
              go_roundg (len - (j + 1))
              case measure => omega
              case rel => exact ⟨j + 1, _, _, _, _, by omega, by go_num, rfl, B4.out.same g5, O5.out, hS4.out, by omega⟩
        · have hf := give_not he
          rw [hf]
          have hB5 := B4.out
          rw [give_no he] at hB5
          have B5 := Lib.hid hB5
          clear hB5
          go_wp2_with fail
          go_roundg (len - (j + 1))
          case measure => omega
          case rel => exact ⟨j + 1, _, _, _, _, by omega, by go_num, rfl, B5.out, HQ.out, HFS.out, by omega⟩
      · obtain ⟨f', c, r, hT⟩ : ∃ f' c r, take f (N j) = (f', c, r) := ⟨_, _, _, rfl⟩
        have mt := m_take HM.out (N j)
        have ys := take_s f (N j)
        rw [hT] at mt ys
        have HMT := Lib.hid mt
        have YS := Lib.hid (ys.trans HFS.out)
        clear mt ys
        by_cases hr : r = 0
        · subst hr
          have hr : (take f (N j)).2.2 = 0 := by rw [hT]
          have y := take_yes HI.out hr
          have O4 := HQ.out.took HI.out hr
          have nv := HQ.out.never HI.out hr
          rw [hT] at y O4 nv
          obtain ⟨y1, y2, y3, y4⟩ := y
          rw [show genAt f' c = gen f' c from y2.symm] at O4
          have O4 := Lib.hid O4
          have NV := Lib.hid nv
          have HT := Lib.hid hT
          have Y4 := Lib.hid (show (Conf.find s c).1 = N j by rw [← HFS.out]; exact y4)
          replace y1 : taken f' c = true := y1
          replace y3 : gen f' c < 4294967295 := y3
          have hgv : (gen f' c ≥ 4294967295) = False := by simp; omega
          clear y2 y4 nv hT hr
          go_wp2_with fail
          refine HMT.out.mono ?_
          rintro e w4 ⟨rfl, h4⟩
          have M4 := Lib.hid h4
          clear h4
          go_wp2_with fail
          go_loopg [19] cs.length (fun k kv wr => ∃ m : Nat, m + k = cs.length ∧ kv = .int .i64 m ∧ Mem b f' (.slice ac cs.length capc) (.slice ag cs.length capg) cs gs w1 wr)
          case atStart => exact ⟨0, by omega, rfl, M4.out⟩
          case round =>
            obtain ⟨m, hm, rfl, hM8⟩ := hrel
            have M8 := Lib.hid hM8
            by_cases hmc : m < cs.length
            · obtain ⟨cb, coff, rfl, q1⟩ := M8.out.cellc hmc
              obtain ⟨gb, goff, rfl, q2⟩ := M8.out.cellg hcg hmc
              obtain ⟨u, hu⟩ : ∃ u, nth cs m = u := ⟨_, rfl⟩
              obtain ⟨v, hv⟩ : ∃ v, nth gs m = v := ⟨_, rfl⟩
              replace q1 := q1 wr (But.refl _ wr)
              replace q2 := q2 wr (But.refl _ wr)
              rw [hu] at q1
              rw [hv] at q2
              by_cases huc : u = c
              · have hvg : v ≠ gen f' c := fun q => NV.out m hmc ⟨hu.trans huc, hv.trans q⟩
                subst huc
                have hvb : (v == gen f' u) = false := by simpa using hvg
                clear hu hv hM8
                go_wp2_with fail
                go_quiet ((go_at_call 19; exact quiet_same (m_gen (M8.out.same ((But.refl _ _).drewN _)) u)))
                go_wp2_with fail
                go_roundg (cs.length - (m + 1))
                case measure => omega
                case rel => exact ⟨m + 1, by omega, by go_num, M8.out.same ((But.refl _ _).drewN _)⟩
              · have hub : (u == c) = false := by simpa using huc
                clear hu hv hM8
                go_wp2_with fail
                go_quiet ((go_at_call 19; exact quiet_same (m_gen (M8.out.same ((But.refl _ _).drewN _)) c)))
                go_wp2_with fail
                go_roundg (cs.length - (m + 1))
                case measure => omega
                case rel => exact ⟨m + 1, by omega, by go_num, M8.out.same ((But.refl _ _).drewN _)⟩
            · clear hM8
              have X8 := (X1.out).but M8.out.but (fun q => q)
              have k0 : wr.cell? ⟨w.heap.size, 0, none⟩ = some (.int .i64 s.c0) := X8.cell 0
              have k1 : wr.cell? ⟨w.heap.size, 1, none⟩ = some (.int .i64 s.c1) := X8.cell 1
              have k2 : wr.cell? ⟨w.heap.size, 2, none⟩ = some (.int .i64 s.c2) := X8.cell 2
              have k3 : wr.cell? ⟨w.heap.size, 3, none⟩ = some (.int .i64 s.q) := X8.cell 3
              have k4 : wr.cell? ⟨w.heap.size, 4, none⟩ = some (.int .i64 s.st) := X8.cell 4
              clear X8
              go_wp2_with fail
              refine (HCL.out _ _).mono ?_
              rintro e w9 ⟨rfl, g9⟩
              rw [Y4.out]
              have M9 := Lib.hid (M8.out.same g9)
              clear g9 k0 k1 k2 k3 k4
              go_wp2_with fail
              refine (m_taken M9.out c).mono ?_
              rintro e wa ⟨rfl, rfl⟩
              rw [y1]
              go_wp2_with fail
              refine (m_gen M9.out c).mono ?_
              rintro e wa ⟨rfl, rfl⟩
              obtain ⟨oc, hRc, hpc⟩ := M9.out.pushc c
              have HRc := Lib.hid hRc
              have HPc := Lib.hid hpc
              clear hRc hpc
              go_wp2_with ((at_builtin; refine wpList_append_row _ rfl _ _ _ rfl 3 i0 (.int .i64 0) 1 8 Try.underlying43 hi hz0 hz1 hz2 rfl (by decide) (.slice ac cs.length capc) oc cs.length (ints cs) (HRc.out.alloc _) rfl ⟨w9.heap.size, 0, none⟩ 1 1 [.int .i64 c] rfl rfl (new_src _ _ _) (by simp [Value.oneCell']) (by unfold maxLen; omega) (by omega) ?_; intro v4 w10 o4 hR4 hB4 hN4; obtain ⟨a4, cap4, rfl, h41, h42⟩ := hR4.val; have M10 := Lib.hid (HPc.out w10 _ o4 hR4 (((But.refl _ w9).alloc (.cells #[.int .i64 c] 3)).trans hB4) (fun k hk => by rcases hN4 k hk with q | q; exact .inl q; simp at q; exact .inr (by omega))); clear hR4 hB4 hN4))
              refine (m_gen M10.out c).mono ?_
              rintro e wa ⟨rfl, rfl⟩
              obtain ⟨og, hRg, hpg⟩ := M10.out.pushg (gen f' c)
              rw [hcg] at hRg hpg
              have HRg := Lib.hid hRg
              have HPg := Lib.hid hpg
              clear hRg hpg
              by_cases hn0 : N j = 0
              · have O5 := O4.out
                rw [if_pos hn0] at O5
                have O5 := Lib.hid O5
                rw [hn0]
                go_wp2_with ((at_builtin; refine wpList_append_row _ rfl _ _ _ rfl 3 i0 (.int .i64 0) 1 8 Try.underlying43 hi hz0 hz1 hz2 rfl (by decide) (.slice ag cs.length capg) og cs.length (ints gs) (HRg.out.alloc _) rfl ⟨w10.heap.size, 0, none⟩ 1 1 [.int .i64 (gen f' c)] rfl rfl (new_src _ _ _) (by simp [Value.oneCell']) (by unfold maxLen; omega) (by omega) ?_; intro v5 w11 o5 hR5 hB5 hN5; obtain ⟨a5, cap5, rfl, h51, h52⟩ := hR5.val; have M11 := Lib.hid (HPg.out w11 _ o5 hR5 (((But.refl _ w10).alloc (.cells #[.int .i64 (gen f' c)] 3)).trans hB5) (fun k hk => by rcases hN5 k hk with q | q; exact .inl q; simp at q; exact .inr (by omega))); clear hR5 hB5 hN5))
                go_roundg (len - (j + 1))
                case measure => omega
                case rel => exact ⟨j + 1, f', cs ++ [c], gs ++ [gen f' c], _, by omega, by go_num, by go_num, M11.out, O5.out, YS.out, by simp; omega⟩
              · have O5 := O4.out
                rw [if_neg hn0] at O5
                have O5 := Lib.hid O5
                go_wp2_with ((at_builtin; refine wpList_append_row _ rfl _ _ _ rfl 3 i0 (.int .i64 0) 1 8 Try.underlying43 hi hz0 hz1 hz2 rfl (by decide) (.slice ag cs.length capg) og cs.length (ints gs) (HRg.out.alloc _) rfl ⟨w10.heap.size, 0, none⟩ 1 1 [.int .i64 (gen f' c)] rfl rfl (new_src _ _ _) (by simp [Value.oneCell']) (by unfold maxLen; omega) (by omega) ?_; intro v5 w11 o5 hR5 hB5 hN5; obtain ⟨a5, cap5, rfl, h51, h52⟩ := hR5.val; have M11 := Lib.hid (HPg.out w11 _ o5 hR5 (((But.refl _ w10).alloc (.cells #[.int .i64 (gen f' c)] 3)).trans hB5) (fun k hk => by rcases hN5 k hk with q | q; exact .inl q; simp at q; exact .inr (by omega))); clear hR5 hB5 hN5))
                go_roundg (len - (j + 1))
                case measure => omega
                case rel => exact ⟨j + 1, f', cs ++ [c], gs ++ [gen f' c], _, by omega, by go_num, rfl, M11.out, O5.out, YS.out, by simp; omega⟩
        · have hT2 : f' = f := by
            have h := take_no (f := f) (c := N j) (by rw [hT]; exact hr)
            rw [hT] at h; exact h
          subst hT2
          clear hT
          go_wp2_with fail
          refine HMT.out.mono ?_
          rintro e w4 ⟨rfl, h4⟩
          have M4 := Lib.hid h4
          clear h4
          go_wp2_with fail
          go_roundg (len - (j + 1))
          case measure => omega
          case rel => exact ⟨j + 1, _, _, _, _, by omega, by go_num, rfl, M4.out, HQ.out, HFS.out, by omega⟩
    · have X8 := (X1.out).but HM.out.but (fun q => q)
      have k0 : wr.cell? ⟨w.heap.size, 0, none⟩ = some (.int .i64 s.c0) := X8.cell 0
      have hend := HQ.out.end_
      rw [HFS.out] at hend
      go_wp2_with fail
      have hc0 := (Conf.ok_iff s).1 HO.out
      have HP := Lib.hid (show ∀ w', But (fun _ => False) wr w' → w'.cell? ⟨w.heap.size, 0, none⟩ = some (.int .i64 s.c0) from fun w' h => ((X1.out).but (HM.out.but.trans h) (fun q => q)).cell 0)
      clear X8
      have e1 : IntKind.i64.wrap (free f 0 + retired f 0) = free f 0 + retired f 0 := IntWalk.i64_in _ (by omega)
      have e2 : IntKind.i64.wrap (free f 0 + retired f 0 + held) = s.c0 := by rw [IntWalk.i64_in _ (by omega)]; exact hend
      have HV := Lib.hid (show (IntKind.i64.wrap (IntKind.i64.wrap (free f 0 + retired f 0) + held) == s.c0) = true by rw [e1, e2]; simp)
      clear e1 e2
      go_region_held3 (fun w' => But (fun _ => False) wr w' ∧ w'.cell? ⟨w.heap.size, 0, none⟩ = some (.int .i64 s.c0))
        (first | assumption | (refine keepN HP.out ?_; first | exact (But.refl _ _).drew | exact (And.left ‹But (fun _ => False) wr _ ∧ _›).drew | exact keep_step ‹But (fun _ => False) wr _ ∧ _› (by assumption)))
        (first | (go_at_call 11; refine (alive_any _).mono ?_; rintro e w9 ⟨rfl, g9⟩) | (go_at_call 23; refine (m_free (HM.out.same (And.left ‹But (fun _ => False) wr _ ∧ _›)) 0).mono ?_; rintro e w9 ⟨rfl, rfl⟩) | (go_at_call 25; refine (m_retired (HM.out.same (And.left ‹But (fun _ => False) wr _ ∧ _›)) 0).mono ?_; rintro e w9 ⟨rfl, rfl⟩))
      go_wp2_with fail
      go_ret
      exact ⟨congrArg (fun x => Ending.returned (Value.bool x)) HV.out, (G1.out.trans HM.out.but).trans (And.left ‹But (fun _ => False) wr _ ∧ _›)⟩

theorem once_law (W : World) (cs : Array Value) (w0 : All2 [.i .i64, .i .i64, .i .i64, .i .i64, .i .i64] cs.toList) (a : Option Addr) (len cap : Nat) (V : Nat → Nat → Value) (hE : Els W a len 2 V)
    (hf : ∀ i, i < len → All2 [.i .u8, .i .i64] ((List.range 2).map (V i))) (hz : len * 16 ≤ 140737488351232) (hm : len ≤ cap ∧ cap ≤ maxLen) :
    Calls Try.prog 4 #[.agg cs, .slice a len cap] W fun e w' => e = .returned (.bool true) ∧ But (fun _ => False) W w' := by
  obtain ⟨x0, l0, e0, h0, g0⟩ := all2_cons w0
  obtain ⟨x1, l1, e1, h1, g1⟩ := all2_cons g0
  obtain ⟨x2, l2, e2, h2, g2⟩ := all2_cons g1
  obtain ⟨x3, l3, e3, h3, g3⟩ := all2_cons g2
  obtain ⟨x4, l4, e4, h4, g4⟩ := all2_cons g3
  have e5 := all2_nil g4
  obtain ⟨n0, rfl, -⟩ := h0
  obtain ⟨n1, rfl, -⟩ := h1
  obtain ⟨n2, rfl, -⟩ := h2
  obtain ⟨n3, rfl, -⟩ := h3
  obtain ⟨n4, rfl, -⟩ := h4
  obtain rfl : cs = Conf.sh ⟨n0, n1, n2, n3, n4⟩ := Array.ext' (by rw [e0, e1, e2, e3, e4, e5]; rfl)
  refine once_any _ a len cap V (fun i => intOf (V i 0)) (fun i => intOf (V i 1)) W hE (by omega) (fun i hi => ?_) (fun i hi => ?_)
  all_goals obtain ⟨f1, f2, -⟩ := hf i hi
  · exact ⟨(CK.fits_i f1).1, bounds_u8 (CK.fits_i f1).2⟩
  · exact ⟨(CK.fits_i f2).1, bounds_i64 (CK.fits_i f2).2⟩

end Free
end Go.Proofs.Ytldgjmgdbaeglaa
