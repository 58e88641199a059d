/- The law RootsWas of layer 8, walked: it answers true. -/
import Derived.Test.YtmpnlpheeoadkaaRootsLaws
import Derived.BigQuiet
set_option linter.unusedVariables false
set_option linter.unusedSimpArgs false
namespace Go.Proofs.Ytmpnlpheeoadkaa
open Go.RowKit Go.ChangeShapes Go.WideShapes

namespace Roots

theorem has_eq_iff {l l' : List Int} {d : Int} (h : d ∈ l ↔ d ∈ l') : has l d = has l' d := by unfold has; rw [decide_eq_decide]; exact h
theorem was_drop (ks : List Int) (c d : Int) : has (dropTo ks c) d = if dropT ks c = 0 ∧ c = d then false else has ks d := by
  unfold dropTo dropT
  cases ho : okc c with
  | false => simp
  | true =>
    rw [if_pos rfl, if_pos rfl]
    cases hh : has ks c with
    | false => simp
    | true =>
      rw [if_pos rfl, if_pos rfl]
      by_cases e : c = d
      · rw [if_pos ⟨rfl, e⟩, has_not]
        subst e
        unfold dropK
        simp
      · rw [if_neg (fun q => e q.2)]
        refine has_eq_iff ?_
        unfold dropK
        simp
        exact fun _ => fun q => e q.symm
theorem was_add (ks : List Int) (c d : Int) : has (addTo ks c) d = if (addT ks c).2 = 0 ∧ c = d then true else has ks d := by
  unfold addTo addT
  cases ho : okc c with
  | false => simp
  | true =>
    rw [if_pos rfl, if_pos rfl]
    by_cases hk : c ∈ ks
    · rw [show addK ks c = ks from if_pos hk]
      by_cases e : c = d
      · rw [if_pos ⟨rfl, e⟩, ← e]; exact (has_iff _ _).2 hk
      · rw [if_neg (fun q => e q.2)]
    · rw [show addK ks c = ks ++ [c] from if_neg hk]
      by_cases e : c = d
      · rw [if_pos ⟨rfl, e⟩]; subst e; exact (has_iff _ _).2 (by simp)
      · rw [if_neg (fun q => e q.2)]
        exact has_eq_iff (by simp; intro q; exact absurd q.symm e)

theorem rise_at {m : List Int} (h : Rise m) {q : Nat} (hq : q + 1 < m.length) : m.getD q 0 < m.getD (q + 1) 0 := by
  have := List.pairwise_iff_getElem.1 h q (q + 1) (by omega) hq (by omega)
  rw [List.getD_eq_getElem?_getD, List.getD_eq_getElem?_getD, List.getElem?_eq_getElem hq, List.getElem?_eq_getElem (by omega)]
  exact this

set_option maxHeartbeats 8000000 in
set_option maxRecDepth 100000 in
theorem was_any (a : Option Addr) (len cap : Nat) (V : Nat → Nat → Value) (K N : Nat → Int) (cl : Int) (w : World) (hcl : 0 ≤ cl ∧ cl ≤ 255) (hE : Els w a len 2 V) (hlen : len ≤ 1000000000000000)
    (hK : ∀ i, i < len → V i 0 = .int .u8 (K i) ∧ 0 ≤ K i ∧ K i ≤ 255) (hN : ∀ i, i < len → V i 1 = .int .i64 (N i)) :
    Calls Try.prog 6 #[.slice a len cap, .int .u8 cl] w fun e w' => e = .returned (.bool true) ∧ But (fun _ => False) w w' := by
  by_cases hbig : 200 < len
  · go_enter Try.func6, Try.ntmps6
    go_wp2_with fail
    refine (alive_any _).mono ?_
    rintro e w1 ⟨rfl, g1⟩
    go_wp2_with fail
    go_ret
    exact ⟨rfl, g1⟩
  go_enter Try.func6, Try.ntmps6
  go_wp2_with fail
  refine (new_any _).mono ?_
  rintro e w1 ⟨b, S1, rfl, q1, n1, g1⟩
  have T1 := Lib.hid (one_new q1 n1 g1)
  clear q1 n1 g1
  go_wp2_with fail
  go_loopg [6, 7] len (fun k u i1 wr => ∃ (j : Nat) (ks m : List Int), j + k = len ∧ i1 = .int .i64 j ∧ u = .bool (has ks cl) ∧ One [] b ks w wr ∧ Rel ks m)
  case atStart => exact ⟨0, [], [], by omega, rfl, rfl, T1.out, Rel.nil⟩
  case round =>
    obtain ⟨j, ks, m, hj, rfl, rfl, hB, hr⟩ := hrel
    clear T1
    have HR := Lib.hid hr
    have HB := Lib.hid hB
    have hs := hr.small
    have hl := hr.len
    have hml : m.length ≤ 192 := by omega
    have hk6 : ks.length ≤ 1000000 := by omega
    clear hB hr hs hl
    by_cases hlt : j < len
    · obtain ⟨xb, xoff, rfl, hxb, hxc⟩ := hE.at_ j hlt
      have HC := Lib.hid (show ∀ w', But (fun _ => False) w w' → (w'.cell? ⟨xb, xoff + (j * 2), none⟩ = some (.int .u8 (K j)) ∧ w'.cell? ⟨xb, xoff + (j * 2) + 1, none⟩ = some (.int .i64 (N j))) from fun w' h => by
        have cc : ∀ i, w'.cell? ⟨xb, i, none⟩ = w.cell? ⟨xb, i, none⟩ := fun i => World.cell?_of_block (w := w) (h.block xb hxb (fun q => q))
        refine ⟨?_, ?_⟩
        · rw [cc, ← (hK j hlt).1, ← hxc 0 (by omega)]; rfl
        · rw [cc, ← hN j hlt, ← hxc 1 (by omega)]; rfl)
      obtain ⟨k0, k1⟩ := HC.out _ HB.out.but
      have bk := (hK j hlt).2
      clear hxc
      by_cases hk : K j % 3 = 2
      · have WD := Lib.hid (was_drop ks (N j) cl)
        obtain ⟨er, her⟩ : ∃ er, dropT ks (N j) = er := ⟨_, rfl⟩
        have R5 := Lib.hid (rel_drop HR.out (N j))
        obtain ⟨ks2, hks2⟩ : ∃ ks2, dropTo ks (N j) = ks2 := ⟨_, rfl⟩
        rw [her, hks2] at WD
        rw [hks2] at R5
        have E1 := Lib.hid her
        have E2 := Lib.hid hks2
        clear her hks2
        by_cases he : er = 0
        · have t1 : (er == 0) = true := by simp [he]
          by_cases hc : N j = cl
          · have t2 : (N j == cl) = true := by simp [hc]
            have W2 := Lib.hid (show has ks2 cl = false by rw [WD.out, if_pos ⟨he, hc⟩])
            clear he hc WD
            go_wp2_with fail
            refine (o_drop HB.out E1.out E2.out).mono ?_
            rintro e w4 ⟨rfl, h4⟩
            have B4 := Lib.hid h4
            obtain ⟨k2, k3⟩ := HC.out _ h4.but
            clear h4
            go_wp2_with fail
            go_roundg (len - (j + 1))
            case measure => omega
            case rel => exact ⟨j + 1, ks2, _, by omega, by go_num, by rw [W2.out], B4.out, R5.out⟩
          · have t2 : (N j == cl) = false := by simp [hc]
            have W2 := Lib.hid (show has ks2 cl = has ks cl by rw [WD.out, if_neg (fun q => hc q.2)])
            clear he hc WD
            go_wp2_with fail
            refine (o_drop HB.out E1.out E2.out).mono ?_
            rintro e w4 ⟨rfl, h4⟩
            have B4 := Lib.hid h4
            obtain ⟨k2, k3⟩ := HC.out _ h4.but
            clear h4
            go_wp2_with fail
            go_roundg (len - (j + 1))
            case measure => omega
            case rel => exact ⟨j + 1, ks2, _, by omega, by go_num, by rw [W2.out], B4.out, R5.out⟩
        · have t1 : (er == 0) = false := by simp [he]
          have W2 := Lib.hid (show has ks2 cl = has ks cl by rw [WD.out, if_neg (fun q => he q.1)])
          clear he WD
          go_wp2_with fail
          refine (o_drop HB.out E1.out E2.out).mono ?_
          rintro e w4 ⟨rfl, h4⟩
          have B4 := Lib.hid h4
          obtain ⟨k2, k3⟩ := HC.out _ h4.but
          clear h4
          go_wp2_with fail
          go_roundg (len - (j + 1))
          case measure => omega
          case rel => exact ⟨j + 1, ks2, _, by omega, by go_num, by rw [W2.out], B4.out, R5.out⟩
      · have WD := Lib.hid (was_add ks (N j) cl)
        obtain ⟨⟨ep, er⟩, her⟩ : ∃ er, addT ks (N j) = er := ⟨_, rfl⟩
        have R5 := Lib.hid (rel_add HR.out (N j))
        obtain ⟨ks2, hks2⟩ : ∃ ks2, addTo ks (N j) = ks2 := ⟨_, rfl⟩
        rw [her, hks2] at WD
        rw [hks2] at R5
        have E1 := Lib.hid her
        have E2 := Lib.hid hks2
        clear her hks2
        by_cases he : er = 0
        · have t1 : (er == 0) = true := by simp [he]
          by_cases hc : N j = cl
          · have t2 : (N j == cl) = true := by simp [hc]
            have W2 := Lib.hid (show has ks2 cl = true by rw [WD.out, if_pos ⟨he, hc⟩])
            clear he hc WD
            go_wp2_with fail
            refine (o_add HB.out hk6 E1.out E2.out).mono ?_
            rintro e w4 ⟨rfl, h4⟩
            have B4 := Lib.hid h4
            obtain ⟨k2, k3⟩ := HC.out _ h4.but
            clear h4
            go_wp2_with fail
            go_roundg (len - (j + 1))
            case measure => omega
            case rel => exact ⟨j + 1, ks2, _, by omega, by go_num, by rw [W2.out]; exact congrArg Value.bool (by simp; omega), B4.out, R5.out⟩
          · have t2 : (N j == cl) = false := by simp [hc]
            have W2 := Lib.hid (show has ks2 cl = has ks cl by rw [WD.out, if_neg (fun q => hc q.2)])
            clear he hc WD
            go_wp2_with fail
            refine (o_add HB.out hk6 E1.out E2.out).mono ?_
            rintro e w4 ⟨rfl, h4⟩
            have B4 := Lib.hid h4
            obtain ⟨k2, k3⟩ := HC.out _ h4.but
            clear h4
            go_wp2_with fail
            go_roundg (len - (j + 1))
            case measure => omega
            case rel => exact ⟨j + 1, ks2, _, by omega, by go_num, by rw [W2.out], B4.out, R5.out⟩
        · have t1 : (er == 0) = false := by simp [he]
          have W2 := Lib.hid (show has ks2 cl = has ks cl by rw [WD.out, if_neg (fun q => he q.1)])
          clear he WD
          go_wp2_with fail
          refine (o_add HB.out hk6 E1.out E2.out).mono ?_
          rintro e w4 ⟨rfl, h4⟩
          have B4 := Lib.hid h4
          obtain ⟨k2, k3⟩ := HC.out _ h4.but
          clear h4
          go_wp2_with fail
          go_roundg (len - (j + 1))
          case measure => omega
          case rel => exact ⟨j + 1, ks2, _, by omega, by go_num, by rw [W2.out], B4.out, R5.out⟩
    · go_wp2_with fail
      refine (o_all HB.out HR.out).mono ?_
      rintro e w6 ⟨a6, cap6, o6, rfl, r6, n6, O6, g6⟩
      have R6 := Lib.hid r6
      have B6 := Lib.hid O6
      clear r6 n6 O6 g6
      go_wp2_with fail
      go_loopg [10] m.length (fun k i1 wr => ∃ (q : Nat), q + k = m.length ∧ i1 = .int .i64 ((q : Int) + 1) ∧ But (fun _ => False) w6 wr)
      case atStart => exact ⟨0, by omega, by go_num, But.refl _ _⟩
      case round =>
        obtain ⟨q, hq, rfl, hW⟩ := hrel
        by_cases hlt2 : q + 1 < m.length
        · obtain ⟨cb, coff, rfl, ho, hc1⟩ := (R6.out.but hW (fun _ _ z => z)).ints_at q (by omega)
          obtain ⟨cb', coff', e', ho', hc2⟩ := (R6.out.but hW (fun _ _ z => z)).ints_at (q + 1) (by omega)
          obtain ⟨rfl, rfl⟩ : cb = cb' ∧ coff = coff' := by simpa using e'
          have hri := rise_at HR.out.rise hlt2
          have h1 : (0 : Int) ≤ (q : Int) + 1 - 1 := by omega
          have h2 : (q : Int) + 1 - 1 < m.length := by omega
          have h3 : (q : Int) + 1 < m.length := by omega
          have h4 : (0 : Int) ≤ (q : Int) := by omega
          have h5 : (q : Int) < (m.length : Int) := by omega
          have h6 : (0 : Int) ≤ (q : Int) + 1 := by omega
          have t1 : decide (m.getD (q + 1) 0 ≤ m.getD q 0) = false := by simp; simpa using hri
          clear hri ho ho' e'
          generalize m.getD q 0 = y1 at *
          generalize m.getD (q + 1) 0 = y2 at *
          go_wp2_with fail
          go_quiet ((fail))
          go_wp2_with fail
          go_roundg (m.length - (q + 1))
          case measure => omega
          case rel => exact ⟨q + 1, by omega, by go_num, hW.drewN _⟩
        · go_wp2_with fail
          refine (alive_any _).mono ?_
          rintro e wb ⟨rfl, gb⟩
          have B7 := Lib.hid (B6.out.same (hW.trans gb))
          clear gb
          go_wp2_with fail
          refine (o_has B7.out rfl).mono ?_
          rintro e wc ⟨rfl, rfl⟩
          go_wp2_with fail
          refine (o_len B7.out HR.out.len.symm).mono ?_
          rintro e wc ⟨rfl, rfl⟩
          go_wp2_with fail
          go_ret
          exact ⟨rfl, B7.out.but⟩

theorem was_law (W : World) (a : Option Addr) (len cap : Nat) (V : Nat → Nat → Value) (hE : Els W a len 2 V)
    (hf : ∀ i, i < len → All2 [.i .u8, .i .i64] ((List.range 2).map (V i))) (hz : len * 16 ≤ 140737488351232) (hm : len ≤ cap ∧ cap ≤ maxLen) (cl : Int) (wc : (Lit.int .u8 cl).wf = true) :
    Calls Try.prog 6 #[.slice a len cap, .int .u8 cl] W fun e w' => e = .returned (.bool true) ∧ But (fun _ => False) W w' := by
  refine was_any a len cap V (fun i => intOf (V i 0)) (fun i => intOf (V i 1)) cl W (bounds_u8 wc) hE (by omega) (fun i hi => ?_) (fun i hi => ?_)
  all_goals obtain ⟨f1, f2, -⟩ := hf i hi
  · exact ⟨(CK.fits_i f1).1, bounds_u8 (CK.fits_i f1).2⟩
  · exact (CK.fits_i f2).1

end Roots
end Go.Proofs.Ytmpnlpheeoadkaa
