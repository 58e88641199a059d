/- Parse of layer 20 (answer), walked: what a text can be, by the program. -/
import Derived.Test.YtmpnlpheeoadkaaDoorAnswerPlain
import Derived.Test.YtmpnlpheeoadkaaDoorShelfPu
import Derived.Test.YtmpnlpheeoadkaaDoorHandleParse2
import Derived.Lib.AtoiErrMem
set_option linter.unusedVariables false
set_option linter.unusedSimpArgs false
namespace Go.Proofs.YtmpnlpheeoadkaaDoor
open Go.RowKit

namespace Answer

/-- What the library's errors lie in. -/
def Errs (w : World) : Prop := (∃ ev, w.cell? ⟨2, 0, none⟩ = some ev ∧ (ev = .nilIface ∨ ∃ te pe, ev = .iface te pe)) ∧ ∃ ev, w.cell? ⟨3, 0, none⟩ = some ev ∧ (ev = .nilIface ∨ ∃ te pe, ev = .iface te pe)
theorem cell_keep {w w' : World} {b : Nat} {v : Value} (h : w.cell? ⟨b, 0, none⟩ = some v) (g : But (fun _ => False) w w') : w'.cell? ⟨b, 0, none⟩ = some v := by
  rw [World.cell?_of_block (w := w) (g.block b (Lib.lt_of_cell h) (fun q => q))]
  exact h
theorem Errs.keep {w w' : World} (h : Errs w) (g : But (fun _ => False) w w') : Errs w' := by
  obtain ⟨⟨e1, h1, h2⟩, e2, h3, h4⟩ := h
  exact ⟨⟨e1, cell_keep h1 g, h2⟩, e2, cell_keep h3 g, h4⟩

theorem but_bytes (w : World) (T : TypeId) (s : ByteArray) : But (fun _ => False) w (Lib.bytesWorld w T s) := But.of_below (Lib.bytesWorld_below w T s) _

/-- A number's text: the number, or an error that is not nil. -/
theorem parse_uint (s : ByteArray) (w : World) (hs : s.size ≤ 100) (he : Errs w) :
    Calls Tryd.prog 40 #[.string s, .int .i64 10, .int .i64 64] w fun r w' => But (fun _ => False) w w' ∧
      ((∃ u : Nat, Lib.parseUintB 64 s.data.toList = .ok u ∧ r = .returned (.tuple #[.int .u64 u, .nilIface])) ∨ ((∀ u, Lib.parseUintB 64 s.data.toList ≠ .ok u) ∧ ∃ (x : Int) (t : TypeId) (p : Value), r = .returned (.tuple #[.int .u64 x, .iface t p]))) := by
  obtain ⟨⟨e1, h1, h2⟩, e2, h3, h4⟩ := he
  rcases hp : Lib.parseUintB 64 s.data.toList with u | _ | _
  · refine (Spu.strconv_ParseUint_10_at64_ok s (by omega) u hp w).mono ?_
    rintro r w' ⟨rfl, hw⟩
    refine ⟨?_, .inl ⟨u, rfl, rfl⟩⟩
    rcases hw with rfl | rfl
    · exact But.refl _ _
    · exact but_bytes _ _ _
  · refine (Any.strconv_ParseUint_10_at64_syntax Spu.laysPu14 s (by omega) hp e1 w h1 h2).mono ?_
    rintro r w' ⟨N, rfl, -, -, hb⟩
    exact ⟨But.of_below hb _, .inr ⟨fun u q => (by cases q), _, _, _, rfl⟩⟩
  · refine (Spu.strconv_ParseUint_10_at64_range s (by omega) hp e2 w h3 h4).mono ?_
    rintro r w' ⟨N, rfl, -, -, hb⟩
    exact ⟨But.of_below hb _, .inr ⟨fun u q => (by cases q), _, _, _, rfl⟩⟩

/-! ### strings.CutPrefix with one byte ahead -/
def pre (s : ByteArray) : Bool := decide (1 ≤ s.size) && ((s.extract 0 1).toList == [35])

set_option maxHeartbeats 1000000 in
theorem has_prefix (s : ByteArray) (w : World) (hs : s.size ≤ 100) :
    Calls Tryd.prog 66 #[.string s, .string ⟨#[35]⟩] w fun r w' => r = .returned (.bool (pre s)) ∧ w = w' := by
  by_cases h0 : s.size = 0
  · have e : pre s = false := by unfold pre; simp [h0]
    rw [e]
    go_enter Tryd.func66, Tryd.ntmps66
    go_wp2_with fail
    go_ret
    exact ⟨rfl, rfl⟩
  · have h1 : 1 ≤ s.size := by omega
    have e : pre s = ((s.extract 0 1).toList == [35]) := by unfold pre; rw [decide_eq_true h1, Bool.true_and]
    rw [e]
    have h1 : 1 ≤ s.size := by omega
    go_enter Tryd.func66, Tryd.ntmps66
    go_wp2_with fail
    go_ret
    exact ⟨rfl, rfl⟩

set_option maxHeartbeats 1000000 in
theorem lite_cut (s : ByteArray) (w : World) (hs : s.size ≤ 100) :
    Calls Tryd.prog 54 #[.string s, .string ⟨#[35]⟩] w fun r w' => r = .returned (.tuple #[.string (if pre s = true then s.extract 1 s.size else s), .bool (pre s)]) ∧ w = w' := by
  cases hp : pre s with
  | false =>
    rw [if_neg (by simp)]
    go_enter Tryd.func54, Tryd.ntmps54
    go_wp2_with fail
    refine (has_prefix s _ hs).mono ?_
    rintro r w2 ⟨rfl, rfl⟩
    rw [hp]
    go_wp2_with fail
    go_ret2
    exact ⟨rfl, rfl⟩
  | true =>
    rw [if_pos rfl]
    have h1 : 1 ≤ s.size := by unfold pre at hp; simp at hp; exact hp.1
    have HP := Lib.hid hp
    clear hp
    go_enter Tryd.func54, Tryd.ntmps54
    go_wp2_with fail
    refine (has_prefix s _ hs).mono ?_
    rintro r w2 ⟨rfl, rfl⟩
    rw [HP.out]
    go_wp2_with fail
    go_ret2
    exact ⟨rfl, rfl⟩

set_option maxHeartbeats 1000000 in
theorem cut_prefix (s : ByteArray) (w : World) (hs : s.size ≤ 100) :
    Calls Tryd.prog 38 #[.string s, .string ⟨#[35]⟩] w fun r w' => r = .returned (.tuple #[.string (if pre s = true then s.extract 1 s.size else s), .bool (pre s)]) ∧ w = w' := by
  cases hp : pre s with
  | false =>
    rw [if_neg (by simp)]
    have hc := lite_cut s w hs
    rw [hp, if_neg (by simp)] at hc
    go_enter Tryd.func38, Tryd.ntmps38
    go_wp2_with fail
    refine hc.mono ?_
    rintro r w2 ⟨rfl, rfl⟩
    go_wp2_with fail
    go_ret2
    exact ⟨rfl, rfl⟩
  | true =>
    rw [if_pos rfl]
    have hc := lite_cut s w hs
    rw [hp, if_pos rfl] at hc
    go_enter Tryd.func38, Tryd.ntmps38
    go_wp2_with fail
    refine hc.mono ?_
    rintro r w2 ⟨rfl, rfl⟩
    go_wp2_with fail
    go_ret2
    exact ⟨rfl, rfl⟩

theorem take_one {s : ByteArray} : (s.extract 0 1).toList = s.data.toList.take 1 := by
  rw [Lib.toList_data]
  simp
theorem pre_yes {s : ByteArray} (h : pre s = true) : s.data.toList = 35 :: (s.extract 1 s.size).data.toList := by
  unfold pre at h
  rw [Bool.and_eq_true, beq_iff_eq, take_one] at h
  have e1 : (s.extract 1 s.size).data.toList = s.data.toList.drop 1 := by
    rw [ByteArray.data_extract, Array.toList_extract, List.extract_eq_take_drop]
    refine List.take_of_length_le ?_
    rw [List.length_drop, Array.length_toList]
    exact Nat.le_refl _
  rw [e1]
  have := List.take_append_drop 1 s.data.toList
  rw [h.2] at this
  exact this.symm
theorem pre_no {s : ByteArray} (h : pre s = false) : ∀ l, s.data.toList ≠ 35 :: l := by
  intro l e
  have h1 : 1 ≤ s.size := by
    show 1 ≤ s.data.size
    rw [← Array.length_toList, e]
    simp
  unfold pre at h
  rw [decide_eq_true h1, Bool.true_and, take_one, e] at h
  exact absurd h (by simp)

/-- The fixed names, one by one. -/
theorem not_err_snoc {s : List UInt8} {i : Nat} (h : ∀ e : Int, 1 ≤ e → e ≤ i → s ≠ 33 :: errL e) (h2 : s ≠ 33 :: errL ((i : Int) + 1)) : ∀ e : Int, 1 ≤ e → e ≤ ((i + 1 : Nat) : Int) → s ≠ 33 :: errL e := by
  intro e h1 h3
  by_cases q : e = (i : Int) + 1
  · subst q; exact h2
  · exact h e h1 (by omega)

theorem ix0 (W : World) : (Instr.index 52 (.agg namesV) (.int .i64 0)).run Tryd.prog W = .ok (.string ⟨#[97, 114, 103]⟩) W := by kernel_rfl
theorem ix1 (W : World) : (Instr.index 52 (.agg namesV) (.int .i64 1)).run Tryd.prog W = .ok (.string ⟨#[102, 111, 114, 109]⟩) W := by kernel_rfl
theorem ix2 (W : World) : (Instr.index 52 (.agg namesV) (.int .i64 2)).run Tryd.prog W = .ok (.string ⟨#[111, 112]⟩) W := by kernel_rfl
theorem ix3 (W : World) : (Instr.index 52 (.agg namesV) (.int .i64 3)).run Tryd.prog W = .ok (.string ⟨#[104, 97, 110, 100, 108, 101]⟩) W := by kernel_rfl
theorem ix4 (W : World) : (Instr.index 52 (.agg namesV) (.int .i64 4)).run Tryd.prog W = .ok (.string ⟨#[115, 116, 97, 108, 101]⟩) W := by kernel_rfl
theorem ix5 (W : World) : (Instr.index 52 (.agg namesV) (.int .i64 5)).run Tryd.prog W = .ok (.string ⟨#[114, 101, 118, 111, 107, 101, 100]⟩) W := by kernel_rfl
theorem ix6 (W : World) : (Instr.index 52 (.agg namesV) (.int .i64 6)).run Tryd.prog W = .ok (.string ⟨#[113, 117, 111, 116, 97]⟩) W := by kernel_rfl
theorem ix7 (W : World) : (Instr.index 52 (.agg namesV) (.int .i64 7)).run Tryd.prog W = .ok (.string ⟨#[102, 117, 108, 108]⟩) W := by kernel_rfl
theorem ix8 (W : World) : (Instr.index 52 (.agg namesV) (.int .i64 8)).run Tryd.prog W = .ok (.string ⟨#[110, 111, 110, 101]⟩) W := by kernel_rfl

set_option maxHeartbeats 8000000 in
set_option maxRecDepth 100000 in
theorem guess_any (s : ByteArray) (w : World) (hs : s.size ≤ 100) (he : Errs w) :
    Calls Tryd.prog 21 #[.string s] w fun r w' => (∃ e k n : Int, r = .returned (.agg #[.int .i64 e, .int .i64 k, .int .u64 n]) ∧ Guess s.data.toList e k n) ∧ But (fun _ => False) w w' := by
  have HE := Lib.hid he
  clear he
  go_enter Tryd.func21, Tryd.ntmps21
  go_wp2_with fail
  refine (names_any _).mono ?_
  rintro r w2 ⟨rfl, g2⟩
  unfold namesV
  have B2 := (Blk.new w #[.int .i64 0, .int .i64 0, .int .u64 0] 26).but g2 (fun q => q)
  have G2 := Lib.hid (((But.refl (fun _ => False) w).alloc (.cells #[.int .i64 0, .int .i64 0, .int .u64 0] 26)).trans g2)
  clear g2
  obtain ⟨b, hb⟩ : ∃ b, b = w.heap.size := ⟨_, rfl⟩
  have HBb := Lib.hid (show w.heap.size ≤ b by omega)
  rw [← hb] at B2 ⊢
  clear hb
  have k0 := B2.cell 0
  have f0 := B2.frozen 0
  have k1 := B2.cell 1
  have f1 := B2.frozen 1
  have k2 := B2.cell 2
  have f2 := B2.frozen 2
  go_wp2_with fail
  go_loopg [12] 9 (fun k i1 wr => ∃ i : Nat, i + k = 9 ∧ i1 = .int .i64 i ∧ (∀ e : Int, 1 ≤ e → e ≤ i → s.data.toList ≠ 33 :: errL e) ∧ wr = w2)
  case atStart => exact ⟨0, by omega, rfl, fun e h1 h2 => by omega, rfl⟩
  case round =>
    obtain ⟨i, hi, rfl, hno, rfl⟩ := hrel
    have HN := Lib.hid hno
    clear hno
    by_cases h9 : i = 9
    · subst h9
      have HNE := Lib.hid (show NoErr s.data.toList from fun e h1 h2 => HN.out e h1 (by omega))
      clear HN
      cases hp : pre s with
      | true =>
        have HG := Lib.hid (Guess.ptr (pre_yes hp))
        have hsz : (s.extract 1 s.size).size ≤ 100 := by
          show (s.extract 1 s.size).data.size ≤ 100
          rw [ByteArray.data_extract, Array.size_extract]
          have : s.data.size ≤ 100 := hs
          omega
        have hc := cut_prefix s wr hs
        rw [hp, if_pos rfl] at hc
        have hb := parse_bd (s.extract 1 s.size)
        clear hp
        go_wp2_with fail
        refine hc.mono ?_
        rintro r w3 ⟨rfl, rfl⟩
        go_wp2_with fail
        refine (Handle.parse_any (s.extract 1 s.size) _ (by omega)).mono ?_
        rintro r w3 ⟨rfl, g3⟩
        have B3 := B2.but g3 (fun q => q)
        have G3 := Lib.hid (G2.out.trans g3)
        clear k0 k1 k2 f0 f1 f2 g3
        have k0 := B3.cell 0
        have f0 := B3.frozen 0
        have k1 := B3.cell 1
        have f1 := B3.frozen 1
        have k2 := B3.cell 2
        have f2 := B3.frozen 2
        generalize (Handle.parse (s.extract 1 s.size)).1 = x at *
        generalize (Handle.parse (s.extract 1 s.size)).2 = y at *
        go_wp2_with fail
        refine bodyPost_ret (v := .agg #[.int .i64 0, .int .i64 2, .int .u64 x]) ?_ rfl ⟨⟨_, _, _, rfl, HG.out⟩, ?_⟩
        · simp [results, Tryd.results21, go_sem, k0, k1, k2]
        · exact (((G3.out.setCell (.inr HBb.out) _).setCell (.inr HBb.out) _).setCell (.inr HBb.out) _)
      | false =>
        have HR := Lib.hid (Guess.rest HNE.out (pre_no hp))
        have hc := cut_prefix s wr hs
        rw [hp, if_neg (by simp)] at hc
        clear hp
        go_wp2_with fail
        refine hc.mono ?_
        rintro r w3 ⟨rfl, rfl⟩
        go_wp2_with fail
        refine (parse_uint s _ hs (HE.out.keep G2.out)).mono ?_
        rintro r w3 ⟨g3, hr⟩
        have B3 := B2.but g3 (fun q => q)
        have G3 := Lib.hid (G2.out.trans g3)
        clear k0 k1 k2 f0 f1 f2 g3
        have k0 := B3.cell 0
        have f0 := B3.frozen 0
        have k1 := B3.cell 1
        have f1 := B3.frozen 1
        have k2 := B3.cell 2
        have f2 := B3.frozen 2
        rcases hr with ⟨u, hu, rfl⟩ | ⟨hu, x, tt, p, rfl⟩
        · have HG := Lib.hid (HR.out.1 u hu)
          clear hu
          go_wp2_with fail
          refine bodyPost_ret (v := .agg #[.int .i64 0, .int .i64 1, .int .u64 u]) ?_ rfl ⟨⟨_, _, _, rfl, HG.out⟩, ?_⟩
          · simp [results, Tryd.results21, go_sem, k0, k1, k2]
          · exact (((G3.out.setCell (.inr HBb.out) _).setCell (.inr HBb.out) _).setCell (.inr HBb.out) _)
        · have HG := Lib.hid (HR.out.2 hu)
          clear hu
          go_wp2_with fail
          refine bodyPost_ret (v := .agg #[.int .i64 0, .int .i64 0, .int .u64 0]) ?_ rfl ⟨⟨_, _, _, rfl, HG.out⟩, ?_⟩
          · simp [results, Tryd.results21, go_sem, k0, k1, k2]
          · exact (((G3.out.setCell (.inr HBb.out) _).setCell (.inr HBb.out) _).setCell (.inr HBb.out) _)
    · have hi9 : i < 9 := by omega
      clear h9
      obtain rfl | rfl | rfl | rfl | rfl | rfl | rfl | rfl | rfl : i = 0 ∨ i = 1 ∨ i = 2 ∨ i = 3 ∨ i = 4 ∨ i = 5 ∨ i = 6 ∨ i = 7 ∨ i = 8 := by omega
      · have hix := ix0
        unfold namesV at hix
        have hcat : ((⟨#[33]⟩ : ByteArray) ++ ⟨#[97, 114, 103]⟩).toList = 33 :: errL 1 := by rw [Lib.toList_data]; decide
        by_cases hq : s.data.toList = 33 :: errL 1
        · have t1 : (s.toList == ((⟨#[33]⟩ : ByteArray) ++ ⟨#[97, 114, 103]⟩).toList) = true := by rw [hcat, Lib.toList_data, hq]; simp
          have HG := Lib.hid (Guess.err (e := 1) (by decide) hq)
          clear hq hcat
          go_wp2_with fail
          refine bodyPost_ret (v := .agg #[.int .i64 1, .int .i64 0, .int .u64 0]) ?_ rfl ⟨⟨_, _, _, rfl, HG.out⟩, ?_⟩
          · simp [results, Tryd.results21, go_sem, k0, k1, k2]
          · exact (((G2.out.setCell (.inr HBb.out) _).setCell (.inr HBb.out) _).setCell (.inr HBb.out) _)
        · have t1 : (s.toList == ((⟨#[33]⟩ : ByteArray) ++ ⟨#[97, 114, 103]⟩).toList) = false := by rw [hcat, Lib.toList_data]; exact beq_false_of_ne hq
          have HN2 := Lib.hid (not_err_snoc HN.out hq)
          clear hq hcat
          go_wp2_with fail
          go_roundg 8
          case measure => omega
          case rel => exact ⟨1, by omega, by go_num, HN2.out, rfl⟩
      · have hix := ix1
        unfold namesV at hix
        have hcat : ((⟨#[33]⟩ : ByteArray) ++ ⟨#[102, 111, 114, 109]⟩).toList = 33 :: errL 2 := by rw [Lib.toList_data]; decide
        by_cases hq : s.data.toList = 33 :: errL 2
        · have t1 : (s.toList == ((⟨#[33]⟩ : ByteArray) ++ ⟨#[102, 111, 114, 109]⟩).toList) = true := by rw [hcat, Lib.toList_data, hq]; simp
          have HG := Lib.hid (Guess.err (e := 2) (by decide) hq)
          clear hq hcat
          go_wp2_with fail
          refine bodyPost_ret (v := .agg #[.int .i64 2, .int .i64 0, .int .u64 0]) ?_ rfl ⟨⟨_, _, _, rfl, HG.out⟩, ?_⟩
          · simp [results, Tryd.results21, go_sem, k0, k1, k2]
          · exact (((G2.out.setCell (.inr HBb.out) _).setCell (.inr HBb.out) _).setCell (.inr HBb.out) _)
        · have t1 : (s.toList == ((⟨#[33]⟩ : ByteArray) ++ ⟨#[102, 111, 114, 109]⟩).toList) = false := by rw [hcat, Lib.toList_data]; exact beq_false_of_ne hq
          have HN2 := Lib.hid (not_err_snoc HN.out hq)
          clear hq hcat
          go_wp2_with fail
          go_roundg 7
          case measure => omega
          case rel => exact ⟨2, by omega, by go_num, HN2.out, rfl⟩
      · have hix := ix2
        unfold namesV at hix
        have hcat : ((⟨#[33]⟩ : ByteArray) ++ ⟨#[111, 112]⟩).toList = 33 :: errL 3 := by rw [Lib.toList_data]; decide
        by_cases hq : s.data.toList = 33 :: errL 3
        · have t1 : (s.toList == ((⟨#[33]⟩ : ByteArray) ++ ⟨#[111, 112]⟩).toList) = true := by rw [hcat, Lib.toList_data, hq]; simp
          have HG := Lib.hid (Guess.err (e := 3) (by decide) hq)
          clear hq hcat
          go_wp2_with fail
          refine bodyPost_ret (v := .agg #[.int .i64 3, .int .i64 0, .int .u64 0]) ?_ rfl ⟨⟨_, _, _, rfl, HG.out⟩, ?_⟩
          · simp [results, Tryd.results21, go_sem, k0, k1, k2]
          · exact (((G2.out.setCell (.inr HBb.out) _).setCell (.inr HBb.out) _).setCell (.inr HBb.out) _)
        · have t1 : (s.toList == ((⟨#[33]⟩ : ByteArray) ++ ⟨#[111, 112]⟩).toList) = false := by rw [hcat, Lib.toList_data]; exact beq_false_of_ne hq
          have HN2 := Lib.hid (not_err_snoc HN.out hq)
          clear hq hcat
          go_wp2_with fail
          go_roundg 6
          case measure => omega
          case rel => exact ⟨3, by omega, by go_num, HN2.out, rfl⟩
      · have hix := ix3
        unfold namesV at hix
        have hcat : ((⟨#[33]⟩ : ByteArray) ++ ⟨#[104, 97, 110, 100, 108, 101]⟩).toList = 33 :: errL 4 := by rw [Lib.toList_data]; decide
        by_cases hq : s.data.toList = 33 :: errL 4
        · have t1 : (s.toList == ((⟨#[33]⟩ : ByteArray) ++ ⟨#[104, 97, 110, 100, 108, 101]⟩).toList) = true := by rw [hcat, Lib.toList_data, hq]; simp
          have HG := Lib.hid (Guess.err (e := 4) (by decide) hq)
          clear hq hcat
          go_wp2_with fail
          refine bodyPost_ret (v := .agg #[.int .i64 4, .int .i64 0, .int .u64 0]) ?_ rfl ⟨⟨_, _, _, rfl, HG.out⟩, ?_⟩
          · simp [results, Tryd.results21, go_sem, k0, k1, k2]
          · exact (((G2.out.setCell (.inr HBb.out) _).setCell (.inr HBb.out) _).setCell (.inr HBb.out) _)
        · have t1 : (s.toList == ((⟨#[33]⟩ : ByteArray) ++ ⟨#[104, 97, 110, 100, 108, 101]⟩).toList) = false := by rw [hcat, Lib.toList_data]; exact beq_false_of_ne hq
          have HN2 := Lib.hid (not_err_snoc HN.out hq)
          clear hq hcat
          go_wp2_with fail
          go_roundg 5
          case measure => omega
          case rel => exact ⟨4, by omega, by go_num, HN2.out, rfl⟩
      · have hix := ix4
        unfold namesV at hix
        have hcat : ((⟨#[33]⟩ : ByteArray) ++ ⟨#[115, 116, 97, 108, 101]⟩).toList = 33 :: errL 5 := by rw [Lib.toList_data]; decide
        by_cases hq : s.data.toList = 33 :: errL 5
        · have t1 : (s.toList == ((⟨#[33]⟩ : ByteArray) ++ ⟨#[115, 116, 97, 108, 101]⟩).toList) = true := by rw [hcat, Lib.toList_data, hq]; simp
          have HG := Lib.hid (Guess.err (e := 5) (by decide) hq)
          clear hq hcat
          go_wp2_with fail
          refine bodyPost_ret (v := .agg #[.int .i64 5, .int .i64 0, .int .u64 0]) ?_ rfl ⟨⟨_, _, _, rfl, HG.out⟩, ?_⟩
          · simp [results, Tryd.results21, go_sem, k0, k1, k2]
          · exact (((G2.out.setCell (.inr HBb.out) _).setCell (.inr HBb.out) _).setCell (.inr HBb.out) _)
        · have t1 : (s.toList == ((⟨#[33]⟩ : ByteArray) ++ ⟨#[115, 116, 97, 108, 101]⟩).toList) = false := by rw [hcat, Lib.toList_data]; exact beq_false_of_ne hq
          have HN2 := Lib.hid (not_err_snoc HN.out hq)
          clear hq hcat
          go_wp2_with fail
          go_roundg 4
          case measure => omega
          case rel => exact ⟨5, by omega, by go_num, HN2.out, rfl⟩
      · have hix := ix5
        unfold namesV at hix
        have hcat : ((⟨#[33]⟩ : ByteArray) ++ ⟨#[114, 101, 118, 111, 107, 101, 100]⟩).toList = 33 :: errL 6 := by rw [Lib.toList_data]; decide
        by_cases hq : s.data.toList = 33 :: errL 6
        · have t1 : (s.toList == ((⟨#[33]⟩ : ByteArray) ++ ⟨#[114, 101, 118, 111, 107, 101, 100]⟩).toList) = true := by rw [hcat, Lib.toList_data, hq]; simp
          have HG := Lib.hid (Guess.err (e := 6) (by decide) hq)
          clear hq hcat
          go_wp2_with fail
          refine bodyPost_ret (v := .agg #[.int .i64 6, .int .i64 0, .int .u64 0]) ?_ rfl ⟨⟨_, _, _, rfl, HG.out⟩, ?_⟩
          · simp [results, Tryd.results21, go_sem, k0, k1, k2]
          · exact (((G2.out.setCell (.inr HBb.out) _).setCell (.inr HBb.out) _).setCell (.inr HBb.out) _)
        · have t1 : (s.toList == ((⟨#[33]⟩ : ByteArray) ++ ⟨#[114, 101, 118, 111, 107, 101, 100]⟩).toList) = false := by rw [hcat, Lib.toList_data]; exact beq_false_of_ne hq
          have HN2 := Lib.hid (not_err_snoc HN.out hq)
          clear hq hcat
          go_wp2_with fail
          go_roundg 3
          case measure => omega
          case rel => exact ⟨6, by omega, by go_num, HN2.out, rfl⟩
      · have hix := ix6
        unfold namesV at hix
        have hcat : ((⟨#[33]⟩ : ByteArray) ++ ⟨#[113, 117, 111, 116, 97]⟩).toList = 33 :: errL 7 := by rw [Lib.toList_data]; decide
        by_cases hq : s.data.toList = 33 :: errL 7
        · have t1 : (s.toList == ((⟨#[33]⟩ : ByteArray) ++ ⟨#[113, 117, 111, 116, 97]⟩).toList) = true := by rw [hcat, Lib.toList_data, hq]; simp
          have HG := Lib.hid (Guess.err (e := 7) (by decide) hq)
          clear hq hcat
          go_wp2_with fail
          refine bodyPost_ret (v := .agg #[.int .i64 7, .int .i64 0, .int .u64 0]) ?_ rfl ⟨⟨_, _, _, rfl, HG.out⟩, ?_⟩
          · simp [results, Tryd.results21, go_sem, k0, k1, k2]
          · exact (((G2.out.setCell (.inr HBb.out) _).setCell (.inr HBb.out) _).setCell (.inr HBb.out) _)
        · have t1 : (s.toList == ((⟨#[33]⟩ : ByteArray) ++ ⟨#[113, 117, 111, 116, 97]⟩).toList) = false := by rw [hcat, Lib.toList_data]; exact beq_false_of_ne hq
          have HN2 := Lib.hid (not_err_snoc HN.out hq)
          clear hq hcat
          go_wp2_with fail
          go_roundg 2
          case measure => omega
          case rel => exact ⟨7, by omega, by go_num, HN2.out, rfl⟩
      · have hix := ix7
        unfold namesV at hix
        have hcat : ((⟨#[33]⟩ : ByteArray) ++ ⟨#[102, 117, 108, 108]⟩).toList = 33 :: errL 8 := by rw [Lib.toList_data]; decide
        by_cases hq : s.data.toList = 33 :: errL 8
        · have t1 : (s.toList == ((⟨#[33]⟩ : ByteArray) ++ ⟨#[102, 117, 108, 108]⟩).toList) = true := by rw [hcat, Lib.toList_data, hq]; simp
          have HG := Lib.hid (Guess.err (e := 8) (by decide) hq)
          clear hq hcat
          go_wp2_with fail
          refine bodyPost_ret (v := .agg #[.int .i64 8, .int .i64 0, .int .u64 0]) ?_ rfl ⟨⟨_, _, _, rfl, HG.out⟩, ?_⟩
          · simp [results, Tryd.results21, go_sem, k0, k1, k2]
          · exact (((G2.out.setCell (.inr HBb.out) _).setCell (.inr HBb.out) _).setCell (.inr HBb.out) _)
        · have t1 : (s.toList == ((⟨#[33]⟩ : ByteArray) ++ ⟨#[102, 117, 108, 108]⟩).toList) = false := by rw [hcat, Lib.toList_data]; exact beq_false_of_ne hq
          have HN2 := Lib.hid (not_err_snoc HN.out hq)
          clear hq hcat
          go_wp2_with fail
          go_roundg 1
          case measure => omega
          case rel => exact ⟨8, by omega, by go_num, HN2.out, rfl⟩
      · have hix := ix8
        unfold namesV at hix
        have hcat : ((⟨#[33]⟩ : ByteArray) ++ ⟨#[110, 111, 110, 101]⟩).toList = 33 :: errL 9 := by rw [Lib.toList_data]; decide
        by_cases hq : s.data.toList = 33 :: errL 9
        · have t1 : (s.toList == ((⟨#[33]⟩ : ByteArray) ++ ⟨#[110, 111, 110, 101]⟩).toList) = true := by rw [hcat, Lib.toList_data, hq]; simp
          have HG := Lib.hid (Guess.err (e := 9) (by decide) hq)
          clear hq hcat
          go_wp2_with fail
          refine bodyPost_ret (v := .agg #[.int .i64 9, .int .i64 0, .int .u64 0]) ?_ rfl ⟨⟨_, _, _, rfl, HG.out⟩, ?_⟩
          · simp [results, Tryd.results21, go_sem, k0, k1, k2]
          · exact (((G2.out.setCell (.inr HBb.out) _).setCell (.inr HBb.out) _).setCell (.inr HBb.out) _)
        · have t1 : (s.toList == ((⟨#[33]⟩ : ByteArray) ++ ⟨#[110, 111, 110, 101]⟩).toList) = false := by rw [hcat, Lib.toList_data]; exact beq_false_of_ne hq
          have HN2 := Lib.hid (not_err_snoc HN.out hq)
          clear hq hcat
          go_wp2_with fail
          go_roundg 0
          case measure => omega
          case rel => exact ⟨9, by omega, by go_num, HN2.out, rfl⟩

end Answer
end Go.Proofs.YtmpnlpheeoadkaaDoor
