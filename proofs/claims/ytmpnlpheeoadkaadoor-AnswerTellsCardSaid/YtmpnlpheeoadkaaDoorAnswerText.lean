/- Layer 20, walked: the text of an answer; the program's and the document's. -/
import Derived.Test.YtmpnlpheeoadkaaDoorAnswerWalks
set_option linter.unusedVariables false
set_option linter.unusedSimpArgs false
namespace Go.Proofs.YtmpnlpheeoadkaaDoor
open Go.RowKit

namespace Answer

def errL (e : Int) : List UInt8 :=
  if e = 1 then [97, 114, 103] else if e = 2 then [102, 111, 114, 109] else if e = 3 then [111, 112] else if e = 4 then [104, 97, 110, 100, 108, 101] else if e = 5 then [115, 116, 97, 108, 101] else if e = 6 then [114, 101, 118, 111, 107, 101, 100] else if e = 7 then [113, 117, 111, 116, 97] else if e = 8 then [102, 117, 108, 108] else if e = 9 then [110, 111, 110, 101] else []
def textL (e k n : Int) : List UInt8 :=
  if right e k n = true then (if e = 0 then (if k = 1 then Word.numL n else if k = 2 then 35 :: (Handle.text n).data.toList else [110, 105, 108]) else 33 :: errL e) else []
theorem textL_no {e k n : Int} (h : right e k n = false) : textL e k n = [] := by unfold textL; rw [h]; rfl
theorem right_cases {e k n : Int} (h : right e k n = true) : (e = 0 ∧ k = 0 ∧ n = 0) ∨ (e = 0 ∧ k = 1) ∨ (e = 0 ∧ k = 2) ∨ (1 ≤ e ∧ e ≤ 9 ∧ k = 0 ∧ n = 0) := by
  by_cases he : e = 0
  · subst he
    rw [right_ok, decide_eq_true_iff] at h
    omega
  · rw [right_err he, decide_eq_true_iff] at h
    omega
theorem str_app (a b : List UInt8) : (⟨a.toArray⟩ : ByteArray) ++ ⟨b.toArray⟩ = ⟨(a ++ b).toArray⟩ := ByteArray.ext (by simp [ByteArray.data_append])
theorem text_size (x : Int) : (Handle.text x).size = 16 := by
  show (Handle.figsTo x 16).toArray.size = 16
  rw [List.size_toArray, Handle.figsTo_length]
def namesV : Array Value := #[.string ⟨#[97, 114, 103]⟩, .string ⟨#[102, 111, 114, 109]⟩, .string ⟨#[111, 112]⟩, .string ⟨#[104, 97, 110, 100, 108, 101]⟩, .string ⟨#[115, 116, 97, 108, 101]⟩, .string ⟨#[114, 101, 118, 111, 107, 101, 100]⟩, .string ⟨#[113, 117, 111, 116, 97]⟩, .string ⟨#[102, 117, 108, 108]⟩, .string ⟨#[110, 111, 110, 101]⟩]

set_option maxHeartbeats 4000000 in
set_option maxRecDepth 100000 in
theorem names_any (w : World) : Calls Tryd.prog 25 #[] w fun r w' => r = .returned (.agg namesV) ∧ But (fun _ => False) w w' := by
  go_enter Tryd.func25, Tryd.ntmps25
  go_wp2_with fail
  refine bodyPost_ret (v := .agg namesV) (by simp [results, Tryd.results25, go_sem, namesV]) rfl ⟨rfl, ?_⟩
  exact (But.refl _ _).alloc _

set_option maxHeartbeats 8000000 in
set_option maxRecDepth 100000 in
theorem text_any (e k n : Int) (w : World) (hn : 0 ≤ n ∧ n ≤ 18446744073709551615) (ht : Tens w) :
    Calls Tryd.prog 12 #[.agg #[.int .i64 e, .int .i64 k, .int .u64 n]] w fun r w' => r = .returned (.string ⟨(textL e k n).toArray⟩) ∧ But (fun _ => False) w w' := by
  have T := Lib.hid ht
  have G0 := (But.refl (fun _ => False) w).alloc (.cells #[.int .i64 e, .int .i64 k, .int .u64 n] 26)
  have B0 := Blk.new w #[.int .i64 e, .int .i64 k, .int .u64 n] 26
  clear ht
  go_enter Tryd.func12, Tryd.ntmps12
  go_wp2_with fail
  refine (names_any _).mono ?_
  rintro r w2 ⟨rfl, g2⟩
  unfold namesV
  have B2 := (B0.but g2 (fun q => q)).alloc (.cells namesV 52)
  have N2 := Blk.new w2 namesV 52
  have G2 := (G0.trans g2).alloc (.cells namesV 52)
  obtain ⟨b, hb⟩ : ∃ b, b = w.heap.size := ⟨_, rfl⟩
  rw [← hb] at B2 ⊢
  clear hb g2 G0 B0
  have k0 := B2.cell 0
  have k1 := B2.cell 1
  have k2 := B2.cell 2
  have kl := B2.lt
  unfold namesV at k0 k1 k2 kl
  go_wp2_with fail
  refine (right_any e k n _ hn).mono ?_
  rintro r w3 ⟨rfl, g3⟩
  have B3 := B2.but g3 (fun q => q)
  have N3 := N2.but g3 (fun q => q)
  have G3 := Lib.hid (G2.trans g3)
  obtain ⟨c, hc⟩ : ∃ c, c = w2.heap.size := ⟨_, rfl⟩
  rw [← hc] at N3 ⊢
  clear hc g3 G2 B2 N2 k0 k1 k2 kl
  cases hr : right e k n with
  | false =>
    have E := Lib.hid (textL_no hr)
    clear hr B3 N3
    go_wp2_with fail
    go_ret
    exact ⟨by rw [E.out]; rfl, G3.out⟩
  | true =>
    have E := Lib.hid (show textL e k n = if e = 0 then (if k = 1 then Word.numL n else if k = 2 then 35 :: (Handle.text n).data.toList else [110, 105, 108]) else 33 :: errL e by unfold textL; rw [if_pos hr])
    have k0 : w3.cell? ⟨b, 0, none⟩ = some (.int .i64 e) := B3.cell 0
    have k1 : w3.cell? ⟨b, 1, none⟩ = some (.int .i64 k) := B3.cell 1
    have k2 : w3.cell? ⟨b, 2, none⟩ = some (.int .u64 n) := B3.cell 2
    have kl := B3.lt
    have T3 := Lib.hid (T.out.keep G3.out)
    have HN3 := Lib.hid N3
    clear B3 N3
    rcases right_cases hr with ⟨rfl, rfl, rfl⟩ | ⟨rfl, rfl⟩ | ⟨rfl, rfl⟩ | ⟨h1, h9, rfl, rfl⟩
    · clear hr HN3
      go_wp2_with fail
      go_ret
      exact ⟨by rw [E.out]; rfl, G3.out⟩
    · clear hr HN3
      obtain ⟨m, rfl⟩ : ∃ m : Nat, n = m := ⟨n.toNat, by omega⟩
      go_wp2_with fail
      refine (format_uint m (by omega) _ T3.out).mono ?_
      rintro r w4 ⟨rfl, g4⟩
      go_wp2_with fail
      go_ret
      exact ⟨by rw [E.out]; rfl, G3.out.trans g4⟩
    · clear hr HN3
      go_wp2_with fail
      refine (Handle.text_any n _ hn).mono ?_
      rintro r w4 ⟨rfl, g4⟩
      have hsz : (Handle.text n).size = 16 := text_size n
      obtain ⟨s, hs⟩ : ∃ s, Handle.text n = s := ⟨_, rfl⟩
      rw [hs] at hsz ⊢
      have HS := Lib.hid hs
      have hsl : s.size ≤ 16 := by omega
      clear hs hsz
      go_wp2_with fail
      go_ret
      refine ⟨?_, G3.out.trans g4⟩
      rw [E.out]
      show Ending.returned (.string _) = Ending.returned (.string ⟨(35 :: (Handle.text n).data.toList).toArray⟩)
      rw [HS.out]
      exact ret_eq (congrArg Value.string (ByteArray.ext (by simp [ByteArray.data_append])))
    · clear hr
      have hcases : e = 1 ∨ e = 2 ∨ e = 3 ∨ e = 4 ∨ e = 5 ∨ e = 6 ∨ e = 7 ∨ e = 8 ∨ e = 9 := by omega
      have nl := HN3.out.lt
      have n0 : w3.cell? ⟨c, 0, none⟩ = some (.string ⟨#[97, 114, 103]⟩) := HN3.out.cell 0
      have n1 : w3.cell? ⟨c, 1, none⟩ = some (.string ⟨#[102, 111, 114, 109]⟩) := HN3.out.cell 1
      have n2 : w3.cell? ⟨c, 2, none⟩ = some (.string ⟨#[111, 112]⟩) := HN3.out.cell 2
      have n3 : w3.cell? ⟨c, 3, none⟩ = some (.string ⟨#[104, 97, 110, 100, 108, 101]⟩) := HN3.out.cell 3
      have n4 : w3.cell? ⟨c, 4, none⟩ = some (.string ⟨#[115, 116, 97, 108, 101]⟩) := HN3.out.cell 4
      have n5 : w3.cell? ⟨c, 5, none⟩ = some (.string ⟨#[114, 101, 118, 111, 107, 101, 100]⟩) := HN3.out.cell 5
      have n6 : w3.cell? ⟨c, 6, none⟩ = some (.string ⟨#[113, 117, 111, 116, 97]⟩) := HN3.out.cell 6
      have n7 : w3.cell? ⟨c, 7, none⟩ = some (.string ⟨#[102, 117, 108, 108]⟩) := HN3.out.cell 7
      have n8 : w3.cell? ⟨c, 8, none⟩ = some (.string ⟨#[110, 111, 110, 101]⟩) := HN3.out.cell 8
      clear h1 h9
      rcases hcases with rfl | rfl | rfl | rfl | rfl | rfl | rfl | rfl | rfl
      all_goals
        go_wp2_with fail
        go_ret
        exact ⟨by rw [E.out]; rfl, G3.out⟩

end Answer
end Go.Proofs.YtmpnlpheeoadkaaDoor
