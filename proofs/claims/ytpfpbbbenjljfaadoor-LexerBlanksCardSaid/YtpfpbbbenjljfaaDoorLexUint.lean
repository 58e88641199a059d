/- strconv.ParseUint at a line's figures (layer 18). -/
import Derived.Test.YtpfpbbbenjljfaaDoorShelfPu
import Derived.Test.YtpfpbbbenjljfaaDoorLexNum
import Derived.Lib.AtoiErrMem
set_option linter.unusedVariables false
set_option linter.unusedSimpArgs false
namespace Go.Proofs.YtpfpbbbenjljfaaDoor
open Go.RowKit

namespace Lex

/-- What the library's errors lie in. -/
def Errs (w : World) : Prop := (∃ ev, w.cell? ⟨3, 0, none⟩ = some ev ∧ (ev = .nilIface ∨ ∃ te pe, ev = .iface te pe)) ∧ ∃ ev, w.cell? ⟨4, 0, none⟩ = some ev ∧ (ev = .nilIface ∨ ∃ te pe, ev = .iface te pe)
theorem cell_keep {w w' : World} {b : Nat} {v : Value} (h : w.cell? ⟨b, 0, none⟩ = some v) (g : But (fun _ => False) w w') : w'.cell? ⟨b, 0, none⟩ = some v := by
  rw [World.cell?_of_block (w := w) (g.block b (Lib.lt_of_cell h) (fun q => q))]
  exact h
theorem Errs.keep {w w' : World} (h : Errs w) (g : But (fun _ => False) w w') : Errs w' := by
  obtain ⟨⟨e1, h1, h2⟩, e2, h3, h4⟩ := h
  exact ⟨⟨e1, cell_keep h1 g, h2⟩, e2, cell_keep h3 g, h4⟩

theorem but_bytes (w : World) (T : TypeId) (s : ByteArray) : But (fun _ => False) w (Lib.bytesWorld w T s) := But.of_below (Lib.bytesWorld_below w T s) _

/-- A number's text: the number, or an error that is not nil. -/
theorem parse_uint (s : ByteArray) (w : World) (hs : s.size ≤ 2000) (he : Errs w) :
    Calls Tryd.prog 29 #[.string s, .int .i64 10, .int .i64 64] w fun r w' => But (fun _ => False) w w' ∧
      ((∃ u : Nat, Lib.parseUintB 64 s.data.toList = .ok u ∧ r = .returned (.tuple #[.int .u64 u, .nilIface])) ∨ ((∀ u, Lib.parseUintB 64 s.data.toList ≠ .ok u) ∧ ∃ (x : Int) (t : TypeId) (p : Value), r = .returned (.tuple #[.int .u64 x, .iface t p]))) := by
  obtain ⟨⟨e1, h1, h2⟩, e2, h3, h4⟩ := he
  rcases hp : Lib.parseUintB 64 s.data.toList with u | _ | _
  · refine (Spu.strconv_ParseUint_10_at64_ok s (by omega) u hp w).mono ?_
    rintro r w' ⟨rfl, hw⟩
    refine ⟨?_, .inl ⟨u, rfl, rfl⟩⟩
    rcases hw with rfl | rfl
    · exact But.refl _ _
    · exact but_bytes _ _ _
  · refine (Any.strconv_ParseUint_10_at64_syntax Spu.laysPu14 s (by omega) hp e1 w h1 h2).mono ?_
    rintro r w' ⟨N, rfl, -, -, hb⟩
    exact ⟨But.of_below hb _, .inr ⟨fun u q => (by cases q), _, _, _, rfl⟩⟩
  · refine (Spu.strconv_ParseUint_10_at64_range s (by omega) hp e2 w h3 h4).mono ?_
    rintro r w' ⟨N, rfl, -, -, hb⟩
    exact ⟨But.of_below hb _, .inr ⟨fun u q => (by cases q), _, _, _, rfl⟩⟩


end Lex
end Go.Proofs.YtpfpbbbenjljfaaDoor
