/-
  DERIVED. GIVEN WITH THE SEED: THE CARDS: each row of YtldgjmgdbaeglaaDoorRows.lean that lists a variable, with what it lists TIED to the program's text (the seventh form; the later family's looks); each row that meets fmt, with fmt's text TOLD by the authors' own Lean function (tested against real Go, not proved from fmt's source: count such statements apart). THE CARD IS WHAT COUNTS. Prove the row's statement (the work); the ties are given (YtldgjmgdbaeglaaDoorTie.lean); close each card by the builder's one call (the guide's Derived/Test/ToyasCard.lean, 'card_holds'). Laid BY PROGRAM, IN A SANDBOX (cutbox-door.mjs). By AI agents, Wed Nov 11 2026. No macro, syntax, notation, axiom, sorry.
-/
import Derived.Test.YtldgjmgdbaeglaaDoorRows
import GoSem.ClaimSeven
namespace Go.Proofs.YtldgjmgdbaeglaaDoor
namespace Rows

/-- THE TIED CARD OF 'socagelaw04.WordTells'. -/
def wordTellsCard : Claim7 := { stood := { row := wordTellsRow, standIns := [], harness := (true, "b7c4efc6569e29ac9535c4311fdfdfb7a1116c8a1486f3c17e1f4d9e2973f8d9"), looks := true }, kinds := [], alts := [], laidByText := true, laidKinds := [.data, .data, .data], laidTests := true, laidLooks := .later }
def WordTellsCardSaid : Prop := Claim7.holds Tryd.pinned (.plain (OpenSpec.ofChange wordTellsSpec)) wordTellsCard

/-- THE TIED CARD OF 'socagelaw04.WordBack'. -/
def wordBackCard : Claim7 := { stood := { row := wordBackRow, standIns := [], harness := (true, "b7c4efc6569e29ac9535c4311fdfdfb7a1116c8a1486f3c17e1f4d9e2973f8d9"), looks := true }, kinds := [], alts := [], laidByText := true, laidKinds := [.data, .data, .data], laidTests := true, laidLooks := .later }
def WordBackCardSaid : Prop := Claim7.holds Tryd.pinned (.plain (OpenSpec.ofChange wordBackSpec)) wordBackCard

/-- THE TIED CARD OF 'socagelaw23.WatchPlays'. -/
def watchPlaysCard : Claim7 := { stood := { row := watchPlaysRow, standIns := [], harness := (true, "b7c4efc6569e29ac9535c4311fdfdfb7a1116c8a1486f3c17e1f4d9e2973f8d9"), looks := true }, kinds := [], alts := [], laidByText := true, laidKinds := [.data, .data, .data], laidTests := true, laidLooks := .later }
def WatchPlaysCardSaid : Prop := Claim7.holds Tryd.pinned (.plain (OpenSpec.ofChange watchPlaysSpec)) watchPlaysCard

/-- THE TIED CARD OF 'socagelaw23.WatchOwn'. -/
def watchOwnCard : Claim7 := { stood := { row := watchOwnRow, standIns := [], harness := (true, "b7c4efc6569e29ac9535c4311fdfdfb7a1116c8a1486f3c17e1f4d9e2973f8d9"), looks := true }, kinds := [], alts := [], laidByText := true, laidKinds := [.data, .data, .data], laidTests := true, laidLooks := .later }
def WatchOwnCardSaid : Prop := Claim7.holds Tryd.pinned (.plain (OpenSpec.ofChange watchOwnSpec)) watchOwnCard

/-- THE SECOND FORM's CARD OF 'socagelaw04.WordTells'. -/
def wordTellsUptoCard : Claim7 := { stood := { row := wordTellsUptoRow, standIns := [], harness := (true, "b7c4efc6569e29ac9535c4311fdfdfb7a1116c8a1486f3c17e1f4d9e2973f8d9"), looks := true }, kinds := [], alts := [], laidByText := true, laidKinds := [.data, .data, .data], laidTests := true, laidLooks := .later }
def WordTellsUptoCardSaid : Prop := Claim7.holds Tryd.pinned (.plain (OpenSpec.upto wordTellsSpec)) wordTellsUptoCard

/-- THE SECOND FORM's CARD OF 'socagelaw04.WordBack'. -/
def wordBackUptoCard : Claim7 := { stood := { row := wordBackUptoRow, standIns := [], harness := (true, "b7c4efc6569e29ac9535c4311fdfdfb7a1116c8a1486f3c17e1f4d9e2973f8d9"), looks := true }, kinds := [], alts := [], laidByText := true, laidKinds := [.data, .data, .data], laidTests := true, laidLooks := .later }
def WordBackUptoCardSaid : Prop := Claim7.holds Tryd.pinned (.plain (OpenSpec.upto wordBackSpec)) wordBackUptoCard

/-- THE SECOND FORM's CARD OF 'socagelaw23.WatchPlays'. -/
def watchPlaysUptoCard : Claim7 := { stood := { row := watchPlaysUptoRow, standIns := [], harness := (true, "b7c4efc6569e29ac9535c4311fdfdfb7a1116c8a1486f3c17e1f4d9e2973f8d9"), looks := true }, kinds := [], alts := [], laidByText := true, laidKinds := [.data, .data, .data], laidTests := true, laidLooks := .later }
def WatchPlaysUptoCardSaid : Prop := Claim7.holds Tryd.pinned (.plain (OpenSpec.upto watchPlaysSpec)) watchPlaysUptoCard

/-- THE SECOND FORM's CARD OF 'socagelaw23.WatchOwn'. -/
def watchOwnUptoCard : Claim7 := { stood := { row := watchOwnUptoRow, standIns := [], harness := (true, "b7c4efc6569e29ac9535c4311fdfdfb7a1116c8a1486f3c17e1f4d9e2973f8d9"), looks := true }, kinds := [], alts := [], laidByText := true, laidKinds := [.data, .data, .data], laidTests := true, laidLooks := .later }
def WatchOwnUptoCardSaid : Prop := Claim7.holds Tryd.pinned (.plain (OpenSpec.upto watchOwnSpec)) watchOwnUptoCard
end Rows
end Go.Proofs.YtldgjmgdbaeglaaDoor
