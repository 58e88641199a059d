/-
  No cell of these rows narrows 'for every input' (looked for: loops, veiled, ifaces, maps, wideKeys, modest, calm, conditions, laid).
  DERIVED. THE GIVEN ROWS OF THIS SEAT. 8 by the template 'for every input the law returns true; each argument reads behind the call as it read before'; 0 by the template 'total and deterministic' (their statements: YtldgjmgdbaeglaaTotals.lean).
  GIVEN WITH THE SEED: the statements are not yours to turn. If you find one false, say at which input.
  Laid BY PROGRAM, IN A SANDBOX (cutbox-rows.mjs): the forced cells as the released guide's own fill.sh prints them over the translation d6522fe21c511939… (all of the seat's roots in one cut). By AI agents, Wed Nov 11 2026. No macro, syntax, notation, axiom, sorry.
-/
import Derived.Test.YtldgjmgdbaeglaaChecked
import GoSem.Claim
import GoSem.ClaimJoined
import GoSem.ClaimMapViews
import Derived.JoinedTies
import Derived.KernelRfl
namespace Go.Proofs.Ytldgjmgdbaeglaa
/- THE CELL 'sum', in the pinned program and in every row, IS THE sha256 OF THE DUMP (.gsa) THAT YtldgjmgdbaeglaaProg.lean LOADS. Nothing in Lean hashes anything: it is a label: what it is worth is what the hold of that sum in a sandbox is worth. -/
noncomputable def Try.pinned : Pinned := { name := "ytldgjmgdbaeglaa", sum := "d6522fe21c511939a3e34a829da5e11b6d35c2537be304c40c7c9e88029be9f4", checked := Try.checked }
namespace Rows
def none {H : Type} : Left H := { results := [], args := [] }

/-- 'socagelaw06.FreePlays': WHATEVER THE INPUT: true; the input reads as it did. -/
def freePlaysSpec : ChangeSpec := { name := "freePlays", fn := fun _ => fun
  | [d1, d2] => { results := [.lit (.bool true)], args := [d1, d2] }
  | _ => none }
def freePlaysRow : OpenClaim := { program := "ytldgjmgdbaeglaa", sum := "d6522fe21c511939a3e34a829da5e11b6d35c2537be304c40c7c9e88029be9f4", func := "socage/socagelaw06.FreePlays", spec := "freePlays", apart := false }
def FreePlaysSaid : Prop := freePlaysRow.holds Try.pinned (OpenSpec.ofChange freePlaysSpec)

/-- ITS FALSE NEIGHBOUR: 'it returns false'. Refute it at one input. -/
def freePlaysWrong : ChangeSpec := { name := "freePlays", fn := fun _ => fun
  | [d1, d2] => { results := [.lit (.bool false)], args := [d1, d2] }
  | _ => none }
def FreePlaysWrongFalsely : Prop := freePlaysRow.holds Try.pinned (OpenSpec.ofChange freePlaysWrong)

/-- 'socagelaw06.FreeOnce': WHATEVER THE INPUT: true; the input reads as it did. -/
def freeOnceSpec : ChangeSpec := { name := "freeOnce", fn := fun _ => fun
  | [d1, d2] => { results := [.lit (.bool true)], args := [d1, d2] }
  | _ => none }
def freeOnceRow : OpenClaim := { program := "ytldgjmgdbaeglaa", sum := "d6522fe21c511939a3e34a829da5e11b6d35c2537be304c40c7c9e88029be9f4", func := "socage/socagelaw06.FreeOnce", spec := "freeOnce", apart := false }
def FreeOnceSaid : Prop := freeOnceRow.holds Try.pinned (OpenSpec.ofChange freeOnceSpec)

/-- ITS FALSE NEIGHBOUR: 'it returns false'. Refute it at one input. -/
def freeOnceWrong : ChangeSpec := { name := "freeOnce", fn := fun _ => fun
  | [d1, d2] => { results := [.lit (.bool false)], args := [d1, d2] }
  | _ => none }
def FreeOnceWrongFalsely : Prop := freeOnceRow.holds Try.pinned (OpenSpec.ofChange freeOnceWrong)

/-- 'socagelaw10.GraphTells': WHATEVER THE INPUT: true; the input reads as it did. -/
def graphTellsSpec : ChangeSpec := { name := "graphTells", fn := fun _ => fun
  | [d1, d2] => { results := [.lit (.bool true)], args := [d1, d2] }
  | _ => none }
def graphTellsRow : OpenClaim := { program := "ytldgjmgdbaeglaa", sum := "d6522fe21c511939a3e34a829da5e11b6d35c2537be304c40c7c9e88029be9f4", func := "socage/socagelaw10.GraphTells", spec := "graphTells", unfollowed := true, recurses := true, apart := false }
def GraphTellsSaid : Prop := graphTellsRow.holds Try.pinned (OpenSpec.ofChange graphTellsSpec)

/-- ITS FALSE NEIGHBOUR: 'it returns false'. Refute it at one input. -/
def graphTellsWrong : ChangeSpec := { name := "graphTells", fn := fun _ => fun
  | [d1, d2] => { results := [.lit (.bool false)], args := [d1, d2] }
  | _ => none }
def GraphTellsWrongFalsely : Prop := graphTellsRow.holds Try.pinned (OpenSpec.ofChange graphTellsWrong)

/-- 'socagelaw10.GraphClosed': WHATEVER THE INPUT: true; the input reads as it did. -/
def graphClosedSpec : ChangeSpec := { name := "graphClosed", fn := fun _ => fun
  | [d1, d2] => { results := [.lit (.bool true)], args := [d1, d2] }
  | _ => none }
def graphClosedRow : OpenClaim := { program := "ytldgjmgdbaeglaa", sum := "d6522fe21c511939a3e34a829da5e11b6d35c2537be304c40c7c9e88029be9f4", func := "socage/socagelaw10.GraphClosed", spec := "graphClosed", unfollowed := true, recurses := true, apart := false }
def GraphClosedSaid : Prop := graphClosedRow.holds Try.pinned (OpenSpec.ofChange graphClosedSpec)

/-- ITS FALSE NEIGHBOUR: 'it returns false'. Refute it at one input. -/
def graphClosedWrong : ChangeSpec := { name := "graphClosed", fn := fun _ => fun
  | [d1, d2] => { results := [.lit (.bool false)], args := [d1, d2] }
  | _ => none }
def GraphClosedWrongFalsely : Prop := graphClosedRow.holds Try.pinned (OpenSpec.ofChange graphClosedWrong)

/-- 'socagelaw05.HandleTells': WHATEVER THE INPUT: true; the input reads as it did. -/
def handleTellsSpec : ChangeSpec := { name := "handleTells", fn := fun _ => fun
  | [d1, d2, d3] => { results := [.lit (.bool true)], args := [d1, d2, d3] }
  | _ => none }
def handleTellsRow : OpenClaim := { program := "ytldgjmgdbaeglaa", sum := "d6522fe21c511939a3e34a829da5e11b6d35c2537be304c40c7c9e88029be9f4", func := "socage/socagelaw05.HandleTells", spec := "handleTells", inPlace := ["internal/bytealg.IndexByteString", "internal/bytealg.IndexString", "internal/abi.NoEscape"], named := ["internal/bytealg.MaxLen"], apart := false }
def HandleTellsSaid : Prop := handleTellsRow.holds Try.pinned (OpenSpec.ofChange handleTellsSpec)

/-- ITS FALSE NEIGHBOUR: 'it returns false'. Refute it at one input. -/
def handleTellsWrong : ChangeSpec := { name := "handleTells", fn := fun _ => fun
  | [d1, d2, d3] => { results := [.lit (.bool false)], args := [d1, d2, d3] }
  | _ => none }
def HandleTellsWrongFalsely : Prop := handleTellsRow.holds Try.pinned (OpenSpec.ofChange handleTellsWrong)

/-- 'socagelaw05.HandleBack': WHATEVER THE INPUT: true; the input reads as it did. -/
def handleBackSpec : ChangeSpec := { name := "handleBack", fn := fun _ => fun
  | [d1, d2] => { results := [.lit (.bool true)], args := [d1, d2] }
  | _ => none }
def handleBackRow : OpenClaim := { program := "ytldgjmgdbaeglaa", sum := "d6522fe21c511939a3e34a829da5e11b6d35c2537be304c40c7c9e88029be9f4", func := "socage/socagelaw05.HandleBack", spec := "handleBack", inPlace := ["internal/abi.NoEscape", "internal/bytealg.IndexByteString", "internal/bytealg.IndexString"], named := ["internal/bytealg.MaxLen"], apart := false }
def HandleBackSaid : Prop := handleBackRow.holds Try.pinned (OpenSpec.ofChange handleBackSpec)

/-- ITS FALSE NEIGHBOUR: 'it returns false'. Refute it at one input. -/
def handleBackWrong : ChangeSpec := { name := "handleBack", fn := fun _ => fun
  | [d1, d2] => { results := [.lit (.bool false)], args := [d1, d2] }
  | _ => none }
def HandleBackWrongFalsely : Prop := handleBackRow.holds Try.pinned (OpenSpec.ofChange handleBackWrong)

/-- 'socagelaw11.TrialTells': WHATEVER THE INPUT: true; the input reads as it did. -/
def trialTellsSpec : ChangeSpec := { name := "trialTells", fn := fun _ => fun
  | [d1, d2, d3] => { results := [.lit (.bool true)], args := [d1, d2, d3] }
  | _ => none }
def trialTellsRow : OpenClaim := { program := "ytldgjmgdbaeglaa", sum := "d6522fe21c511939a3e34a829da5e11b6d35c2537be304c40c7c9e88029be9f4", func := "socage/socagelaw11.TrialTells", spec := "trialTells", unfollowed := true, recurses := true, apart := false }
def TrialTellsSaid : Prop := trialTellsRow.holds Try.pinned (OpenSpec.ofChange trialTellsSpec)

/-- ITS FALSE NEIGHBOUR: 'it returns false'. Refute it at one input. -/
def trialTellsWrong : ChangeSpec := { name := "trialTells", fn := fun _ => fun
  | [d1, d2, d3] => { results := [.lit (.bool false)], args := [d1, d2, d3] }
  | _ => none }
def TrialTellsWrongFalsely : Prop := trialTellsRow.holds Try.pinned (OpenSpec.ofChange trialTellsWrong)

/-- 'socagelaw11.TrialNever': WHATEVER THE INPUT: true; the input reads as it did. -/
def trialNeverSpec : ChangeSpec := { name := "trialNever", fn := fun _ => fun
  | [d1, d2, d3] => { results := [.lit (.bool true)], args := [d1, d2, d3] }
  | _ => none }
def trialNeverRow : OpenClaim := { program := "ytldgjmgdbaeglaa", sum := "d6522fe21c511939a3e34a829da5e11b6d35c2537be304c40c7c9e88029be9f4", func := "socage/socagelaw11.TrialNever", spec := "trialNever", unfollowed := true, recurses := true, apart := false }
def TrialNeverSaid : Prop := trialNeverRow.holds Try.pinned (OpenSpec.ofChange trialNeverSpec)

/-- ITS FALSE NEIGHBOUR: 'it returns false'. Refute it at one input. -/
def trialNeverWrong : ChangeSpec := { name := "trialNever", fn := fun _ => fun
  | [d1, d2, d3] => { results := [.lit (.bool false)], args := [d1, d2, d3] }
  | _ => none }
def TrialNeverWrongFalsely : Prop := trialNeverRow.holds Try.pinned (OpenSpec.ofChange trialNeverWrong)

/- THE SECOND FORM. 'bulk': how many values and letters a reading holds, each counted each time it is reached (what is shared counts as often as it is met; a slice's spare places count too). A statement '..UptoSaid' is the law's where the arguments, and the package variables that the reading takes, are together of bulk at most 1048576: NARROWER than '..Said'. Prove '..Said' where nothing that the law and all that it calls make is longer than what came in: it says more and counts as full. Else prove '..UptoSaid'. A law counts once. -/
mutual
def uptoBulk {H : Type} : DataW H → Nat
  | .lit (.string bytes) => bytes.length + 1
  | .lit _ => 1
  | .nil => 1
  | .ptr d => uptoBulk d + 1
  | .slice elems spare => uptoBulkAll elems + uptoBulkAll spare + 1
  | .agg parts => uptoBulkAll parts + 1
  | .iface _ d => uptoBulk d + 1
  | .map entries => uptoBulkEntries entries + 1
  | .held _ => 1
def uptoBulkAll {H : Type} : List (DataW H) → Nat
  | [] => 0
  | d :: r => uptoBulk d + uptoBulkAll r
def uptoBulkEntries {H : Type} : List (Lit × DataW H) → Nat
  | [] => 0
  | x :: r => uptoBulkEntry x + uptoBulkEntries r
def uptoBulkEntry {H : Type} : Lit × DataW H → Nat
  | (.string bytes, d) => bytes.length + uptoBulk d + 1
  | (_, d) => uptoBulk d + 1
 end
def uptoSmall : (H : Type) → List (DataW H) → Bool := fun _ ds => decide (uptoBulkAll ds ≤ 1048576)
def OpenSpec.upto (s : _root_.Go.ChangeSpec) : _root_.Go.OpenSpec := { _root_.Go.OpenSpec.ofChange s with cond := some uptoSmall }

/-- 'socagelaw06.FreePlays', WHERE WHAT IT READS IS OF BULK AT MOST 1048576: true; the input reads as it did. -/
def freePlaysUptoRow : OpenClaim := { program := "ytldgjmgdbaeglaa", sum := "d6522fe21c511939a3e34a829da5e11b6d35c2537be304c40c7c9e88029be9f4", func := "socage/socagelaw06.FreePlays", spec := "freePlays", apart := false, narrowed := true }
def FreePlaysUptoSaid : Prop := freePlaysUptoRow.holds Try.pinned (OpenSpec.upto freePlaysSpec)

/-- 'socagelaw06.FreeOnce', WHERE WHAT IT READS IS OF BULK AT MOST 1048576: true; the input reads as it did. -/
def freeOnceUptoRow : OpenClaim := { program := "ytldgjmgdbaeglaa", sum := "d6522fe21c511939a3e34a829da5e11b6d35c2537be304c40c7c9e88029be9f4", func := "socage/socagelaw06.FreeOnce", spec := "freeOnce", apart := false, narrowed := true }
def FreeOnceUptoSaid : Prop := freeOnceUptoRow.holds Try.pinned (OpenSpec.upto freeOnceSpec)

/-- 'socagelaw10.GraphTells', WHERE WHAT IT READS IS OF BULK AT MOST 1048576: true; the input reads as it did. -/
def graphTellsUptoRow : OpenClaim := { program := "ytldgjmgdbaeglaa", sum := "d6522fe21c511939a3e34a829da5e11b6d35c2537be304c40c7c9e88029be9f4", func := "socage/socagelaw10.GraphTells", spec := "graphTells", unfollowed := true, recurses := true, apart := false, narrowed := true }
def GraphTellsUptoSaid : Prop := graphTellsUptoRow.holds Try.pinned (OpenSpec.upto graphTellsSpec)

/-- 'socagelaw10.GraphClosed', WHERE WHAT IT READS IS OF BULK AT MOST 1048576: true; the input reads as it did. -/
def graphClosedUptoRow : OpenClaim := { program := "ytldgjmgdbaeglaa", sum := "d6522fe21c511939a3e34a829da5e11b6d35c2537be304c40c7c9e88029be9f4", func := "socage/socagelaw10.GraphClosed", spec := "graphClosed", unfollowed := true, recurses := true, apart := false, narrowed := true }
def GraphClosedUptoSaid : Prop := graphClosedUptoRow.holds Try.pinned (OpenSpec.upto graphClosedSpec)

/-- 'socagelaw05.HandleTells', WHERE WHAT IT READS IS OF BULK AT MOST 1048576: true; the input reads as it did. -/
def handleTellsUptoRow : OpenClaim := { program := "ytldgjmgdbaeglaa", sum := "d6522fe21c511939a3e34a829da5e11b6d35c2537be304c40c7c9e88029be9f4", func := "socage/socagelaw05.HandleTells", spec := "handleTells", inPlace := ["internal/bytealg.IndexByteString", "internal/bytealg.IndexString", "internal/abi.NoEscape"], named := ["internal/bytealg.MaxLen"], apart := false, narrowed := true }
def HandleTellsUptoSaid : Prop := handleTellsUptoRow.holds Try.pinned (OpenSpec.upto handleTellsSpec)

/-- 'socagelaw05.HandleBack', WHERE WHAT IT READS IS OF BULK AT MOST 1048576: true; the input reads as it did. -/
def handleBackUptoRow : OpenClaim := { program := "ytldgjmgdbaeglaa", sum := "d6522fe21c511939a3e34a829da5e11b6d35c2537be304c40c7c9e88029be9f4", func := "socage/socagelaw05.HandleBack", spec := "handleBack", inPlace := ["internal/abi.NoEscape", "internal/bytealg.IndexByteString", "internal/bytealg.IndexString"], named := ["internal/bytealg.MaxLen"], apart := false, narrowed := true }
def HandleBackUptoSaid : Prop := handleBackUptoRow.holds Try.pinned (OpenSpec.upto handleBackSpec)

/-- 'socagelaw11.TrialTells', WHERE WHAT IT READS IS OF BULK AT MOST 1048576: true; the input reads as it did. -/
def trialTellsUptoRow : OpenClaim := { program := "ytldgjmgdbaeglaa", sum := "d6522fe21c511939a3e34a829da5e11b6d35c2537be304c40c7c9e88029be9f4", func := "socage/socagelaw11.TrialTells", spec := "trialTells", unfollowed := true, recurses := true, apart := false, narrowed := true }
def TrialTellsUptoSaid : Prop := trialTellsUptoRow.holds Try.pinned (OpenSpec.upto trialTellsSpec)

/-- 'socagelaw11.TrialNever', WHERE WHAT IT READS IS OF BULK AT MOST 1048576: true; the input reads as it did. -/
def trialNeverUptoRow : OpenClaim := { program := "ytldgjmgdbaeglaa", sum := "d6522fe21c511939a3e34a829da5e11b6d35c2537be304c40c7c9e88029be9f4", func := "socage/socagelaw11.TrialNever", spec := "trialNever", unfollowed := true, recurses := true, apart := false, narrowed := true }
def TrialNeverUptoSaid : Prop := trialNeverUptoRow.holds Try.pinned (OpenSpec.upto trialNeverSpec)

end Rows
end Go.Proofs.Ytldgjmgdbaeglaa
