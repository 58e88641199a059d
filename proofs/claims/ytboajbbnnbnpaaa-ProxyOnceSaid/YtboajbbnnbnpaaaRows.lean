/-
  No cell of these rows narrows 'for every input' (looked for: loops, veiled, ifaces, maps, wideKeys, modest, calm, conditions, laid).
  DERIVED. THE GIVEN ROWS OF THIS SEAT. 12 by the template 'for every input the law returns true; each argument reads behind the call as it read before'; 0 by the template 'total and deterministic' (their statements: YtboajbbnnbnpaaaTotals.lean).
  GIVEN WITH THE SEED: the statements are not yours to turn. If you find one false, say at which input.
  Laid BY PROGRAM, IN A SANDBOX (cutbox-rows.mjs): the forced cells as the released guide's own fill.sh prints them over the translation e21c8faf6ec4827a… (all of the seat's roots in one cut). By AI agents, Wed Nov 11 2026. No macro, syntax, notation, axiom, sorry.
-/
import Derived.Test.YtboajbbnnbnpaaaChecked
import GoSem.Claim
import GoSem.ClaimJoined
import GoSem.ClaimMapViews
import Derived.JoinedTies
import Derived.KernelRfl
namespace Go.Proofs.Ytboajbbnnbnpaaa
/- THE CELL 'sum', in the pinned program and in every row, IS THE sha256 OF THE DUMP (.gsa) THAT YtboajbbnnbnpaaaProg.lean LOADS. Nothing in Lean hashes anything: it is a label: what it is worth is what the hold of that sum in a sandbox is worth. -/
noncomputable def Try.pinned : Pinned := { name := "ytboajbbnnbnpaaa", sum := "e21c8faf6ec4827a5f214165f059cb068826cfc29fc8d19ecc9b70fda8470744", checked := Try.checked }
namespace Rows
def none {H : Type} : Left H := { results := [], args := [] }

/-- 'socagelaw03.HeadTells': WHATEVER THE INPUT: true; the input reads as it did. -/
def headTellsSpec : ChangeSpec := { name := "headTells", fn := fun _ => fun
  | [d1, d2] => { results := [.lit (.bool true)], args := [d1, d2] }
  | _ => none }
def headTellsRow : OpenClaim := { program := "ytboajbbnnbnpaaa", sum := "e21c8faf6ec4827a5f214165f059cb068826cfc29fc8d19ecc9b70fda8470744", func := "socage/socagelaw03.HeadTells", spec := "headTells", unfollowed := true, recurses := true, apart := false }
def HeadTellsSaid : Prop := headTellsRow.holds Try.pinned (OpenSpec.ofChange headTellsSpec)

/-- ITS FALSE NEIGHBOUR: 'it returns false'. Refute it at one input. -/
def headTellsWrong : ChangeSpec := { name := "headTells", fn := fun _ => fun
  | [d1, d2] => { results := [.lit (.bool false)], args := [d1, d2] }
  | _ => none }
def HeadTellsWrongFalsely : Prop := headTellsRow.holds Try.pinned (OpenSpec.ofChange headTellsWrong)

/-- 'socagelaw03.HeadBack': WHATEVER THE INPUT: true; the input reads as it did. -/
def headBackSpec : ChangeSpec := { name := "headBack", fn := fun _ => fun
  | [d1, d2] => { results := [.lit (.bool true)], args := [d1, d2] }
  | _ => none }
def headBackRow : OpenClaim := { program := "ytboajbbnnbnpaaa", sum := "e21c8faf6ec4827a5f214165f059cb068826cfc29fc8d19ecc9b70fda8470744", func := "socage/socagelaw03.HeadBack", spec := "headBack", unfollowed := true, recurses := true, apart := false }
def HeadBackSaid : Prop := headBackRow.holds Try.pinned (OpenSpec.ofChange headBackSpec)

/-- ITS FALSE NEIGHBOUR: 'it returns false'. Refute it at one input. -/
def headBackWrong : ChangeSpec := { name := "headBack", fn := fun _ => fun
  | [d1, d2] => { results := [.lit (.bool false)], args := [d1, d2] }
  | _ => none }
def HeadBackWrongFalsely : Prop := headBackRow.holds Try.pinned (OpenSpec.ofChange headBackWrong)

/-- 'socagelaw12.QuotaPlays': WHATEVER THE INPUT: true; the input reads as it did. -/
def quotaPlaysSpec : ChangeSpec := { name := "quotaPlays", fn := fun _ => fun
  | [d1, d2] => { results := [.lit (.bool true)], args := [d1, d2] }
  | _ => none }
def quotaPlaysRow : OpenClaim := { program := "ytboajbbnnbnpaaa", sum := "e21c8faf6ec4827a5f214165f059cb068826cfc29fc8d19ecc9b70fda8470744", func := "socage/socagelaw12.QuotaPlays", spec := "quotaPlays", apart := false }
def QuotaPlaysSaid : Prop := quotaPlaysRow.holds Try.pinned (OpenSpec.ofChange quotaPlaysSpec)

/-- ITS FALSE NEIGHBOUR: 'it returns false'. Refute it at one input. -/
def quotaPlaysWrong : ChangeSpec := { name := "quotaPlays", fn := fun _ => fun
  | [d1, d2] => { results := [.lit (.bool false)], args := [d1, d2] }
  | _ => none }
def QuotaPlaysWrongFalsely : Prop := quotaPlaysRow.holds Try.pinned (OpenSpec.ofChange quotaPlaysWrong)

/-- 'socagelaw12.QuotaWithin': WHATEVER THE INPUT: true; the input reads as it did. -/
def quotaWithinSpec : ChangeSpec := { name := "quotaWithin", fn := fun _ => fun
  | [d1, d2] => { results := [.lit (.bool true)], args := [d1, d2] }
  | _ => none }
def quotaWithinRow : OpenClaim := { program := "ytboajbbnnbnpaaa", sum := "e21c8faf6ec4827a5f214165f059cb068826cfc29fc8d19ecc9b70fda8470744", func := "socage/socagelaw12.QuotaWithin", spec := "quotaWithin", apart := false }
def QuotaWithinSaid : Prop := quotaWithinRow.holds Try.pinned (OpenSpec.ofChange quotaWithinSpec)

/-- ITS FALSE NEIGHBOUR: 'it returns false'. Refute it at one input. -/
def quotaWithinWrong : ChangeSpec := { name := "quotaWithin", fn := fun _ => fun
  | [d1, d2] => { results := [.lit (.bool false)], args := [d1, d2] }
  | _ => none }
def QuotaWithinWrongFalsely : Prop := quotaWithinRow.holds Try.pinned (OpenSpec.ofChange quotaWithinWrong)

/-- 'socagelaw09.QueuePlays': WHATEVER THE INPUT: true; the input reads as it did. -/
def queuePlaysSpec : ChangeSpec := { name := "queuePlays", fn := fun _ => fun
  | [d] => { results := [.lit (.bool true)], args := [d] }
  | _ => none }
def queuePlaysRow : OpenClaim := { program := "ytboajbbnnbnpaaa", sum := "e21c8faf6ec4827a5f214165f059cb068826cfc29fc8d19ecc9b70fda8470744", func := "socage/socagelaw09.QueuePlays", spec := "queuePlays", apart := false }
def QueuePlaysSaid : Prop := queuePlaysRow.holds Try.pinned (OpenSpec.ofChange queuePlaysSpec)

/-- ITS FALSE NEIGHBOUR: 'it returns false'. Refute it at one input. -/
def queuePlaysWrong : ChangeSpec := { name := "queuePlays", fn := fun _ => fun
  | [d] => { results := [.lit (.bool false)], args := [d] }
  | _ => none }
def QueuePlaysWrongFalsely : Prop := queuePlaysRow.holds Try.pinned (OpenSpec.ofChange queuePlaysWrong)

/-- 'socagelaw09.QueueLost': WHATEVER THE INPUT: true; the input reads as it did. -/
def queueLostSpec : ChangeSpec := { name := "queueLost", fn := fun _ => fun
  | [d1, d2] => { results := [.lit (.bool true)], args := [d1, d2] }
  | _ => none }
def queueLostRow : OpenClaim := { program := "ytboajbbnnbnpaaa", sum := "e21c8faf6ec4827a5f214165f059cb068826cfc29fc8d19ecc9b70fda8470744", func := "socage/socagelaw09.QueueLost", spec := "queueLost", apart := false }
def QueueLostSaid : Prop := queueLostRow.holds Try.pinned (OpenSpec.ofChange queueLostSpec)

/-- ITS FALSE NEIGHBOUR: 'it returns false'. Refute it at one input. -/
def queueLostWrong : ChangeSpec := { name := "queueLost", fn := fun _ => fun
  | [d1, d2] => { results := [.lit (.bool false)], args := [d1, d2] }
  | _ => none }
def QueueLostWrongFalsely : Prop := queueLostRow.holds Try.pinned (OpenSpec.ofChange queueLostWrong)

/-- 'socagelaw02.ArenaPlays': WHATEVER THE INPUT: true; the input reads as it did. -/
def arenaPlaysSpec : ChangeSpec := { name := "arenaPlays", fn := fun _ => fun
  | [d1, d2] => { results := [.lit (.bool true)], args := [d1, d2] }
  | _ => none }
def arenaPlaysRow : OpenClaim := { program := "ytboajbbnnbnpaaa", sum := "e21c8faf6ec4827a5f214165f059cb068826cfc29fc8d19ecc9b70fda8470744", func := "socage/socagelaw02.ArenaPlays", spec := "arenaPlays", apart := false }
def ArenaPlaysSaid : Prop := arenaPlaysRow.holds Try.pinned (OpenSpec.ofChange arenaPlaysSpec)

/-- ITS FALSE NEIGHBOUR: 'it returns false'. Refute it at one input. -/
def arenaPlaysWrong : ChangeSpec := { name := "arenaPlays", fn := fun _ => fun
  | [d1, d2] => { results := [.lit (.bool false)], args := [d1, d2] }
  | _ => none }
def ArenaPlaysWrongFalsely : Prop := arenaPlaysRow.holds Try.pinned (OpenSpec.ofChange arenaPlaysWrong)

/-- 'socagelaw02.ArenaKept': WHATEVER THE INPUT: true; the input reads as it did. -/
def arenaKeptSpec : ChangeSpec := { name := "arenaKept", fn := fun _ => fun
  | [d1, d2, d3] => { results := [.lit (.bool true)], args := [d1, d2, d3] }
  | _ => none }
def arenaKeptRow : OpenClaim := { program := "ytboajbbnnbnpaaa", sum := "e21c8faf6ec4827a5f214165f059cb068826cfc29fc8d19ecc9b70fda8470744", func := "socage/socagelaw02.ArenaKept", spec := "arenaKept", apart := false }
def ArenaKeptSaid : Prop := arenaKeptRow.holds Try.pinned (OpenSpec.ofChange arenaKeptSpec)

/-- ITS FALSE NEIGHBOUR: 'it returns false'. Refute it at one input. -/
def arenaKeptWrong : ChangeSpec := { name := "arenaKept", fn := fun _ => fun
  | [d1, d2, d3] => { results := [.lit (.bool false)], args := [d1, d2, d3] }
  | _ => none }
def ArenaKeptWrongFalsely : Prop := arenaKeptRow.holds Try.pinned (OpenSpec.ofChange arenaKeptWrong)

/-- 'socagelaw01.ConfTells': WHATEVER THE INPUT: true; the input reads as it did. -/
def confTellsSpec : ChangeSpec := { name := "confTells", fn := fun _ => fun
  | [d1, d2, d3] => { results := [.lit (.bool true)], args := [d1, d2, d3] }
  | _ => none }
def confTellsRow : OpenClaim := { program := "ytboajbbnnbnpaaa", sum := "e21c8faf6ec4827a5f214165f059cb068826cfc29fc8d19ecc9b70fda8470744", func := "socage/socagelaw01.ConfTells", spec := "confTells", apart := false }
def ConfTellsSaid : Prop := confTellsRow.holds Try.pinned (OpenSpec.ofChange confTellsSpec)

/-- ITS FALSE NEIGHBOUR: 'it returns false'. Refute it at one input. -/
def confTellsWrong : ChangeSpec := { name := "confTells", fn := fun _ => fun
  | [d1, d2, d3] => { results := [.lit (.bool false)], args := [d1, d2, d3] }
  | _ => none }
def ConfTellsWrongFalsely : Prop := confTellsRow.holds Try.pinned (OpenSpec.ofChange confTellsWrong)

/-- 'socagelaw01.ConfApart': WHATEVER THE INPUT: true; the input reads as it did. -/
def confApartSpec : ChangeSpec := { name := "confApart", fn := fun _ => fun
  | [d1, d2] => { results := [.lit (.bool true)], args := [d1, d2] }
  | _ => none }
def confApartRow : OpenClaim := { program := "ytboajbbnnbnpaaa", sum := "e21c8faf6ec4827a5f214165f059cb068826cfc29fc8d19ecc9b70fda8470744", func := "socage/socagelaw01.ConfApart", spec := "confApart", apart := false }
def ConfApartSaid : Prop := confApartRow.holds Try.pinned (OpenSpec.ofChange confApartSpec)

/-- ITS FALSE NEIGHBOUR: 'it returns false'. Refute it at one input. -/
def confApartWrong : ChangeSpec := { name := "confApart", fn := fun _ => fun
  | [d1, d2] => { results := [.lit (.bool false)], args := [d1, d2] }
  | _ => none }
def ConfApartWrongFalsely : Prop := confApartRow.holds Try.pinned (OpenSpec.ofChange confApartWrong)

/-- 'socagelaw15.ProxyPlays': WHATEVER THE INPUT: true; the input reads as it did. -/
def proxyPlaysSpec : ChangeSpec := { name := "proxyPlays", fn := fun _ => fun
  | [d] => { results := [.lit (.bool true)], args := [d] }
  | _ => none }
def proxyPlaysRow : OpenClaim := { program := "ytboajbbnnbnpaaa", sum := "e21c8faf6ec4827a5f214165f059cb068826cfc29fc8d19ecc9b70fda8470744", func := "socage/socagelaw15.ProxyPlays", spec := "proxyPlays", apart := false }
def ProxyPlaysSaid : Prop := proxyPlaysRow.holds Try.pinned (OpenSpec.ofChange proxyPlaysSpec)

/-- ITS FALSE NEIGHBOUR: 'it returns false'. Refute it at one input. -/
def proxyPlaysWrong : ChangeSpec := { name := "proxyPlays", fn := fun _ => fun
  | [d] => { results := [.lit (.bool false)], args := [d] }
  | _ => none }
def ProxyPlaysWrongFalsely : Prop := proxyPlaysRow.holds Try.pinned (OpenSpec.ofChange proxyPlaysWrong)

/-- 'socagelaw15.ProxyOnce': WHATEVER THE INPUT: true; the input reads as it did. -/
def proxyOnceSpec : ChangeSpec := { name := "proxyOnce", fn := fun _ => fun
  | [d] => { results := [.lit (.bool true)], args := [d] }
  | _ => none }
def proxyOnceRow : OpenClaim := { program := "ytboajbbnnbnpaaa", sum := "e21c8faf6ec4827a5f214165f059cb068826cfc29fc8d19ecc9b70fda8470744", func := "socage/socagelaw15.ProxyOnce", spec := "proxyOnce", apart := false }
def ProxyOnceSaid : Prop := proxyOnceRow.holds Try.pinned (OpenSpec.ofChange proxyOnceSpec)

/-- ITS FALSE NEIGHBOUR: 'it returns false'. Refute it at one input. -/
def proxyOnceWrong : ChangeSpec := { name := "proxyOnce", fn := fun _ => fun
  | [d] => { results := [.lit (.bool false)], args := [d] }
  | _ => none }
def ProxyOnceWrongFalsely : Prop := proxyOnceRow.holds Try.pinned (OpenSpec.ofChange proxyOnceWrong)

/- THE SECOND FORM. 'bulk': how many values and letters a reading holds, each counted each time it is reached (what is shared counts as often as it is met; a slice's spare places count too). A statement '..UptoSaid' is the law's where the arguments, and the package variables that the reading takes, are together of bulk at most 1048576: NARROWER than '..Said'. Prove '..Said' where nothing that the law and all that it calls make is longer than what came in: it says more and counts as full. Else prove '..UptoSaid'. A law counts once. -/
mutual
def uptoBulk {H : Type} : DataW H → Nat
  | .lit (.string bytes) => bytes.length + 1
  | .lit _ => 1
  | .nil => 1
  | .ptr d => uptoBulk d + 1
  | .slice elems spare => uptoBulkAll elems + uptoBulkAll spare + 1
  | .agg parts => uptoBulkAll parts + 1
  | .iface _ d => uptoBulk d + 1
  | .map entries => uptoBulkEntries entries + 1
  | .held _ => 1
def uptoBulkAll {H : Type} : List (DataW H) → Nat
  | [] => 0
  | d :: r => uptoBulk d + uptoBulkAll r
def uptoBulkEntries {H : Type} : List (Lit × DataW H) → Nat
  | [] => 0
  | x :: r => uptoBulkEntry x + uptoBulkEntries r
def uptoBulkEntry {H : Type} : Lit × DataW H → Nat
  | (.string bytes, d) => bytes.length + uptoBulk d + 1
  | (_, d) => uptoBulk d + 1
 end
def uptoSmall : (H : Type) → List (DataW H) → Bool := fun _ ds => decide (uptoBulkAll ds ≤ 1048576)
def OpenSpec.upto (s : _root_.Go.ChangeSpec) : _root_.Go.OpenSpec := { _root_.Go.OpenSpec.ofChange s with cond := some uptoSmall }

/-- 'socagelaw03.HeadTells', WHERE WHAT IT READS IS OF BULK AT MOST 1048576: true; the input reads as it did. -/
def headTellsUptoRow : OpenClaim := { program := "ytboajbbnnbnpaaa", sum := "e21c8faf6ec4827a5f214165f059cb068826cfc29fc8d19ecc9b70fda8470744", func := "socage/socagelaw03.HeadTells", spec := "headTells", unfollowed := true, recurses := true, apart := false, narrowed := true }
def HeadTellsUptoSaid : Prop := headTellsUptoRow.holds Try.pinned (OpenSpec.upto headTellsSpec)

/-- 'socagelaw03.HeadBack', WHERE WHAT IT READS IS OF BULK AT MOST 1048576: true; the input reads as it did. -/
def headBackUptoRow : OpenClaim := { program := "ytboajbbnnbnpaaa", sum := "e21c8faf6ec4827a5f214165f059cb068826cfc29fc8d19ecc9b70fda8470744", func := "socage/socagelaw03.HeadBack", spec := "headBack", unfollowed := true, recurses := true, apart := false, narrowed := true }
def HeadBackUptoSaid : Prop := headBackUptoRow.holds Try.pinned (OpenSpec.upto headBackSpec)

/-- 'socagelaw12.QuotaPlays', WHERE WHAT IT READS IS OF BULK AT MOST 1048576: true; the input reads as it did. -/
def quotaPlaysUptoRow : OpenClaim := { program := "ytboajbbnnbnpaaa", sum := "e21c8faf6ec4827a5f214165f059cb068826cfc29fc8d19ecc9b70fda8470744", func := "socage/socagelaw12.QuotaPlays", spec := "quotaPlays", apart := false, narrowed := true }
def QuotaPlaysUptoSaid : Prop := quotaPlaysUptoRow.holds Try.pinned (OpenSpec.upto quotaPlaysSpec)

/-- 'socagelaw12.QuotaWithin', WHERE WHAT IT READS IS OF BULK AT MOST 1048576: true; the input reads as it did. -/
def quotaWithinUptoRow : OpenClaim := { program := "ytboajbbnnbnpaaa", sum := "e21c8faf6ec4827a5f214165f059cb068826cfc29fc8d19ecc9b70fda8470744", func := "socage/socagelaw12.QuotaWithin", spec := "quotaWithin", apart := false, narrowed := true }
def QuotaWithinUptoSaid : Prop := quotaWithinUptoRow.holds Try.pinned (OpenSpec.upto quotaWithinSpec)

/-- 'socagelaw09.QueuePlays', WHERE WHAT IT READS IS OF BULK AT MOST 1048576: true; the input reads as it did. -/
def queuePlaysUptoRow : OpenClaim := { program := "ytboajbbnnbnpaaa", sum := "e21c8faf6ec4827a5f214165f059cb068826cfc29fc8d19ecc9b70fda8470744", func := "socage/socagelaw09.QueuePlays", spec := "queuePlays", apart := false, narrowed := true }
def QueuePlaysUptoSaid : Prop := queuePlaysUptoRow.holds Try.pinned (OpenSpec.upto queuePlaysSpec)

/-- 'socagelaw09.QueueLost', WHERE WHAT IT READS IS OF BULK AT MOST 1048576: true; the input reads as it did. -/
def queueLostUptoRow : OpenClaim := { program := "ytboajbbnnbnpaaa", sum := "e21c8faf6ec4827a5f214165f059cb068826cfc29fc8d19ecc9b70fda8470744", func := "socage/socagelaw09.QueueLost", spec := "queueLost", apart := false, narrowed := true }
def QueueLostUptoSaid : Prop := queueLostUptoRow.holds Try.pinned (OpenSpec.upto queueLostSpec)

/-- 'socagelaw02.ArenaPlays', WHERE WHAT IT READS IS OF BULK AT MOST 1048576: true; the input reads as it did. -/
def arenaPlaysUptoRow : OpenClaim := { program := "ytboajbbnnbnpaaa", sum := "e21c8faf6ec4827a5f214165f059cb068826cfc29fc8d19ecc9b70fda8470744", func := "socage/socagelaw02.ArenaPlays", spec := "arenaPlays", apart := false, narrowed := true }
def ArenaPlaysUptoSaid : Prop := arenaPlaysUptoRow.holds Try.pinned (OpenSpec.upto arenaPlaysSpec)

/-- 'socagelaw02.ArenaKept', WHERE WHAT IT READS IS OF BULK AT MOST 1048576: true; the input reads as it did. -/
def arenaKeptUptoRow : OpenClaim := { program := "ytboajbbnnbnpaaa", sum := "e21c8faf6ec4827a5f214165f059cb068826cfc29fc8d19ecc9b70fda8470744", func := "socage/socagelaw02.ArenaKept", spec := "arenaKept", apart := false, narrowed := true }
def ArenaKeptUptoSaid : Prop := arenaKeptUptoRow.holds Try.pinned (OpenSpec.upto arenaKeptSpec)

/-- 'socagelaw01.ConfTells', WHERE WHAT IT READS IS OF BULK AT MOST 1048576: true; the input reads as it did. -/
def confTellsUptoRow : OpenClaim := { program := "ytboajbbnnbnpaaa", sum := "e21c8faf6ec4827a5f214165f059cb068826cfc29fc8d19ecc9b70fda8470744", func := "socage/socagelaw01.ConfTells", spec := "confTells", apart := false, narrowed := true }
def ConfTellsUptoSaid : Prop := confTellsUptoRow.holds Try.pinned (OpenSpec.upto confTellsSpec)

/-- 'socagelaw01.ConfApart', WHERE WHAT IT READS IS OF BULK AT MOST 1048576: true; the input reads as it did. -/
def confApartUptoRow : OpenClaim := { program := "ytboajbbnnbnpaaa", sum := "e21c8faf6ec4827a5f214165f059cb068826cfc29fc8d19ecc9b70fda8470744", func := "socage/socagelaw01.ConfApart", spec := "confApart", apart := false, narrowed := true }
def ConfApartUptoSaid : Prop := confApartUptoRow.holds Try.pinned (OpenSpec.upto confApartSpec)

/-- 'socagelaw15.ProxyPlays', WHERE WHAT IT READS IS OF BULK AT MOST 1048576: true; the input reads as it did. -/
def proxyPlaysUptoRow : OpenClaim := { program := "ytboajbbnnbnpaaa", sum := "e21c8faf6ec4827a5f214165f059cb068826cfc29fc8d19ecc9b70fda8470744", func := "socage/socagelaw15.ProxyPlays", spec := "proxyPlays", apart := false, narrowed := true }
def ProxyPlaysUptoSaid : Prop := proxyPlaysUptoRow.holds Try.pinned (OpenSpec.upto proxyPlaysSpec)

/-- 'socagelaw15.ProxyOnce', WHERE WHAT IT READS IS OF BULK AT MOST 1048576: true; the input reads as it did. -/
def proxyOnceUptoRow : OpenClaim := { program := "ytboajbbnnbnpaaa", sum := "e21c8faf6ec4827a5f214165f059cb068826cfc29fc8d19ecc9b70fda8470744", func := "socage/socagelaw15.ProxyOnce", spec := "proxyOnce", apart := false, narrowed := true }
def ProxyOnceUptoSaid : Prop := proxyOnceUptoRow.holds Try.pinned (OpenSpec.upto proxyOnceSpec)

end Rows
end Go.Proofs.Ytboajbbnnbnpaaa
