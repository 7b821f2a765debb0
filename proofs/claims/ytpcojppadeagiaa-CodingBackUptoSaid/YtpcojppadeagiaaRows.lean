/-
  No cell of these rows narrows 'for every input' (looked for: loops, veiled, ifaces, maps, wideKeys, modest, calm, conditions, laid).
  DERIVED. THE GIVEN ROWS OF THIS SEAT. 5 by the template 'for every input the law returns true; each argument reads behind the call as it read before'; 0 by the template 'total and deterministic' (their statements: YtpcojppadeagiaaTotals.lean).
  GIVEN WITH THE SEED: the statements are not yours to turn. If you find one false, say at which input.
  Laid BY PROGRAM, IN A SANDBOX (cutbox-rows.mjs): the forced cells as the released guide's own fill.sh prints them over the translation bfa55850627cd574… (all of the seat's roots in one cut). By AI agents, Wed Nov 11 2026. No macro, syntax, notation, axiom, sorry.
-/
import Derived.Test.YtpcojppadeagiaaChecked
import GoSem.Claim
import GoSem.ClaimJoined
import GoSem.ClaimMapViews
import Derived.JoinedTies
import Derived.KernelRfl
namespace Go.Proofs.Ytpcojppadeagiaa
/- THE CELL 'sum', in the pinned program and in every row, IS THE sha256 OF THE DUMP (.gsa) THAT YtpcojppadeagiaaProg.lean LOADS. Nothing in Lean hashes anything: it is a label: what it is worth is what the hold of that sum in a sandbox is worth. -/
noncomputable def Try.pinned : Pinned := { name := "ytpcojppadeagiaa", sum := "bfa55850627cd574f0d25eca90a0ba82994fcb282382e696e24f132df320b912", checked := Try.checked }
namespace Rows
def none {H : Type} : Left H := { results := [], args := [] }

/-- 'henkanlaw12.CodingNumbers': WHATEVER THE INPUT: true; the input reads as it did. -/
def codingNumbersSpec : ChangeSpec := { name := "codingNumbers", fn := fun _ => fun
  | [d1, d2, d3] => { results := [.lit (.bool true)], args := [d1, d2, d3] }
  | _ => none }
def codingNumbersRow : OpenClaim := { program := "ytpcojppadeagiaa", sum := "bfa55850627cd574f0d25eca90a0ba82994fcb282382e696e24f132df320b912", func := "henkan/henkanlaw12.CodingNumbers", spec := "codingNumbers", inPlace := ["internal/bytealg.abigen_runtime_cmpstring"], unfollowed := true, recurses := true, apart := false }
def CodingNumbersSaid : Prop := codingNumbersRow.holds Try.pinned (OpenSpec.ofChange codingNumbersSpec)

/-- ITS FALSE NEIGHBOUR: 'it returns false'. Refute it at one input. -/
def codingNumbersWrong : ChangeSpec := { name := "codingNumbers", fn := fun _ => fun
  | [d1, d2, d3] => { results := [.lit (.bool false)], args := [d1, d2, d3] }
  | _ => none }
def CodingNumbersWrongFalsely : Prop := codingNumbersRow.holds Try.pinned (OpenSpec.ofChange codingNumbersWrong)

/-- 'henkanlaw12.CodingReads': WHATEVER THE INPUT: true; the input reads as it did. -/
def codingReadsSpec : ChangeSpec := { name := "codingReads", fn := fun _ => fun
  | [d1, d2] => { results := [.lit (.bool true)], args := [d1, d2] }
  | _ => none }
def codingReadsRow : OpenClaim := { program := "ytpcojppadeagiaa", sum := "bfa55850627cd574f0d25eca90a0ba82994fcb282382e696e24f132df320b912", func := "henkan/henkanlaw12.CodingReads", spec := "codingReads", inPlace := ["internal/bytealg.abigen_runtime_cmpstring"], unfollowed := true, recurses := true, apart := false }
def CodingReadsSaid : Prop := codingReadsRow.holds Try.pinned (OpenSpec.ofChange codingReadsSpec)

/-- ITS FALSE NEIGHBOUR: 'it returns false'. Refute it at one input. -/
def codingReadsWrong : ChangeSpec := { name := "codingReads", fn := fun _ => fun
  | [d1, d2] => { results := [.lit (.bool false)], args := [d1, d2] }
  | _ => none }
def CodingReadsWrongFalsely : Prop := codingReadsRow.holds Try.pinned (OpenSpec.ofChange codingReadsWrong)

/-- 'henkanlaw12.CodingTexts': WHATEVER THE INPUT: true; the input reads as it did. -/
def codingTextsSpec : ChangeSpec := { name := "codingTexts", fn := fun _ => fun
  | [d1, d2] => { results := [.lit (.bool true)], args := [d1, d2] }
  | _ => none }
def codingTextsRow : OpenClaim := { program := "ytpcojppadeagiaa", sum := "bfa55850627cd574f0d25eca90a0ba82994fcb282382e696e24f132df320b912", func := "henkan/henkanlaw12.CodingTexts", spec := "codingTexts", inPlace := ["internal/bytealg.abigen_runtime_cmpstring"], unfollowed := true, recurses := true, apart := false }
def CodingTextsSaid : Prop := codingTextsRow.holds Try.pinned (OpenSpec.ofChange codingTextsSpec)

/-- ITS FALSE NEIGHBOUR: 'it returns false'. Refute it at one input. -/
def codingTextsWrong : ChangeSpec := { name := "codingTexts", fn := fun _ => fun
  | [d1, d2] => { results := [.lit (.bool false)], args := [d1, d2] }
  | _ => none }
def CodingTextsWrongFalsely : Prop := codingTextsRow.holds Try.pinned (OpenSpec.ofChange codingTextsWrong)

/-- 'henkanlaw12.CodingKnown': WHATEVER THE INPUT: true; the input reads as it did. -/
def codingKnownSpec : ChangeSpec := { name := "codingKnown", fn := fun _ => fun
  | [] => { results := [.lit (.bool true)], args := [] }
  | _ => none }
def codingKnownRow : OpenClaim := { program := "ytpcojppadeagiaa", sum := "bfa55850627cd574f0d25eca90a0ba82994fcb282382e696e24f132df320b912", func := "henkan/henkanlaw12.CodingKnown", spec := "codingKnown", inPlace := ["internal/bytealg.abigen_runtime_cmpstring"], unfollowed := true, recurses := true, apart := false }
def CodingKnownSaid : Prop := codingKnownRow.holds Try.pinned (OpenSpec.ofChange codingKnownSpec)

/-- ITS FALSE NEIGHBOUR: 'it returns false'. Refute it at one input. -/
def codingKnownWrong : ChangeSpec := { name := "codingKnown", fn := fun _ => fun
  | [] => { results := [.lit (.bool false)], args := [] }
  | _ => none }
def CodingKnownWrongFalsely : Prop := codingKnownRow.holds Try.pinned (OpenSpec.ofChange codingKnownWrong)

/-- 'henkanlaw12.CodingBack': WHATEVER THE INPUT: true; the input reads as it did. -/
def codingBackSpec : ChangeSpec := { name := "codingBack", fn := fun _ => fun
  | [d1, d2, d3, d4, d5] => { results := [.lit (.bool true)], args := [d1, d2, d3, d4, d5] }
  | _ => none }
def codingBackRow : OpenClaim := { program := "ytpcojppadeagiaa", sum := "bfa55850627cd574f0d25eca90a0ba82994fcb282382e696e24f132df320b912", func := "henkan/henkanlaw12.CodingBack", spec := "codingBack", inPlace := ["internal/bytealg.abigen_runtime_cmpstring"], unfollowed := true, recurses := true, apart := false }
def CodingBackSaid : Prop := codingBackRow.holds Try.pinned (OpenSpec.ofChange codingBackSpec)

/-- ITS FALSE NEIGHBOUR: 'it returns false'. Refute it at one input. -/
def codingBackWrong : ChangeSpec := { name := "codingBack", fn := fun _ => fun
  | [d1, d2, d3, d4, d5] => { results := [.lit (.bool false)], args := [d1, d2, d3, d4, d5] }
  | _ => none }
def CodingBackWrongFalsely : Prop := codingBackRow.holds Try.pinned (OpenSpec.ofChange codingBackWrong)

/- THE SECOND FORM. 'bulk': how many values and letters a reading holds, each counted each time it is reached (what is shared counts as often as it is met; a slice's spare places count too). A statement '..UptoSaid' is the law's where the arguments, and the package variables that the reading takes, are together of bulk at most 1048576: NARROWER than '..Said'. Prove '..Said' where nothing that the law and all that it calls make is longer than what came in: it says more and counts as full. Else prove '..UptoSaid'. A law counts once. -/
mutual
def uptoBulk {H : Type} : DataW H → Nat
  | .lit (.string bytes) => bytes.length + 1
  | .lit _ => 1
  | .nil => 1
  | .ptr d => uptoBulk d + 1
  | .slice elems spare => uptoBulkAll elems + uptoBulkAll spare + 1
  | .agg parts => uptoBulkAll parts + 1
  | .iface _ d => uptoBulk d + 1
  | .map entries => uptoBulkEntries entries + 1
  | .held _ => 1
def uptoBulkAll {H : Type} : List (DataW H) → Nat
  | [] => 0
  | d :: r => uptoBulk d + uptoBulkAll r
def uptoBulkEntries {H : Type} : List (Lit × DataW H) → Nat
  | [] => 0
  | x :: r => uptoBulkEntry x + uptoBulkEntries r
def uptoBulkEntry {H : Type} : Lit × DataW H → Nat
  | (.string bytes, d) => bytes.length + uptoBulk d + 1
  | (_, d) => uptoBulk d + 1
 end
def uptoSmall : (H : Type) → List (DataW H) → Bool := fun _ ds => decide (uptoBulkAll ds ≤ 1048576)
def OpenSpec.upto (s : _root_.Go.ChangeSpec) : _root_.Go.OpenSpec := { _root_.Go.OpenSpec.ofChange s with cond := some uptoSmall }

/-- 'henkanlaw12.CodingNumbers', WHERE WHAT IT READS IS OF BULK AT MOST 1048576: true; the input reads as it did. -/
def codingNumbersUptoRow : OpenClaim := { program := "ytpcojppadeagiaa", sum := "bfa55850627cd574f0d25eca90a0ba82994fcb282382e696e24f132df320b912", func := "henkan/henkanlaw12.CodingNumbers", spec := "codingNumbers", inPlace := ["internal/bytealg.abigen_runtime_cmpstring"], unfollowed := true, recurses := true, apart := false, narrowed := true }
def CodingNumbersUptoSaid : Prop := codingNumbersUptoRow.holds Try.pinned (OpenSpec.upto codingNumbersSpec)

/-- 'henkanlaw12.CodingReads', WHERE WHAT IT READS IS OF BULK AT MOST 1048576: true; the input reads as it did. -/
def codingReadsUptoRow : OpenClaim := { program := "ytpcojppadeagiaa", sum := "bfa55850627cd574f0d25eca90a0ba82994fcb282382e696e24f132df320b912", func := "henkan/henkanlaw12.CodingReads", spec := "codingReads", inPlace := ["internal/bytealg.abigen_runtime_cmpstring"], unfollowed := true, recurses := true, apart := false, narrowed := true }
def CodingReadsUptoSaid : Prop := codingReadsUptoRow.holds Try.pinned (OpenSpec.upto codingReadsSpec)

/-- 'henkanlaw12.CodingTexts', WHERE WHAT IT READS IS OF BULK AT MOST 1048576: true; the input reads as it did. -/
def codingTextsUptoRow : OpenClaim := { program := "ytpcojppadeagiaa", sum := "bfa55850627cd574f0d25eca90a0ba82994fcb282382e696e24f132df320b912", func := "henkan/henkanlaw12.CodingTexts", spec := "codingTexts", inPlace := ["internal/bytealg.abigen_runtime_cmpstring"], unfollowed := true, recurses := true, apart := false, narrowed := true }
def CodingTextsUptoSaid : Prop := codingTextsUptoRow.holds Try.pinned (OpenSpec.upto codingTextsSpec)

/-- 'henkanlaw12.CodingKnown', WHERE WHAT IT READS IS OF BULK AT MOST 1048576: true; the input reads as it did. -/
def codingKnownUptoRow : OpenClaim := { program := "ytpcojppadeagiaa", sum := "bfa55850627cd574f0d25eca90a0ba82994fcb282382e696e24f132df320b912", func := "henkan/henkanlaw12.CodingKnown", spec := "codingKnown", inPlace := ["internal/bytealg.abigen_runtime_cmpstring"], unfollowed := true, recurses := true, apart := false, narrowed := true }
def CodingKnownUptoSaid : Prop := codingKnownUptoRow.holds Try.pinned (OpenSpec.upto codingKnownSpec)

/-- 'henkanlaw12.CodingBack', WHERE WHAT IT READS IS OF BULK AT MOST 1048576: true; the input reads as it did. -/
def codingBackUptoRow : OpenClaim := { program := "ytpcojppadeagiaa", sum := "bfa55850627cd574f0d25eca90a0ba82994fcb282382e696e24f132df320b912", func := "henkan/henkanlaw12.CodingBack", spec := "codingBack", inPlace := ["internal/bytealg.abigen_runtime_cmpstring"], unfollowed := true, recurses := true, apart := false, narrowed := true }
def CodingBackUptoSaid : Prop := codingBackUptoRow.holds Try.pinned (OpenSpec.upto codingBackSpec)

end Rows
end Go.Proofs.Ytpcojppadeagiaa
