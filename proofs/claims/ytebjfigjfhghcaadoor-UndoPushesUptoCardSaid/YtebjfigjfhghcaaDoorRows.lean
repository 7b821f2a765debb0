/-
  NARROWER THAN 'FOR EVERY INPUT', by the rows' own cells (each row's printed sentence says how): UndoChecks: laid · UndoPushes: laid · UndoPops: laid · UndoApplies: laid · UndoBack: laid · UndoTexts: laid · UndoKnown: laid.
  DERIVED. THE GIVEN ROWS OF THIS SEAT. 7 by the template 'for every input the law returns true; each argument reads behind the call as it read before'; 0 by the template 'total and deterministic' (their statements: YtebjfigjfhghcaaDoorTotals.lean).
  GIVEN WITH THE SEED: the statements are not yours to turn. If you find one false, say at which input.
  Laid BY PROGRAM, IN A SANDBOX (cutbox-rows.mjs): the forced cells as the released guide's own fill.sh prints them over the translation 209d8f6a85619304… (all of the seat's roots in one cut). By AI agents, Wed Nov 11 2026. No macro, syntax, notation, axiom, sorry.
-/
import Derived.Test.YtebjfigjfhghcaaDoorChecked
import GoSem.PinnedTables
import GoSem.Claim
import GoSem.ClaimJoined
import GoSem.ClaimMapViews
import Derived.JoinedTies
import Derived.KernelRfl
namespace Go.Proofs.YtebjfigjfhghcaaDoor
/- THE CELL 'sum', in the pinned program and in every row, IS THE sha256 OF THE DUMP (.gsa) THAT YtebjfigjfhghcaaDoorProg.lean LOADS. Nothing in Lean hashes anything: it is a label: what it is worth is what the hold of that sum in a sandbox is worth. -/
noncomputable def Tryd.pinned : Pinned := { name := "ytebjfigjfhghcaadoor", sum := "209d8f6a856193044d79f66831a9f04c931594528788f6adcedb1c4c0f980f56", checked := Tryd.checked }
namespace Rows
def none {H : Type} : Left H := { results := [], args := [] }

/- WHAT THE LISTED PACKAGE-LEVEL VARIABLES READ AS WHEN THE CALL BEGINS. Each datum BY PROGRAM (the guide's laid-datum.mjs) off the statement by which the dump's own 'gosem.cut.vars' lays the variable. In a bare row this is a premise. The card (YtebjfigjfhghcaaDoorCards.lean) ties it to the program's text. -/
def laid_unicode_utf8_acceptRanges {H : Type} : DataW H := .agg [.agg [.lit (.int .u8 128), .lit (.int .u8 191)], .agg [.lit (.int .u8 160), .lit (.int .u8 191)], .agg [.lit (.int .u8 128), .lit (.int .u8 159)], .agg [.lit (.int .u8 144), .lit (.int .u8 191)], .agg [.lit (.int .u8 128), .lit (.int .u8 143)], .agg [.lit (.int .u8 0), .lit (.int .u8 0)], .agg [.lit (.int .u8 0), .lit (.int .u8 0)], .agg [.lit (.int .u8 0), .lit (.int .u8 0)], .agg [.lit (.int .u8 0), .lit (.int .u8 0)], .agg [.lit (.int .u8 0), .lit (.int .u8 0)], .agg [.lit (.int .u8 0), .lit (.int .u8 0)], .agg [.lit (.int .u8 0), .lit (.int .u8 0)], .agg [.lit (.int .u8 0), .lit (.int .u8 0)], .agg [.lit (.int .u8 0), .lit (.int .u8 0)], .agg [.lit (.int .u8 0), .lit (.int .u8 0)], .agg [.lit (.int .u8 0), .lit (.int .u8 0)]]
/-- One of Go's own tables, pinned by name: the form's constant. -/
def laid_unicode_utf8_first : DataW Unit := Go.Pinned.utf8First

/-- 'henkanlaw40.UndoChecks': WHATEVER THE INPUT: true; the input reads as it did. -/
def undoChecksSpec : ChangeSpec := { name := "undoChecks", fn := fun _ => fun
  | [d] => { results := [.lit (.bool true)], args := [d] }
  | _ => none }
def undoChecksRow : OpenClaim := { program := "ytebjfigjfhghcaadoor", sum := "209d8f6a856193044d79f66831a9f04c931594528788f6adcedb1c4c0f980f56", func := "henkan/henkanlaw40.UndoChecks", spec := "undoChecks", inPlace := ["internal/abi.NoEscape", "internal/bytealg.MakeNoZero"], unfollowed := true, recurses := true, named := ["unicode/utf8.first", "unicode/utf8.acceptRanges"], apart := false, laid := [("unicode/utf8.acceptRanges", laid_unicode_utf8_acceptRanges), ("unicode/utf8.first", laid_unicode_utf8_first)] }
def UndoChecksSaid : Prop := undoChecksRow.holds Tryd.pinned (OpenSpec.ofChange undoChecksSpec)

/-- ITS FALSE NEIGHBOUR: 'it returns false'. Refute it at one input. -/
def undoChecksWrong : ChangeSpec := { name := "undoChecks", fn := fun _ => fun
  | [d] => { results := [.lit (.bool false)], args := [d] }
  | _ => none }
def UndoChecksWrongFalsely : Prop := undoChecksRow.holds Tryd.pinned (OpenSpec.ofChange undoChecksWrong)

/-- 'henkanlaw40.UndoPushes': WHATEVER THE INPUT: true; the input reads as it did. -/
def undoPushesSpec : ChangeSpec := { name := "undoPushes", fn := fun _ => fun
  | [d1, d2] => { results := [.lit (.bool true)], args := [d1, d2] }
  | _ => none }
def undoPushesRow : OpenClaim := { program := "ytebjfigjfhghcaadoor", sum := "209d8f6a856193044d79f66831a9f04c931594528788f6adcedb1c4c0f980f56", func := "henkan/henkanlaw40.UndoPushes", spec := "undoPushes", inPlace := ["internal/abi.NoEscape", "internal/bytealg.MakeNoZero"], unfollowed := true, recurses := true, named := ["unicode/utf8.first", "unicode/utf8.acceptRanges"], apart := false, laid := [("unicode/utf8.acceptRanges", laid_unicode_utf8_acceptRanges), ("unicode/utf8.first", laid_unicode_utf8_first)] }
def UndoPushesSaid : Prop := undoPushesRow.holds Tryd.pinned (OpenSpec.ofChange undoPushesSpec)

/-- ITS FALSE NEIGHBOUR: 'it returns false'. Refute it at one input. -/
def undoPushesWrong : ChangeSpec := { name := "undoPushes", fn := fun _ => fun
  | [d1, d2] => { results := [.lit (.bool false)], args := [d1, d2] }
  | _ => none }
def UndoPushesWrongFalsely : Prop := undoPushesRow.holds Tryd.pinned (OpenSpec.ofChange undoPushesWrong)

/-- 'henkanlaw40.UndoPops': WHATEVER THE INPUT: true; the input reads as it did. -/
def undoPopsSpec : ChangeSpec := { name := "undoPops", fn := fun _ => fun
  | [d] => { results := [.lit (.bool true)], args := [d] }
  | _ => none }
def undoPopsRow : OpenClaim := { program := "ytebjfigjfhghcaadoor", sum := "209d8f6a856193044d79f66831a9f04c931594528788f6adcedb1c4c0f980f56", func := "henkan/henkanlaw40.UndoPops", spec := "undoPops", inPlace := ["internal/abi.NoEscape", "internal/bytealg.MakeNoZero"], unfollowed := true, recurses := true, named := ["unicode/utf8.first", "unicode/utf8.acceptRanges"], apart := false, laid := [("unicode/utf8.acceptRanges", laid_unicode_utf8_acceptRanges), ("unicode/utf8.first", laid_unicode_utf8_first)] }
def UndoPopsSaid : Prop := undoPopsRow.holds Tryd.pinned (OpenSpec.ofChange undoPopsSpec)

/-- ITS FALSE NEIGHBOUR: 'it returns false'. Refute it at one input. -/
def undoPopsWrong : ChangeSpec := { name := "undoPops", fn := fun _ => fun
  | [d] => { results := [.lit (.bool false)], args := [d] }
  | _ => none }
def UndoPopsWrongFalsely : Prop := undoPopsRow.holds Tryd.pinned (OpenSpec.ofChange undoPopsWrong)

/-- 'henkanlaw40.UndoApplies': WHATEVER THE INPUT: true; the input reads as it did. -/
def undoAppliesSpec : ChangeSpec := { name := "undoApplies", fn := fun _ => fun
  | [d1, d2] => { results := [.lit (.bool true)], args := [d1, d2] }
  | _ => none }
def undoAppliesRow : OpenClaim := { program := "ytebjfigjfhghcaadoor", sum := "209d8f6a856193044d79f66831a9f04c931594528788f6adcedb1c4c0f980f56", func := "henkan/henkanlaw40.UndoApplies", spec := "undoApplies", inPlace := ["internal/abi.NoEscape", "internal/bytealg.MakeNoZero"], unfollowed := true, recurses := true, named := ["unicode/utf8.first", "unicode/utf8.acceptRanges"], apart := false, laid := [("unicode/utf8.acceptRanges", laid_unicode_utf8_acceptRanges), ("unicode/utf8.first", laid_unicode_utf8_first)] }
def UndoAppliesSaid : Prop := undoAppliesRow.holds Tryd.pinned (OpenSpec.ofChange undoAppliesSpec)

/-- ITS FALSE NEIGHBOUR: 'it returns false'. Refute it at one input. -/
def undoAppliesWrong : ChangeSpec := { name := "undoApplies", fn := fun _ => fun
  | [d1, d2] => { results := [.lit (.bool false)], args := [d1, d2] }
  | _ => none }
def UndoAppliesWrongFalsely : Prop := undoAppliesRow.holds Tryd.pinned (OpenSpec.ofChange undoAppliesWrong)

/-- 'henkanlaw40.UndoBack': WHATEVER THE INPUT: true; the input reads as it did. -/
def undoBackSpec : ChangeSpec := { name := "undoBack", fn := fun _ => fun
  | [d1, d2] => { results := [.lit (.bool true)], args := [d1, d2] }
  | _ => none }
def undoBackRow : OpenClaim := { program := "ytebjfigjfhghcaadoor", sum := "209d8f6a856193044d79f66831a9f04c931594528788f6adcedb1c4c0f980f56", func := "henkan/henkanlaw40.UndoBack", spec := "undoBack", inPlace := ["internal/abi.NoEscape", "internal/bytealg.MakeNoZero"], unfollowed := true, recurses := true, named := ["unicode/utf8.first", "unicode/utf8.acceptRanges"], apart := false, laid := [("unicode/utf8.acceptRanges", laid_unicode_utf8_acceptRanges), ("unicode/utf8.first", laid_unicode_utf8_first)] }
def UndoBackSaid : Prop := undoBackRow.holds Tryd.pinned (OpenSpec.ofChange undoBackSpec)

/-- ITS FALSE NEIGHBOUR: 'it returns false'. Refute it at one input. -/
def undoBackWrong : ChangeSpec := { name := "undoBack", fn := fun _ => fun
  | [d1, d2] => { results := [.lit (.bool false)], args := [d1, d2] }
  | _ => none }
def UndoBackWrongFalsely : Prop := undoBackRow.holds Tryd.pinned (OpenSpec.ofChange undoBackWrong)

/-- 'henkanlaw40.UndoTexts': WHATEVER THE INPUT: true; the input reads as it did. -/
def undoTextsSpec : ChangeSpec := { name := "undoTexts", fn := fun _ => fun
  | [d1, d2] => { results := [.lit (.bool true)], args := [d1, d2] }
  | _ => none }
def undoTextsRow : OpenClaim := { program := "ytebjfigjfhghcaadoor", sum := "209d8f6a856193044d79f66831a9f04c931594528788f6adcedb1c4c0f980f56", func := "henkan/henkanlaw40.UndoTexts", spec := "undoTexts", inPlace := ["internal/abi.NoEscape", "internal/bytealg.MakeNoZero"], unfollowed := true, recurses := true, named := ["unicode/utf8.first", "unicode/utf8.acceptRanges"], apart := false, laid := [("unicode/utf8.acceptRanges", laid_unicode_utf8_acceptRanges), ("unicode/utf8.first", laid_unicode_utf8_first)] }
def UndoTextsSaid : Prop := undoTextsRow.holds Tryd.pinned (OpenSpec.ofChange undoTextsSpec)

/-- ITS FALSE NEIGHBOUR: 'it returns false'. Refute it at one input. -/
def undoTextsWrong : ChangeSpec := { name := "undoTexts", fn := fun _ => fun
  | [d1, d2] => { results := [.lit (.bool false)], args := [d1, d2] }
  | _ => none }
def UndoTextsWrongFalsely : Prop := undoTextsRow.holds Tryd.pinned (OpenSpec.ofChange undoTextsWrong)

/-- 'henkanlaw40.UndoKnown': WHATEVER THE INPUT: true; the input reads as it did. -/
def undoKnownSpec : ChangeSpec := { name := "undoKnown", fn := fun _ => fun
  | [] => { results := [.lit (.bool true)], args := [] }
  | _ => none }
def undoKnownRow : OpenClaim := { program := "ytebjfigjfhghcaadoor", sum := "209d8f6a856193044d79f66831a9f04c931594528788f6adcedb1c4c0f980f56", func := "henkan/henkanlaw40.UndoKnown", spec := "undoKnown", inPlace := ["internal/abi.NoEscape", "internal/bytealg.MakeNoZero"], unfollowed := true, recurses := true, named := ["unicode/utf8.first", "unicode/utf8.acceptRanges"], apart := false, laid := [("unicode/utf8.acceptRanges", laid_unicode_utf8_acceptRanges), ("unicode/utf8.first", laid_unicode_utf8_first)] }
def UndoKnownSaid : Prop := undoKnownRow.holds Tryd.pinned (OpenSpec.ofChange undoKnownSpec)

/-- ITS FALSE NEIGHBOUR: 'it returns false'. Refute it at one input. -/
def undoKnownWrong : ChangeSpec := { name := "undoKnown", fn := fun _ => fun
  | [] => { results := [.lit (.bool false)], args := [] }
  | _ => none }
def UndoKnownWrongFalsely : Prop := undoKnownRow.holds Tryd.pinned (OpenSpec.ofChange undoKnownWrong)

/- THE SECOND FORM. 'bulk': how many values and letters a reading holds, each counted each time it is reached (what is shared counts as often as it is met; a slice's spare places count too). A statement '..UptoSaid' is the law's where the arguments, and the package variables that the reading takes, are together of bulk at most 1048576: NARROWER than '..Said'. Prove '..Said' where nothing that the law and all that it calls make is longer than what came in: it says more and counts as full. Else prove '..UptoSaid'. A law counts once. -/
mutual
def uptoBulk {H : Type} : DataW H → Nat
  | .lit (.string bytes) => bytes.length + 1
  | .lit _ => 1
  | .nil => 1
  | .ptr d => uptoBulk d + 1
  | .slice elems spare => uptoBulkAll elems + uptoBulkAll spare + 1
  | .agg parts => uptoBulkAll parts + 1
  | .iface _ d => uptoBulk d + 1
  | .map entries => uptoBulkEntries entries + 1
  | .held _ => 1
def uptoBulkAll {H : Type} : List (DataW H) → Nat
  | [] => 0
  | d :: r => uptoBulk d + uptoBulkAll r
def uptoBulkEntries {H : Type} : List (Lit × DataW H) → Nat
  | [] => 0
  | x :: r => uptoBulkEntry x + uptoBulkEntries r
def uptoBulkEntry {H : Type} : Lit × DataW H → Nat
  | (.string bytes, d) => bytes.length + uptoBulk d + 1
  | (_, d) => uptoBulk d + 1
 end
def uptoSmall : (H : Type) → List (DataW H) → Bool := fun _ ds => decide (uptoBulkAll ds ≤ 1048576)
def OpenSpec.upto (s : _root_.Go.ChangeSpec) : _root_.Go.OpenSpec := { _root_.Go.OpenSpec.ofChange s with cond := some uptoSmall }

/-- 'henkanlaw40.UndoChecks', WHERE WHAT IT READS IS OF BULK AT MOST 1048576: true; the input reads as it did. -/
def undoChecksUptoRow : OpenClaim := { program := "ytebjfigjfhghcaadoor", sum := "209d8f6a856193044d79f66831a9f04c931594528788f6adcedb1c4c0f980f56", func := "henkan/henkanlaw40.UndoChecks", spec := "undoChecks", inPlace := ["internal/abi.NoEscape", "internal/bytealg.MakeNoZero"], unfollowed := true, recurses := true, named := ["unicode/utf8.first", "unicode/utf8.acceptRanges"], apart := false, laid := [("unicode/utf8.acceptRanges", laid_unicode_utf8_acceptRanges), ("unicode/utf8.first", laid_unicode_utf8_first)], narrowed := true }
def UndoChecksUptoSaid : Prop := undoChecksUptoRow.holds Tryd.pinned (OpenSpec.upto undoChecksSpec)

/-- 'henkanlaw40.UndoPushes', WHERE WHAT IT READS IS OF BULK AT MOST 1048576: true; the input reads as it did. -/
def undoPushesUptoRow : OpenClaim := { program := "ytebjfigjfhghcaadoor", sum := "209d8f6a856193044d79f66831a9f04c931594528788f6adcedb1c4c0f980f56", func := "henkan/henkanlaw40.UndoPushes", spec := "undoPushes", inPlace := ["internal/abi.NoEscape", "internal/bytealg.MakeNoZero"], unfollowed := true, recurses := true, named := ["unicode/utf8.first", "unicode/utf8.acceptRanges"], apart := false, laid := [("unicode/utf8.acceptRanges", laid_unicode_utf8_acceptRanges), ("unicode/utf8.first", laid_unicode_utf8_first)], narrowed := true }
def UndoPushesUptoSaid : Prop := undoPushesUptoRow.holds Tryd.pinned (OpenSpec.upto undoPushesSpec)

/-- 'henkanlaw40.UndoPops', WHERE WHAT IT READS IS OF BULK AT MOST 1048576: true; the input reads as it did. -/
def undoPopsUptoRow : OpenClaim := { program := "ytebjfigjfhghcaadoor", sum := "209d8f6a856193044d79f66831a9f04c931594528788f6adcedb1c4c0f980f56", func := "henkan/henkanlaw40.UndoPops", spec := "undoPops", inPlace := ["internal/abi.NoEscape", "internal/bytealg.MakeNoZero"], unfollowed := true, recurses := true, named := ["unicode/utf8.first", "unicode/utf8.acceptRanges"], apart := false, laid := [("unicode/utf8.acceptRanges", laid_unicode_utf8_acceptRanges), ("unicode/utf8.first", laid_unicode_utf8_first)], narrowed := true }
def UndoPopsUptoSaid : Prop := undoPopsUptoRow.holds Tryd.pinned (OpenSpec.upto undoPopsSpec)

/-- 'henkanlaw40.UndoApplies', WHERE WHAT IT READS IS OF BULK AT MOST 1048576: true; the input reads as it did. -/
def undoAppliesUptoRow : OpenClaim := { program := "ytebjfigjfhghcaadoor", sum := "209d8f6a856193044d79f66831a9f04c931594528788f6adcedb1c4c0f980f56", func := "henkan/henkanlaw40.UndoApplies", spec := "undoApplies", inPlace := ["internal/abi.NoEscape", "internal/bytealg.MakeNoZero"], unfollowed := true, recurses := true, named := ["unicode/utf8.first", "unicode/utf8.acceptRanges"], apart := false, laid := [("unicode/utf8.acceptRanges", laid_unicode_utf8_acceptRanges), ("unicode/utf8.first", laid_unicode_utf8_first)], narrowed := true }
def UndoAppliesUptoSaid : Prop := undoAppliesUptoRow.holds Tryd.pinned (OpenSpec.upto undoAppliesSpec)

/-- 'henkanlaw40.UndoBack', WHERE WHAT IT READS IS OF BULK AT MOST 1048576: true; the input reads as it did. -/
def undoBackUptoRow : OpenClaim := { program := "ytebjfigjfhghcaadoor", sum := "209d8f6a856193044d79f66831a9f04c931594528788f6adcedb1c4c0f980f56", func := "henkan/henkanlaw40.UndoBack", spec := "undoBack", inPlace := ["internal/abi.NoEscape", "internal/bytealg.MakeNoZero"], unfollowed := true, recurses := true, named := ["unicode/utf8.first", "unicode/utf8.acceptRanges"], apart := false, laid := [("unicode/utf8.acceptRanges", laid_unicode_utf8_acceptRanges), ("unicode/utf8.first", laid_unicode_utf8_first)], narrowed := true }
def UndoBackUptoSaid : Prop := undoBackUptoRow.holds Tryd.pinned (OpenSpec.upto undoBackSpec)

/-- 'henkanlaw40.UndoTexts', WHERE WHAT IT READS IS OF BULK AT MOST 1048576: true; the input reads as it did. -/
def undoTextsUptoRow : OpenClaim := { program := "ytebjfigjfhghcaadoor", sum := "209d8f6a856193044d79f66831a9f04c931594528788f6adcedb1c4c0f980f56", func := "henkan/henkanlaw40.UndoTexts", spec := "undoTexts", inPlace := ["internal/abi.NoEscape", "internal/bytealg.MakeNoZero"], unfollowed := true, recurses := true, named := ["unicode/utf8.first", "unicode/utf8.acceptRanges"], apart := false, laid := [("unicode/utf8.acceptRanges", laid_unicode_utf8_acceptRanges), ("unicode/utf8.first", laid_unicode_utf8_first)], narrowed := true }
def UndoTextsUptoSaid : Prop := undoTextsUptoRow.holds Tryd.pinned (OpenSpec.upto undoTextsSpec)

/-- 'henkanlaw40.UndoKnown', WHERE WHAT IT READS IS OF BULK AT MOST 1048576: true; the input reads as it did. -/
def undoKnownUptoRow : OpenClaim := { program := "ytebjfigjfhghcaadoor", sum := "209d8f6a856193044d79f66831a9f04c931594528788f6adcedb1c4c0f980f56", func := "henkan/henkanlaw40.UndoKnown", spec := "undoKnown", inPlace := ["internal/abi.NoEscape", "internal/bytealg.MakeNoZero"], unfollowed := true, recurses := true, named := ["unicode/utf8.first", "unicode/utf8.acceptRanges"], apart := false, laid := [("unicode/utf8.acceptRanges", laid_unicode_utf8_acceptRanges), ("unicode/utf8.first", laid_unicode_utf8_first)], narrowed := true }
def UndoKnownUptoSaid : Prop := undoKnownUptoRow.holds Tryd.pinned (OpenSpec.upto undoKnownSpec)

end Rows
end Go.Proofs.YtebjfigjfhghcaaDoor
