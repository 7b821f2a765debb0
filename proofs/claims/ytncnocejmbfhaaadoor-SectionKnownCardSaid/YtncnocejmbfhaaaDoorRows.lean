/-
  NARROWER THAN 'FOR EVERY INPUT', by the rows' own cells (each row's printed sentence says how): SectionJoins: laid · SectionSplits: laid · SectionFinds: laid · SectionBack: laid · SectionGuards: laid · SectionEnds: laid · SectionLimits: laid · SectionKnown: laid.
  DERIVED. THE GIVEN ROWS OF THIS SEAT. 8 by the template 'for every input the law returns true; each argument reads behind the call as it read before'; 0 by the template 'total and deterministic' (their statements: YtncnocejmbfhaaaDoorTotals.lean).
  GIVEN WITH THE SEED: the statements are not yours to turn. If you find one false, say at which input.
  Laid BY PROGRAM, IN A SANDBOX (cutbox-rows.mjs): the forced cells as the released guide's own fill.sh prints them over the translation f207a560e3543db6… (all of the seat's roots in one cut). By AI agents, Wed Nov 11 2026. No macro, syntax, notation, axiom, sorry.
-/
import Derived.Test.YtncnocejmbfhaaaDoorChecked
import GoSem.Claim
import GoSem.ClaimJoined
import GoSem.ClaimMapViews
import Derived.JoinedTies
import Derived.KernelRfl
namespace Go.Proofs.YtncnocejmbfhaaaDoor
/- THE CELL 'sum', in the pinned program and in every row, IS THE sha256 OF THE DUMP (.gsa) THAT YtncnocejmbfhaaaDoorProg.lean LOADS. Nothing in Lean hashes anything: it is a label: what it is worth is what the hold of that sum in a sandbox is worth. -/
noncomputable def Tryd.pinned : Pinned := { name := "ytncnocejmbfhaaadoor", sum := "f207a560e3543db6e35bcea9ea37cf49165d3ee8a24c12fc4c58e897ef3557f0", checked := Tryd.checked }
namespace Rows
def none {H : Type} : Left H := { results := [], args := [] }

/- WHAT THE LISTED PACKAGE-LEVEL VARIABLES READ AS WHEN THE CALL BEGINS. Each datum BY PROGRAM (the guide's laid-datum.mjs) off the statement by which the dump's own 'gosem.cut.vars' lays the variable. In a bare row this is a premise. The card (YtncnocejmbfhaaaDoorCards.lean) ties it to the program's text. -/
def laid_henkan_crc_quarter {H : Type} : DataW H := .agg [.lit (.int .u32 0), .lit (.int .u32 498536548), .lit (.int .u32 997073096), .lit (.int .u32 651767980), .lit (.int .u32 1994146192), .lit (.int .u32 1802195444), .lit (.int .u32 1303535960), .lit (.int .u32 1342533948), .lit (.int .u32 3988292384), .lit (.int .u32 4027552580), .lit (.int .u32 3604390888), .lit (.int .u32 3412177804), .lit (.int .u32 2607071920), .lit (.int .u32 2262029012), .lit (.int .u32 2685067896), .lit (.int .u32 3183342108)]

/-- 'henkanlaw14.SectionJoins': WHATEVER THE INPUT: true; the input reads as it did. -/
def sectionJoinsSpec : ChangeSpec := { name := "sectionJoins", fn := fun _ => fun
  | [d] => { results := [.lit (.bool true)], args := [d] }
  | _ => none }
def sectionJoinsRow : OpenClaim := { program := "ytncnocejmbfhaaadoor", sum := "f207a560e3543db6e35bcea9ea37cf49165d3ee8a24c12fc4c58e897ef3557f0", func := "henkan/henkanlaw14.SectionJoins", spec := "sectionJoins", unfollowed := true, recurses := true, named := ["henkan/crc.quarter"], apart := false, laid := [("henkan/crc.quarter", laid_henkan_crc_quarter)] }
def SectionJoinsSaid : Prop := sectionJoinsRow.holds Tryd.pinned (OpenSpec.ofChange sectionJoinsSpec)

/-- ITS FALSE NEIGHBOUR: 'it returns false'. Refute it at one input. -/
def sectionJoinsWrong : ChangeSpec := { name := "sectionJoins", fn := fun _ => fun
  | [d] => { results := [.lit (.bool false)], args := [d] }
  | _ => none }
def SectionJoinsWrongFalsely : Prop := sectionJoinsRow.holds Tryd.pinned (OpenSpec.ofChange sectionJoinsWrong)

/-- 'henkanlaw14.SectionSplits': WHATEVER THE INPUT: true; the input reads as it did. -/
def sectionSplitsSpec : ChangeSpec := { name := "sectionSplits", fn := fun _ => fun
  | [d] => { results := [.lit (.bool true)], args := [d] }
  | _ => none }
def sectionSplitsRow : OpenClaim := { program := "ytncnocejmbfhaaadoor", sum := "f207a560e3543db6e35bcea9ea37cf49165d3ee8a24c12fc4c58e897ef3557f0", func := "henkan/henkanlaw14.SectionSplits", spec := "sectionSplits", unfollowed := true, recurses := true, named := ["henkan/crc.quarter"], apart := false, laid := [("henkan/crc.quarter", laid_henkan_crc_quarter)] }
def SectionSplitsSaid : Prop := sectionSplitsRow.holds Tryd.pinned (OpenSpec.ofChange sectionSplitsSpec)

/-- ITS FALSE NEIGHBOUR: 'it returns false'. Refute it at one input. -/
def sectionSplitsWrong : ChangeSpec := { name := "sectionSplits", fn := fun _ => fun
  | [d] => { results := [.lit (.bool false)], args := [d] }
  | _ => none }
def SectionSplitsWrongFalsely : Prop := sectionSplitsRow.holds Tryd.pinned (OpenSpec.ofChange sectionSplitsWrong)

/-- 'henkanlaw14.SectionFinds': WHATEVER THE INPUT: true; the input reads as it did. -/
def sectionFindsSpec : ChangeSpec := { name := "sectionFinds", fn := fun _ => fun
  | [d1, d2] => { results := [.lit (.bool true)], args := [d1, d2] }
  | _ => none }
def sectionFindsRow : OpenClaim := { program := "ytncnocejmbfhaaadoor", sum := "f207a560e3543db6e35bcea9ea37cf49165d3ee8a24c12fc4c58e897ef3557f0", func := "henkan/henkanlaw14.SectionFinds", spec := "sectionFinds", unfollowed := true, recurses := true, named := ["henkan/crc.quarter"], apart := false, laid := [("henkan/crc.quarter", laid_henkan_crc_quarter)] }
def SectionFindsSaid : Prop := sectionFindsRow.holds Tryd.pinned (OpenSpec.ofChange sectionFindsSpec)

/-- ITS FALSE NEIGHBOUR: 'it returns false'. Refute it at one input. -/
def sectionFindsWrong : ChangeSpec := { name := "sectionFinds", fn := fun _ => fun
  | [d1, d2] => { results := [.lit (.bool false)], args := [d1, d2] }
  | _ => none }
def SectionFindsWrongFalsely : Prop := sectionFindsRow.holds Tryd.pinned (OpenSpec.ofChange sectionFindsWrong)

/-- 'henkanlaw14.SectionBack': WHATEVER THE INPUT: true; the input reads as it did. -/
def sectionBackSpec : ChangeSpec := { name := "sectionBack", fn := fun _ => fun
  | [d] => { results := [.lit (.bool true)], args := [d] }
  | _ => none }
def sectionBackRow : OpenClaim := { program := "ytncnocejmbfhaaadoor", sum := "f207a560e3543db6e35bcea9ea37cf49165d3ee8a24c12fc4c58e897ef3557f0", func := "henkan/henkanlaw14.SectionBack", spec := "sectionBack", unfollowed := true, recurses := true, named := ["henkan/crc.quarter"], apart := false, laid := [("henkan/crc.quarter", laid_henkan_crc_quarter)] }
def SectionBackSaid : Prop := sectionBackRow.holds Tryd.pinned (OpenSpec.ofChange sectionBackSpec)

/-- ITS FALSE NEIGHBOUR: 'it returns false'. Refute it at one input. -/
def sectionBackWrong : ChangeSpec := { name := "sectionBack", fn := fun _ => fun
  | [d] => { results := [.lit (.bool false)], args := [d] }
  | _ => none }
def SectionBackWrongFalsely : Prop := sectionBackRow.holds Tryd.pinned (OpenSpec.ofChange sectionBackWrong)

/-- 'henkanlaw14.SectionGuards': WHATEVER THE INPUT: true; the input reads as it did. -/
def sectionGuardsSpec : ChangeSpec := { name := "sectionGuards", fn := fun _ => fun
  | [d1, d2, d3] => { results := [.lit (.bool true)], args := [d1, d2, d3] }
  | _ => none }
def sectionGuardsRow : OpenClaim := { program := "ytncnocejmbfhaaadoor", sum := "f207a560e3543db6e35bcea9ea37cf49165d3ee8a24c12fc4c58e897ef3557f0", func := "henkan/henkanlaw14.SectionGuards", spec := "sectionGuards", unfollowed := true, recurses := true, named := ["henkan/crc.quarter"], apart := false, laid := [("henkan/crc.quarter", laid_henkan_crc_quarter)] }
def SectionGuardsSaid : Prop := sectionGuardsRow.holds Tryd.pinned (OpenSpec.ofChange sectionGuardsSpec)

/-- ITS FALSE NEIGHBOUR: 'it returns false'. Refute it at one input. -/
def sectionGuardsWrong : ChangeSpec := { name := "sectionGuards", fn := fun _ => fun
  | [d1, d2, d3] => { results := [.lit (.bool false)], args := [d1, d2, d3] }
  | _ => none }
def SectionGuardsWrongFalsely : Prop := sectionGuardsRow.holds Tryd.pinned (OpenSpec.ofChange sectionGuardsWrong)

/-- 'henkanlaw14.SectionEnds': WHATEVER THE INPUT: true; the input reads as it did. -/
def sectionEndsSpec : ChangeSpec := { name := "sectionEnds", fn := fun _ => fun
  | [d1, d2, d3] => { results := [.lit (.bool true)], args := [d1, d2, d3] }
  | _ => none }
def sectionEndsRow : OpenClaim := { program := "ytncnocejmbfhaaadoor", sum := "f207a560e3543db6e35bcea9ea37cf49165d3ee8a24c12fc4c58e897ef3557f0", func := "henkan/henkanlaw14.SectionEnds", spec := "sectionEnds", unfollowed := true, recurses := true, named := ["henkan/crc.quarter"], apart := false, laid := [("henkan/crc.quarter", laid_henkan_crc_quarter)] }
def SectionEndsSaid : Prop := sectionEndsRow.holds Tryd.pinned (OpenSpec.ofChange sectionEndsSpec)

/-- ITS FALSE NEIGHBOUR: 'it returns false'. Refute it at one input. -/
def sectionEndsWrong : ChangeSpec := { name := "sectionEnds", fn := fun _ => fun
  | [d1, d2, d3] => { results := [.lit (.bool false)], args := [d1, d2, d3] }
  | _ => none }
def SectionEndsWrongFalsely : Prop := sectionEndsRow.holds Tryd.pinned (OpenSpec.ofChange sectionEndsWrong)

/-- 'henkanlaw14.SectionLimits': WHATEVER THE INPUT: true; the input reads as it did. -/
def sectionLimitsSpec : ChangeSpec := { name := "sectionLimits", fn := fun _ => fun
  | [] => { results := [.lit (.bool true)], args := [] }
  | _ => none }
def sectionLimitsRow : OpenClaim := { program := "ytncnocejmbfhaaadoor", sum := "f207a560e3543db6e35bcea9ea37cf49165d3ee8a24c12fc4c58e897ef3557f0", func := "henkan/henkanlaw14.SectionLimits", spec := "sectionLimits", unfollowed := true, recurses := true, named := ["henkan/crc.quarter"], apart := false, laid := [("henkan/crc.quarter", laid_henkan_crc_quarter)] }
def SectionLimitsSaid : Prop := sectionLimitsRow.holds Tryd.pinned (OpenSpec.ofChange sectionLimitsSpec)

/-- ITS FALSE NEIGHBOUR: 'it returns false'. Refute it at one input. -/
def sectionLimitsWrong : ChangeSpec := { name := "sectionLimits", fn := fun _ => fun
  | [] => { results := [.lit (.bool false)], args := [] }
  | _ => none }
def SectionLimitsWrongFalsely : Prop := sectionLimitsRow.holds Tryd.pinned (OpenSpec.ofChange sectionLimitsWrong)

/-- 'henkanlaw14.SectionKnown': WHATEVER THE INPUT: true; the input reads as it did. -/
def sectionKnownSpec : ChangeSpec := { name := "sectionKnown", fn := fun _ => fun
  | [] => { results := [.lit (.bool true)], args := [] }
  | _ => none }
def sectionKnownRow : OpenClaim := { program := "ytncnocejmbfhaaadoor", sum := "f207a560e3543db6e35bcea9ea37cf49165d3ee8a24c12fc4c58e897ef3557f0", func := "henkan/henkanlaw14.SectionKnown", spec := "sectionKnown", unfollowed := true, recurses := true, named := ["henkan/crc.quarter"], apart := false, laid := [("henkan/crc.quarter", laid_henkan_crc_quarter)] }
def SectionKnownSaid : Prop := sectionKnownRow.holds Tryd.pinned (OpenSpec.ofChange sectionKnownSpec)

/-- ITS FALSE NEIGHBOUR: 'it returns false'. Refute it at one input. -/
def sectionKnownWrong : ChangeSpec := { name := "sectionKnown", fn := fun _ => fun
  | [] => { results := [.lit (.bool false)], args := [] }
  | _ => none }
def SectionKnownWrongFalsely : Prop := sectionKnownRow.holds Tryd.pinned (OpenSpec.ofChange sectionKnownWrong)

/- THE SECOND FORM. 'bulk': how many values and letters a reading holds, each counted each time it is reached (what is shared counts as often as it is met; a slice's spare places count too). A statement '..UptoSaid' is the law's where the arguments, and the package variables that the reading takes, are together of bulk at most 1048576: NARROWER than '..Said'. Prove '..Said' where nothing that the law and all that it calls make is longer than what came in: it says more and counts as full. Else prove '..UptoSaid'. A law counts once. -/
mutual
def uptoBulk {H : Type} : DataW H → Nat
  | .lit (.string bytes) => bytes.length + 1
  | .lit _ => 1
  | .nil => 1
  | .ptr d => uptoBulk d + 1
  | .slice elems spare => uptoBulkAll elems + uptoBulkAll spare + 1
  | .agg parts => uptoBulkAll parts + 1
  | .iface _ d => uptoBulk d + 1
  | .map entries => uptoBulkEntries entries + 1
  | .held _ => 1
def uptoBulkAll {H : Type} : List (DataW H) → Nat
  | [] => 0
  | d :: r => uptoBulk d + uptoBulkAll r
def uptoBulkEntries {H : Type} : List (Lit × DataW H) → Nat
  | [] => 0
  | x :: r => uptoBulkEntry x + uptoBulkEntries r
def uptoBulkEntry {H : Type} : Lit × DataW H → Nat
  | (.string bytes, d) => bytes.length + uptoBulk d + 1
  | (_, d) => uptoBulk d + 1
 end
def uptoSmall : (H : Type) → List (DataW H) → Bool := fun _ ds => decide (uptoBulkAll ds ≤ 1048576)
def OpenSpec.upto (s : _root_.Go.ChangeSpec) : _root_.Go.OpenSpec := { _root_.Go.OpenSpec.ofChange s with cond := some uptoSmall }

/-- 'henkanlaw14.SectionJoins', WHERE WHAT IT READS IS OF BULK AT MOST 1048576: true; the input reads as it did. -/
def sectionJoinsUptoRow : OpenClaim := { program := "ytncnocejmbfhaaadoor", sum := "f207a560e3543db6e35bcea9ea37cf49165d3ee8a24c12fc4c58e897ef3557f0", func := "henkan/henkanlaw14.SectionJoins", spec := "sectionJoins", unfollowed := true, recurses := true, named := ["henkan/crc.quarter"], apart := false, laid := [("henkan/crc.quarter", laid_henkan_crc_quarter)], narrowed := true }
def SectionJoinsUptoSaid : Prop := sectionJoinsUptoRow.holds Tryd.pinned (OpenSpec.upto sectionJoinsSpec)

/-- 'henkanlaw14.SectionSplits', WHERE WHAT IT READS IS OF BULK AT MOST 1048576: true; the input reads as it did. -/
def sectionSplitsUptoRow : OpenClaim := { program := "ytncnocejmbfhaaadoor", sum := "f207a560e3543db6e35bcea9ea37cf49165d3ee8a24c12fc4c58e897ef3557f0", func := "henkan/henkanlaw14.SectionSplits", spec := "sectionSplits", unfollowed := true, recurses := true, named := ["henkan/crc.quarter"], apart := false, laid := [("henkan/crc.quarter", laid_henkan_crc_quarter)], narrowed := true }
def SectionSplitsUptoSaid : Prop := sectionSplitsUptoRow.holds Tryd.pinned (OpenSpec.upto sectionSplitsSpec)

/-- 'henkanlaw14.SectionFinds', WHERE WHAT IT READS IS OF BULK AT MOST 1048576: true; the input reads as it did. -/
def sectionFindsUptoRow : OpenClaim := { program := "ytncnocejmbfhaaadoor", sum := "f207a560e3543db6e35bcea9ea37cf49165d3ee8a24c12fc4c58e897ef3557f0", func := "henkan/henkanlaw14.SectionFinds", spec := "sectionFinds", unfollowed := true, recurses := true, named := ["henkan/crc.quarter"], apart := false, laid := [("henkan/crc.quarter", laid_henkan_crc_quarter)], narrowed := true }
def SectionFindsUptoSaid : Prop := sectionFindsUptoRow.holds Tryd.pinned (OpenSpec.upto sectionFindsSpec)

/-- 'henkanlaw14.SectionBack', WHERE WHAT IT READS IS OF BULK AT MOST 1048576: true; the input reads as it did. -/
def sectionBackUptoRow : OpenClaim := { program := "ytncnocejmbfhaaadoor", sum := "f207a560e3543db6e35bcea9ea37cf49165d3ee8a24c12fc4c58e897ef3557f0", func := "henkan/henkanlaw14.SectionBack", spec := "sectionBack", unfollowed := true, recurses := true, named := ["henkan/crc.quarter"], apart := false, laid := [("henkan/crc.quarter", laid_henkan_crc_quarter)], narrowed := true }
def SectionBackUptoSaid : Prop := sectionBackUptoRow.holds Tryd.pinned (OpenSpec.upto sectionBackSpec)

/-- 'henkanlaw14.SectionGuards', WHERE WHAT IT READS IS OF BULK AT MOST 1048576: true; the input reads as it did. -/
def sectionGuardsUptoRow : OpenClaim := { program := "ytncnocejmbfhaaadoor", sum := "f207a560e3543db6e35bcea9ea37cf49165d3ee8a24c12fc4c58e897ef3557f0", func := "henkan/henkanlaw14.SectionGuards", spec := "sectionGuards", unfollowed := true, recurses := true, named := ["henkan/crc.quarter"], apart := false, laid := [("henkan/crc.quarter", laid_henkan_crc_quarter)], narrowed := true }
def SectionGuardsUptoSaid : Prop := sectionGuardsUptoRow.holds Tryd.pinned (OpenSpec.upto sectionGuardsSpec)

/-- 'henkanlaw14.SectionEnds', WHERE WHAT IT READS IS OF BULK AT MOST 1048576: true; the input reads as it did. -/
def sectionEndsUptoRow : OpenClaim := { program := "ytncnocejmbfhaaadoor", sum := "f207a560e3543db6e35bcea9ea37cf49165d3ee8a24c12fc4c58e897ef3557f0", func := "henkan/henkanlaw14.SectionEnds", spec := "sectionEnds", unfollowed := true, recurses := true, named := ["henkan/crc.quarter"], apart := false, laid := [("henkan/crc.quarter", laid_henkan_crc_quarter)], narrowed := true }
def SectionEndsUptoSaid : Prop := sectionEndsUptoRow.holds Tryd.pinned (OpenSpec.upto sectionEndsSpec)

/-- 'henkanlaw14.SectionLimits', WHERE WHAT IT READS IS OF BULK AT MOST 1048576: true; the input reads as it did. -/
def sectionLimitsUptoRow : OpenClaim := { program := "ytncnocejmbfhaaadoor", sum := "f207a560e3543db6e35bcea9ea37cf49165d3ee8a24c12fc4c58e897ef3557f0", func := "henkan/henkanlaw14.SectionLimits", spec := "sectionLimits", unfollowed := true, recurses := true, named := ["henkan/crc.quarter"], apart := false, laid := [("henkan/crc.quarter", laid_henkan_crc_quarter)], narrowed := true }
def SectionLimitsUptoSaid : Prop := sectionLimitsUptoRow.holds Tryd.pinned (OpenSpec.upto sectionLimitsSpec)

/-- 'henkanlaw14.SectionKnown', WHERE WHAT IT READS IS OF BULK AT MOST 1048576: true; the input reads as it did. -/
def sectionKnownUptoRow : OpenClaim := { program := "ytncnocejmbfhaaadoor", sum := "f207a560e3543db6e35bcea9ea37cf49165d3ee8a24c12fc4c58e897ef3557f0", func := "henkan/henkanlaw14.SectionKnown", spec := "sectionKnown", unfollowed := true, recurses := true, named := ["henkan/crc.quarter"], apart := false, laid := [("henkan/crc.quarter", laid_henkan_crc_quarter)], narrowed := true }
def SectionKnownUptoSaid : Prop := sectionKnownUptoRow.holds Tryd.pinned (OpenSpec.upto sectionKnownSpec)

end Rows
end Go.Proofs.YtncnocejmbfhaaaDoor
