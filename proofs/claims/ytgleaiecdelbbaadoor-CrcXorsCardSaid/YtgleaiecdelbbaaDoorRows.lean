/-
  NARROWER THAN 'FOR EVERY INPUT', by the rows' own cells (each row's printed sentence says how): CrcSums: laid · CrcJoins: laid · CrcConcats: laid · CrcGroups: laid · CrcBursts: laid · CrcXors: laid · CrcEnds: laid · CrcKnown: laid.
  DERIVED. THE GIVEN ROWS OF THIS SEAT. 8 by the template 'for every input the law returns true; each argument reads behind the call as it read before'; 0 by the template 'total and deterministic' (their statements: YtgleaiecdelbbaaDoorTotals.lean).
  GIVEN WITH THE SEED: the statements are not yours to turn. If you find one false, say at which input.
  Laid BY PROGRAM, IN A SANDBOX (cutbox-rows.mjs): the forced cells as the released guide's own fill.sh prints them over the translation 9be4e5404dcbdddb… (all of the seat's roots in one cut). By AI agents, Wed Nov 11 2026. No macro, syntax, notation, axiom, sorry.
-/
import Derived.Test.YtgleaiecdelbbaaDoorChecked
import GoSem.Claim
import GoSem.ClaimJoined
import GoSem.ClaimMapViews
import Derived.JoinedTies
import Derived.KernelRfl
namespace Go.Proofs.YtgleaiecdelbbaaDoor
/- THE CELL 'sum', in the pinned program and in every row, IS THE sha256 OF THE DUMP (.gsa) THAT YtgleaiecdelbbaaDoorProg.lean LOADS. Nothing in Lean hashes anything: it is a label: what it is worth is what the hold of that sum in a sandbox is worth. -/
noncomputable def Tryd.pinned : Pinned := { name := "ytgleaiecdelbbaadoor", sum := "9be4e5404dcbdddbe2b6d3a7a83075b0b22b2ee822ea28020cab97abcf21fd46", checked := Tryd.checked }
namespace Rows
def none {H : Type} : Left H := { results := [], args := [] }

/- WHAT THE LISTED PACKAGE-LEVEL VARIABLES READ AS WHEN THE CALL BEGINS. Each datum BY PROGRAM (the guide's laid-datum.mjs) off the statement by which the dump's own 'gosem.cut.vars' lays the variable. In a bare row this is a premise. The card (YtgleaiecdelbbaaDoorCards.lean) ties it to the program's text. -/
def laid_henkan_crc_quarter {H : Type} : DataW H := .agg [.lit (.int .u32 0), .lit (.int .u32 498536548), .lit (.int .u32 997073096), .lit (.int .u32 651767980), .lit (.int .u32 1994146192), .lit (.int .u32 1802195444), .lit (.int .u32 1303535960), .lit (.int .u32 1342533948), .lit (.int .u32 3988292384), .lit (.int .u32 4027552580), .lit (.int .u32 3604390888), .lit (.int .u32 3412177804), .lit (.int .u32 2607071920), .lit (.int .u32 2262029012), .lit (.int .u32 2685067896), .lit (.int .u32 3183342108)]

/-- 'henkanlaw13.CrcSums': WHATEVER THE INPUT: true; the input reads as it did. -/
def crcSumsSpec : ChangeSpec := { name := "crcSums", fn := fun _ => fun
  | [d1, d2] => { results := [.lit (.bool true)], args := [d1, d2] }
  | _ => none }
def crcSumsRow : OpenClaim := { program := "ytgleaiecdelbbaadoor", sum := "9be4e5404dcbdddbe2b6d3a7a83075b0b22b2ee822ea28020cab97abcf21fd46", func := "henkan/henkanlaw13.CrcSums", spec := "crcSums", named := ["henkan/crc.quarter"], apart := false, laid := [("henkan/crc.quarter", laid_henkan_crc_quarter)] }
def CrcSumsSaid : Prop := crcSumsRow.holds Tryd.pinned (OpenSpec.ofChange crcSumsSpec)

/-- ITS FALSE NEIGHBOUR: 'it returns false'. Refute it at one input. -/
def crcSumsWrong : ChangeSpec := { name := "crcSums", fn := fun _ => fun
  | [d1, d2] => { results := [.lit (.bool false)], args := [d1, d2] }
  | _ => none }
def CrcSumsWrongFalsely : Prop := crcSumsRow.holds Tryd.pinned (OpenSpec.ofChange crcSumsWrong)

/-- 'henkanlaw13.CrcJoins': WHATEVER THE INPUT: true; the input reads as it did. -/
def crcJoinsSpec : ChangeSpec := { name := "crcJoins", fn := fun _ => fun
  | [d1, d2, d3] => { results := [.lit (.bool true)], args := [d1, d2, d3] }
  | _ => none }
def crcJoinsRow : OpenClaim := { program := "ytgleaiecdelbbaadoor", sum := "9be4e5404dcbdddbe2b6d3a7a83075b0b22b2ee822ea28020cab97abcf21fd46", func := "henkan/henkanlaw13.CrcJoins", spec := "crcJoins", named := ["henkan/crc.quarter"], apart := false, laid := [("henkan/crc.quarter", laid_henkan_crc_quarter)] }
def CrcJoinsSaid : Prop := crcJoinsRow.holds Tryd.pinned (OpenSpec.ofChange crcJoinsSpec)

/-- ITS FALSE NEIGHBOUR: 'it returns false'. Refute it at one input. -/
def crcJoinsWrong : ChangeSpec := { name := "crcJoins", fn := fun _ => fun
  | [d1, d2, d3] => { results := [.lit (.bool false)], args := [d1, d2, d3] }
  | _ => none }
def CrcJoinsWrongFalsely : Prop := crcJoinsRow.holds Tryd.pinned (OpenSpec.ofChange crcJoinsWrong)

/-- 'henkanlaw13.CrcConcats': WHATEVER THE INPUT: true; the input reads as it did. -/
def crcConcatsSpec : ChangeSpec := { name := "crcConcats", fn := fun _ => fun
  | [d1, d2] => { results := [.lit (.bool true)], args := [d1, d2] }
  | _ => none }
def crcConcatsRow : OpenClaim := { program := "ytgleaiecdelbbaadoor", sum := "9be4e5404dcbdddbe2b6d3a7a83075b0b22b2ee822ea28020cab97abcf21fd46", func := "henkan/henkanlaw13.CrcConcats", spec := "crcConcats", named := ["henkan/crc.quarter"], apart := false, laid := [("henkan/crc.quarter", laid_henkan_crc_quarter)] }
def CrcConcatsSaid : Prop := crcConcatsRow.holds Tryd.pinned (OpenSpec.ofChange crcConcatsSpec)

/-- ITS FALSE NEIGHBOUR: 'it returns false'. Refute it at one input. -/
def crcConcatsWrong : ChangeSpec := { name := "crcConcats", fn := fun _ => fun
  | [d1, d2] => { results := [.lit (.bool false)], args := [d1, d2] }
  | _ => none }
def CrcConcatsWrongFalsely : Prop := crcConcatsRow.holds Tryd.pinned (OpenSpec.ofChange crcConcatsWrong)

/-- 'henkanlaw13.CrcGroups': WHATEVER THE INPUT: true; the input reads as it did. -/
def crcGroupsSpec : ChangeSpec := { name := "crcGroups", fn := fun _ => fun
  | [d] => { results := [.lit (.bool true)], args := [d] }
  | _ => none }
def crcGroupsRow : OpenClaim := { program := "ytgleaiecdelbbaadoor", sum := "9be4e5404dcbdddbe2b6d3a7a83075b0b22b2ee822ea28020cab97abcf21fd46", func := "henkan/henkanlaw13.CrcGroups", spec := "crcGroups", named := ["henkan/crc.quarter"], apart := false, laid := [("henkan/crc.quarter", laid_henkan_crc_quarter)] }
def CrcGroupsSaid : Prop := crcGroupsRow.holds Tryd.pinned (OpenSpec.ofChange crcGroupsSpec)

/-- ITS FALSE NEIGHBOUR: 'it returns false'. Refute it at one input. -/
def crcGroupsWrong : ChangeSpec := { name := "crcGroups", fn := fun _ => fun
  | [d] => { results := [.lit (.bool false)], args := [d] }
  | _ => none }
def CrcGroupsWrongFalsely : Prop := crcGroupsRow.holds Tryd.pinned (OpenSpec.ofChange crcGroupsWrong)

/-- 'henkanlaw13.CrcBursts': WHATEVER THE INPUT: true; the input reads as it did. -/
def crcBurstsSpec : ChangeSpec := { name := "crcBursts", fn := fun _ => fun
  | [d1, d2] => { results := [.lit (.bool true)], args := [d1, d2] }
  | _ => none }
def crcBurstsRow : OpenClaim := { program := "ytgleaiecdelbbaadoor", sum := "9be4e5404dcbdddbe2b6d3a7a83075b0b22b2ee822ea28020cab97abcf21fd46", func := "henkan/henkanlaw13.CrcBursts", spec := "crcBursts", named := ["henkan/crc.quarter"], apart := false, laid := [("henkan/crc.quarter", laid_henkan_crc_quarter)] }
def CrcBurstsSaid : Prop := crcBurstsRow.holds Tryd.pinned (OpenSpec.ofChange crcBurstsSpec)

/-- ITS FALSE NEIGHBOUR: 'it returns false'. Refute it at one input. -/
def crcBurstsWrong : ChangeSpec := { name := "crcBursts", fn := fun _ => fun
  | [d1, d2] => { results := [.lit (.bool false)], args := [d1, d2] }
  | _ => none }
def CrcBurstsWrongFalsely : Prop := crcBurstsRow.holds Tryd.pinned (OpenSpec.ofChange crcBurstsWrong)

/-- 'henkanlaw13.CrcXors': WHATEVER THE INPUT: true; the input reads as it did. -/
def crcXorsSpec : ChangeSpec := { name := "crcXors", fn := fun _ => fun
  | [d1, d2, d3] => { results := [.lit (.bool true)], args := [d1, d2, d3] }
  | _ => none }
def crcXorsRow : OpenClaim := { program := "ytgleaiecdelbbaadoor", sum := "9be4e5404dcbdddbe2b6d3a7a83075b0b22b2ee822ea28020cab97abcf21fd46", func := "henkan/henkanlaw13.CrcXors", spec := "crcXors", named := ["henkan/crc.quarter"], apart := false, laid := [("henkan/crc.quarter", laid_henkan_crc_quarter)] }
def CrcXorsSaid : Prop := crcXorsRow.holds Tryd.pinned (OpenSpec.ofChange crcXorsSpec)

/-- ITS FALSE NEIGHBOUR: 'it returns false'. Refute it at one input. -/
def crcXorsWrong : ChangeSpec := { name := "crcXors", fn := fun _ => fun
  | [d1, d2, d3] => { results := [.lit (.bool false)], args := [d1, d2, d3] }
  | _ => none }
def CrcXorsWrongFalsely : Prop := crcXorsRow.holds Tryd.pinned (OpenSpec.ofChange crcXorsWrong)

/-- 'henkanlaw13.CrcEnds': WHATEVER THE INPUT: true; the input reads as it did. -/
def crcEndsSpec : ChangeSpec := { name := "crcEnds", fn := fun _ => fun
  | [d1, d2, d3] => { results := [.lit (.bool true)], args := [d1, d2, d3] }
  | _ => none }
def crcEndsRow : OpenClaim := { program := "ytgleaiecdelbbaadoor", sum := "9be4e5404dcbdddbe2b6d3a7a83075b0b22b2ee822ea28020cab97abcf21fd46", func := "henkan/henkanlaw13.CrcEnds", spec := "crcEnds", named := ["henkan/crc.quarter"], apart := false, laid := [("henkan/crc.quarter", laid_henkan_crc_quarter)] }
def CrcEndsSaid : Prop := crcEndsRow.holds Tryd.pinned (OpenSpec.ofChange crcEndsSpec)

/-- ITS FALSE NEIGHBOUR: 'it returns false'. Refute it at one input. -/
def crcEndsWrong : ChangeSpec := { name := "crcEnds", fn := fun _ => fun
  | [d1, d2, d3] => { results := [.lit (.bool false)], args := [d1, d2, d3] }
  | _ => none }
def CrcEndsWrongFalsely : Prop := crcEndsRow.holds Tryd.pinned (OpenSpec.ofChange crcEndsWrong)

/-- 'henkanlaw13.CrcKnown': WHATEVER THE INPUT: true; the input reads as it did. -/
def crcKnownSpec : ChangeSpec := { name := "crcKnown", fn := fun _ => fun
  | [] => { results := [.lit (.bool true)], args := [] }
  | _ => none }
def crcKnownRow : OpenClaim := { program := "ytgleaiecdelbbaadoor", sum := "9be4e5404dcbdddbe2b6d3a7a83075b0b22b2ee822ea28020cab97abcf21fd46", func := "henkan/henkanlaw13.CrcKnown", spec := "crcKnown", named := ["henkan/crc.quarter"], apart := false, laid := [("henkan/crc.quarter", laid_henkan_crc_quarter)] }
def CrcKnownSaid : Prop := crcKnownRow.holds Tryd.pinned (OpenSpec.ofChange crcKnownSpec)

/-- ITS FALSE NEIGHBOUR: 'it returns false'. Refute it at one input. -/
def crcKnownWrong : ChangeSpec := { name := "crcKnown", fn := fun _ => fun
  | [] => { results := [.lit (.bool false)], args := [] }
  | _ => none }
def CrcKnownWrongFalsely : Prop := crcKnownRow.holds Tryd.pinned (OpenSpec.ofChange crcKnownWrong)

/- THE SECOND FORM. 'bulk': how many values and letters a reading holds, each counted each time it is reached (what is shared counts as often as it is met; a slice's spare places count too). A statement '..UptoSaid' is the law's where the arguments, and the package variables that the reading takes, are together of bulk at most 1048576: NARROWER than '..Said'. Prove '..Said' where nothing that the law and all that it calls make is longer than what came in: it says more and counts as full. Else prove '..UptoSaid'. A law counts once. -/
mutual
def uptoBulk {H : Type} : DataW H → Nat
  | .lit (.string bytes) => bytes.length + 1
  | .lit _ => 1
  | .nil => 1
  | .ptr d => uptoBulk d + 1
  | .slice elems spare => uptoBulkAll elems + uptoBulkAll spare + 1
  | .agg parts => uptoBulkAll parts + 1
  | .iface _ d => uptoBulk d + 1
  | .map entries => uptoBulkEntries entries + 1
  | .held _ => 1
def uptoBulkAll {H : Type} : List (DataW H) → Nat
  | [] => 0
  | d :: r => uptoBulk d + uptoBulkAll r
def uptoBulkEntries {H : Type} : List (Lit × DataW H) → Nat
  | [] => 0
  | x :: r => uptoBulkEntry x + uptoBulkEntries r
def uptoBulkEntry {H : Type} : Lit × DataW H → Nat
  | (.string bytes, d) => bytes.length + uptoBulk d + 1
  | (_, d) => uptoBulk d + 1
 end
def uptoSmall : (H : Type) → List (DataW H) → Bool := fun _ ds => decide (uptoBulkAll ds ≤ 1048576)
def OpenSpec.upto (s : _root_.Go.ChangeSpec) : _root_.Go.OpenSpec := { _root_.Go.OpenSpec.ofChange s with cond := some uptoSmall }

/-- 'henkanlaw13.CrcSums', WHERE WHAT IT READS IS OF BULK AT MOST 1048576: true; the input reads as it did. -/
def crcSumsUptoRow : OpenClaim := { program := "ytgleaiecdelbbaadoor", sum := "9be4e5404dcbdddbe2b6d3a7a83075b0b22b2ee822ea28020cab97abcf21fd46", func := "henkan/henkanlaw13.CrcSums", spec := "crcSums", named := ["henkan/crc.quarter"], apart := false, laid := [("henkan/crc.quarter", laid_henkan_crc_quarter)], narrowed := true }
def CrcSumsUptoSaid : Prop := crcSumsUptoRow.holds Tryd.pinned (OpenSpec.upto crcSumsSpec)

/-- 'henkanlaw13.CrcJoins', WHERE WHAT IT READS IS OF BULK AT MOST 1048576: true; the input reads as it did. -/
def crcJoinsUptoRow : OpenClaim := { program := "ytgleaiecdelbbaadoor", sum := "9be4e5404dcbdddbe2b6d3a7a83075b0b22b2ee822ea28020cab97abcf21fd46", func := "henkan/henkanlaw13.CrcJoins", spec := "crcJoins", named := ["henkan/crc.quarter"], apart := false, laid := [("henkan/crc.quarter", laid_henkan_crc_quarter)], narrowed := true }
def CrcJoinsUptoSaid : Prop := crcJoinsUptoRow.holds Tryd.pinned (OpenSpec.upto crcJoinsSpec)

/-- 'henkanlaw13.CrcConcats', WHERE WHAT IT READS IS OF BULK AT MOST 1048576: true; the input reads as it did. -/
def crcConcatsUptoRow : OpenClaim := { program := "ytgleaiecdelbbaadoor", sum := "9be4e5404dcbdddbe2b6d3a7a83075b0b22b2ee822ea28020cab97abcf21fd46", func := "henkan/henkanlaw13.CrcConcats", spec := "crcConcats", named := ["henkan/crc.quarter"], apart := false, laid := [("henkan/crc.quarter", laid_henkan_crc_quarter)], narrowed := true }
def CrcConcatsUptoSaid : Prop := crcConcatsUptoRow.holds Tryd.pinned (OpenSpec.upto crcConcatsSpec)

/-- 'henkanlaw13.CrcGroups', WHERE WHAT IT READS IS OF BULK AT MOST 1048576: true; the input reads as it did. -/
def crcGroupsUptoRow : OpenClaim := { program := "ytgleaiecdelbbaadoor", sum := "9be4e5404dcbdddbe2b6d3a7a83075b0b22b2ee822ea28020cab97abcf21fd46", func := "henkan/henkanlaw13.CrcGroups", spec := "crcGroups", named := ["henkan/crc.quarter"], apart := false, laid := [("henkan/crc.quarter", laid_henkan_crc_quarter)], narrowed := true }
def CrcGroupsUptoSaid : Prop := crcGroupsUptoRow.holds Tryd.pinned (OpenSpec.upto crcGroupsSpec)

/-- 'henkanlaw13.CrcBursts', WHERE WHAT IT READS IS OF BULK AT MOST 1048576: true; the input reads as it did. -/
def crcBurstsUptoRow : OpenClaim := { program := "ytgleaiecdelbbaadoor", sum := "9be4e5404dcbdddbe2b6d3a7a83075b0b22b2ee822ea28020cab97abcf21fd46", func := "henkan/henkanlaw13.CrcBursts", spec := "crcBursts", named := ["henkan/crc.quarter"], apart := false, laid := [("henkan/crc.quarter", laid_henkan_crc_quarter)], narrowed := true }
def CrcBurstsUptoSaid : Prop := crcBurstsUptoRow.holds Tryd.pinned (OpenSpec.upto crcBurstsSpec)

/-- 'henkanlaw13.CrcXors', WHERE WHAT IT READS IS OF BULK AT MOST 1048576: true; the input reads as it did. -/
def crcXorsUptoRow : OpenClaim := { program := "ytgleaiecdelbbaadoor", sum := "9be4e5404dcbdddbe2b6d3a7a83075b0b22b2ee822ea28020cab97abcf21fd46", func := "henkan/henkanlaw13.CrcXors", spec := "crcXors", named := ["henkan/crc.quarter"], apart := false, laid := [("henkan/crc.quarter", laid_henkan_crc_quarter)], narrowed := true }
def CrcXorsUptoSaid : Prop := crcXorsUptoRow.holds Tryd.pinned (OpenSpec.upto crcXorsSpec)

/-- 'henkanlaw13.CrcEnds', WHERE WHAT IT READS IS OF BULK AT MOST 1048576: true; the input reads as it did. -/
def crcEndsUptoRow : OpenClaim := { program := "ytgleaiecdelbbaadoor", sum := "9be4e5404dcbdddbe2b6d3a7a83075b0b22b2ee822ea28020cab97abcf21fd46", func := "henkan/henkanlaw13.CrcEnds", spec := "crcEnds", named := ["henkan/crc.quarter"], apart := false, laid := [("henkan/crc.quarter", laid_henkan_crc_quarter)], narrowed := true }
def CrcEndsUptoSaid : Prop := crcEndsUptoRow.holds Tryd.pinned (OpenSpec.upto crcEndsSpec)

/-- 'henkanlaw13.CrcKnown', WHERE WHAT IT READS IS OF BULK AT MOST 1048576: true; the input reads as it did. -/
def crcKnownUptoRow : OpenClaim := { program := "ytgleaiecdelbbaadoor", sum := "9be4e5404dcbdddbe2b6d3a7a83075b0b22b2ee822ea28020cab97abcf21fd46", func := "henkan/henkanlaw13.CrcKnown", spec := "crcKnown", named := ["henkan/crc.quarter"], apart := false, laid := [("henkan/crc.quarter", laid_henkan_crc_quarter)], narrowed := true }
def CrcKnownUptoSaid : Prop := crcKnownUptoRow.holds Tryd.pinned (OpenSpec.upto crcKnownSpec)

end Rows
end Go.Proofs.YtgleaiecdelbbaaDoor
