/-
  NARROWER THAN 'FOR EVERY INPUT', by the rows' own cells (each row's printed sentence says how): ProtocolBack: laid · ProtocolOne: laid · ProtocolRequests: laid · ProtocolReads: laid · ProtocolReplies: laid · ProtocolPieces: laid · ProtocolFrames: laid · ProtocolEnds: laid · ProtocolKnown: laid · ProtocolAnswers: laid.
  DERIVED. THE GIVEN ROWS OF THIS SEAT. 10 by the template 'for every input the law returns true; each argument reads behind the call as it read before'; 0 by the template 'total and deterministic' (their statements: YtkllfnaofapfnaaDoorTotals.lean).
  GIVEN WITH THE SEED: the statements are not yours to turn. If you find one false, say at which input.
  Laid BY PROGRAM, IN A SANDBOX (cutbox-rows.mjs): the forced cells as the released guide's own fill.sh prints them over the translation 3f2d1605f02fdd65… (all of the seat's roots in one cut). By AI agents, Wed Nov 11 2026. No macro, syntax, notation, axiom, sorry.
-/
import Derived.Test.YtkllfnaofapfnaaDoorChecked
import GoSem.PinnedTables
import GoSem.Claim
import GoSem.ClaimJoined
import GoSem.ClaimMapViews
import Derived.JoinedTies
import Derived.KernelRfl
namespace Go.Proofs.YtkllfnaofapfnaaDoor
/- THE CELL 'sum', in the pinned program and in every row, IS THE sha256 OF THE DUMP (.gsa) THAT YtkllfnaofapfnaaDoorProg.lean LOADS. Nothing in Lean hashes anything: it is a label: what it is worth is what the hold of that sum in a sandbox is worth. -/
noncomputable def Tryd.pinned : Pinned := { name := "ytkllfnaofapfnaadoor", sum := "3f2d1605f02fdd65e9897ae6bb8919d14b02dcd7f4943c6587b6b60985b36d77", checked := Tryd.checked }
namespace Rows
def none {H : Type} : Left H := { results := [], args := [] }

/- WHAT THE LISTED PACKAGE-LEVEL VARIABLES READ AS WHEN THE CALL BEGINS. Each datum BY PROGRAM (the guide's laid-datum.mjs) off the statement by which the dump's own 'gosem.cut.vars' lays the variable. In a bare row this is a premise. The card (YtkllfnaofapfnaaDoorCards.lean) ties it to the program's text. -/
def laid_unicode_utf8_acceptRanges {H : Type} : DataW H := .agg [.agg [.lit (.int .u8 128), .lit (.int .u8 191)], .agg [.lit (.int .u8 160), .lit (.int .u8 191)], .agg [.lit (.int .u8 128), .lit (.int .u8 159)], .agg [.lit (.int .u8 144), .lit (.int .u8 191)], .agg [.lit (.int .u8 128), .lit (.int .u8 143)], .agg [.lit (.int .u8 0), .lit (.int .u8 0)], .agg [.lit (.int .u8 0), .lit (.int .u8 0)], .agg [.lit (.int .u8 0), .lit (.int .u8 0)], .agg [.lit (.int .u8 0), .lit (.int .u8 0)], .agg [.lit (.int .u8 0), .lit (.int .u8 0)], .agg [.lit (.int .u8 0), .lit (.int .u8 0)], .agg [.lit (.int .u8 0), .lit (.int .u8 0)], .agg [.lit (.int .u8 0), .lit (.int .u8 0)], .agg [.lit (.int .u8 0), .lit (.int .u8 0)], .agg [.lit (.int .u8 0), .lit (.int .u8 0)], .agg [.lit (.int .u8 0), .lit (.int .u8 0)]]
/-- One of Go's own tables, pinned by name: the form's constant. -/
def laid_unicode_utf8_first : DataW Unit := Go.Pinned.utf8First

/-- 'henkanlaw42.ProtocolBack': WHATEVER THE INPUT: true; the input reads as it did. -/
def protocolBackSpec : ChangeSpec := { name := "protocolBack", fn := fun _ => fun
  | [d1, d2] => { results := [.lit (.bool true)], args := [d1, d2] }
  | _ => none }
def protocolBackRow : OpenClaim := { program := "ytkllfnaofapfnaadoor", sum := "3f2d1605f02fdd65e9897ae6bb8919d14b02dcd7f4943c6587b6b60985b36d77", func := "henkan/henkanlaw42.ProtocolBack", spec := "protocolBack", unfollowed := true, recurses := true, named := ["unicode/utf8.first", "unicode/utf8.acceptRanges"], apart := false, laid := [("unicode/utf8.acceptRanges", laid_unicode_utf8_acceptRanges), ("unicode/utf8.first", laid_unicode_utf8_first)] }
def ProtocolBackSaid : Prop := protocolBackRow.holds Tryd.pinned (OpenSpec.ofChange protocolBackSpec)

/-- ITS FALSE NEIGHBOUR: 'it returns false'. Refute it at one input. -/
def protocolBackWrong : ChangeSpec := { name := "protocolBack", fn := fun _ => fun
  | [d1, d2] => { results := [.lit (.bool false)], args := [d1, d2] }
  | _ => none }
def ProtocolBackWrongFalsely : Prop := protocolBackRow.holds Tryd.pinned (OpenSpec.ofChange protocolBackWrong)

/-- 'henkanlaw42.ProtocolOne': WHATEVER THE INPUT: true; the input reads as it did. -/
def protocolOneSpec : ChangeSpec := { name := "protocolOne", fn := fun _ => fun
  | [d] => { results := [.lit (.bool true)], args := [d] }
  | _ => none }
def protocolOneRow : OpenClaim := { program := "ytkllfnaofapfnaadoor", sum := "3f2d1605f02fdd65e9897ae6bb8919d14b02dcd7f4943c6587b6b60985b36d77", func := "henkan/henkanlaw42.ProtocolOne", spec := "protocolOne", unfollowed := true, recurses := true, named := ["unicode/utf8.first", "unicode/utf8.acceptRanges"], apart := false, laid := [("unicode/utf8.acceptRanges", laid_unicode_utf8_acceptRanges), ("unicode/utf8.first", laid_unicode_utf8_first)] }
def ProtocolOneSaid : Prop := protocolOneRow.holds Tryd.pinned (OpenSpec.ofChange protocolOneSpec)

/-- ITS FALSE NEIGHBOUR: 'it returns false'. Refute it at one input. -/
def protocolOneWrong : ChangeSpec := { name := "protocolOne", fn := fun _ => fun
  | [d] => { results := [.lit (.bool false)], args := [d] }
  | _ => none }
def ProtocolOneWrongFalsely : Prop := protocolOneRow.holds Tryd.pinned (OpenSpec.ofChange protocolOneWrong)

/-- 'henkanlaw42.ProtocolRequests': WHATEVER THE INPUT: true; the input reads as it did. -/
def protocolRequestsSpec : ChangeSpec := { name := "protocolRequests", fn := fun _ => fun
  | [d] => { results := [.lit (.bool true)], args := [d] }
  | _ => none }
def protocolRequestsRow : OpenClaim := { program := "ytkllfnaofapfnaadoor", sum := "3f2d1605f02fdd65e9897ae6bb8919d14b02dcd7f4943c6587b6b60985b36d77", func := "henkan/henkanlaw42.ProtocolRequests", spec := "protocolRequests", unfollowed := true, recurses := true, named := ["unicode/utf8.first", "unicode/utf8.acceptRanges"], apart := false, laid := [("unicode/utf8.acceptRanges", laid_unicode_utf8_acceptRanges), ("unicode/utf8.first", laid_unicode_utf8_first)] }
def ProtocolRequestsSaid : Prop := protocolRequestsRow.holds Tryd.pinned (OpenSpec.ofChange protocolRequestsSpec)

/-- ITS FALSE NEIGHBOUR: 'it returns false'. Refute it at one input. -/
def protocolRequestsWrong : ChangeSpec := { name := "protocolRequests", fn := fun _ => fun
  | [d] => { results := [.lit (.bool false)], args := [d] }
  | _ => none }
def ProtocolRequestsWrongFalsely : Prop := protocolRequestsRow.holds Tryd.pinned (OpenSpec.ofChange protocolRequestsWrong)

/-- 'henkanlaw42.ProtocolReads': WHATEVER THE INPUT: true; the input reads as it did. -/
def protocolReadsSpec : ChangeSpec := { name := "protocolReads", fn := fun _ => fun
  | [d] => { results := [.lit (.bool true)], args := [d] }
  | _ => none }
def protocolReadsRow : OpenClaim := { program := "ytkllfnaofapfnaadoor", sum := "3f2d1605f02fdd65e9897ae6bb8919d14b02dcd7f4943c6587b6b60985b36d77", func := "henkan/henkanlaw42.ProtocolReads", spec := "protocolReads", unfollowed := true, recurses := true, named := ["unicode/utf8.first", "unicode/utf8.acceptRanges"], apart := false, laid := [("unicode/utf8.acceptRanges", laid_unicode_utf8_acceptRanges), ("unicode/utf8.first", laid_unicode_utf8_first)] }
def ProtocolReadsSaid : Prop := protocolReadsRow.holds Tryd.pinned (OpenSpec.ofChange protocolReadsSpec)

/-- ITS FALSE NEIGHBOUR: 'it returns false'. Refute it at one input. -/
def protocolReadsWrong : ChangeSpec := { name := "protocolReads", fn := fun _ => fun
  | [d] => { results := [.lit (.bool false)], args := [d] }
  | _ => none }
def ProtocolReadsWrongFalsely : Prop := protocolReadsRow.holds Tryd.pinned (OpenSpec.ofChange protocolReadsWrong)

/-- 'henkanlaw42.ProtocolReplies': WHATEVER THE INPUT: true; the input reads as it did. -/
def protocolRepliesSpec : ChangeSpec := { name := "protocolReplies", fn := fun _ => fun
  | [d] => { results := [.lit (.bool true)], args := [d] }
  | _ => none }
def protocolRepliesRow : OpenClaim := { program := "ytkllfnaofapfnaadoor", sum := "3f2d1605f02fdd65e9897ae6bb8919d14b02dcd7f4943c6587b6b60985b36d77", func := "henkan/henkanlaw42.ProtocolReplies", spec := "protocolReplies", unfollowed := true, recurses := true, named := ["unicode/utf8.first", "unicode/utf8.acceptRanges"], apart := false, laid := [("unicode/utf8.acceptRanges", laid_unicode_utf8_acceptRanges), ("unicode/utf8.first", laid_unicode_utf8_first)] }
def ProtocolRepliesSaid : Prop := protocolRepliesRow.holds Tryd.pinned (OpenSpec.ofChange protocolRepliesSpec)

/-- ITS FALSE NEIGHBOUR: 'it returns false'. Refute it at one input. -/
def protocolRepliesWrong : ChangeSpec := { name := "protocolReplies", fn := fun _ => fun
  | [d] => { results := [.lit (.bool false)], args := [d] }
  | _ => none }
def ProtocolRepliesWrongFalsely : Prop := protocolRepliesRow.holds Tryd.pinned (OpenSpec.ofChange protocolRepliesWrong)

/-- 'henkanlaw42.ProtocolPieces': WHATEVER THE INPUT: true; the input reads as it did. -/
def protocolPiecesSpec : ChangeSpec := { name := "protocolPieces", fn := fun _ => fun
  | [d1, d2] => { results := [.lit (.bool true)], args := [d1, d2] }
  | _ => none }
def protocolPiecesRow : OpenClaim := { program := "ytkllfnaofapfnaadoor", sum := "3f2d1605f02fdd65e9897ae6bb8919d14b02dcd7f4943c6587b6b60985b36d77", func := "henkan/henkanlaw42.ProtocolPieces", spec := "protocolPieces", unfollowed := true, recurses := true, named := ["unicode/utf8.first", "unicode/utf8.acceptRanges"], apart := false, laid := [("unicode/utf8.acceptRanges", laid_unicode_utf8_acceptRanges), ("unicode/utf8.first", laid_unicode_utf8_first)] }
def ProtocolPiecesSaid : Prop := protocolPiecesRow.holds Tryd.pinned (OpenSpec.ofChange protocolPiecesSpec)

/-- ITS FALSE NEIGHBOUR: 'it returns false'. Refute it at one input. -/
def protocolPiecesWrong : ChangeSpec := { name := "protocolPieces", fn := fun _ => fun
  | [d1, d2] => { results := [.lit (.bool false)], args := [d1, d2] }
  | _ => none }
def ProtocolPiecesWrongFalsely : Prop := protocolPiecesRow.holds Tryd.pinned (OpenSpec.ofChange protocolPiecesWrong)

/-- 'henkanlaw42.ProtocolFrames': WHATEVER THE INPUT: true; the input reads as it did. -/
def protocolFramesSpec : ChangeSpec := { name := "protocolFrames", fn := fun _ => fun
  | [d1, d2] => { results := [.lit (.bool true)], args := [d1, d2] }
  | _ => none }
def protocolFramesRow : OpenClaim := { program := "ytkllfnaofapfnaadoor", sum := "3f2d1605f02fdd65e9897ae6bb8919d14b02dcd7f4943c6587b6b60985b36d77", func := "henkan/henkanlaw42.ProtocolFrames", spec := "protocolFrames", unfollowed := true, recurses := true, named := ["unicode/utf8.first", "unicode/utf8.acceptRanges"], apart := false, laid := [("unicode/utf8.acceptRanges", laid_unicode_utf8_acceptRanges), ("unicode/utf8.first", laid_unicode_utf8_first)] }
def ProtocolFramesSaid : Prop := protocolFramesRow.holds Tryd.pinned (OpenSpec.ofChange protocolFramesSpec)

/-- ITS FALSE NEIGHBOUR: 'it returns false'. Refute it at one input. -/
def protocolFramesWrong : ChangeSpec := { name := "protocolFrames", fn := fun _ => fun
  | [d1, d2] => { results := [.lit (.bool false)], args := [d1, d2] }
  | _ => none }
def ProtocolFramesWrongFalsely : Prop := protocolFramesRow.holds Tryd.pinned (OpenSpec.ofChange protocolFramesWrong)

/-- 'henkanlaw42.ProtocolEnds': WHATEVER THE INPUT: true; the input reads as it did. -/
def protocolEndsSpec : ChangeSpec := { name := "protocolEnds", fn := fun _ => fun
  | [d1, d2, d3] => { results := [.lit (.bool true)], args := [d1, d2, d3] }
  | _ => none }
def protocolEndsRow : OpenClaim := { program := "ytkllfnaofapfnaadoor", sum := "3f2d1605f02fdd65e9897ae6bb8919d14b02dcd7f4943c6587b6b60985b36d77", func := "henkan/henkanlaw42.ProtocolEnds", spec := "protocolEnds", unfollowed := true, recurses := true, named := ["unicode/utf8.first", "unicode/utf8.acceptRanges"], apart := false, laid := [("unicode/utf8.acceptRanges", laid_unicode_utf8_acceptRanges), ("unicode/utf8.first", laid_unicode_utf8_first)] }
def ProtocolEndsSaid : Prop := protocolEndsRow.holds Tryd.pinned (OpenSpec.ofChange protocolEndsSpec)

/-- ITS FALSE NEIGHBOUR: 'it returns false'. Refute it at one input. -/
def protocolEndsWrong : ChangeSpec := { name := "protocolEnds", fn := fun _ => fun
  | [d1, d2, d3] => { results := [.lit (.bool false)], args := [d1, d2, d3] }
  | _ => none }
def ProtocolEndsWrongFalsely : Prop := protocolEndsRow.holds Tryd.pinned (OpenSpec.ofChange protocolEndsWrong)

/-- 'henkanlaw42.ProtocolKnown': WHATEVER THE INPUT: true; the input reads as it did. -/
def protocolKnownSpec : ChangeSpec := { name := "protocolKnown", fn := fun _ => fun
  | [] => { results := [.lit (.bool true)], args := [] }
  | _ => none }
def protocolKnownRow : OpenClaim := { program := "ytkllfnaofapfnaadoor", sum := "3f2d1605f02fdd65e9897ae6bb8919d14b02dcd7f4943c6587b6b60985b36d77", func := "henkan/henkanlaw42.ProtocolKnown", spec := "protocolKnown", unfollowed := true, recurses := true, named := ["unicode/utf8.first", "unicode/utf8.acceptRanges"], apart := false, laid := [("unicode/utf8.acceptRanges", laid_unicode_utf8_acceptRanges), ("unicode/utf8.first", laid_unicode_utf8_first)] }
def ProtocolKnownSaid : Prop := protocolKnownRow.holds Tryd.pinned (OpenSpec.ofChange protocolKnownSpec)

/-- ITS FALSE NEIGHBOUR: 'it returns false'. Refute it at one input. -/
def protocolKnownWrong : ChangeSpec := { name := "protocolKnown", fn := fun _ => fun
  | [] => { results := [.lit (.bool false)], args := [] }
  | _ => none }
def ProtocolKnownWrongFalsely : Prop := protocolKnownRow.holds Tryd.pinned (OpenSpec.ofChange protocolKnownWrong)

/-- 'henkanlaw42.ProtocolAnswers': WHATEVER THE INPUT: true; the input reads as it did. -/
def protocolAnswersSpec : ChangeSpec := { name := "protocolAnswers", fn := fun _ => fun
  | [d] => { results := [.lit (.bool true)], args := [d] }
  | _ => none }
def protocolAnswersRow : OpenClaim := { program := "ytkllfnaofapfnaadoor", sum := "3f2d1605f02fdd65e9897ae6bb8919d14b02dcd7f4943c6587b6b60985b36d77", func := "henkan/henkanlaw42.ProtocolAnswers", spec := "protocolAnswers", unfollowed := true, recurses := true, named := ["unicode/utf8.first", "unicode/utf8.acceptRanges"], apart := false, laid := [("unicode/utf8.acceptRanges", laid_unicode_utf8_acceptRanges), ("unicode/utf8.first", laid_unicode_utf8_first)] }
def ProtocolAnswersSaid : Prop := protocolAnswersRow.holds Tryd.pinned (OpenSpec.ofChange protocolAnswersSpec)

/-- ITS FALSE NEIGHBOUR: 'it returns false'. Refute it at one input. -/
def protocolAnswersWrong : ChangeSpec := { name := "protocolAnswers", fn := fun _ => fun
  | [d] => { results := [.lit (.bool false)], args := [d] }
  | _ => none }
def ProtocolAnswersWrongFalsely : Prop := protocolAnswersRow.holds Tryd.pinned (OpenSpec.ofChange protocolAnswersWrong)

/- THE SECOND FORM. 'bulk': how many values and letters a reading holds, each counted each time it is reached (what is shared counts as often as it is met; a slice's spare places count too). A statement '..UptoSaid' is the law's where the arguments, and the package variables that the reading takes, are together of bulk at most 1048576: NARROWER than '..Said'. Prove '..Said' where nothing that the law and all that it calls make is longer than what came in: it says more and counts as full. Else prove '..UptoSaid'. A law counts once. -/
mutual
def uptoBulk {H : Type} : DataW H → Nat
  | .lit (.string bytes) => bytes.length + 1
  | .lit _ => 1
  | .nil => 1
  | .ptr d => uptoBulk d + 1
  | .slice elems spare => uptoBulkAll elems + uptoBulkAll spare + 1
  | .agg parts => uptoBulkAll parts + 1
  | .iface _ d => uptoBulk d + 1
  | .map entries => uptoBulkEntries entries + 1
  | .held _ => 1
def uptoBulkAll {H : Type} : List (DataW H) → Nat
  | [] => 0
  | d :: r => uptoBulk d + uptoBulkAll r
def uptoBulkEntries {H : Type} : List (Lit × DataW H) → Nat
  | [] => 0
  | x :: r => uptoBulkEntry x + uptoBulkEntries r
def uptoBulkEntry {H : Type} : Lit × DataW H → Nat
  | (.string bytes, d) => bytes.length + uptoBulk d + 1
  | (_, d) => uptoBulk d + 1
 end
def uptoSmall : (H : Type) → List (DataW H) → Bool := fun _ ds => decide (uptoBulkAll ds ≤ 1048576)
def OpenSpec.upto (s : _root_.Go.ChangeSpec) : _root_.Go.OpenSpec := { _root_.Go.OpenSpec.ofChange s with cond := some uptoSmall }

/-- 'henkanlaw42.ProtocolBack', WHERE WHAT IT READS IS OF BULK AT MOST 1048576: true; the input reads as it did. -/
def protocolBackUptoRow : OpenClaim := { program := "ytkllfnaofapfnaadoor", sum := "3f2d1605f02fdd65e9897ae6bb8919d14b02dcd7f4943c6587b6b60985b36d77", func := "henkan/henkanlaw42.ProtocolBack", spec := "protocolBack", unfollowed := true, recurses := true, named := ["unicode/utf8.first", "unicode/utf8.acceptRanges"], apart := false, laid := [("unicode/utf8.acceptRanges", laid_unicode_utf8_acceptRanges), ("unicode/utf8.first", laid_unicode_utf8_first)], narrowed := true }
def ProtocolBackUptoSaid : Prop := protocolBackUptoRow.holds Tryd.pinned (OpenSpec.upto protocolBackSpec)

/-- 'henkanlaw42.ProtocolOne', WHERE WHAT IT READS IS OF BULK AT MOST 1048576: true; the input reads as it did. -/
def protocolOneUptoRow : OpenClaim := { program := "ytkllfnaofapfnaadoor", sum := "3f2d1605f02fdd65e9897ae6bb8919d14b02dcd7f4943c6587b6b60985b36d77", func := "henkan/henkanlaw42.ProtocolOne", spec := "protocolOne", unfollowed := true, recurses := true, named := ["unicode/utf8.first", "unicode/utf8.acceptRanges"], apart := false, laid := [("unicode/utf8.acceptRanges", laid_unicode_utf8_acceptRanges), ("unicode/utf8.first", laid_unicode_utf8_first)], narrowed := true }
def ProtocolOneUptoSaid : Prop := protocolOneUptoRow.holds Tryd.pinned (OpenSpec.upto protocolOneSpec)

/-- 'henkanlaw42.ProtocolRequests', WHERE WHAT IT READS IS OF BULK AT MOST 1048576: true; the input reads as it did. -/
def protocolRequestsUptoRow : OpenClaim := { program := "ytkllfnaofapfnaadoor", sum := "3f2d1605f02fdd65e9897ae6bb8919d14b02dcd7f4943c6587b6b60985b36d77", func := "henkan/henkanlaw42.ProtocolRequests", spec := "protocolRequests", unfollowed := true, recurses := true, named := ["unicode/utf8.first", "unicode/utf8.acceptRanges"], apart := false, laid := [("unicode/utf8.acceptRanges", laid_unicode_utf8_acceptRanges), ("unicode/utf8.first", laid_unicode_utf8_first)], narrowed := true }
def ProtocolRequestsUptoSaid : Prop := protocolRequestsUptoRow.holds Tryd.pinned (OpenSpec.upto protocolRequestsSpec)

/-- 'henkanlaw42.ProtocolReads', WHERE WHAT IT READS IS OF BULK AT MOST 1048576: true; the input reads as it did. -/
def protocolReadsUptoRow : OpenClaim := { program := "ytkllfnaofapfnaadoor", sum := "3f2d1605f02fdd65e9897ae6bb8919d14b02dcd7f4943c6587b6b60985b36d77", func := "henkan/henkanlaw42.ProtocolReads", spec := "protocolReads", unfollowed := true, recurses := true, named := ["unicode/utf8.first", "unicode/utf8.acceptRanges"], apart := false, laid := [("unicode/utf8.acceptRanges", laid_unicode_utf8_acceptRanges), ("unicode/utf8.first", laid_unicode_utf8_first)], narrowed := true }
def ProtocolReadsUptoSaid : Prop := protocolReadsUptoRow.holds Tryd.pinned (OpenSpec.upto protocolReadsSpec)

/-- 'henkanlaw42.ProtocolReplies', WHERE WHAT IT READS IS OF BULK AT MOST 1048576: true; the input reads as it did. -/
def protocolRepliesUptoRow : OpenClaim := { program := "ytkllfnaofapfnaadoor", sum := "3f2d1605f02fdd65e9897ae6bb8919d14b02dcd7f4943c6587b6b60985b36d77", func := "henkan/henkanlaw42.ProtocolReplies", spec := "protocolReplies", unfollowed := true, recurses := true, named := ["unicode/utf8.first", "unicode/utf8.acceptRanges"], apart := false, laid := [("unicode/utf8.acceptRanges", laid_unicode_utf8_acceptRanges), ("unicode/utf8.first", laid_unicode_utf8_first)], narrowed := true }
def ProtocolRepliesUptoSaid : Prop := protocolRepliesUptoRow.holds Tryd.pinned (OpenSpec.upto protocolRepliesSpec)

/-- 'henkanlaw42.ProtocolPieces', WHERE WHAT IT READS IS OF BULK AT MOST 1048576: true; the input reads as it did. -/
def protocolPiecesUptoRow : OpenClaim := { program := "ytkllfnaofapfnaadoor", sum := "3f2d1605f02fdd65e9897ae6bb8919d14b02dcd7f4943c6587b6b60985b36d77", func := "henkan/henkanlaw42.ProtocolPieces", spec := "protocolPieces", unfollowed := true, recurses := true, named := ["unicode/utf8.first", "unicode/utf8.acceptRanges"], apart := false, laid := [("unicode/utf8.acceptRanges", laid_unicode_utf8_acceptRanges), ("unicode/utf8.first", laid_unicode_utf8_first)], narrowed := true }
def ProtocolPiecesUptoSaid : Prop := protocolPiecesUptoRow.holds Tryd.pinned (OpenSpec.upto protocolPiecesSpec)

/-- 'henkanlaw42.ProtocolFrames', WHERE WHAT IT READS IS OF BULK AT MOST 1048576: true; the input reads as it did. -/
def protocolFramesUptoRow : OpenClaim := { program := "ytkllfnaofapfnaadoor", sum := "3f2d1605f02fdd65e9897ae6bb8919d14b02dcd7f4943c6587b6b60985b36d77", func := "henkan/henkanlaw42.ProtocolFrames", spec := "protocolFrames", unfollowed := true, recurses := true, named := ["unicode/utf8.first", "unicode/utf8.acceptRanges"], apart := false, laid := [("unicode/utf8.acceptRanges", laid_unicode_utf8_acceptRanges), ("unicode/utf8.first", laid_unicode_utf8_first)], narrowed := true }
def ProtocolFramesUptoSaid : Prop := protocolFramesUptoRow.holds Tryd.pinned (OpenSpec.upto protocolFramesSpec)

/-- 'henkanlaw42.ProtocolEnds', WHERE WHAT IT READS IS OF BULK AT MOST 1048576: true; the input reads as it did. -/
def protocolEndsUptoRow : OpenClaim := { program := "ytkllfnaofapfnaadoor", sum := "3f2d1605f02fdd65e9897ae6bb8919d14b02dcd7f4943c6587b6b60985b36d77", func := "henkan/henkanlaw42.ProtocolEnds", spec := "protocolEnds", unfollowed := true, recurses := true, named := ["unicode/utf8.first", "unicode/utf8.acceptRanges"], apart := false, laid := [("unicode/utf8.acceptRanges", laid_unicode_utf8_acceptRanges), ("unicode/utf8.first", laid_unicode_utf8_first)], narrowed := true }
def ProtocolEndsUptoSaid : Prop := protocolEndsUptoRow.holds Tryd.pinned (OpenSpec.upto protocolEndsSpec)

/-- 'henkanlaw42.ProtocolKnown', WHERE WHAT IT READS IS OF BULK AT MOST 1048576: true; the input reads as it did. -/
def protocolKnownUptoRow : OpenClaim := { program := "ytkllfnaofapfnaadoor", sum := "3f2d1605f02fdd65e9897ae6bb8919d14b02dcd7f4943c6587b6b60985b36d77", func := "henkan/henkanlaw42.ProtocolKnown", spec := "protocolKnown", unfollowed := true, recurses := true, named := ["unicode/utf8.first", "unicode/utf8.acceptRanges"], apart := false, laid := [("unicode/utf8.acceptRanges", laid_unicode_utf8_acceptRanges), ("unicode/utf8.first", laid_unicode_utf8_first)], narrowed := true }
def ProtocolKnownUptoSaid : Prop := protocolKnownUptoRow.holds Tryd.pinned (OpenSpec.upto protocolKnownSpec)

/-- 'henkanlaw42.ProtocolAnswers', WHERE WHAT IT READS IS OF BULK AT MOST 1048576: true; the input reads as it did. -/
def protocolAnswersUptoRow : OpenClaim := { program := "ytkllfnaofapfnaadoor", sum := "3f2d1605f02fdd65e9897ae6bb8919d14b02dcd7f4943c6587b6b60985b36d77", func := "henkan/henkanlaw42.ProtocolAnswers", spec := "protocolAnswers", unfollowed := true, recurses := true, named := ["unicode/utf8.first", "unicode/utf8.acceptRanges"], apart := false, laid := [("unicode/utf8.acceptRanges", laid_unicode_utf8_acceptRanges), ("unicode/utf8.first", laid_unicode_utf8_first)], narrowed := true }
def ProtocolAnswersUptoSaid : Prop := protocolAnswersUptoRow.holds Tryd.pinned (OpenSpec.upto protocolAnswersSpec)

end Rows
end Go.Proofs.YtkllfnaofapfnaaDoor
