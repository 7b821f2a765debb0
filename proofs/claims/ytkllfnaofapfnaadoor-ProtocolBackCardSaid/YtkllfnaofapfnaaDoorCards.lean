/-
  DERIVED. GIVEN WITH THE SEED: THE CARDS: each row of YtkllfnaofapfnaaDoorRows.lean that lists a variable, with what it lists TIED to the program's text (the seventh form; the later family's looks); each row that meets fmt, with fmt's text TOLD by the authors' own Lean function (tested against real Go, not proved from fmt's source: count such statements apart). THE CARD IS WHAT COUNTS. Prove the row's statement (the work); the ties are given (YtkllfnaofapfnaaDoorTie.lean); close each card by the builder's one call (the guide's Derived/Test/ToyasCard.lean, 'card_holds'). Laid BY PROGRAM, IN A SANDBOX (cutbox-door.mjs). By AI agents, Wed Nov 11 2026. No macro, syntax, notation, axiom, sorry.
-/
import Derived.Test.YtkllfnaofapfnaaDoorRows
import GoSem.ClaimSeven
namespace Go.Proofs.YtkllfnaofapfnaaDoor
namespace Rows

/-- THE TIED CARD OF 'henkanlaw42.ProtocolBack'. -/
def protocolBackCard : Claim7 := { stood := { row := protocolBackRow, standIns := [], harness := (true, "88d5a7cab92c09e4d25c768f6b0d4a037678835ae4a9a38d386689a76d8b6d9b"), looks := true }, kinds := [], alts := [], laidByText := true, laidKinds := [.data, .pinned], laidTests := true, laidLooks := .later }
def ProtocolBackCardSaid : Prop := Claim7.holds Tryd.pinned (.plain (OpenSpec.ofChange protocolBackSpec)) protocolBackCard

/-- THE TIED CARD OF 'henkanlaw42.ProtocolOne'. -/
def protocolOneCard : Claim7 := { stood := { row := protocolOneRow, standIns := [], harness := (true, "88d5a7cab92c09e4d25c768f6b0d4a037678835ae4a9a38d386689a76d8b6d9b"), looks := true }, kinds := [], alts := [], laidByText := true, laidKinds := [.data, .pinned], laidTests := true, laidLooks := .later }
def ProtocolOneCardSaid : Prop := Claim7.holds Tryd.pinned (.plain (OpenSpec.ofChange protocolOneSpec)) protocolOneCard

/-- THE TIED CARD OF 'henkanlaw42.ProtocolRequests'. -/
def protocolRequestsCard : Claim7 := { stood := { row := protocolRequestsRow, standIns := [], harness := (true, "88d5a7cab92c09e4d25c768f6b0d4a037678835ae4a9a38d386689a76d8b6d9b"), looks := true }, kinds := [], alts := [], laidByText := true, laidKinds := [.data, .pinned], laidTests := true, laidLooks := .later }
def ProtocolRequestsCardSaid : Prop := Claim7.holds Tryd.pinned (.plain (OpenSpec.ofChange protocolRequestsSpec)) protocolRequestsCard

/-- THE TIED CARD OF 'henkanlaw42.ProtocolReads'. -/
def protocolReadsCard : Claim7 := { stood := { row := protocolReadsRow, standIns := [], harness := (true, "88d5a7cab92c09e4d25c768f6b0d4a037678835ae4a9a38d386689a76d8b6d9b"), looks := true }, kinds := [], alts := [], laidByText := true, laidKinds := [.data, .pinned], laidTests := true, laidLooks := .later }
def ProtocolReadsCardSaid : Prop := Claim7.holds Tryd.pinned (.plain (OpenSpec.ofChange protocolReadsSpec)) protocolReadsCard

/-- THE TIED CARD OF 'henkanlaw42.ProtocolReplies'. -/
def protocolRepliesCard : Claim7 := { stood := { row := protocolRepliesRow, standIns := [], harness := (true, "88d5a7cab92c09e4d25c768f6b0d4a037678835ae4a9a38d386689a76d8b6d9b"), looks := true }, kinds := [], alts := [], laidByText := true, laidKinds := [.data, .pinned], laidTests := true, laidLooks := .later }
def ProtocolRepliesCardSaid : Prop := Claim7.holds Tryd.pinned (.plain (OpenSpec.ofChange protocolRepliesSpec)) protocolRepliesCard

/-- THE TIED CARD OF 'henkanlaw42.ProtocolPieces'. -/
def protocolPiecesCard : Claim7 := { stood := { row := protocolPiecesRow, standIns := [], harness := (true, "88d5a7cab92c09e4d25c768f6b0d4a037678835ae4a9a38d386689a76d8b6d9b"), looks := true }, kinds := [], alts := [], laidByText := true, laidKinds := [.data, .pinned], laidTests := true, laidLooks := .later }
def ProtocolPiecesCardSaid : Prop := Claim7.holds Tryd.pinned (.plain (OpenSpec.ofChange protocolPiecesSpec)) protocolPiecesCard

/-- THE TIED CARD OF 'henkanlaw42.ProtocolFrames'. -/
def protocolFramesCard : Claim7 := { stood := { row := protocolFramesRow, standIns := [], harness := (true, "88d5a7cab92c09e4d25c768f6b0d4a037678835ae4a9a38d386689a76d8b6d9b"), looks := true }, kinds := [], alts := [], laidByText := true, laidKinds := [.data, .pinned], laidTests := true, laidLooks := .later }
def ProtocolFramesCardSaid : Prop := Claim7.holds Tryd.pinned (.plain (OpenSpec.ofChange protocolFramesSpec)) protocolFramesCard

/-- THE TIED CARD OF 'henkanlaw42.ProtocolEnds'. -/
def protocolEndsCard : Claim7 := { stood := { row := protocolEndsRow, standIns := [], harness := (true, "88d5a7cab92c09e4d25c768f6b0d4a037678835ae4a9a38d386689a76d8b6d9b"), looks := true }, kinds := [], alts := [], laidByText := true, laidKinds := [.data, .pinned], laidTests := true, laidLooks := .later }
def ProtocolEndsCardSaid : Prop := Claim7.holds Tryd.pinned (.plain (OpenSpec.ofChange protocolEndsSpec)) protocolEndsCard

/-- THE TIED CARD OF 'henkanlaw42.ProtocolKnown'. -/
def protocolKnownCard : Claim7 := { stood := { row := protocolKnownRow, standIns := [], harness := (true, "88d5a7cab92c09e4d25c768f6b0d4a037678835ae4a9a38d386689a76d8b6d9b"), looks := true }, kinds := [], alts := [], laidByText := true, laidKinds := [.data, .pinned], laidTests := true, laidLooks := .later }
def ProtocolKnownCardSaid : Prop := Claim7.holds Tryd.pinned (.plain (OpenSpec.ofChange protocolKnownSpec)) protocolKnownCard

/-- THE TIED CARD OF 'henkanlaw42.ProtocolAnswers'. -/
def protocolAnswersCard : Claim7 := { stood := { row := protocolAnswersRow, standIns := [], harness := (true, "88d5a7cab92c09e4d25c768f6b0d4a037678835ae4a9a38d386689a76d8b6d9b"), looks := true }, kinds := [], alts := [], laidByText := true, laidKinds := [.data, .pinned], laidTests := true, laidLooks := .later }
def ProtocolAnswersCardSaid : Prop := Claim7.holds Tryd.pinned (.plain (OpenSpec.ofChange protocolAnswersSpec)) protocolAnswersCard

/-- THE SECOND FORM's CARD OF 'henkanlaw42.ProtocolBack'. -/
def protocolBackUptoCard : Claim7 := { stood := { row := protocolBackUptoRow, standIns := [], harness := (true, "88d5a7cab92c09e4d25c768f6b0d4a037678835ae4a9a38d386689a76d8b6d9b"), looks := true }, kinds := [], alts := [], laidByText := true, laidKinds := [.data, .pinned], laidTests := true, laidLooks := .later }
def ProtocolBackUptoCardSaid : Prop := Claim7.holds Tryd.pinned (.plain (OpenSpec.upto protocolBackSpec)) protocolBackUptoCard

/-- THE SECOND FORM's CARD OF 'henkanlaw42.ProtocolOne'. -/
def protocolOneUptoCard : Claim7 := { stood := { row := protocolOneUptoRow, standIns := [], harness := (true, "88d5a7cab92c09e4d25c768f6b0d4a037678835ae4a9a38d386689a76d8b6d9b"), looks := true }, kinds := [], alts := [], laidByText := true, laidKinds := [.data, .pinned], laidTests := true, laidLooks := .later }
def ProtocolOneUptoCardSaid : Prop := Claim7.holds Tryd.pinned (.plain (OpenSpec.upto protocolOneSpec)) protocolOneUptoCard

/-- THE SECOND FORM's CARD OF 'henkanlaw42.ProtocolRequests'. -/
def protocolRequestsUptoCard : Claim7 := { stood := { row := protocolRequestsUptoRow, standIns := [], harness := (true, "88d5a7cab92c09e4d25c768f6b0d4a037678835ae4a9a38d386689a76d8b6d9b"), looks := true }, kinds := [], alts := [], laidByText := true, laidKinds := [.data, .pinned], laidTests := true, laidLooks := .later }
def ProtocolRequestsUptoCardSaid : Prop := Claim7.holds Tryd.pinned (.plain (OpenSpec.upto protocolRequestsSpec)) protocolRequestsUptoCard

/-- THE SECOND FORM's CARD OF 'henkanlaw42.ProtocolReads'. -/
def protocolReadsUptoCard : Claim7 := { stood := { row := protocolReadsUptoRow, standIns := [], harness := (true, "88d5a7cab92c09e4d25c768f6b0d4a037678835ae4a9a38d386689a76d8b6d9b"), looks := true }, kinds := [], alts := [], laidByText := true, laidKinds := [.data, .pinned], laidTests := true, laidLooks := .later }
def ProtocolReadsUptoCardSaid : Prop := Claim7.holds Tryd.pinned (.plain (OpenSpec.upto protocolReadsSpec)) protocolReadsUptoCard

/-- THE SECOND FORM's CARD OF 'henkanlaw42.ProtocolReplies'. -/
def protocolRepliesUptoCard : Claim7 := { stood := { row := protocolRepliesUptoRow, standIns := [], harness := (true, "88d5a7cab92c09e4d25c768f6b0d4a037678835ae4a9a38d386689a76d8b6d9b"), looks := true }, kinds := [], alts := [], laidByText := true, laidKinds := [.data, .pinned], laidTests := true, laidLooks := .later }
def ProtocolRepliesUptoCardSaid : Prop := Claim7.holds Tryd.pinned (.plain (OpenSpec.upto protocolRepliesSpec)) protocolRepliesUptoCard

/-- THE SECOND FORM's CARD OF 'henkanlaw42.ProtocolPieces'. -/
def protocolPiecesUptoCard : Claim7 := { stood := { row := protocolPiecesUptoRow, standIns := [], harness := (true, "88d5a7cab92c09e4d25c768f6b0d4a037678835ae4a9a38d386689a76d8b6d9b"), looks := true }, kinds := [], alts := [], laidByText := true, laidKinds := [.data, .pinned], laidTests := true, laidLooks := .later }
def ProtocolPiecesUptoCardSaid : Prop := Claim7.holds Tryd.pinned (.plain (OpenSpec.upto protocolPiecesSpec)) protocolPiecesUptoCard

/-- THE SECOND FORM's CARD OF 'henkanlaw42.ProtocolFrames'. -/
def protocolFramesUptoCard : Claim7 := { stood := { row := protocolFramesUptoRow, standIns := [], harness := (true, "88d5a7cab92c09e4d25c768f6b0d4a037678835ae4a9a38d386689a76d8b6d9b"), looks := true }, kinds := [], alts := [], laidByText := true, laidKinds := [.data, .pinned], laidTests := true, laidLooks := .later }
def ProtocolFramesUptoCardSaid : Prop := Claim7.holds Tryd.pinned (.plain (OpenSpec.upto protocolFramesSpec)) protocolFramesUptoCard

/-- THE SECOND FORM's CARD OF 'henkanlaw42.ProtocolEnds'. -/
def protocolEndsUptoCard : Claim7 := { stood := { row := protocolEndsUptoRow, standIns := [], harness := (true, "88d5a7cab92c09e4d25c768f6b0d4a037678835ae4a9a38d386689a76d8b6d9b"), looks := true }, kinds := [], alts := [], laidByText := true, laidKinds := [.data, .pinned], laidTests := true, laidLooks := .later }
def ProtocolEndsUptoCardSaid : Prop := Claim7.holds Tryd.pinned (.plain (OpenSpec.upto protocolEndsSpec)) protocolEndsUptoCard

/-- THE SECOND FORM's CARD OF 'henkanlaw42.ProtocolKnown'. -/
def protocolKnownUptoCard : Claim7 := { stood := { row := protocolKnownUptoRow, standIns := [], harness := (true, "88d5a7cab92c09e4d25c768f6b0d4a037678835ae4a9a38d386689a76d8b6d9b"), looks := true }, kinds := [], alts := [], laidByText := true, laidKinds := [.data, .pinned], laidTests := true, laidLooks := .later }
def ProtocolKnownUptoCardSaid : Prop := Claim7.holds Tryd.pinned (.plain (OpenSpec.upto protocolKnownSpec)) protocolKnownUptoCard

/-- THE SECOND FORM's CARD OF 'henkanlaw42.ProtocolAnswers'. -/
def protocolAnswersUptoCard : Claim7 := { stood := { row := protocolAnswersUptoRow, standIns := [], harness := (true, "88d5a7cab92c09e4d25c768f6b0d4a037678835ae4a9a38d386689a76d8b6d9b"), looks := true }, kinds := [], alts := [], laidByText := true, laidKinds := [.data, .pinned], laidTests := true, laidLooks := .later }
def ProtocolAnswersUptoCardSaid : Prop := Claim7.holds Tryd.pinned (.plain (OpenSpec.upto protocolAnswersSpec)) protocolAnswersUptoCard
end Rows
end Go.Proofs.YtkllfnaofapfnaaDoor
