/-
  DERIVED. GIVEN WITH THE SEED: THE CARDS: each row of YtcnedljblljhoaaDoorRows.lean that lists a variable, with what it lists TIED to the program's text (the seventh form; the later family's looks); each row that meets fmt, with fmt's text TOLD by the authors' own Lean function (tested against real Go, not proved from fmt's source: count such statements apart). THE CARD IS WHAT COUNTS. Prove the row's statement (the work); the ties are given (YtcnedljblljhoaaDoorTie.lean); close each card by the builder's one call (the guide's Derived/Test/ToyasCard.lean, 'card_holds'). Laid BY PROGRAM, IN A SANDBOX (cutbox-door.mjs). By AI agents, Wed Nov 11 2026. No macro, syntax, notation, axiom, sorry.
-/
import Derived.Test.YtcnedljblljhoaaDoorRows
import GoSem.ClaimSeven
namespace Go.Proofs.YtcnedljblljhoaaDoor
namespace Rows

/-- THE TIED CARD OF 'henkanlaw01.UtfReads'. -/
def utfReadsCard : Claim7 := { stood := { row := utfReadsRow, standIns := [], harness := (true, "ebfa7fe4d4326f37a8e7c01c1d36b5dca9bff6ded45fa36a63e2f68fe2e2f940"), looks := false }, kinds := [], alts := [], laidByText := true, laidKinds := [.data, .pinned], laidTests := true, laidLooks := .later }
def UtfReadsCardSaid : Prop := Claim7.holds Tryd.pinned (.plain (OpenSpec.ofChange utfReadsSpec)) utfReadsCard

/-- THE TIED CARD OF 'henkanlaw01.UtfWrites'. -/
def utfWritesCard : Claim7 := { stood := { row := utfWritesRow, standIns := [], harness := (true, "ebfa7fe4d4326f37a8e7c01c1d36b5dca9bff6ded45fa36a63e2f68fe2e2f940"), looks := false }, kinds := [], alts := [], laidByText := true, laidKinds := [.data, .pinned], laidTests := true, laidLooks := .later }
def UtfWritesCardSaid : Prop := Claim7.holds Tryd.pinned (.plain (OpenSpec.ofChange utfWritesSpec)) utfWritesCard

/-- THE TIED CARD OF 'henkanlaw01.UtfCuts'. -/
def utfCutsCard : Claim7 := { stood := { row := utfCutsRow, standIns := [], harness := (true, "ebfa7fe4d4326f37a8e7c01c1d36b5dca9bff6ded45fa36a63e2f68fe2e2f940"), looks := false }, kinds := [], alts := [], laidByText := true, laidKinds := [.data, .pinned], laidTests := true, laidLooks := .later }
def UtfCutsCardSaid : Prop := Claim7.holds Tryd.pinned (.plain (OpenSpec.ofChange utfCutsSpec)) utfCutsCard

/-- THE TIED CARD OF 'henkanlaw01.UtfReturns'. -/
def utfReturnsCard : Claim7 := { stood := { row := utfReturnsRow, standIns := [], harness := (true, "ebfa7fe4d4326f37a8e7c01c1d36b5dca9bff6ded45fa36a63e2f68fe2e2f940"), looks := false }, kinds := [], alts := [], laidByText := true, laidKinds := [.data, .pinned], laidTests := true, laidLooks := .later }
def UtfReturnsCardSaid : Prop := Claim7.holds Tryd.pinned (.plain (OpenSpec.ofChange utfReturnsSpec)) utfReturnsCard

/-- THE TIED CARD OF 'henkanlaw01.UtfJoins'. -/
def utfJoinsCard : Claim7 := { stood := { row := utfJoinsRow, standIns := [], harness := (true, "ebfa7fe4d4326f37a8e7c01c1d36b5dca9bff6ded45fa36a63e2f68fe2e2f940"), looks := false }, kinds := [], alts := [], laidByText := true, laidKinds := [.data, .pinned], laidTests := true, laidLooks := .later }
def UtfJoinsCardSaid : Prop := Claim7.holds Tryd.pinned (.plain (OpenSpec.ofChange utfJoinsSpec)) utfJoinsCard

/-- THE TIED CARD OF 'henkanlaw01.UtfPieces'. -/
def utfPiecesCard : Claim7 := { stood := { row := utfPiecesRow, standIns := [], harness := (true, "ebfa7fe4d4326f37a8e7c01c1d36b5dca9bff6ded45fa36a63e2f68fe2e2f940"), looks := false }, kinds := [], alts := [], laidByText := true, laidKinds := [.data, .pinned], laidTests := true, laidLooks := .later }
def UtfPiecesCardSaid : Prop := Claim7.holds Tryd.pinned (.plain (OpenSpec.ofChange utfPiecesSpec)) utfPiecesCard

/-- THE TIED CARD OF 'henkanlaw01.UtfOrders'. -/
def utfOrdersCard : Claim7 := { stood := { row := utfOrdersRow, standIns := [], harness := (true, "ebfa7fe4d4326f37a8e7c01c1d36b5dca9bff6ded45fa36a63e2f68fe2e2f940"), looks := false }, kinds := [], alts := [], laidByText := true, laidKinds := [.data, .pinned], laidTests := true, laidLooks := .later }
def UtfOrdersCardSaid : Prop := Claim7.holds Tryd.pinned (.plain (OpenSpec.ofChange utfOrdersSpec)) utfOrdersCard

/-- THE TIED CARD OF 'henkanlaw01.UtfKnown'. -/
def utfKnownCard : Claim7 := { stood := { row := utfKnownRow, standIns := [], harness := (true, "ebfa7fe4d4326f37a8e7c01c1d36b5dca9bff6ded45fa36a63e2f68fe2e2f940"), looks := false }, kinds := [], alts := [], laidByText := true, laidKinds := [.data, .pinned], laidTests := true, laidLooks := .later }
def UtfKnownCardSaid : Prop := Claim7.holds Tryd.pinned (.plain (OpenSpec.ofChange utfKnownSpec)) utfKnownCard

/-- THE SECOND FORM's CARD OF 'henkanlaw01.UtfReads'. -/
def utfReadsUptoCard : Claim7 := { stood := { row := utfReadsUptoRow, standIns := [], harness := (true, "ebfa7fe4d4326f37a8e7c01c1d36b5dca9bff6ded45fa36a63e2f68fe2e2f940"), looks := false }, kinds := [], alts := [], laidByText := true, laidKinds := [.data, .pinned], laidTests := true, laidLooks := .later }
def UtfReadsUptoCardSaid : Prop := Claim7.holds Tryd.pinned (.plain (OpenSpec.upto utfReadsSpec)) utfReadsUptoCard

/-- THE SECOND FORM's CARD OF 'henkanlaw01.UtfWrites'. -/
def utfWritesUptoCard : Claim7 := { stood := { row := utfWritesUptoRow, standIns := [], harness := (true, "ebfa7fe4d4326f37a8e7c01c1d36b5dca9bff6ded45fa36a63e2f68fe2e2f940"), looks := false }, kinds := [], alts := [], laidByText := true, laidKinds := [.data, .pinned], laidTests := true, laidLooks := .later }
def UtfWritesUptoCardSaid : Prop := Claim7.holds Tryd.pinned (.plain (OpenSpec.upto utfWritesSpec)) utfWritesUptoCard

/-- THE SECOND FORM's CARD OF 'henkanlaw01.UtfCuts'. -/
def utfCutsUptoCard : Claim7 := { stood := { row := utfCutsUptoRow, standIns := [], harness := (true, "ebfa7fe4d4326f37a8e7c01c1d36b5dca9bff6ded45fa36a63e2f68fe2e2f940"), looks := false }, kinds := [], alts := [], laidByText := true, laidKinds := [.data, .pinned], laidTests := true, laidLooks := .later }
def UtfCutsUptoCardSaid : Prop := Claim7.holds Tryd.pinned (.plain (OpenSpec.upto utfCutsSpec)) utfCutsUptoCard

/-- THE SECOND FORM's CARD OF 'henkanlaw01.UtfReturns'. -/
def utfReturnsUptoCard : Claim7 := { stood := { row := utfReturnsUptoRow, standIns := [], harness := (true, "ebfa7fe4d4326f37a8e7c01c1d36b5dca9bff6ded45fa36a63e2f68fe2e2f940"), looks := false }, kinds := [], alts := [], laidByText := true, laidKinds := [.data, .pinned], laidTests := true, laidLooks := .later }
def UtfReturnsUptoCardSaid : Prop := Claim7.holds Tryd.pinned (.plain (OpenSpec.upto utfReturnsSpec)) utfReturnsUptoCard

/-- THE SECOND FORM's CARD OF 'henkanlaw01.UtfJoins'. -/
def utfJoinsUptoCard : Claim7 := { stood := { row := utfJoinsUptoRow, standIns := [], harness := (true, "ebfa7fe4d4326f37a8e7c01c1d36b5dca9bff6ded45fa36a63e2f68fe2e2f940"), looks := false }, kinds := [], alts := [], laidByText := true, laidKinds := [.data, .pinned], laidTests := true, laidLooks := .later }
def UtfJoinsUptoCardSaid : Prop := Claim7.holds Tryd.pinned (.plain (OpenSpec.upto utfJoinsSpec)) utfJoinsUptoCard

/-- THE SECOND FORM's CARD OF 'henkanlaw01.UtfPieces'. -/
def utfPiecesUptoCard : Claim7 := { stood := { row := utfPiecesUptoRow, standIns := [], harness := (true, "ebfa7fe4d4326f37a8e7c01c1d36b5dca9bff6ded45fa36a63e2f68fe2e2f940"), looks := false }, kinds := [], alts := [], laidByText := true, laidKinds := [.data, .pinned], laidTests := true, laidLooks := .later }
def UtfPiecesUptoCardSaid : Prop := Claim7.holds Tryd.pinned (.plain (OpenSpec.upto utfPiecesSpec)) utfPiecesUptoCard

/-- THE SECOND FORM's CARD OF 'henkanlaw01.UtfOrders'. -/
def utfOrdersUptoCard : Claim7 := { stood := { row := utfOrdersUptoRow, standIns := [], harness := (true, "ebfa7fe4d4326f37a8e7c01c1d36b5dca9bff6ded45fa36a63e2f68fe2e2f940"), looks := false }, kinds := [], alts := [], laidByText := true, laidKinds := [.data, .pinned], laidTests := true, laidLooks := .later }
def UtfOrdersUptoCardSaid : Prop := Claim7.holds Tryd.pinned (.plain (OpenSpec.upto utfOrdersSpec)) utfOrdersUptoCard

/-- THE SECOND FORM's CARD OF 'henkanlaw01.UtfKnown'. -/
def utfKnownUptoCard : Claim7 := { stood := { row := utfKnownUptoRow, standIns := [], harness := (true, "ebfa7fe4d4326f37a8e7c01c1d36b5dca9bff6ded45fa36a63e2f68fe2e2f940"), looks := false }, kinds := [], alts := [], laidByText := true, laidKinds := [.data, .pinned], laidTests := true, laidLooks := .later }
def UtfKnownUptoCardSaid : Prop := Claim7.holds Tryd.pinned (.plain (OpenSpec.upto utfKnownSpec)) utfKnownUptoCard
end Rows
end Go.Proofs.YtcnedljblljhoaaDoor
