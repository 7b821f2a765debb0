/-
  DERIVED. GIVEN WITH THE SEED: THE CARDS: each row of YtebjfigjfhghcaaDoorRows.lean that lists a variable, with what it lists TIED to the program's text (the seventh form; the later family's looks); each row that meets fmt, with fmt's text TOLD by the authors' own Lean function (tested against real Go, not proved from fmt's source: count such statements apart). THE CARD IS WHAT COUNTS. Prove the row's statement (the work); the ties are given (YtebjfigjfhghcaaDoorTie.lean); close each card by the builder's one call (the guide's Derived/Test/ToyasCard.lean, 'card_holds'). Laid BY PROGRAM, IN A SANDBOX (cutbox-door.mjs). By AI agents, Wed Nov 11 2026. No macro, syntax, notation, axiom, sorry.
-/
import Derived.Test.YtebjfigjfhghcaaDoorRows
import GoSem.ClaimSeven
namespace Go.Proofs.YtebjfigjfhghcaaDoor
namespace Rows

/-- THE TIED CARD OF 'henkanlaw40.UndoChecks'. -/
def undoChecksCard : Claim7 := { stood := { row := undoChecksRow, standIns := [], harness := (true, "11ee19865d1af9b092e7b59d9a9b7a333a98953c561b64c96e703281a23b3dbc"), looks := false }, kinds := [], alts := [], laidByText := true, laidKinds := [.data, .pinned], laidTests := true, laidLooks := .later }
def UndoChecksCardSaid : Prop := Claim7.holds Tryd.pinned (.plain (OpenSpec.ofChange undoChecksSpec)) undoChecksCard

/-- THE TIED CARD OF 'henkanlaw40.UndoPushes'. -/
def undoPushesCard : Claim7 := { stood := { row := undoPushesRow, standIns := [], harness := (true, "11ee19865d1af9b092e7b59d9a9b7a333a98953c561b64c96e703281a23b3dbc"), looks := false }, kinds := [], alts := [], laidByText := true, laidKinds := [.data, .pinned], laidTests := true, laidLooks := .later }
def UndoPushesCardSaid : Prop := Claim7.holds Tryd.pinned (.plain (OpenSpec.ofChange undoPushesSpec)) undoPushesCard

/-- THE TIED CARD OF 'henkanlaw40.UndoPops'. -/
def undoPopsCard : Claim7 := { stood := { row := undoPopsRow, standIns := [], harness := (true, "11ee19865d1af9b092e7b59d9a9b7a333a98953c561b64c96e703281a23b3dbc"), looks := false }, kinds := [], alts := [], laidByText := true, laidKinds := [.data, .pinned], laidTests := true, laidLooks := .later }
def UndoPopsCardSaid : Prop := Claim7.holds Tryd.pinned (.plain (OpenSpec.ofChange undoPopsSpec)) undoPopsCard

/-- THE TIED CARD OF 'henkanlaw40.UndoApplies'. -/
def undoAppliesCard : Claim7 := { stood := { row := undoAppliesRow, standIns := [], harness := (true, "11ee19865d1af9b092e7b59d9a9b7a333a98953c561b64c96e703281a23b3dbc"), looks := false }, kinds := [], alts := [], laidByText := true, laidKinds := [.data, .pinned], laidTests := true, laidLooks := .later }
def UndoAppliesCardSaid : Prop := Claim7.holds Tryd.pinned (.plain (OpenSpec.ofChange undoAppliesSpec)) undoAppliesCard

/-- THE TIED CARD OF 'henkanlaw40.UndoBack'. -/
def undoBackCard : Claim7 := { stood := { row := undoBackRow, standIns := [], harness := (true, "11ee19865d1af9b092e7b59d9a9b7a333a98953c561b64c96e703281a23b3dbc"), looks := false }, kinds := [], alts := [], laidByText := true, laidKinds := [.data, .pinned], laidTests := true, laidLooks := .later }
def UndoBackCardSaid : Prop := Claim7.holds Tryd.pinned (.plain (OpenSpec.ofChange undoBackSpec)) undoBackCard

/-- THE TIED CARD OF 'henkanlaw40.UndoTexts'. -/
def undoTextsCard : Claim7 := { stood := { row := undoTextsRow, standIns := [], harness := (true, "11ee19865d1af9b092e7b59d9a9b7a333a98953c561b64c96e703281a23b3dbc"), looks := false }, kinds := [], alts := [], laidByText := true, laidKinds := [.data, .pinned], laidTests := true, laidLooks := .later }
def UndoTextsCardSaid : Prop := Claim7.holds Tryd.pinned (.plain (OpenSpec.ofChange undoTextsSpec)) undoTextsCard

/-- THE TIED CARD OF 'henkanlaw40.UndoKnown'. -/
def undoKnownCard : Claim7 := { stood := { row := undoKnownRow, standIns := [], harness := (true, "11ee19865d1af9b092e7b59d9a9b7a333a98953c561b64c96e703281a23b3dbc"), looks := false }, kinds := [], alts := [], laidByText := true, laidKinds := [.data, .pinned], laidTests := true, laidLooks := .later }
def UndoKnownCardSaid : Prop := Claim7.holds Tryd.pinned (.plain (OpenSpec.ofChange undoKnownSpec)) undoKnownCard

/-- THE SECOND FORM's CARD OF 'henkanlaw40.UndoChecks'. -/
def undoChecksUptoCard : Claim7 := { stood := { row := undoChecksUptoRow, standIns := [], harness := (true, "11ee19865d1af9b092e7b59d9a9b7a333a98953c561b64c96e703281a23b3dbc"), looks := false }, kinds := [], alts := [], laidByText := true, laidKinds := [.data, .pinned], laidTests := true, laidLooks := .later }
def UndoChecksUptoCardSaid : Prop := Claim7.holds Tryd.pinned (.plain (OpenSpec.upto undoChecksSpec)) undoChecksUptoCard

/-- THE SECOND FORM's CARD OF 'henkanlaw40.UndoPushes'. -/
def undoPushesUptoCard : Claim7 := { stood := { row := undoPushesUptoRow, standIns := [], harness := (true, "11ee19865d1af9b092e7b59d9a9b7a333a98953c561b64c96e703281a23b3dbc"), looks := false }, kinds := [], alts := [], laidByText := true, laidKinds := [.data, .pinned], laidTests := true, laidLooks := .later }
def UndoPushesUptoCardSaid : Prop := Claim7.holds Tryd.pinned (.plain (OpenSpec.upto undoPushesSpec)) undoPushesUptoCard

/-- THE SECOND FORM's CARD OF 'henkanlaw40.UndoPops'. -/
def undoPopsUptoCard : Claim7 := { stood := { row := undoPopsUptoRow, standIns := [], harness := (true, "11ee19865d1af9b092e7b59d9a9b7a333a98953c561b64c96e703281a23b3dbc"), looks := false }, kinds := [], alts := [], laidByText := true, laidKinds := [.data, .pinned], laidTests := true, laidLooks := .later }
def UndoPopsUptoCardSaid : Prop := Claim7.holds Tryd.pinned (.plain (OpenSpec.upto undoPopsSpec)) undoPopsUptoCard

/-- THE SECOND FORM's CARD OF 'henkanlaw40.UndoApplies'. -/
def undoAppliesUptoCard : Claim7 := { stood := { row := undoAppliesUptoRow, standIns := [], harness := (true, "11ee19865d1af9b092e7b59d9a9b7a333a98953c561b64c96e703281a23b3dbc"), looks := false }, kinds := [], alts := [], laidByText := true, laidKinds := [.data, .pinned], laidTests := true, laidLooks := .later }
def UndoAppliesUptoCardSaid : Prop := Claim7.holds Tryd.pinned (.plain (OpenSpec.upto undoAppliesSpec)) undoAppliesUptoCard

/-- THE SECOND FORM's CARD OF 'henkanlaw40.UndoBack'. -/
def undoBackUptoCard : Claim7 := { stood := { row := undoBackUptoRow, standIns := [], harness := (true, "11ee19865d1af9b092e7b59d9a9b7a333a98953c561b64c96e703281a23b3dbc"), looks := false }, kinds := [], alts := [], laidByText := true, laidKinds := [.data, .pinned], laidTests := true, laidLooks := .later }
def UndoBackUptoCardSaid : Prop := Claim7.holds Tryd.pinned (.plain (OpenSpec.upto undoBackSpec)) undoBackUptoCard

/-- THE SECOND FORM's CARD OF 'henkanlaw40.UndoTexts'. -/
def undoTextsUptoCard : Claim7 := { stood := { row := undoTextsUptoRow, standIns := [], harness := (true, "11ee19865d1af9b092e7b59d9a9b7a333a98953c561b64c96e703281a23b3dbc"), looks := false }, kinds := [], alts := [], laidByText := true, laidKinds := [.data, .pinned], laidTests := true, laidLooks := .later }
def UndoTextsUptoCardSaid : Prop := Claim7.holds Tryd.pinned (.plain (OpenSpec.upto undoTextsSpec)) undoTextsUptoCard

/-- THE SECOND FORM's CARD OF 'henkanlaw40.UndoKnown'. -/
def undoKnownUptoCard : Claim7 := { stood := { row := undoKnownUptoRow, standIns := [], harness := (true, "11ee19865d1af9b092e7b59d9a9b7a333a98953c561b64c96e703281a23b3dbc"), looks := false }, kinds := [], alts := [], laidByText := true, laidKinds := [.data, .pinned], laidTests := true, laidLooks := .later }
def UndoKnownUptoCardSaid : Prop := Claim7.holds Tryd.pinned (.plain (OpenSpec.upto undoKnownSpec)) undoKnownUptoCard
end Rows
end Go.Proofs.YtebjfigjfhghcaaDoor
