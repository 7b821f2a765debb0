/-
  DERIVED. GIVEN WITH THE SEED: THE CARDS: each row of YtncnocejmbfhaaaDoorRows.lean that lists a variable, with what it lists TIED to the program's text (the seventh form; the later family's looks); each row that meets fmt, with fmt's text TOLD by the authors' own Lean function (tested against real Go, not proved from fmt's source: count such statements apart). THE CARD IS WHAT COUNTS. Prove the row's statement (the work); the ties are given (YtncnocejmbfhaaaDoorTie.lean); close each card by the builder's one call (the guide's Derived/Test/ToyasCard.lean, 'card_holds'). Laid BY PROGRAM, IN A SANDBOX (cutbox-door.mjs). By AI agents, Wed Nov 11 2026. No macro, syntax, notation, axiom, sorry.
-/
import Derived.Test.YtncnocejmbfhaaaDoorRows
import GoSem.ClaimSeven
namespace Go.Proofs.YtncnocejmbfhaaaDoor
namespace Rows

/-- THE TIED CARD OF 'henkanlaw14.SectionJoins'. -/
def sectionJoinsCard : Claim7 := { stood := { row := sectionJoinsRow, standIns := [], harness := (true, "d60a7e76ab49ff6943279681166370a7770b7c45381cdb0844262613ae88c6ec"), looks := true }, kinds := [], alts := [], laidByText := true, laidKinds := [.data], laidTests := true, laidLooks := .later }
def SectionJoinsCardSaid : Prop := Claim7.holds Tryd.pinned (.plain (OpenSpec.ofChange sectionJoinsSpec)) sectionJoinsCard

/-- THE TIED CARD OF 'henkanlaw14.SectionSplits'. -/
def sectionSplitsCard : Claim7 := { stood := { row := sectionSplitsRow, standIns := [], harness := (true, "d60a7e76ab49ff6943279681166370a7770b7c45381cdb0844262613ae88c6ec"), looks := true }, kinds := [], alts := [], laidByText := true, laidKinds := [.data], laidTests := true, laidLooks := .later }
def SectionSplitsCardSaid : Prop := Claim7.holds Tryd.pinned (.plain (OpenSpec.ofChange sectionSplitsSpec)) sectionSplitsCard

/-- THE TIED CARD OF 'henkanlaw14.SectionFinds'. -/
def sectionFindsCard : Claim7 := { stood := { row := sectionFindsRow, standIns := [], harness := (true, "d60a7e76ab49ff6943279681166370a7770b7c45381cdb0844262613ae88c6ec"), looks := true }, kinds := [], alts := [], laidByText := true, laidKinds := [.data], laidTests := true, laidLooks := .later }
def SectionFindsCardSaid : Prop := Claim7.holds Tryd.pinned (.plain (OpenSpec.ofChange sectionFindsSpec)) sectionFindsCard

/-- THE TIED CARD OF 'henkanlaw14.SectionBack'. -/
def sectionBackCard : Claim7 := { stood := { row := sectionBackRow, standIns := [], harness := (true, "d60a7e76ab49ff6943279681166370a7770b7c45381cdb0844262613ae88c6ec"), looks := true }, kinds := [], alts := [], laidByText := true, laidKinds := [.data], laidTests := true, laidLooks := .later }
def SectionBackCardSaid : Prop := Claim7.holds Tryd.pinned (.plain (OpenSpec.ofChange sectionBackSpec)) sectionBackCard

/-- THE TIED CARD OF 'henkanlaw14.SectionGuards'. -/
def sectionGuardsCard : Claim7 := { stood := { row := sectionGuardsRow, standIns := [], harness := (true, "d60a7e76ab49ff6943279681166370a7770b7c45381cdb0844262613ae88c6ec"), looks := true }, kinds := [], alts := [], laidByText := true, laidKinds := [.data], laidTests := true, laidLooks := .later }
def SectionGuardsCardSaid : Prop := Claim7.holds Tryd.pinned (.plain (OpenSpec.ofChange sectionGuardsSpec)) sectionGuardsCard

/-- THE TIED CARD OF 'henkanlaw14.SectionEnds'. -/
def sectionEndsCard : Claim7 := { stood := { row := sectionEndsRow, standIns := [], harness := (true, "d60a7e76ab49ff6943279681166370a7770b7c45381cdb0844262613ae88c6ec"), looks := true }, kinds := [], alts := [], laidByText := true, laidKinds := [.data], laidTests := true, laidLooks := .later }
def SectionEndsCardSaid : Prop := Claim7.holds Tryd.pinned (.plain (OpenSpec.ofChange sectionEndsSpec)) sectionEndsCard

/-- THE TIED CARD OF 'henkanlaw14.SectionLimits'. -/
def sectionLimitsCard : Claim7 := { stood := { row := sectionLimitsRow, standIns := [], harness := (true, "d60a7e76ab49ff6943279681166370a7770b7c45381cdb0844262613ae88c6ec"), looks := true }, kinds := [], alts := [], laidByText := true, laidKinds := [.data], laidTests := true, laidLooks := .later }
def SectionLimitsCardSaid : Prop := Claim7.holds Tryd.pinned (.plain (OpenSpec.ofChange sectionLimitsSpec)) sectionLimitsCard

/-- THE TIED CARD OF 'henkanlaw14.SectionKnown'. -/
def sectionKnownCard : Claim7 := { stood := { row := sectionKnownRow, standIns := [], harness := (true, "d60a7e76ab49ff6943279681166370a7770b7c45381cdb0844262613ae88c6ec"), looks := true }, kinds := [], alts := [], laidByText := true, laidKinds := [.data], laidTests := true, laidLooks := .later }
def SectionKnownCardSaid : Prop := Claim7.holds Tryd.pinned (.plain (OpenSpec.ofChange sectionKnownSpec)) sectionKnownCard

/-- THE SECOND FORM's CARD OF 'henkanlaw14.SectionJoins'. -/
def sectionJoinsUptoCard : Claim7 := { stood := { row := sectionJoinsUptoRow, standIns := [], harness := (true, "d60a7e76ab49ff6943279681166370a7770b7c45381cdb0844262613ae88c6ec"), looks := true }, kinds := [], alts := [], laidByText := true, laidKinds := [.data], laidTests := true, laidLooks := .later }
def SectionJoinsUptoCardSaid : Prop := Claim7.holds Tryd.pinned (.plain (OpenSpec.upto sectionJoinsSpec)) sectionJoinsUptoCard

/-- THE SECOND FORM's CARD OF 'henkanlaw14.SectionSplits'. -/
def sectionSplitsUptoCard : Claim7 := { stood := { row := sectionSplitsUptoRow, standIns := [], harness := (true, "d60a7e76ab49ff6943279681166370a7770b7c45381cdb0844262613ae88c6ec"), looks := true }, kinds := [], alts := [], laidByText := true, laidKinds := [.data], laidTests := true, laidLooks := .later }
def SectionSplitsUptoCardSaid : Prop := Claim7.holds Tryd.pinned (.plain (OpenSpec.upto sectionSplitsSpec)) sectionSplitsUptoCard

/-- THE SECOND FORM's CARD OF 'henkanlaw14.SectionFinds'. -/
def sectionFindsUptoCard : Claim7 := { stood := { row := sectionFindsUptoRow, standIns := [], harness := (true, "d60a7e76ab49ff6943279681166370a7770b7c45381cdb0844262613ae88c6ec"), looks := true }, kinds := [], alts := [], laidByText := true, laidKinds := [.data], laidTests := true, laidLooks := .later }
def SectionFindsUptoCardSaid : Prop := Claim7.holds Tryd.pinned (.plain (OpenSpec.upto sectionFindsSpec)) sectionFindsUptoCard

/-- THE SECOND FORM's CARD OF 'henkanlaw14.SectionBack'. -/
def sectionBackUptoCard : Claim7 := { stood := { row := sectionBackUptoRow, standIns := [], harness := (true, "d60a7e76ab49ff6943279681166370a7770b7c45381cdb0844262613ae88c6ec"), looks := true }, kinds := [], alts := [], laidByText := true, laidKinds := [.data], laidTests := true, laidLooks := .later }
def SectionBackUptoCardSaid : Prop := Claim7.holds Tryd.pinned (.plain (OpenSpec.upto sectionBackSpec)) sectionBackUptoCard

/-- THE SECOND FORM's CARD OF 'henkanlaw14.SectionGuards'. -/
def sectionGuardsUptoCard : Claim7 := { stood := { row := sectionGuardsUptoRow, standIns := [], harness := (true, "d60a7e76ab49ff6943279681166370a7770b7c45381cdb0844262613ae88c6ec"), looks := true }, kinds := [], alts := [], laidByText := true, laidKinds := [.data], laidTests := true, laidLooks := .later }
def SectionGuardsUptoCardSaid : Prop := Claim7.holds Tryd.pinned (.plain (OpenSpec.upto sectionGuardsSpec)) sectionGuardsUptoCard

/-- THE SECOND FORM's CARD OF 'henkanlaw14.SectionEnds'. -/
def sectionEndsUptoCard : Claim7 := { stood := { row := sectionEndsUptoRow, standIns := [], harness := (true, "d60a7e76ab49ff6943279681166370a7770b7c45381cdb0844262613ae88c6ec"), looks := true }, kinds := [], alts := [], laidByText := true, laidKinds := [.data], laidTests := true, laidLooks := .later }
def SectionEndsUptoCardSaid : Prop := Claim7.holds Tryd.pinned (.plain (OpenSpec.upto sectionEndsSpec)) sectionEndsUptoCard

/-- THE SECOND FORM's CARD OF 'henkanlaw14.SectionLimits'. -/
def sectionLimitsUptoCard : Claim7 := { stood := { row := sectionLimitsUptoRow, standIns := [], harness := (true, "d60a7e76ab49ff6943279681166370a7770b7c45381cdb0844262613ae88c6ec"), looks := true }, kinds := [], alts := [], laidByText := true, laidKinds := [.data], laidTests := true, laidLooks := .later }
def SectionLimitsUptoCardSaid : Prop := Claim7.holds Tryd.pinned (.plain (OpenSpec.upto sectionLimitsSpec)) sectionLimitsUptoCard

/-- THE SECOND FORM's CARD OF 'henkanlaw14.SectionKnown'. -/
def sectionKnownUptoCard : Claim7 := { stood := { row := sectionKnownUptoRow, standIns := [], harness := (true, "d60a7e76ab49ff6943279681166370a7770b7c45381cdb0844262613ae88c6ec"), looks := true }, kinds := [], alts := [], laidByText := true, laidKinds := [.data], laidTests := true, laidLooks := .later }
def SectionKnownUptoCardSaid : Prop := Claim7.holds Tryd.pinned (.plain (OpenSpec.upto sectionKnownSpec)) sectionKnownUptoCard
end Rows
end Go.Proofs.YtncnocejmbfhaaaDoor
