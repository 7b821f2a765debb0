/-
  DERIVED. GIVEN WITH THE SEED: THE CARDS: each row of YtgleaiecdelbbaaDoorRows.lean that lists a variable, with what it lists TIED to the program's text (the seventh form; the later family's looks); each row that meets fmt, with fmt's text TOLD by the authors' own Lean function (tested against real Go, not proved from fmt's source: count such statements apart). THE CARD IS WHAT COUNTS. Prove the row's statement (the work); the ties are given (YtgleaiecdelbbaaDoorTie.lean); close each card by the builder's one call (the guide's Derived/Test/ToyasCard.lean, 'card_holds'). Laid BY PROGRAM, IN A SANDBOX (cutbox-door.mjs). By AI agents, Wed Nov 11 2026. No macro, syntax, notation, axiom, sorry.
-/
import Derived.Test.YtgleaiecdelbbaaDoorRows
import GoSem.ClaimSeven
namespace Go.Proofs.YtgleaiecdelbbaaDoor
namespace Rows

/-- THE TIED CARD OF 'henkanlaw13.CrcSums'. -/
def crcSumsCard : Claim7 := { stood := { row := crcSumsRow, standIns := [], harness := (true, "c7e2de4d2ad585a566ce6a7f7eca6782aba1dcdbeb69c9265e050be7597b251f"), looks := false }, kinds := [], alts := [], laidByText := true, laidKinds := [.data], laidTests := true, laidLooks := .later }
def CrcSumsCardSaid : Prop := Claim7.holds Tryd.pinned (.plain (OpenSpec.ofChange crcSumsSpec)) crcSumsCard

/-- THE TIED CARD OF 'henkanlaw13.CrcJoins'. -/
def crcJoinsCard : Claim7 := { stood := { row := crcJoinsRow, standIns := [], harness := (true, "c7e2de4d2ad585a566ce6a7f7eca6782aba1dcdbeb69c9265e050be7597b251f"), looks := false }, kinds := [], alts := [], laidByText := true, laidKinds := [.data], laidTests := true, laidLooks := .later }
def CrcJoinsCardSaid : Prop := Claim7.holds Tryd.pinned (.plain (OpenSpec.ofChange crcJoinsSpec)) crcJoinsCard

/-- THE TIED CARD OF 'henkanlaw13.CrcConcats'. -/
def crcConcatsCard : Claim7 := { stood := { row := crcConcatsRow, standIns := [], harness := (true, "c7e2de4d2ad585a566ce6a7f7eca6782aba1dcdbeb69c9265e050be7597b251f"), looks := false }, kinds := [], alts := [], laidByText := true, laidKinds := [.data], laidTests := true, laidLooks := .later }
def CrcConcatsCardSaid : Prop := Claim7.holds Tryd.pinned (.plain (OpenSpec.ofChange crcConcatsSpec)) crcConcatsCard

/-- THE TIED CARD OF 'henkanlaw13.CrcGroups'. -/
def crcGroupsCard : Claim7 := { stood := { row := crcGroupsRow, standIns := [], harness := (true, "c7e2de4d2ad585a566ce6a7f7eca6782aba1dcdbeb69c9265e050be7597b251f"), looks := false }, kinds := [], alts := [], laidByText := true, laidKinds := [.data], laidTests := true, laidLooks := .later }
def CrcGroupsCardSaid : Prop := Claim7.holds Tryd.pinned (.plain (OpenSpec.ofChange crcGroupsSpec)) crcGroupsCard

/-- THE TIED CARD OF 'henkanlaw13.CrcBursts'. -/
def crcBurstsCard : Claim7 := { stood := { row := crcBurstsRow, standIns := [], harness := (true, "c7e2de4d2ad585a566ce6a7f7eca6782aba1dcdbeb69c9265e050be7597b251f"), looks := false }, kinds := [], alts := [], laidByText := true, laidKinds := [.data], laidTests := true, laidLooks := .later }
def CrcBurstsCardSaid : Prop := Claim7.holds Tryd.pinned (.plain (OpenSpec.ofChange crcBurstsSpec)) crcBurstsCard

/-- THE TIED CARD OF 'henkanlaw13.CrcXors'. -/
def crcXorsCard : Claim7 := { stood := { row := crcXorsRow, standIns := [], harness := (true, "c7e2de4d2ad585a566ce6a7f7eca6782aba1dcdbeb69c9265e050be7597b251f"), looks := false }, kinds := [], alts := [], laidByText := true, laidKinds := [.data], laidTests := true, laidLooks := .later }
def CrcXorsCardSaid : Prop := Claim7.holds Tryd.pinned (.plain (OpenSpec.ofChange crcXorsSpec)) crcXorsCard

/-- THE TIED CARD OF 'henkanlaw13.CrcEnds'. -/
def crcEndsCard : Claim7 := { stood := { row := crcEndsRow, standIns := [], harness := (true, "c7e2de4d2ad585a566ce6a7f7eca6782aba1dcdbeb69c9265e050be7597b251f"), looks := false }, kinds := [], alts := [], laidByText := true, laidKinds := [.data], laidTests := true, laidLooks := .later }
def CrcEndsCardSaid : Prop := Claim7.holds Tryd.pinned (.plain (OpenSpec.ofChange crcEndsSpec)) crcEndsCard

/-- THE TIED CARD OF 'henkanlaw13.CrcKnown'. -/
def crcKnownCard : Claim7 := { stood := { row := crcKnownRow, standIns := [], harness := (true, "c7e2de4d2ad585a566ce6a7f7eca6782aba1dcdbeb69c9265e050be7597b251f"), looks := false }, kinds := [], alts := [], laidByText := true, laidKinds := [.data], laidTests := true, laidLooks := .later }
def CrcKnownCardSaid : Prop := Claim7.holds Tryd.pinned (.plain (OpenSpec.ofChange crcKnownSpec)) crcKnownCard

/-- THE SECOND FORM's CARD OF 'henkanlaw13.CrcSums'. -/
def crcSumsUptoCard : Claim7 := { stood := { row := crcSumsUptoRow, standIns := [], harness := (true, "c7e2de4d2ad585a566ce6a7f7eca6782aba1dcdbeb69c9265e050be7597b251f"), looks := false }, kinds := [], alts := [], laidByText := true, laidKinds := [.data], laidTests := true, laidLooks := .later }
def CrcSumsUptoCardSaid : Prop := Claim7.holds Tryd.pinned (.plain (OpenSpec.upto crcSumsSpec)) crcSumsUptoCard

/-- THE SECOND FORM's CARD OF 'henkanlaw13.CrcJoins'. -/
def crcJoinsUptoCard : Claim7 := { stood := { row := crcJoinsUptoRow, standIns := [], harness := (true, "c7e2de4d2ad585a566ce6a7f7eca6782aba1dcdbeb69c9265e050be7597b251f"), looks := false }, kinds := [], alts := [], laidByText := true, laidKinds := [.data], laidTests := true, laidLooks := .later }
def CrcJoinsUptoCardSaid : Prop := Claim7.holds Tryd.pinned (.plain (OpenSpec.upto crcJoinsSpec)) crcJoinsUptoCard

/-- THE SECOND FORM's CARD OF 'henkanlaw13.CrcConcats'. -/
def crcConcatsUptoCard : Claim7 := { stood := { row := crcConcatsUptoRow, standIns := [], harness := (true, "c7e2de4d2ad585a566ce6a7f7eca6782aba1dcdbeb69c9265e050be7597b251f"), looks := false }, kinds := [], alts := [], laidByText := true, laidKinds := [.data], laidTests := true, laidLooks := .later }
def CrcConcatsUptoCardSaid : Prop := Claim7.holds Tryd.pinned (.plain (OpenSpec.upto crcConcatsSpec)) crcConcatsUptoCard

/-- THE SECOND FORM's CARD OF 'henkanlaw13.CrcGroups'. -/
def crcGroupsUptoCard : Claim7 := { stood := { row := crcGroupsUptoRow, standIns := [], harness := (true, "c7e2de4d2ad585a566ce6a7f7eca6782aba1dcdbeb69c9265e050be7597b251f"), looks := false }, kinds := [], alts := [], laidByText := true, laidKinds := [.data], laidTests := true, laidLooks := .later }
def CrcGroupsUptoCardSaid : Prop := Claim7.holds Tryd.pinned (.plain (OpenSpec.upto crcGroupsSpec)) crcGroupsUptoCard

/-- THE SECOND FORM's CARD OF 'henkanlaw13.CrcBursts'. -/
def crcBurstsUptoCard : Claim7 := { stood := { row := crcBurstsUptoRow, standIns := [], harness := (true, "c7e2de4d2ad585a566ce6a7f7eca6782aba1dcdbeb69c9265e050be7597b251f"), looks := false }, kinds := [], alts := [], laidByText := true, laidKinds := [.data], laidTests := true, laidLooks := .later }
def CrcBurstsUptoCardSaid : Prop := Claim7.holds Tryd.pinned (.plain (OpenSpec.upto crcBurstsSpec)) crcBurstsUptoCard

/-- THE SECOND FORM's CARD OF 'henkanlaw13.CrcXors'. -/
def crcXorsUptoCard : Claim7 := { stood := { row := crcXorsUptoRow, standIns := [], harness := (true, "c7e2de4d2ad585a566ce6a7f7eca6782aba1dcdbeb69c9265e050be7597b251f"), looks := false }, kinds := [], alts := [], laidByText := true, laidKinds := [.data], laidTests := true, laidLooks := .later }
def CrcXorsUptoCardSaid : Prop := Claim7.holds Tryd.pinned (.plain (OpenSpec.upto crcXorsSpec)) crcXorsUptoCard

/-- THE SECOND FORM's CARD OF 'henkanlaw13.CrcEnds'. -/
def crcEndsUptoCard : Claim7 := { stood := { row := crcEndsUptoRow, standIns := [], harness := (true, "c7e2de4d2ad585a566ce6a7f7eca6782aba1dcdbeb69c9265e050be7597b251f"), looks := false }, kinds := [], alts := [], laidByText := true, laidKinds := [.data], laidTests := true, laidLooks := .later }
def CrcEndsUptoCardSaid : Prop := Claim7.holds Tryd.pinned (.plain (OpenSpec.upto crcEndsSpec)) crcEndsUptoCard

/-- THE SECOND FORM's CARD OF 'henkanlaw13.CrcKnown'. -/
def crcKnownUptoCard : Claim7 := { stood := { row := crcKnownUptoRow, standIns := [], harness := (true, "c7e2de4d2ad585a566ce6a7f7eca6782aba1dcdbeb69c9265e050be7597b251f"), looks := false }, kinds := [], alts := [], laidByText := true, laidKinds := [.data], laidTests := true, laidLooks := .later }
def CrcKnownUptoCardSaid : Prop := Claim7.holds Tryd.pinned (.plain (OpenSpec.upto crcKnownSpec)) crcKnownUptoCard
end Rows
end Go.Proofs.YtgleaiecdelbbaaDoor
