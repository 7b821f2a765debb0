/-
  The package-level table of package crc: what a row's list says of it, and a world that holds it. Conditions: none.
-/
import Derived.Test.YtncnocejmbfhaaaDoorCrcWalks
import Derived.Lib.LaidTab
import Derived.OpenShut
namespace Go.Proofs.YtncnocejmbfhaaaDoor.Crc
open Go.ChangeShapes Go.WideShapes Go.ChangeAt Go.RowKit

theorem gTab : Tryd.prog.globalNamed "henkan/crc.quarter" = some 0 := by kernel_rfl
theorem gTabType : (Tryd.prog.globals[0]?).map (·.type) = some 86 := by kernel_rfl
theorem cellsTab : Tryd.prog.cellsOf 86 = 16 := by kernel_rfl
theorem cellsWord : Tryd.prog.cellsOf 57 = 1 := by kernel_rfl
def tabInt : List Int := [0, 498536548, 997073096, 651767980, 1994146192, 1802195444, 1303535960, 1342533948, 3988292384, 4027552580, 3604390888, 3412177804, 2607071920, 2262029012, 2685067896, 3183342108]
theorem tabInt_eq : tabInt = tab.map (fun n : Nat => (n : Int)) := by decide

/-- what a row's list gives -/
theorem tab_of {W : World} (h : laidMetH Tryd.prog [("henkan/crc.quarter", Rows.laid_henkan_crc_quarter)] W) : Tab W := by
  have ht : Lib.TabIs Tryd.prog W "henkan/crc.quarter" .u32 tabInt :=
    Lib.tabIs_of_head (rest := []) gTab gTabType Tryd.underlying86 Tryd.underlying57 cellsWord cellsTab h
  intro j hj
  rw [ht.cell gTab j (by simpa [tabInt] using hj), tabInt_eq]
  have hl : j < tab.length := hj
  simp [List.getD, hl]

/-- a world for the witness: the settled one, the table holding what its initialiser lays -/
noncomputable def laidWorld (os : Os) : World :=
  { World.holding Tryd.prog os ⟨#[], #[], []⟩ with heap := (World.holding Tryd.prog os ⟨#[], #[], []⟩).heap.modify 0 fun
      | .cells _ t frozen => .cells #[.int .u32 0, .int .u32 498536548, .int .u32 997073096, .int .u32 651767980, .int .u32 1994146192, .int .u32 1802195444, .int .u32 1303535960, .int .u32 1342533948, .int .u32 3988292384, .int .u32 4027552580, .int .u32 3604390888, .int .u32 3412177804, .int .u32 2607071920, .int .u32 2262029012, .int .u32 2685067896, .int .u32 3183342108] t frozen
      | o => o }
end Go.Proofs.YtncnocejmbfhaaaDoor.Crc
