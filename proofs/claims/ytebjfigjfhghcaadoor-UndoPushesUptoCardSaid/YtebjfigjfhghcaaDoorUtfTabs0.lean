/-
  The two tables of unicode/utf8; utf8.ValidString at this program. Conditions: the two tables lie as their initialisers lay them; the strings' lengths are within the form's reach.
-/
import Derived.Test.YtebjfigjfhghcaaDoorUtfRun
import Derived.Test.YtebjfigjfhghcaaDoorShelf
namespace Go.Proofs.YtebjfigjfhghcaaDoor.Utf
open Go.RowKit Wd

/-- the two tables of unicode/utf8 -/
def Tabs (w : World) : Prop := Lib.Utf8Tabs (Tryd.lays196_ren.g 3) (Tryd.lays196_ren.g 4) w
theorem Tabs.keep {w w' : World} (h : Tabs w) (hb : Below w.heap.size w w') : Tabs w' := by
  refine ⟨fun c hc => ?_, fun i hi => ⟨?_, ?_⟩⟩
  · have := h.1 c hc
    rw [hb.cell (World.block_lt_of_cell? w _ this)]; exact this
  · have := (h.2 i hi).1
    rw [hb.cell (World.block_lt_of_cell? w _ this)]; exact this
  · have := (h.2 i hi).2
    rw [hb.cell (World.block_lt_of_cell? w _ this)]; exact this
theorem Tabs.alloc {w : World} (h : Tabs w) (o : Obj) : Tabs (w.alloc o) := h.keep ((Below.refl _ _).alloc (Nat.le_refl _) _)
theorem Tabs.drew {w : World} (h : Tabs w) : Tabs w.drew := h
theorem Tabs.drewN {w : World} (h : Tabs w) (q : Nat) : Tabs (w.drewN q) := h

theorem validS_any (s : ByteArray) (w : World) (hs : s.size ≤ 9223372036854775807) (hT : Tabs w) :
    Calls Tryd.prog 41 #[.string s] w fun e w' => e = .returned (.bool (runes s.data.toList).isSome) ∧ Below w.heap.size w w' := by
  rw [← valid_eq]; exact Tryd.utf8_ValidString s w hs hT

/-- how Runes ends -/
def RunesPost (w : World) (R : Option (List Nat)) (e : Ending) (w' : World) : Prop :=
  Below w.heap.size w w' ∧ match R with
  | none => e = .returned (.tuple #[.slice none 0 0, .bool false])
  | some cs => ∃ v, e = .returned (.tuple #[v, .bool true]) ∧ w'.ownsRow w.heap.size 21 1 v cs.length (is .i32 (zs cs))
theorem Tryd.infoRune : (Tryd.prog.info? 21).map (fun i => (i.zero, i.size, i.bytes)) = some (some (.int .i32 0), 1, 4) := by kernel_rfl
end Go.Proofs.YtebjfigjfhghcaaDoor.Utf
