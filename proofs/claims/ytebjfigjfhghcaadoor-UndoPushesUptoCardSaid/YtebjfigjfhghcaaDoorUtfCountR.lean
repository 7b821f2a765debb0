/-
  The contract of the reference's Count (henkanref01). Conditions: the string's length is within the form's reach.
-/
import Derived.Test.YtebjfigjfhghcaaDoorUtfNext
namespace Go.Proofs.YtebjfigjfhghcaaDoor.Utf
open Go.RowKit Wd

theorem countR_any (s : ByteArray) (w : World) (hs : s.size ≤ 30000000000000) :
    Calls Tryd.prog 39 #[.string s] w fun e w' => e = .returned (.int .i64 (cnt s.data.toList)) ∧ Below w.heap.size w w' := by
  have HC := Lib.hid (runesR_any s w hs)
  unfold cnt
  generalize runes s.data.toList = R at HC ⊢
  rcases R with _ | cs
  · go_enter Tryd.func39, Tryd.ntmps39
    go_wp2_with fail
    refine HC.out.mono ?_
    rintro e w1 ⟨hb, he⟩
    simp only at he
    subst he
    go_wp2_with fail
    go_ret
    exact ⟨rfl, hb⟩
  · go_enter Tryd.func39, Tryd.ntmps39
    go_wp2_with fail
    refine HC.out.mono ?_
    rintro e w1 ⟨hb, v, rfl, ho⟩
    obtain ⟨A, c, rfl, _⟩ := own_ints ho
    go_wp2_with fail
    go_ret
    exact ⟨rfl, hb⟩
end Go.Proofs.YtebjfigjfhghcaaDoor.Utf
