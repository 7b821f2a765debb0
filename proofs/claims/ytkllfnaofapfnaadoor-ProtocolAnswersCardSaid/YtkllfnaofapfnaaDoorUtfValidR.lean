/-
  The contract of the reference's Valid (henkanref01). Conditions: the string's length is within the form's reach.
-/
import Derived.Test.YtkllfnaofapfnaaDoorUtfNext
namespace Go.Proofs.YtkllfnaofapfnaaDoor.Utf
open Go.RowKit Wd

theorem validR_any (s : ByteArray) (w : World) (hs : s.size ≤ 30000000000000) :
    Calls Tryd.prog 67 #[.string s] w fun e w' => e = .returned (.bool (runes s.data.toList).isSome) ∧ Below w.heap.size w w' := by
  have HC := Lib.hid (runesR_any s w hs)
  generalize runes s.data.toList = R at HC ⊢
  rcases R with _ | cs
  all_goals
    go_enter Tryd.func67, Tryd.ntmps67
    go_wp2_with fail
    refine HC.out.mono ?_
    rintro e w1 ⟨hb, he⟩
    first
      | (obtain ⟨v, rfl, _⟩ := he)
      | (simp only at he; subst he)
    go_wp2_with fail
    go_ret
    exact ⟨rfl, hb⟩
end Go.Proofs.YtkllfnaofapfnaaDoor.Utf
