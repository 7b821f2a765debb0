/-
  The contract of Count of package utf. Conditions: the two tables of unicode/utf8 lie as their initialisers lay them; the string's length is within the form's reach.
-/
import Derived.Test.YtebjfigjfhghcaaDoorUtfTabs0
namespace Go.Proofs.YtebjfigjfhghcaaDoor.Utf
open Go.RowKit Wd

theorem count_any (s : ByteArray) (w : World) (hs : s.size < 9223372036854775807) (hT : Tabs w) :
    Calls Tryd.prog 29 #[.string s] w fun e w' => e = .returned (.int .i64 (cnt s.data.toList)) ∧ Below w.heap.size w w' := by
  have HC := Lib.hid (validS_any s w (by omega) hT)
  have HN := Lib.hid (fun W => Tryd.utf8_RuneCountInString s W hs)
  clear hT
  unfold cnt
  generalize hR : runes s.data.toList = R at HC ⊢
  rcases R with _ | cs
  · clear hR
    go_enter Tryd.func29, Tryd.ntmps29
    go_wp2_with fail
    refine HC.out.mono ?_
    rintro e w1 ⟨rfl, hb⟩
    go_wp2_with fail
    go_ret
    exact ⟨rfl, hb⟩
  · rw [count_eq s cs hR] at HN
    clear hR
    go_enter Tryd.func29, Tryd.ntmps29
    go_wp2_with fail
    refine HC.out.mono ?_
    rintro e w1 ⟨rfl, hb⟩
    go_wp2_with fail
    refine (HN.out _).mono ?_
    rintro e w2 ⟨rfl, pos, rfl⟩
    go_wp2_with fail
    go_ret
    exact ⟨rfl, hb.alloc hb.size _⟩
end Go.Proofs.YtebjfigjfhghcaaDoor.Utf
