/-
  The contract of lightRequest of package henkanlaw42. Conditions: none.
-/
import Derived.Test.YtkllfnaofapfnaaDoorReqRef
namespace Go.Proofs.YtkllfnaofapfnaaDoor.Prot
open Go.RowKit Wd Utf Cod

/-- whether a request is looked at -/
def lightR (r : Req) : Bool := decide (r.bef.size ≤ 100000 ∧ r.sel.size ≤ 100000 ∧ r.sur.size ≤ 100000 ∧ r.n8 ≤ 100000 ∧ r.n7 ≤ 1000)
set_option maxRecDepth 100000 in
set_option maxHeartbeats 2000000 in
theorem light_any (r : Req) (w : World) :
    Calls Tryd.prog 13 #[.agg r.cells] w fun e w' => e = .returned (.bool (lightR r)) ∧ Below w.heap.size w w' := by
  obtain ⟨kind, se, kk, kc, be, sl, on, su, A7, n7, c7, A8, n8, c8⟩ := r
  unfold Req.cells
  by_cases h1 : be.size ≤ 100000
  · have g1 : (be.size : Int) ≤ 100000 := by omega
    by_cases h2 : sl.size ≤ 100000
    · have g2 : (sl.size : Int) ≤ 100000 := by omega
      by_cases h3 : su.size ≤ 100000
      · have g3 : (su.size : Int) ≤ 100000 := by omega
        by_cases h4 : n8 ≤ 100000
        · have g4 : (n8 : Int) ≤ 100000 := by omega
          by_cases h5 : n7 ≤ 1000
          · have g5 : (n7 : Int) ≤ 1000 := by omega
            have HV : Hid (lightR ⟨kind, se, kk, kc, be, sl, on, su, A7, n7, c7, A8, n8, c8⟩ = true) := Lib.hid (decide_eq_true ⟨h1, h2, h3, h4, h5⟩)
            clear h1 h2 h3 h4 h5
            go_enter Tryd.func13, Tryd.ntmps13
            go_wp2_with fail
            go_ret
            exact ⟨by rw [HV.out]; simp <;> omega, (Below.refl _ _).alloc (Nat.le_refl _) _⟩
          · have g5 : (1000 : Int) < (n7 : Int) := by omega
            have HV : Hid (lightR ⟨kind, se, kk, kc, be, sl, on, su, A7, n7, c7, A8, n8, c8⟩ = false) := Lib.hid (decide_eq_false (fun h => h5 h.2.2.2.2))
            clear h1 h2 h3 h4 h5
            go_enter Tryd.func13, Tryd.ntmps13
            go_wp2_with fail
            go_ret
            exact ⟨by rw [HV.out]; simp <;> omega, (Below.refl _ _).alloc (Nat.le_refl _) _⟩
        · have g4 : (100000 : Int) < (n8 : Int) := by omega
          have HV : Hid (lightR ⟨kind, se, kk, kc, be, sl, on, su, A7, n7, c7, A8, n8, c8⟩ = false) := Lib.hid (decide_eq_false (fun h => h4 h.2.2.2.1))
          clear h1 h2 h3 h4
          go_enter Tryd.func13, Tryd.ntmps13
          go_wp2_with fail
          go_ret
          exact ⟨by rw [HV.out]; first | rfl | (simp <;> omega), (Below.refl _ _).alloc (Nat.le_refl _) _⟩
      · have g3 : (100000 : Int) < (su.size : Int) := by omega
        have HV : Hid (lightR ⟨kind, se, kk, kc, be, sl, on, su, A7, n7, c7, A8, n8, c8⟩ = false) := Lib.hid (decide_eq_false (fun h => h3 h.2.2.1))
        clear h1 h2 h3
        go_enter Tryd.func13, Tryd.ntmps13
        go_wp2_with fail
        go_ret
        exact ⟨by rw [HV.out]; first | rfl | (simp <;> omega), (Below.refl _ _).alloc (Nat.le_refl _) _⟩
    · have g2 : (100000 : Int) < (sl.size : Int) := by omega
      have HV : Hid (lightR ⟨kind, se, kk, kc, be, sl, on, su, A7, n7, c7, A8, n8, c8⟩ = false) := Lib.hid (decide_eq_false (fun h => h2 h.2.1))
      clear h1 h2
      go_enter Tryd.func13, Tryd.ntmps13
      go_wp2_with fail
      go_ret
      exact ⟨by rw [HV.out]; first | rfl | (simp <;> omega), (Below.refl _ _).alloc (Nat.le_refl _) _⟩
  · have g1 : (100000 : Int) < (be.size : Int) := by omega
    have HV : Hid (lightR ⟨kind, se, kk, kc, be, sl, on, su, A7, n7, c7, A8, n8, c8⟩ = false) := Lib.hid (decide_eq_false (fun h => h1 h.1))
    clear h1
    go_enter Tryd.func13, Tryd.ntmps13
    go_wp2_with fail
    go_ret
    exact ⟨by rw [HV.out]; first | rfl | (simp <;> omega), (Below.refl _ _).alloc (Nat.le_refl _) _⟩
end Go.Proofs.YtkllfnaofapfnaaDoor.Prot
