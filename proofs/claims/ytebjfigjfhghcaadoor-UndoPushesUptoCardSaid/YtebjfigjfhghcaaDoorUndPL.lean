/-
  A tail of steps of the call's own: what Push and Pop give back. Conditions: none.
-/
import Derived.Test.YtebjfigjfhghcaaDoorUndSteps
namespace Go.Proofs.YtebjfigjfhghcaaDoor.Und
open Go.RowKit Wd Utf

/-- a tail of steps of the call's own -/
structure PL (T ity : TypeId) (lo : Nat) (w : World) (v : Value) (rs : List (Sp × Stp)) : Prop where
  cut : ∃ (A0 : Option Addr) (c0 d c : Nat) (full : List (Sp × Stp)), OP T ity lo w (.slice A0 full.length c0) full ∧ d ≤ full.length ∧ v = .slice (A0.map (·.add (d * 11))) (full.length - d) c ∧ rs = full.drop d ∧ full.length - d ≤ c
section
variable {T ity : TypeId} {w w' : World} {lo : Nat} {v : Value} {rs ps : List (Sp × Stp)}
theorem PL.nil (T ity : TypeId) (lo : Nat) (w : World) : PL T ity lo w (.slice none 0 0) [] := ⟨none, 0, 0, 0, [], OP.nil _ _ _ _, Nat.le_refl _, rfl, rfl, Nat.le_refl _⟩
theorem PL.keep (h : PL T ity lo w v rs) (hb : Below w.heap.size w w') : PL T ity lo w' v rs := by
  obtain ⟨A0, c0, d, c, full, h1, h2, h3, h4, h5⟩ := h.cut
  exact ⟨A0, c0, d, c, full, h1.keep hb, h2, h3, h4, h5⟩
theorem PL.lower {lo' : Nat} (h : PL T ity lo w v rs) (hl : lo' ≤ lo) : PL T ity lo' w v rs := by
  obtain ⟨A0, c0, d, c, full, h1, h2, h3, h4, h5⟩ := h.cut
  exact ⟨A0, c0, d, c, full, h1.lower hl, h2, h3, h4, h5⟩
theorem PL.els (h : PL T ity lo w v rs) : ∀ p ∈ rs, SpOwn ity lo w p.1 p.2 := by
  obtain ⟨A0, c0, d, c, full, h1, h2, h3, h4, h5⟩ := h.cut
  subst h4
  exact fun p hp => h1.els p (List.mem_of_mem_drop hp)
theorem PL.form (h : PL T ity lo w v rs) : ∃ A c, v = .slice A rs.length c ∧ RP w A rs.length rs ∧ rs.length ≤ c := by
  obtain ⟨A0, c0, d, c, full, h1, h2, h3, h4, h5⟩ := h.cut
  have hl : rs.length = full.length - d := by rw [h4, List.length_drop]
  refine ⟨_, c, by rw [hl]; exact h3, ?_, by rw [hl]; exact h5⟩
  have hr : Reads w w.heap.size 11 A0 full.length (sc full) := Reads.of_own h1.row
  refine ⟨⟨by rw [sc_length], fun hn => ?_⟩, fun p hp => (h.els p hp).inn⟩
  obtain ⟨ad, e, hb, hc⟩ := hr.2 (by omega)
  subst e
  refine ⟨ad.add (d * 11), rfl, by rw [block_of_add]; exact hb, fun j u hu => ?_⟩
  rw [add_of_add]
  refine hc _ _ ?_
  rw [h4, ← sc_drop, List.getElem?_drop] at hu
  exact hu
theorem OP.pl (h : OP T ity lo w v ps) : PL T ity lo w v ps := by
  obtain ⟨A, c, rfl, hr, hc⟩ := h.form
  refine ⟨A, c, 0, c, ps, h, Nat.zero_le _, ?_, by simp, by simpa using hc⟩
  cases A <;> simp [Addr.add]
end
end Go.Proofs.YtebjfigjfhghcaaDoor.Und
