/-
  A region that draws its order, shown by an invariant over the frame at its start. Conditions: none.
-/
import Derived.Test.YtebjfigjfhghcaaDoorRegInv
namespace Go.Proofs.YtebjfigjfhghcaaDoor.Reg
open Go.RowKit

theorem put_self (a : Act) (d : Nat) : a.put (some d) (a.tmps.getD d undef) = a := by
  obtain ⟨tmps, defers⟩ := a
  have h : tmps.setIfInBounds d (tmps.getD d undef) = tmps := by
    refine Array.ext (by simp) (fun i h1 h2 => ?_)
    rw [Array.getElem_setIfInBounds]
    split
    · rename_i hd
      subst hd
      simp [Array.getD, h2]
    · rfl
  show ({ tmps := tmps.setIfInBounds d (tmps.getD d undef), defers := defers } : Act) = _
  rw [h]
/-- slots filled one after the other -/
def putL (a : Act) : List (Nat × Value) → Act
  | [] => a
  | p :: l => putL (a.put (some p.1) p.2) l
theorem getD_ff {listed : Array Bool} {i : Nat} (h : listed.getD i true = false) : listed.getD i false = false := by
  unfold Array.getD at *
  split at h
  · rename_i hi
    rw [dif_pos hi]
    exact h
  · cases h
theorem getD_set {listed : Array Bool} {i : Nat} (hi : i < listed.size) : (fun j => (listed.setIfInBounds i true).getD j false) = fun j => if j = i then true else listed.getD j false := by
  funext j
  by_cases h : j = i
  · subst h
    rw [if_pos rfl, getD_set_self hi]
  · rw [if_neg h]
    simp only [Array.getD_eq_getD_getElem?, Array.getElem?_setIfInBounds]
    rw [if_neg (fun e => h e.symm)]
section
variable {P : Program} {md : Region.Mode} {ops : Array Oper} {Q : Exit → Act → World → Prop}
theorem wpAny_inv0 (a0 : Act) (I : Act → Array Bool → Act → World → Prop) (hf : ∀ i o, ops[i]? = some o → ∀ e ∈ o.after, Region.binds md e = true → e.on < i)
    (hs : ∀ i o (listed : Array Bool) a w, ops[i]? = some o → listed.size = ops.size → listed.getD i true = false → (∀ e ∈ o.after, Region.binds md e = true → listed.getD e.on false = true) → I a0 listed a w → wpOp P ops Q i (I a0 (listed.setIfInBounds i true)) a w)
    (hd : ∀ (listed : Array Bool) a w, listed.size = ops.size → (∀ i, i < ops.size → listed.getD i true = true) → I a0 listed a w → Q .normal a w)
    (fuel : Nat) (listed : Array Bool) (w : World) (hz : listed.size = ops.size) (hu : unl listed ≤ fuel) (hI : I a0 listed a0 w) : wpAny P md ops Q fuel listed a0 w :=
  wpAny_inv hf (I a0) hs hd fuel listed a0 w hz hu hI
end
end Go.Proofs.YtebjfigjfhghcaaDoor.Reg
