/-
  A region that draws its order, shown by an invariant: whatever comes up next keeps it. Conditions: none.
-/
import Derived.Test.YtebjfigjfhghcaaDoorWords
import Derived.RegionTactic
import Derived.BigRegion
namespace Go.Proofs.YtebjfigjfhghcaaDoor.Reg
open Go.RowKit

section
variable {P : Program} {md : Region.Mode} {ops : Array Oper} {Q : Exit → Act → World → Prop} {listed : Array Bool}

theorem ready_mem {i : Nat} (h : i ∈ Region.ready md ops listed) : ∃ o, ops[i]? = some o ∧ listed.getD i true = false ∧ ∀ e ∈ o.after, Region.binds md e = true → listed.getD e.on false = true := by
  unfold Region.ready at h
  rw [List.mem_filter, Bool.and_eq_true] at h
  obtain ⟨_, h1, h2⟩ := h
  rcases ho : ops[i]? with _ | o
  · rw [ho] at h2; simp at h2
  · rw [ho] at h2
    refine ⟨o, rfl, by simpa using h1, fun e he hb => ?_⟩
    simp only [Option.map_some, Option.getD_some, Array.all_eq_true_iff_forall_mem] at h2
    have := h2 e he
    rw [hb] at this
    simpa using this
theorem ready_of {i : Nat} {o : Oper} (ho : ops[i]? = some o) (hl : listed.getD i true = false) (h : ∀ e ∈ o.after, Region.binds md e = true → listed.getD e.on false = true) : i ∈ Region.ready md ops listed := by
  unfold Region.ready
  rw [List.mem_filter, Bool.and_eq_true]
  refine ⟨List.mem_range.2 (Array.getElem?_eq_some_iff.1 ho).1, by rw [hl]; rfl, ?_⟩
  rw [ho]
  simp only [Option.map_some, Option.getD_some, Array.all_eq_true_iff_forall_mem]
  intro e he
  rcases hb : Region.binds md e with _ | _
  · rfl
  · rw [h e he hb]; rfl
theorem ready_nil (hf : ∀ i o, ops[i]? = some o → ∀ e ∈ o.after, Region.binds md e = true → e.on < i) (hz : listed.size = ops.size) (h : Region.ready md ops listed = []) : ∀ i, i < ops.size → listed.getD i true = true := by
  intro i
  induction i using Nat.strongRecOn with
  | _ i ih =>
    intro hi
    rcases hl : listed.getD i true with _ | _
    · have ho : ops[i]? = some ops[i] := Array.getElem?_eq_getElem hi
      have := ready_of (md := md) ho hl (fun e he hb => by
        have h1 := hf i _ ho e he hb
        have h2 := ih e.on h1 (by omega)
        have h3 : e.on < listed.size := by omega
        simpa [Array.getD, h3] using h2)
      rw [h] at this
      cases this
    · rfl
/-- how many have not come up -/
def unl (listed : Array Bool) : Nat := listed.toList.count false
theorem count_set : ∀ (l : List Bool) (i : Nat), l[i]? = some false → (l.set i true).count false + 1 = l.count false
  | [], i, h => by simp at h
  | b :: l, 0, h => by simp at h; subst h; simp
  | b :: l, i + 1, h => by
    have := count_set l i (by simpa using h)
    simp only [List.set_cons_succ, List.count_cons]
    omega
theorem unl_set {i : Nat} (hi : i < listed.size) (h : listed.getD i true = false) : unl (listed.setIfInBounds i true) + 1 = unl listed := by
  unfold unl
  rw [Array.toList_setIfInBounds]
  refine count_set _ _ ?_
  rw [Array.getElem?_toList, Array.getElem?_eq_getElem hi]
  simpa [Array.getD, hi] using h
theorem unl_zero (h : unl listed = 0) : ∀ i, i < listed.size → listed.getD i true = true := by
  intro i hi
  rcases hb : listed.getD i true with _ | _
  · have := unl_set hi hb; omega
  · rfl
/-- a region by an invariant -/
theorem wpAny_inv (hf : ∀ i o, ops[i]? = some o → ∀ e ∈ o.after, Region.binds md e = true → e.on < i) (I : Array Bool → Act → World → Prop)
    (hs : ∀ i o (listed : Array Bool) a w, ops[i]? = some o → listed.size = ops.size → listed.getD i true = false → (∀ e ∈ o.after, Region.binds md e = true → listed.getD e.on false = true) → I listed a w → wpOp P ops Q i (I (listed.setIfInBounds i true)) a w)
    (hd : ∀ (listed : Array Bool) a w, listed.size = ops.size → (∀ i, i < ops.size → listed.getD i true = true) → I listed a w → Q .normal a w) :
    ∀ fuel (listed : Array Bool) a w, listed.size = ops.size → unl listed ≤ fuel → I listed a w → wpAny P md ops Q fuel listed a w
  | 0, listed, a, w, hz, hu, hI => by
    have hall := unl_zero (listed := listed) (by omega)
    refine ⟨?_, hd listed a w hz (fun i hi => hall i (by omega)) hI⟩
    rcases hr : Region.ready md ops listed with _ | ⟨i, l⟩
    · rfl
    · obtain ⟨o, ho, hl, _⟩ := ready_mem (md := md) (ops := ops) (listed := listed) (i := i) (by rw [hr]; exact List.mem_cons_self)
      have := hall i (by have := (Array.getElem?_eq_some_iff.1 ho).1; omega)
      rw [hl] at this
      cases this
  | fuel + 1, listed, a, w, hz, hu, hI => by
    refine ⟨fun hr => hd listed a w hz (ready_nil hf hz hr) hI, fun i hi => ?_⟩
    obtain ⟨o, ho, hl, hp⟩ := ready_mem hi
    have hlt : i < listed.size := by have := (Array.getElem?_eq_some_iff.1 ho).1; omega
    refine wpOp_mono (fun a' w' hI' => ?_) (hs i o listed a w ho hz hl hp hI)
    have := unl_set hlt hl
    exact wpAny_inv hf I hs hd fuel _ a' w' (by rw [Array.size_setIfInBounds]; exact hz) (by omega) hI'
/-- the edges go back, by a look -/
theorem back_of (h : ((List.range ops.size).all fun i => ((ops[i]?).map fun o => o.after.all fun e => !Region.binds md e || decide (e.on < i)).getD true) = true) : ∀ i o, ops[i]? = some o → ∀ e ∈ o.after, Region.binds md e = true → e.on < i := by
  intro i o ho e he hb
  have h1 := List.all_eq_true.1 h i (List.mem_range.2 (Array.getElem?_eq_some_iff.1 ho).1)
  rw [ho] at h1
  simp only [Option.map_some, Option.getD_some, Array.all_eq_true_iff_forall_mem] at h1
  have h2 := h1 e he
  rw [hb] at h2
  simpa using h2
theorem getD_set_self {i : Nat} (hi : i < listed.size) : (listed.setIfInBounds i true).getD i false = true := by
  simp [Array.getD, hi]
theorem getD_set_up {i j : Nat} (hne : j ≠ i) (h : listed.getD j false = true) : (listed.setIfInBounds i true).getD j false = true := by
  simp only [Array.getD_eq_getD_getElem?, Array.getElem?_setIfInBounds] at h ⊢
  rwa [if_neg (fun e => hne e.symm)]
theorem getD_set_ne {i j : Nat} (hne : j ≠ i) (h : (listed.setIfInBounds i true).getD j false = true) : listed.getD j false = true := by
  simp only [Array.getD_eq_getD_getElem?, Array.getElem?_setIfInBounds] at h ⊢
  rwa [if_neg (fun e => hne e.symm)] at h
end
end Go.Proofs.YtebjfigjfhghcaaDoor.Reg
