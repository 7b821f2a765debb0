/-
  What the bound of the second form gives: how long slices and strings are. Conditions: the arguments are of bulk at most 1048576. (Turned from the seat's page on such statements.)
-/
import Derived.Test.YtebjfigjfhghcaaDoorOpen
namespace Go.Proofs.YtebjfigjfhghcaaDoor.Fr
open Go.ChangeShapes Go.WideShapes Go.ChangeAt Go.RowKit Wd

theorem bulk_one {H : Type} (d : DataW H) : 1 ≤ Rows.uptoBulk d := by
  cases d with
  | lit l => cases l <;> simp [Rows.uptoBulk]
  | nil => simp [Rows.uptoBulk]
  | ptr d => simp [Rows.uptoBulk]
  | slice elems spare => simp [Rows.uptoBulk]
  | agg parts => simp [Rows.uptoBulk]
  | iface t d => simp [Rows.uptoBulk]
  | map entries => simp [Rows.uptoBulk]
  | held h => simp [Rows.uptoBulk]
theorem bulk_length {H : Type} (l : List (DataW H)) : l.length ≤ Rows.uptoBulkAll l := by
  induction l with
  | nil => simp [Rows.uptoBulkAll]
  | cons x r ih => have := bulk_one x; simp only [Rows.uptoBulkAll, List.length_cons]; omega
theorem bulk_all {H : Type} {l : List (DataW H)} (hk : Rows.uptoSmall H l = true) : Rows.uptoBulkAll l ≤ 1048576 := of_decide_eq_true hk
theorem bulk_mem {H : Type} {d : DataW H} {l : List (DataW H)} (h : d ∈ l) : Rows.uptoBulk d ≤ Rows.uptoBulkAll l := by
  induction l with
  | nil => cases h
  | cons x r ih =>
    simp only [Rows.uptoBulkAll]
    cases List.mem_cons.1 h with
    | inl e => subst e; omega
    | inr e => have := ih e; omega
/-- a slice of bytes -/
theorem bulk_sb {H : Type} {n c : Nat} {d : DataW H} {l : List UInt8} (h : d = .nil ∧ l = [] ∧ c = 0 ∨ ∃ es sp, d = .slice es sp ∧ es.length = n ∧ es.length + sp.length = c) : c ≤ Rows.uptoBulk d := by
  rcases h with ⟨_, _, rfl⟩ | ⟨es, sp, rfl, _, hc⟩
  · exact Nat.zero_le _
  · have h1 := bulk_length es
    have h2 := bulk_length sp
    simp only [Rows.uptoBulk]
    omega
/-- a slice of strings -/
theorem bulk_strs {H : Type} {c : Nat} {d : DataW H} {ss : List ByteArray} (h : d = .nil ∧ ss = [] ∧ c = 0 ∨ ∃ sp, d = .slice (ss.map fun s => .lit (.string s.data.toList)) sp ∧ ss.length + sp.length = c) : (ss.map fun s => s.size + 1).sum ≤ Rows.uptoBulk d ∧ c ≤ Rows.uptoBulk d := by
  rcases h with ⟨_, rfl, rfl⟩ | ⟨sp, rfl, hc⟩
  · exact ⟨Nat.zero_le _, Nat.zero_le _⟩
  · have h2 := bulk_length sp
    have h3 : ∀ l : List ByteArray, (l.map fun s => s.size + 1).sum = Rows.uptoBulkAll (l.map fun s => (DataW.lit (H := H) (.string s.data.toList))) := by
      intro l
      induction l with
      | nil => rfl
      | cons s l ih =>
        simp only [List.map_cons, List.sum_cons, Rows.uptoBulkAll, Rows.uptoBulk, ih]
        rw [Array.length_toList]; rfl
    have h1 := bulk_length (ss.map fun s => (DataW.lit (H := H) (.string s.data.toList)))
    rw [h3 ss]
    simp only [Rows.uptoBulk, List.length_map] at h1 ⊢
    omega
end Go.Proofs.YtebjfigjfhghcaaDoor.Fr
