/-
  How much room the codes of strings need. Conditions: none.
-/
import Derived.Test.YtpcojppadeagiaaCodPutS
namespace Go.Proofs.Ytpcojppadeagiaa.Cod
theorem room_le (ss : List ByteArray) : room ss ≤ 20 * (ss.map fun s => s.size + 1).sum := by
  induction ss with
  | nil => simp [room]
  | cons s ss ih => simp only [room, List.map_cons, List.sum_cons] at *; omega
theorem each_le (ss : List ByteArray) : ∀ s ∈ ss, s.size ≤ (ss.map fun s => s.size + 1).sum := by
  induction ss with
  | nil => intro s h; cases h
  | cons x ss ih =>
    intro s h
    simp only [List.map_cons, List.sum_cons]
    cases List.mem_cons.1 h with
    | inl e => subst e; omega
    | inr e => have := ih s e; omega
end Go.Proofs.Ytpcojppadeagiaa.Cod
