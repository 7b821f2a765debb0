/-
  Ways inside a region meet: a list of operations is cut in two, a relation of the frame stands between. Conditions: none.
-/
import Derived.Test.YtkllfnaofapfnaaDoorWords
import Derived.Deep.DeepCutAuto
namespace Go.Proofs.YtkllfnaofapfnaaDoor.Wd
open Go.RowKit

section
variable {P : Program} {ops : Array Oper} {o : Oper}
theorem oper_exits {a : Act} {w : World} {K : Act → World → Prop} {Q Q' : Exit → Act → World → Prop} (hq : ∀ e a w, e ≠ .normal → Q e a w → Q' e a w) (h : o.wp P a w K Q) : o.wp P a w K Q' := by
  unfold Oper.wp at *
  generalize (execOp a.eval o).run P w = r at *
  cases r with
  | ok n w' =>
    cases n <;> simp only [Oper.upon] at h ⊢ <;>
      first
        | exact h
        | exact Calls.mono h (fun e w'' he => by
            cases e with
            | returned v => exact he
            | panicked ch => exact hq _ _ _ (by simp) he
            | outgrown =>
              obtain ⟨x, y, hh⟩ := he
              exact ⟨x, y, hq _ _ _ (by simp) hh⟩)
  | halt x w' =>
    cases x <;> simp only [Oper.upon] at h ⊢ <;> first | exact h | exact hq _ _ _ (by simp) h
theorem wpList_cut {l : List Oper} {a : Act} {w : World} {Q : Exit → Act → World → Prop} (k : Nat) (R : Act → World → Prop)
    (rest : ∀ a' w', R a' w' → wpList P ops Q (l.drop k) a' w')
    (first : ∀ K' : Act → World → Prop, (∀ a' w', R a' w' → K' a' w') → wpList P ops (Exit.then K' Q) (l.take k) a w) : wpList P ops Q l a w := by
  have h := first R (fun _ _ h => h)
  clear first
  induction l generalizing k a w with
  | nil =>
    rw [List.take_nil] at h
    rw [List.drop_nil] at rest
    exact rest _ _ h
  | cons o l ih =>
    cases k with
    | zero => exact rest _ _ h
    | succ k =>
      rw [List.take_succ_cons] at h
      rw [List.drop_succ_cons] at rest
      unfold wpList at h ⊢
      split
      · next hw =>
        rw [if_pos hw] at h
        rcases h with h | ⟨h1, h2⟩
        · refine .inl (oper_exits (Q := Exit.then R Q) ?_ (Oper.wp_mono (fun a w h => ih k rest h) h))
          intro e a w hne he
          cases e with
          | normal => exact absurd rfl hne
          | _ => exact he
        · obtain ⟨x, y, hh⟩ := h2
          exact .inr ⟨h1, x, y, hh⟩
      · next hw =>
        rw [if_neg hw] at h
        exact ih k rest h
end
theorem uncons {α : Type} {l : List α} (n : Nat) (h : l.length = n + 1) : ∃ x t, l = x :: t ∧ t.length = n := by
  cases l with
  | nil => simp at h
  | cons x t => exact ⟨x, t, rfl, by simpa using h⟩
end Go.Proofs.YtkllfnaofapfnaaDoor.Wd
