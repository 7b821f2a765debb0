/-
  Plain laws of readers: how far the reference's readers come, and how many numbers, runs and strings they give. No program is in sight. Conditions: none.
-/
import Derived.Test.YtkllfnaofapfnaaDoorRepRead
namespace Go.Proofs.YtkllfnaofapfnaaDoor.Prot
open Cod Utf

theorem rU_moved {l : List UInt8} {most : Nat} {s : St} (h : (rU l most s).2.2 = false) : s.1 + 1 ≤ (rU l most s).2.1 := by
  unfold rU at h ⊢
  split at h
  · next v k h1 h2 =>
    split at h
    · next hv =>
      simp only [hv, if_true]
      have := (rd_sound _ _ _ h2).2.2.2
      have := put_pos v
      omega
    · cases h
  · cases h
theorem rT_moved {l : List UInt8} {s : St} (h : (rT l s).2.2 = false) : s.1 + 1 ≤ (rT l s).2.1 := by
  obtain ⟨h1, h2, _⟩ := rT_sound h
  unfold rT at h ⊢
  rw [h1] at h ⊢
  rcases hu : tOf l s.1 with _ | ⟨v, k⟩
  · rw [hu] at h; cases h
  · simp only
    unfold tOf rdT at hu
    split at hu
    · cases hu
    · next v' k' hk =>
      have h3 := (rd_sound _ _ _ hk).2.2.2
      have := put_pos v'
      split at hu
      · injection hu with hu
        have := congrArg Prod.snd hu
        simp only at this
        omega
      · cases hu
theorem rU_stays {l : List UInt8} {most : Nat} {s : St} (h : (rU l most s).2.2 = true) : (rU l most s).2.1 = s.1 := by
  unfold rU at h ⊢
  split
  · next v k h1 h2 =>
    rw [h1, h2] at h
    simp only at h
    split
    · next hv => simp only [hv, if_true] at h; cases h
    · rfl
  · rfl
theorem rT_stays {l : List UInt8} {s : St} (h : (rT l s).2.2 = true) : (rT l s).2.1 = s.1 := by
  unfold rT at h ⊢
  split
  · next v k h1 h2 => rw [h1, h2] at h; cases h
  · rfl
/-- what is there to be said of j things read: one byte each at least -/
def Paid (j : Nat) (s : St) : Prop := j ≤ s.1 ∧ (s.2 = false → j + 1 ≤ s.1)
theorem Paid.uint {l : List UInt8} {most j : Nat} {s : St} (h : Paid j s) (hs : s.2 = false) : Paid (j + 1) (rU l most s).2 := by
  have h2 := h.2 hs
  rcases hb : (rU l most s).2.2 with _ | _
  · have := rU_moved hb
    exact ⟨by omega, fun _ => by omega⟩
  · have := rU_stays hb
    exact ⟨by omega, fun h => by rw [hb] at h; cases h⟩
theorem Paid.txt {l : List UInt8} {j : Nat} {s : St} (h : Paid j s) (hs : s.2 = false) : Paid (j + 1) (rT l s).2 := by
  have h2 := h.2 hs
  rcases hb : (rT l s).2.2 with _ | _
  · have := rT_moved hb
    exact ⟨by omega, fun _ => by omega⟩
  · have := rT_stays hb
    exact ⟨by omega, fun h => by rw [hb] at h; cases h⟩
/-- a read does not go back -/
theorem Paid.more {l : List UInt8} {most j : Nat} {s : St} (h : Paid j s) : Paid j (rU l most s).2 := by
  have h1 := h.1
  rcases hb : (rU l most s).2.2 with _ | _
  · have := rU_moved hb
    exact ⟨by omega, fun _ => by omega⟩
  · have := rU_stays hb
    exact ⟨by omega, fun h => by rw [hb] at h; cases h⟩
theorem rManyR_bad {l : List UInt8} {most m : Nat} {s : St} (h : s.2 = true) : rManyR l most m s = ([], s) := by
  cases m with
  | zero => rfl
  | succ m => unfold rManyR; rw [if_pos h]
theorem rManyR_good {l : List UInt8} {most m : Nat} {s : St} (h : s.2 = false) : rManyR l most (m + 1) s = (((rU l most s).1 : Int) :: (rManyR l most m (rU l most s).2).1, (rManyR l most m (rU l most s).2).2) := by
  conv => lhs; unfold rManyR
  rw [if_neg (by rw [h]; decide)]
theorem rRunsR_bad {l : List UInt8} {most m : Nat} {s : St} (h : s.2 = true) : rRunsR l most m s = ([], s) := by
  cases m with
  | zero => rfl
  | succ m => unfold rRunsR; rw [if_pos h]
theorem rRunsR_good {l : List UInt8} {most m : Nat} {s : St} (h : s.2 = false) : rRunsR l most (m + 1) s = ((ba (rT l s).1, ((rU l most (rT l s).2).1 : Int)) :: (rRunsR l most m (rU l most (rT l s).2).2).1, (rRunsR l most m (rU l most (rT l s).2).2).2) := by
  conv => lhs; unfold rRunsR
  rw [if_neg (by rw [h]; decide)]
theorem rTxtsR_bad {l : List UInt8} {m : Nat} {s : St} (h : s.2 = true) : rTxtsR l m s = ([], s) := by
  cases m with
  | zero => rfl
  | succ m => unfold rTxtsR; rw [if_pos h]
theorem rTxtsR_good {l : List UInt8} {m : Nat} {s : St} (h : s.2 = false) : rTxtsR l (m + 1) s = (ba (rT l s).1 :: (rTxtsR l m (rT l s).2).1, (rTxtsR l m (rT l s).2).2) := by
  conv => lhs; unfold rTxtsR
  rw [if_neg (by rw [h]; decide)]
end Go.Proofs.YtkllfnaofapfnaaDoor.Prot
