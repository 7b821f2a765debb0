/-
  The plain law of frames: messages with their lengths, and their division. No program is in sight. Conditions: none.
-/
import Derived.Test.YtkllfnaofapfnaaDoorRows
namespace Go.Proofs.YtkllfnaofapfnaaDoor.Frm

/-- a length in four bytes -/
def le4 (n : Nat) : List UInt8 := [UInt8.ofNat (n % 256), UInt8.ofNat (n / 256 % 256), UInt8.ofNat (n / 65536 % 256), UInt8.ofNat (n / 16777216 % 256)]
def frame1 (m : List UInt8) : List UInt8 := le4 m.length ++ m
def big (m : List UInt8) : Bool := decide (1048576 < m.length)
/-- all messages, one after the other -/
def frames (l : List (List UInt8)) : List UInt8 := l.flatMap frame1
/-- what Frame returns -/
def frameOf (l : List (List UInt8)) : List UInt8 := if l.any big then [] else frames l
def len4 (l : List UInt8) : Nat := (l.getD 0 0).toNat + 256 * (l.getD 1 0).toNat + 65536 * (l.getD 2 0).toNat + 16777216 * (l.getD 3 0).toNat
/-- messages and what they take; none: a length that is too great -/
def unf (l : List UInt8) : Option (List (List UInt8) × Nat) :=
  if 4 ≤ l.length then
    if 1048576 < len4 l then none
    else if l.length < 4 + len4 l then some ([], 0)
    else match unf (l.drop (4 + len4 l)) with
      | none => none
      | some (ms, k) => some ((l.drop 4).take (len4 l) :: ms, 4 + len4 l + k)
  else some ([], 0)
termination_by l.length
decreasing_by rw [List.length_drop]; omega
/-- what stands before -/
def pre (ms : List (List UInt8)) (n : Nat) (o : Option (List (List UInt8) × Nat)) : Option (List (List UInt8) × Nat) := o.map fun p => (ms ++ p.1, n + p.2)
theorem pre_nil (o : Option (List (List UInt8) × Nat)) : pre [] 0 o = o := by
  cases o <;> simp [pre]
theorem pre_pre (a b : List (List UInt8)) (m n : Nat) (o : Option (List (List UInt8) × Nat)) : pre a m (pre b n o) = pre (a ++ b) (m + n) o := by
  cases o <;> simp [pre, List.append_assoc, Nat.add_assoc]
theorem pre_none (a : List (List UInt8)) (n : Nat) : pre a n none = none := rfl
theorem unf_short {l : List UInt8} (h : l.length < 4) : unf l = some ([], 0) := by
  rw [unf, if_neg (by omega)]
theorem unf_big {l : List UInt8} (h : 4 ≤ l.length) (hb : 1048576 < len4 l) : unf l = none := by
  rw [unf, if_pos h, if_pos hb]
theorem unf_part {l : List UInt8} (h : 4 ≤ l.length) (hb : len4 l ≤ 1048576) (hl : l.length < 4 + len4 l) : unf l = some ([], 0) := by
  rw [unf, if_pos h, if_neg (by omega), if_pos hl]
theorem unf_more {l : List UInt8} (h : 4 ≤ l.length) (hb : len4 l ≤ 1048576) (hl : 4 + len4 l ≤ l.length) : unf l = pre [(l.drop 4).take (len4 l)] (4 + len4 l) (unf (l.drop (4 + len4 l))) := by
  rw [unf, if_pos h, if_neg (by omega), if_neg (by omega)]
  cases unf (l.drop (4 + len4 l)) <;> rfl
theorem len4_append {l r : List UInt8} (h : 4 ≤ l.length) : len4 (l ++ r) = len4 l := by
  unfold len4
  simp only [List.getD, List.getElem?_append_left (show 0 < l.length by omega), List.getElem?_append_left (show 1 < l.length by omega), List.getElem?_append_left (show 2 < l.length by omega), List.getElem?_append_left (show 3 < l.length by omega)]
/-- some bytes, and more -/
theorem unf_split (r : List UInt8) : ∀ (n : Nat) (l : List UInt8), l.length ≤ n → (unf l = none → unf (l ++ r) = none) ∧ (∀ ms k, unf l = some (ms, k) → k ≤ l.length ∧ unf (l ++ r) = pre ms k (unf ((l ++ r).drop k)))
  | n, l, hn => by
    by_cases h4 : 4 ≤ l.length
    · have h4' : 4 ≤ (l ++ r).length := by rw [List.length_append]; omega
      by_cases hb : 1048576 < len4 l
      · have e1 := unf_big h4 hb
        have e2 : unf (l ++ r) = none := unf_big h4' (by rw [len4_append h4]; exact hb)
        refine ⟨fun _ => e2, fun ms k h => ?_⟩
        rw [e1] at h
        cases h
      · by_cases hl : l.length < 4 + len4 l
        · rw [unf_part h4 (by omega) hl]
          refine ⟨(fun h => by cases h), fun ms k h => ?_⟩
          injection h with h
          injection h with h1 h2
          subst h1 h2
          exact ⟨Nat.zero_le _, by rw [pre_nil, List.drop_zero]⟩
        · have hl' : 4 + len4 l ≤ (l ++ r).length := by rw [List.length_append]; omega
          have e4 := len4_append (r := r) h4
          obtain ⟨i1, i2⟩ := unf_split r (n - 1) (l.drop (4 + len4 l)) (by rw [List.length_drop]; omega)
          have ed : (l ++ r).drop (4 + len4 l) = l.drop (4 + len4 l) ++ r := List.drop_append_of_le_length (by omega)
          have et : ((l ++ r).drop 4).take (len4 l) = (l.drop 4).take (len4 l) := by
            rw [List.drop_append_of_le_length (by omega), List.take_append_of_le_length (by rw [List.length_drop]; omega)]
          have eU : unf (l ++ r) = pre [(l.drop 4).take (len4 l)] (4 + len4 l) (unf (l.drop (4 + len4 l) ++ r)) := by
            rw [unf_more h4' (by rw [e4]; omega) (by rw [e4]; exact hl'), e4, ed, et]
          rw [unf_more h4 (by omega) (by omega)]
          rcases hu : unf (l.drop (4 + len4 l)) with _ | ⟨ms', k'⟩
          · refine ⟨fun _ => ?_, (fun ms k h => by cases h)⟩
            rw [eU, i1 hu, pre_none]
          · refine ⟨(fun h => by cases h), fun ms k h => ?_⟩
            simp only [pre, Option.map_some, Option.some.injEq, Prod.mk.injEq] at h
            obtain ⟨rfl, rfl⟩ := h
            obtain ⟨j1, j2⟩ := i2 ms' k' hu
            rw [List.length_drop] at j1
            refine ⟨by omega, ?_⟩
            have e2 : (l.drop (4 + len4 l) ++ r).drop k' = (l ++ r).drop (4 + len4 l + k') := by rw [← ed, List.drop_drop]
            rw [eU, j2, pre_pre, e2]
    · rw [unf_short (by omega)]
      refine ⟨(fun h => by cases h), fun ms k h => ?_⟩
      injection h with h
      injection h with h1 h2
      subst h1 h2
      exact ⟨Nat.zero_le _, by rw [pre_nil, List.drop_zero]⟩
termination_by _ l => l.length
decreasing_by rw [List.length_drop]; omega

theorem le4_length (n : Nat) : (le4 n).length = 4 := rfl
theorem len4_le4 {n : Nat} (h : n < 4294967296) (r : List UInt8) : len4 (le4 n ++ r) = n := by
  unfold len4 le4
  simp only [List.cons_append, List.getD_cons_zero, List.getD_cons_succ, UInt8.toNat_ofNat']
  omega
theorem unf_frame {m : List UInt8} (h : m.length ≤ 1048576) (r : List UInt8) : unf (frame1 m ++ r) = pre [m] (4 + m.length) (unf r) := by
  have e : frame1 m ++ r = le4 m.length ++ (m ++ r) := by unfold frame1; rw [List.append_assoc]
  have e4 : len4 (frame1 m ++ r) = m.length := by rw [e]; exact len4_le4 (by omega) _
  have hlen : (frame1 m ++ r).length = 4 + (m.length + r.length) := by rw [e, List.length_append, List.length_append, le4_length]
  rw [unf_more (by omega) (by rw [e4]; exact h) (by rw [e4]; omega), e4]
  have ed : (frame1 m ++ r).drop 4 = m ++ r := by rw [e]; exact List.drop_left (l₁ := le4 m.length)
  rw [← List.drop_drop, ed, List.take_left, List.drop_left]
/-- a frame's beginning -/
theorem unf_begin {m : List UInt8} (h : m.length ≤ 1048576) {k : Nat} (hk : k < (frame1 m).length) : unf ((frame1 m).take k) = some ([], 0) := by
  have hl : (frame1 m).length = 4 + m.length := by unfold frame1; rw [List.length_append, le4_length]
  have hlt : ((frame1 m).take k).length = k := by rw [List.length_take]; omega
  by_cases h4 : 4 ≤ k
  · have e : (frame1 m).take k = le4 m.length ++ m.take (k - 4) := by
      unfold frame1
      rw [List.take_append, le4_length, List.take_of_length_le (by rw [le4_length]; exact h4)]
    have e4 : len4 ((frame1 m).take k) = m.length := by rw [e]; exact len4_le4 (by omega) _
    exact unf_part (by omega) (by rw [e4]; exact h) (by rw [e4]; omega)
  · exact unf_short (by omega)
theorem unf_frames : ∀ (l : List (List UInt8)) (r : List UInt8), l.any big = false → unf (frames l ++ r) = pre l (frames l).length (unf r)
  | [], r, _ => by rw [show frames [] = [] from rfl, List.nil_append, List.length_nil, pre_nil]
  | m :: l, r, h => by
    rw [List.any_cons, Bool.or_eq_false_iff] at h
    have hm : m.length ≤ 1048576 := by have := of_decide_eq_false h.1; omega
    have e : frames (m :: l) = frame1 m ++ frames l := by simp [frames]
    have hl : (frame1 m).length = 4 + m.length := by unfold frame1; rw [List.length_append, le4_length]
    rw [e, List.append_assoc, unf_frame hm, unf_frames l r h.2, pre_pre, List.length_append, hl]
    rfl
end Go.Proofs.YtkllfnaofapfnaaDoor.Frm
