/-
  The plain law of steps that can be taken back: which steps are valid; pushing, popping, applying. No program is in sight. Conditions: none.
-/
import Derived.Test.YtebjfigjfhghcaaDoorUtfRun
namespace Go.Proofs.YtebjfigjfhghcaaDoor.Und
open Utf

/-- a step -/
structure Stp where
  items : List (ByteArray × ByteArray)
  caret : Int
  pend : ByteArray
  mode : Int
  conv : Bool
  bounds : List Int
  fixed : List Bool
  texts : List ByteArray
  focus : Int
  prev : ByteArray
  commit : ByteArray
def num (s : ByteArray) : Int := cnt s.data.toList
/-- all bytes are from low to 126 -/
def outB (low : Nat) (c : UInt8) : Bool := decide (c.toNat < low) || decide (126 < c.toNat)
def inB (s : ByteArray) (low : Nat) : Bool := !(s.data.toList.any (outB low))
def itemB (x : ByteArray × ByteArray) : Bool := (num x.2 == 1) && inB x.1 32
def bufB (q : Stp) : Bool := decide (q.items.length ≤ 64) && (decide (0 ≤ q.caret) && (decide (q.caret ≤ (q.items.length : Int)) && (decide (q.pend.size ≤ 8) && (inB q.pend 33 && q.items.all itemB))))
/-- a list goes up -/
def upB : List Int → Bool
  | a :: b :: l => decide (a < b) && upB (b :: l)
  | _ => true
def segB (l : List Int) (n : Int) : Bool := decide (1 ≤ n) && (decide (2 ≤ l.length) && ((l.getD 0 0 == 0) && ((l.getD (l.length - 1) 0 == n) && upB l)))
def planB (q : Stp) (n : Int) : Bool := segB q.bounds n && decide (q.fixed.length + 1 = q.bounds.length)
/-- strings one after the other -/
def catL (l : List ByteArray) : List UInt8 := l.flatMap fun s => s.data.toList
def cat (l : List ByteArray) : ByteArray := ⟨(catL l).toArray⟩
def lastB (q : Stp) : Int := q.bounds.getD (q.bounds.length - 1) 0
def headB (q : Stp) : Bool := decide (2 ≤ q.bounds.length) && (decide (q.texts.length + 1 = q.bounds.length) && (decide (0 ≤ q.focus) && decide (q.focus < (q.texts.length : Int))))
def restB (q : Stp) : Bool := (decide (1 ≤ lastB q) && (decide (lastB q ≤ 64) && planB q (lastB q))) && (q.texts.all (fun t => decide (0 < num t)) && decide (catL q.texts = q.commit.data.toList))
def convB (q : Stp) : Bool := headB q && restB q
def plainB (q : Stp) : Bool := decide (q.bounds.length + q.fixed.length + q.texts.length = 0) && (q.focus == 0)
def topB (q : Stp) : Bool := bufB q && (decide (1 ≤ q.mode) && (decide (q.mode ≤ 5) && (decide (1 ≤ num q.commit) && (decide (num q.commit ≤ 4096) && (decide (0 ≤ num q.prev) && decide (num q.prev ≤ 64))))))
/-- whether a step is valid -/
def okB (q : Stp) : Bool := topB q && (if q.conv then convB q else plainB q)
/-- the newest of a list -/
def lastN (n : Nat) {α : Type} (l : List α) : List α := l.drop (l.length - n)
def pushL (l : List Stp) (q : Stp) : Option (List Stp) := if (l ++ [q]).all okB then some (lastN 16 (l ++ [q])) else none
def popL (l : List Stp) : Option (List Stp × Stp) := match l.getLast? with
  | none => none
  | some q => if okB q then some (l.dropLast, q) else none
def applyL (text : List UInt8) (q : Stp) : Option (List UInt8) :=
  if okB q && (decide (q.commit.size ≤ text.length) && decide (text.drop (text.length - q.commit.size) = q.commit.data.toList)) then some (text.take (text.length - q.commit.size)) else none
theorem upB_snoc (l : List Int) (a : Int) (h : l ≠ []) : upB (l ++ [a]) = (upB l && decide (l.getD (l.length - 1) 0 < a)) := by
  induction l with
  | nil => exact absurd rfl h
  | cons b l ih =>
    cases l with
    | nil => simp [upB]
    | cons c l =>
      have := ih (by simp)
      show upB (b :: c :: (l ++ [a])) = _
      unfold upB
      rw [show upB (c :: (l ++ [a])) = upB (c :: l ++ [a]) from rfl, this]
      simp only [List.length_cons, Nat.add_sub_cancel, List.getD_cons_succ, Bool.and_assoc]
theorem upB_take_succ {l : List Int} {k : Nat} (h0 : 0 < k) (hk : k < l.length) : upB (l.take (k + 1)) = (upB (l.take k) && decide (l.getD (k - 1) 0 < l.getD k 0)) := by
  have hne : l.take k ≠ [] := by
    intro h
    have := congrArg List.length h
    rw [List.length_take, List.length_nil] at this
    omega
  rw [List.take_succ_eq_append_getElem hk, upB_snoc _ _ hne, List.length_take, Nat.min_eq_left (by omega)]
  congr 2
  have e1 : (l.take k).getD (k - 1) 0 = l.getD (k - 1) 0 := by
    simp [List.getD, show k - 1 < k by omega]
  have e2 : l.getD k 0 = l[k] := by simp [List.getD, hk]
  rw [e1, e2]
theorem upB_take {l : List Int} {k : Nat} (h : upB l = true) : upB (l.take k) = true := by
  induction l generalizing k with
  | nil => simp [upB]
  | cons a l ih =>
    cases k with
    | zero => simp [upB]
    | succ k =>
      cases l with
      | nil => simp [upB]
      | cons b l =>
        unfold upB at h
        rw [Bool.and_eq_true] at h
        cases k with
        | zero => simp [upB]
        | succ k =>
          have := ih (k := k + 1) h.2
          show upB (a :: b :: l.take k) = true
          unfold upB
          rw [Bool.and_eq_true]
          exact ⟨h.1, this⟩
theorem upB_bad {l : List Int} {k : Nat} (h0 : 0 < k) (hk : k < l.length) (h : ¬ l.getD (k - 1) 0 < l.getD k 0) : upB l = false := by
  rw [Bool.eq_false_iff]
  intro hu
  have := upB_take (k := k + 1) hu
  rw [upB_take_succ h0 hk, Bool.and_eq_true] at this
  exact h (of_decide_eq_true this.2)
theorem catL_snoc {l : List ByteArray} {k : Nat} (h : k < l.length) : catL (l.take (k + 1)) = catL (l.take k) ++ (l.getD k ByteArray.empty).data.toList := by
  unfold catL
  rw [List.take_succ_eq_append_getElem h, List.flatMap_append]
  simp [List.getD, h]
theorem okB_parts {q : Stp} (h : okB q = true) : topB q = true ∧ (q.conv = true → convB q = true) ∧ (q.conv = false → plainB q = true) := by
  unfold okB at h
  rw [Bool.and_eq_true] at h
  refine ⟨h.1, fun hc => ?_, fun hc => ?_⟩
  · have := h.2; rw [hc] at this; exact this
  · have := h.2; rw [hc] at this; exact this
end Go.Proofs.YtebjfigjfhghcaaDoor.Und
