/-
  The plain law of the codes of lists and of ascending strings. No program is in sight. Conditions: none.
-/
import Derived.Test.YtpcojppadeagiaaCodTexts
namespace Go.Proofs.Ytpcojppadeagiaa.Cod

/-- the codes of ascending strings, each without what it has in common with the one before it -/
def bodyS (last : List UInt8) : List (List UInt8) → List UInt8
  | [] => []
  | s :: r => put (commonL last s) ++ (putT (s.drop (commonL last s)) ++ bodyS s r)
def putS (l : List (List UInt8)) : List UInt8 := put l.length ++ bodyS [] l
/-- ascending, the first one whatever it is -/
def ascF (first : Bool) (last : List UInt8) : List (List UInt8) → Bool
  | [] => true
  | s :: r => (first || Op.bytesLess last s) && ascF false s r
def asc (l : List (List UInt8)) : Bool := ascF true [] l

theorem bodyS_snoc (last : List UInt8) (l : List (List UInt8)) (s : List UInt8) :
    bodyS last (l ++ [s]) = bodyS last l ++ (put (commonL (l.getLastD last) s) ++ putT (s.drop (commonL (l.getLastD last) s))) := by
  induction l generalizing last with
  | nil => simp [bodyS]
  | cons x l ih =>
    simp only [List.cons_append, bodyS, ih, List.append_assoc, List.getLastD_cons]
theorem ascF_snoc (f : Bool) (last : List UInt8) (l : List (List UInt8)) (s : List UInt8) :
    ascF f last (l ++ [s]) = (ascF f last l && ((f && l.isEmpty) || Op.bytesLess (l.getLastD last) s)) := by
  induction l generalizing last f with
  | nil => simp [ascF]
  | cons x l ih =>
    simp only [List.cons_append, ascF, ih, List.getLastD_cons]
    simp [Bool.and_assoc]

/-- the codes of strings, one after the other -/
def bodyL (l : List (List UInt8)) : List UInt8 := l.flatMap putT
def putL (l : List (List UInt8)) : List UInt8 := put l.length ++ bodyL l

theorem less_iff (a b : List UInt8) : Op.bytesLess a b = decide (Lib.compareBytes a b < 0) := by
  induction a generalizing b with
  | nil => cases b <;> simp [Op.bytesLess, Lib.compareBytes]
  | cons x a ih =>
    match b with
    | [] => simp [Op.bytesLess, Lib.compareBytes]
    | y :: b =>
      simp only [Op.bytesLess, Lib.compareBytes, ih]
      by_cases h1 : x < y
      · simp [h1]
      · by_cases h2 : y < x
        · have hne : x ≠ y := fun e => by subst e; exact h1 h2
          simp [h1, h2, hne]
        · have he : x = y := UInt8.le_antisymm (UInt8.not_lt.1 h2) (UInt8.not_lt.1 h1)
          subst he
          simp [UInt8.lt_irrefl]
theorem commonL_take (a b : List UInt8) : a.take (commonL a b) = b.take (commonL a b) := by
  induction a generalizing b with
  | nil => simp [commonL]
  | cons x a ih =>
    match b with
    | [] => simp [commonL]
    | y :: b =>
      simp only [commonL]
      split
      · rename_i h
        subst h
        simp [ih b]
      · simp
theorem commonL_left (a b : List UInt8) : commonL a b ≤ a.length := by
  induction a generalizing b with
  | nil => simp [commonL]
  | cons x a ih =>
    match b with
    | [] => simp [commonL]
    | y :: b => simp only [commonL]; split <;> simp; exact ih b
theorem commonL_le (a b : List UInt8) : commonL a b ≤ b.length := by
  induction a generalizing b with
  | nil => simp [commonL]
  | cons x a ih =>
    match b with
    | [] => simp [commonL]
    | y :: b => simp only [commonL]; split <;> simp; exact ih b
/-- a string is put together again -/
theorem rebuilt (last s : List UInt8) : last.take (commonL last s) ++ s.drop (commonL last s) = s := by
  rw [commonL_take, List.take_append_drop]
theorem putT_pos (s : List UInt8) : 0 < (putT s).length := by
  unfold putT; rw [List.length_append]; have := put_pos s.length; omega
theorem putT_len (s : List UInt8) : (putT s).length ≤ s.length + 10 := by
  unfold putT; rw [List.length_append]; have := put_len s.length; omega
theorem bodyL_many (l : List (List UInt8)) : l.length ≤ (bodyL l).length := by
  induction l with
  | nil => simp
  | cons s l ih => have := putT_pos s; simp only [bodyL, List.flatMap_cons, List.length_append, List.length_cons] at *; omega
theorem bodyS_many (last : List UInt8) (l : List (List UInt8)) : l.length ≤ (bodyS last l).length := by
  induction l generalizing last with
  | nil => simp
  | cons s l ih => have := putT_pos (s.drop (commonL last s)); have := ih s; simp only [bodyS, List.length_append, List.length_cons] at *; omega
theorem bodyL_snoc (l : List (List UInt8)) (s : List UInt8) : bodyL (l ++ [s]) = bodyL l ++ putT s := by simp [bodyL]
theorem bodyL_append (l r : List (List UInt8)) : bodyL (l ++ r) = bodyL l ++ bodyL r := by simp [bodyL]
/-- what is left behind a beginning that was read -/
theorem drop_more (l X Y : List UInt8) (k : Nat) (h : l.drop k = X ++ Y) : l.drop (k + X.length) = Y := by
  rw [← List.drop_drop, h, List.drop_left]
end Go.Proofs.Ytpcojppadeagiaa.Cod
