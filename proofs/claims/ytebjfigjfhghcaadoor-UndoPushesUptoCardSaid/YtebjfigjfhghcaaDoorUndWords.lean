/-
  Words for steps in memory: a step's cells, its items, bounds, marks and texts as slices that read as lists; a slice of steps. Conditions: none.
-/
import Derived.Test.YtebjfigjfhghcaaDoorUndMath
import Derived.Test.YtebjfigjfhghcaaDoorWordsI
namespace Go.Proofs.YtebjfigjfhghcaaDoor.Und
open Go.RowKit Wd Utf

/-- items, as cells -/
def ic2 (x : ByteArray × ByteArray) : List Value := [.string x.1, .string x.2]
def ic (l : List (ByteArray × ByteArray)) : List Value := l.flatMap ic2
theorem ic_length (l : List (ByteArray × ByteArray)) : (ic l).length = l.length * 2 := by
  induction l with
  | nil => rfl
  | cons p ps ih => simp only [ic, List.flatMap_cons, List.length_append, List.length_cons] at ih ⊢; rw [ih]; simp [ic2]; omega
theorem ic_append (a b : List (ByteArray × ByteArray)) : ic (a ++ b) = ic a ++ ic b := by simp [ic]
theorem ic_one (l : List (ByteArray × ByteArray)) : ∀ u ∈ ic l, u.oneCell' = true := by
  intro u hu
  simp only [ic, List.mem_flatMap, ic2, List.mem_cons, List.not_mem_nil, or_false] at hu
  obtain ⟨p, _, rfl | rfl⟩ := hu <;> rfl
theorem ic_at (l : List (ByteArray × ByteArray)) (k : Nat) (p : ByteArray × ByteArray) (h : l[k]? = some p) : (ic l)[k * 2]? = some (.string p.1) ∧ (ic l)[k * 2 + 1]? = some (.string p.2) := by
  induction l generalizing k with
  | nil => simp at h
  | cons q ps ih =>
    have e : ic (q :: ps) = .string q.1 :: .string q.2 :: ic ps := by simp [ic, ic2]
    rw [e]
    cases k with
    | zero => simp at h; subst h; simp
    | succ k =>
      have h' := ih k (by simpa using h)
      have e1 : (k + 1) * 2 = k * 2 + 1 + 1 := by omega
      rw [e1]
      exact h'
theorem next_cell (a : Addr) (k : Nat) : a.add (k + 1) = ⟨(a.add k).block, (a.add k).off + 1, none⟩ := by
  unfold Addr.add
  by_cases h : k = 0 <;> simp [h, Nat.add_assoc]
/-- a slice of items -/
def RT (w : World) (A : Option Addr) (n : Nat) (l : List (ByteArray × ByteArray)) : Prop := Reads w w.heap.size 2 A n (ic l)
/-- booleans, as cells -/
def os (l : List Bool) : List Value := l.map Value.bool
theorem os_length (l : List Bool) : (os l).length = l.length := by simp [os]
theorem os_append (a b : List Bool) : os (a ++ b) = os a ++ os b := by simp [os]
theorem os_one (l : List Bool) : ∀ u ∈ os l, u.oneCell' = true := by
  intro u hu; simp only [os, List.mem_map] at hu; obtain ⟨c, _, rfl⟩ := hu; rfl
/-- a slice of booleans -/
def RO (w : World) (A : Option Addr) (n : Nat) (l : List Bool) : Prop := Reads w w.heap.size 1 A n (os l)
section
variable {w w' : World} {A : Option Addr} {n : Nat} {l : List (ByteArray × ByteArray)} {o : List Bool}
theorem RT.len (h : RT w A n l) : l.length = n := by have := h.1; rw [ic_length] at this; omega
theorem RT.at_ {k : Nat} (h : RT w A n l) (hk : k < n) : ∃ ad p, A = some ad ∧ l[k]? = some p ∧ ad.block < w.heap.size ∧ w.cell? (ad.add (k * 2)) = some (.string p.1) ∧ w.cell? ⟨(ad.add (k * 2)).block, (ad.add (k * 2)).off + 1, none⟩ = some (.string p.2) := by
  have hl := h.len
  obtain ⟨ad, e, hb, hc⟩ := h.2 (by omega)
  have hp : l[k]? = some l[k] := List.getElem?_eq_getElem (by omega)
  obtain ⟨h1, h2⟩ := ic_at l k _ hp
  exact ⟨ad, l[k], e, hp, hb, hc _ _ h1, by rw [← next_cell]; exact hc _ _ h2⟩
theorem RT.keep (h : RT w A n l) (hb : Below w.heap.size w w') : RT w' A n l := (Reads.below h hb).more hb.size
theorem RT.nil (w : World) (A : Option Addr) : RT w A 0 [] := Reads.none_
theorem RT.of_own {base c : Nat} {e : TypeId} (h : w.ownsRow base e 2 (.slice A n c) n (ic l)) : RT w A n l := Reads.of_own h
theorem RO.len (h : RO w A n o) : o.length = n := by have := h.1; rw [os_length] at this; omega
theorem RO.keep (h : RO w A n o) (hb : Below w.heap.size w w') : RO w' A n o := (Reads.below h hb).more hb.size
theorem RO.nil (w : World) (A : Option Addr) : RO w A 0 [] := Reads.none_
theorem RO.of_own {base c : Nat} {e : TypeId} (h : w.ownsRow base e 1 (.slice A n c) n (os o)) : RO w A n o := Reads.of_own h
theorem RO.at_ {k : Nat} (h : RO w A n o) (hk : k < n) : ∃ ad, A = some ad ∧ ad.block < w.heap.size ∧ w.cell? (ad.add k) = some (.bool (o.getD k false)) := by
  obtain ⟨ad, u, e, hb, hx, hc⟩ := Reads.at_ h hk
  have hl := h.len
  simp only [os, List.getElem?_map, List.getElem?_eq_getElem (show k < o.length by omega), Option.map_some, Option.some.injEq] at hx
  exact ⟨ad, e, hb, by rw [hc, ← hx]; simp [List.getD, show k < o.length by omega]⟩
end
/-- a step, as its cells -/
structure Sp where
  Ai : Option Addr
  ni : Nat
  ci : Nat
  caret : Int
  pend : ByteArray
  mode : Int
  conv : Bool
  Ab : Option Addr
  nb : Nat
  cb : Nat
  Af : Option Addr
  nf : Nat
  cf : Nat
  At : Option Addr
  nt : Nat
  ct : Nat
  focus : Int
  prev : ByteArray
  commit : ByteArray
def Sp.buf (r : Sp) : Array Value := #[.slice r.Ai r.ni r.ci, .int .i64 r.caret, .string r.pend]
def Sp.plan (r : Sp) : Array Value := #[.slice r.Ab r.nb r.cb, .slice r.Af r.nf r.cf]
def Sp.cells (r : Sp) : Array Value := #[.slice r.Ai r.ni r.ci, .int .i64 r.caret, .string r.pend, .int .i64 r.mode, .bool r.conv, .slice r.Ab r.nb r.cb, .slice r.Af r.nf r.cf, .slice r.At r.nt r.ct, .int .i64 r.focus, .string r.prev, .string r.commit]
/-- a bound for lengths: what comes in is small -/
def big : Nat := 1048576
/-- a step in memory -/
structure SpIn (w : World) (r : Sp) (q : Stp) : Prop where
  items : RT w r.Ai r.ni q.items
  bounds : RI .i64 w r.Ab r.nb q.bounds
  fixed : RO w r.Af r.nf q.fixed
  texts : RS w r.At r.nt q.texts
  caret : q.caret = r.caret
  pend : q.pend = r.pend
  mode : q.mode = r.mode
  conv : q.conv = r.conv
  focus : q.focus = r.focus
  prev : q.prev = r.prev
  commit : q.commit = r.commit
  ni : r.ni ≤ 1048576
  nb : r.nb ≤ 1048576
  nf : r.nf ≤ 1048576
  nt : r.nt ≤ 1048576
  tcap : r.nt ≤ r.ct
  szi : ∀ x ∈ q.items, x.1.size ≤ 1048576 ∧ x.2.size ≤ 1048576
  szt : ∀ s ∈ q.texts, s.size ≤ 1048576
  szp : r.pend.size ≤ 1048576
  szv : r.prev.size ≤ 1048576
  szm : r.commit.size ≤ 1048576
theorem SpIn.keep {w w' : World} {r : Sp} {q : Stp} (h : SpIn w r q) (hb : Below w.heap.size w w') : SpIn w' r q :=
  ⟨h.items.keep hb, h.bounds.keep hb, h.fixed.keep hb, h.texts.keep hb, h.caret, h.pend, h.mode, h.conv, h.focus, h.prev, h.commit, h.ni, h.nb, h.nf, h.nt, h.tcap, h.szi, h.szt, h.szp, h.szv, h.szm⟩
end Go.Proofs.YtebjfigjfhghcaaDoor.Und
