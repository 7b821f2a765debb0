/-
  Words for memory: a slice of numbers of one kind that reads as a list. Conditions: none.
-/
import Derived.Test.YtebjfigjfhghcaaDoorWords
namespace Go.Proofs.YtebjfigjfhghcaaDoor.Wd
open Go.RowKit

/-- numbers of a kind, as cells -/
def is (k : IntKind) (zs : List Int) : List Value := zs.map (Value.int k)
theorem is_length (k : IntKind) (zs : List Int) : (is k zs).length = zs.length := by simp [is]
theorem is_append (k : IntKind) (a b : List Int) : is k (a ++ b) = is k a ++ is k b := by simp [is]
theorem is_take (k : IntKind) (a : List Int) (j : Nat) : (is k a).take j = is k (a.take j) := by simp [is, List.map_take]
theorem is_drop (k : IntKind) (a : List Int) (j : Nat) : (is k a).drop j = is k (a.drop j) := by simp [is, List.map_drop]
theorem is_one (k : IntKind) (zs : List Int) : ∀ u ∈ is k zs, u.oneCell' = true := by
  intro u hu; simp only [is, List.mem_map] at hu; obtain ⟨c, _, rfl⟩ := hu; rfl

/-- a slice of numbers that reads as zs -/
def RI (k : IntKind) (w : World) (A : Option Addr) (n : Nat) (zs : List Int) : Prop := Reads w w.heap.size 1 A n (is k zs)
section
variable {k : IntKind} {w w' : World} {A : Option Addr} {n : Nat} {zs : List Int}
theorem RI.len (h : RI k w A n zs) : zs.length = n := by have := h.1; rw [is_length] at this; omega
theorem RI.at_ {j : Nat} (h : RI k w A n zs) (hj : j < n) : ∃ ad, A = some ad ∧ ad.block < w.heap.size ∧ w.cell? (ad.add j) = some (.int k (zs.getD j 0)) := by
  obtain ⟨ad, u, e, hb, hx, hc⟩ := Reads.at_ h hj
  have hl := h.len
  simp only [is, List.getElem?_map, List.getElem?_eq_getElem (show j < zs.length by omega), Option.map_some, Option.some.injEq] at hx
  exact ⟨ad, e, hb, by rw [hc, ← hx]; simp [List.getD, show j < zs.length by omega]⟩
theorem RI.keep (h : RI k w A n zs) (hb : Below w.heap.size w w') : RI k w' A n zs := (Reads.below h hb).more hb.size
theorem RI.alloc (h : RI k w A n zs) (o : Obj) : RI k (w.alloc o) A n zs := (Reads.alloc h (Nat.le_refl _) o).more (by simp)
theorem RI.drew (h : RI k w A n zs) : RI k w.drew A n zs := h
theorem RI.drewN (h : RI k w A n zs) (q : Nat) : RI k (w.drewN q) A n zs := h
theorem RI.nil (k : IntKind) (w : World) : RI k w none 0 [] := Reads.none_
theorem RI.of_own {base c : Nat} {e : TypeId} (h : w.ownsRow base e 1 (.slice A n c) n (is k zs)) : RI k w A n zs := Reads.of_own h
end
theorem ri_lit (k : IntKind) (w : World) (C : Array Value) (e : TypeId) (f : Nat × Nat) (n B : Nat) (zs : List Int) (hB : w.heap.size = B) (hC : C.toList = is k zs) (hn : zs.length = n) : RI k (w.alloc (.cells C e f)) (some ⟨B, 0, none⟩) n zs := by
  subst hB
  exact Reads.lit w C e f n (is k zs) hC (by rw [is_length]; exact hn)
theorem own_ints {k : IntKind} {w : World} {base n : Nat} {e : TypeId} {v : Value} {zs : List Int} (h : w.ownsRow base e 1 v n (is k zs)) : ∃ A c, v = .slice A n c ∧ RI k w A n zs ∧ n ≤ c := own_slice h
theorem own_keep {w w2 : World} {base n size : Nat} {e : TypeId} {v : Value} {xs : List Value} (h : w.ownsRow base e size v n xs) (hb : Below w.heap.size w w2) : w2.ownsRow base e size v n xs :=
  World.ownsRow.kept (row := none) h ⟨hb.os, hb.tape, hb.output, hb.size, fun i hi _ => hb.block i hi⟩ (by cases hv : v.ownBlock with | none => exact .inl rfl | some x => exact .inr (by simp))
theorem own_mono {w : World} {base base' n size : Nat} {e : TypeId} {v : Value} {xs : List Value} (h : w.ownsRow base e size v n xs) (hb : base' ≤ base) : w.ownsRow base' e size v n xs := by
  refine ⟨h.1, ?_⟩
  rcases h.2 with hn | ⟨g, cap, cur, hv, hg, rest⟩
  · exact .inl hn
  · exact .inr ⟨g, cap, cur, hv, by omega, rest⟩
end Go.Proofs.YtebjfigjfhghcaaDoor.Wd
