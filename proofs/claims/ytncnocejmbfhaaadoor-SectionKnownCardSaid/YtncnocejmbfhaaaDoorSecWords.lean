/-
  Words for memory: a slice of parts (a name and a slice of bytes each) that reads as a list of parts. Conditions: none.
-/
import Derived.Test.YtncnocejmbfhaaaDoorSecMath
import Derived.Test.YtncnocejmbfhaaaDoorWordsI
namespace Go.Proofs.YtncnocejmbfhaaaDoor.Sec
open Go.RowKit Wd

/-- a part as it lies in memory: its name, the slice of its data, and what that reads as -/
structure PV where
  name : ByteArray
  A : Option Addr
  n : Nat
  c : Nat
  d : List UInt8
def PV.pt (p : PV) : Pt := ⟨p.name, p.d⟩
def pts (ps : List PV) : List Pt := ps.map PV.pt
def cell2 (p : PV) : List Value := [.string p.name, .slice p.A p.n p.c]
def pc (ps : List PV) : List Value := ps.flatMap cell2
theorem pc_length (ps : List PV) : (pc ps).length = ps.length * 2 := by
  induction ps with
  | nil => rfl
  | cons p ps ih => simp only [pc, List.flatMap_cons, List.length_append, List.length_cons] at ih ⊢; rw [ih]; simp [cell2]; omega
theorem pc_append (a b : List PV) : pc (a ++ b) = pc a ++ pc b := by simp [pc]
theorem pts_length (ps : List PV) : (pts ps).length = ps.length := by simp [pts]
theorem pts_append (a b : List PV) : pts (a ++ b) = pts a ++ pts b := by simp [pts]
theorem pc_one (ps : List PV) : ∀ u ∈ pc ps, u.oneCell' = true := by
  intro u hu
  simp only [pc, List.mem_flatMap, cell2, List.mem_cons, List.not_mem_nil, or_false] at hu
  obtain ⟨p, _, rfl | rfl⟩ := hu <;> rfl
theorem pc_at (ps : List PV) (k : Nat) (p : PV) (h : ps[k]? = some p) : (pc ps)[k * 2]? = some (.string p.name) ∧ (pc ps)[k * 2 + 1]? = some (.slice p.A p.n p.c) := by
  induction ps generalizing k with
  | nil => simp at h
  | cons q ps ih =>
    have e : pc (q :: ps) = .string q.name :: .slice q.A q.n q.c :: pc ps := by simp [pc, cell2]
    rw [e]
    cases k with
    | zero => simp at h; subst h; simp
    | succ k =>
      have h' := ih k (by simpa using h)
      have e1 : (k + 1) * 2 = k * 2 + 1 + 1 := by omega
      rw [e1]
      exact h'

theorem next_cell (a : Addr) (k : Nat) : a.add (k + 1) = ⟨(a.add k).block, (a.add k).off + 1, none⟩ := by
  unfold Addr.add
  by_cases h : k = 0 <;> simp [h, Nat.add_assoc]
/-- a slice of parts that reads as ps -/
def RP (w : World) (A : Option Addr) (n : Nat) (ps : List PV) : Prop := Reads w w.heap.size 2 A n (pc ps) ∧ ∀ p ∈ ps, SB w p.A p.n p.c p.d
section
variable {w w' : World} {A : Option Addr} {n : Nat} {ps : List PV}
theorem RP.len (h : RP w A n ps) : ps.length = n := by have := h.1.1; rw [pc_length] at this; omega
theorem RP.at_ {k : Nat} (h : RP w A n ps) (hk : k < n) : ∃ ad p, A = some ad ∧ ps[k]? = some p ∧ ad.block < w.heap.size ∧ w.cell? (ad.add (k * 2)) = some (.string p.name) ∧ w.cell? ⟨(ad.add (k * 2)).block, (ad.add (k * 2)).off + 1, none⟩ = some (.slice p.A p.n p.c) ∧ SB w p.A p.n p.c p.d := by
  have hl := h.len
  obtain ⟨ad, e, hb, hc⟩ := h.1.2 (by omega)
  have hp : ps[k]? = some ps[k] := List.getElem?_eq_getElem (by omega)
  obtain ⟨h1, h2⟩ := pc_at ps k _ hp
  exact ⟨ad, ps[k], e, hp, hb, hc _ _ h1, by rw [← next_cell]; exact hc _ _ h2, h.2 _ (List.getElem_mem _)⟩
theorem RP.keep (h : RP w A n ps) (hb : Below w.heap.size w w') : RP w' A n ps := ⟨(h.1.below hb).more hb.size, fun p hp => (h.2 p hp).keep hb⟩
theorem RP.alloc (h : RP w A n ps) (o : Obj) : RP (w.alloc o) A n ps := h.keep ((Below.refl _ _).alloc (Nat.le_refl _) _)
theorem RP.drew (h : RP w A n ps) : RP w.drew A n ps := ⟨h.1, fun p hp => (h.2 p hp).drew⟩
theorem RP.drewN (h : RP w A n ps) (q : Nat) : RP (w.drewN q) A n ps := ⟨h.1, fun p hp => (h.2 p hp).drewN q⟩
theorem RP.nil (w : World) (A : Option Addr) : RP w A 0 [] := ⟨Reads.none_, fun p hp => by cases hp⟩
theorem RP.of_own {base c : Nat} {e : TypeId} (h : w.ownsRow base e 2 (.slice A n c) n (pc ps)) (hp : ∀ p ∈ ps, SB w p.A p.n p.c p.d) : RP w A n ps := ⟨Reads.of_own h, hp⟩
end
theorem own_slice2 {w : World} {base n size : Nat} {e : TypeId} {v : Value} {xs : List Value} (h : w.ownsRow base e size v n xs) : ∃ A c, v = .slice A n c ∧ n ≤ c ∧ (A = none → c = 0) := by
  rcases h.2 with ⟨rfl, rfl⟩ | ⟨g, cap, cur, rfl, _, _, hc, _⟩
  · exact ⟨none, 0, rfl, Nat.le_refl _, fun _ => rfl⟩
  · exact ⟨_, cap, rfl, hc, fun h => by cases h⟩
end Go.Proofs.YtncnocejmbfhaaaDoor.Sec
