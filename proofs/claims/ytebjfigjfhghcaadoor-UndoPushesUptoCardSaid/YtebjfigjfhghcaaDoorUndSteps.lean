/-
  Words for a slice of steps: eleven cells each; such a slice of the call's own. Conditions: none. (Printed by gen/undsteps.py.)
-/
import Derived.Test.YtebjfigjfhghcaaDoorUndCopy
namespace Go.Proofs.YtebjfigjfhghcaaDoor.Und
open Go.RowKit Wd Utf

/-- steps, as cells -/
def sc (ps : List (Sp × Stp)) : List Value := ps.flatMap fun p => p.1.cells.toList
theorem sc_length (ps : List (Sp × Stp)) : (sc ps).length = ps.length * 11 := by
  induction ps with
  | nil => rfl
  | cons p ps ih => simp only [sc, List.flatMap_cons, List.length_append, List.length_cons] at ih ⊢; rw [ih]; simp [Sp.cells]; omega
theorem sc_append (a b : List (Sp × Stp)) : sc (a ++ b) = sc a ++ sc b := by simp [sc]
theorem sc_take (ps : List (Sp × Stp)) (k : Nat) : (sc ps).take (k * 11) = sc (ps.take k) := by
  induction ps generalizing k with
  | nil => simp [sc]
  | cons p ps ih =>
    cases k with
    | zero => simp [sc]
    | succ k =>
      have h11 : p.1.cells.toList.length = 11 := by simp [Sp.cells]
      have := ih k
      simp only [sc, List.flatMap_cons, List.take_succ_cons] at this ⊢
      rw [List.take_append, h11, show (k + 1) * 11 - 11 = k * 11 by omega, this, List.take_of_length_le (by rw [h11]; omega)]
theorem sc_drop (ps : List (Sp × Stp)) (k : Nat) : (sc ps).drop (k * 11) = sc (ps.drop k) := by
  induction ps generalizing k with
  | nil => simp [sc]
  | cons p ps ih =>
    cases k with
    | zero => simp [sc]
    | succ k =>
      have h11 : p.1.cells.toList.length = 11 := by simp [Sp.cells]
      have := ih k
      simp only [sc, List.flatMap_cons, List.drop_succ_cons] at this ⊢
      rw [List.drop_append, h11, show (k + 1) * 11 - 11 = k * 11 by omega, this, List.drop_of_length_le (by rw [h11]; omega), List.nil_append]
theorem sc_one (ps : List (Sp × Stp)) : ∀ u ∈ sc ps, u.oneCell' = true := by
  intro u hu
  simp only [sc, List.mem_flatMap, Sp.cells, List.mem_cons, List.not_mem_nil, or_false] at hu
  obtain ⟨p, _, rfl | rfl | rfl | rfl | rfl | rfl | rfl | rfl | rfl | rfl | rfl⟩ := hu <;> rfl
theorem sc_at (ps : List (Sp × Stp)) (k : Nat) (p : Sp × Stp) (h : ps[k]? = some p) (i : Nat) (hi : i < 11) : (sc ps)[k * 11 + i]? = p.1.cells[i]? := by
  have h1 : (sc ps).drop (k * 11) = sc (ps.drop k) := sc_drop ps k
  obtain ⟨hk, rfl⟩ := List.getElem?_eq_some_iff.1 h
  rw [← List.getElem?_drop, h1, List.drop_eq_getElem_cons hk]
  have h11 : (ps[k]).1.cells.toList.length = 11 := by simp [Sp.cells]
  simp only [sc, List.flatMap_cons]
  rw [List.getElem?_append_left (by rw [h11]; exact hi)]
  simp
theorem Reads.litP (w : World) (C : Array Value) (e : TypeId) (f : Nat × Nat) (size n B : Nat) (xs : List Value) (hB : w.heap.size = B) (hC : C.toList = xs) (hn : xs.length = n * size) :
    Reads (w.alloc (.cells C e f)) (w.alloc (.cells C e f)).heap.size size (some ⟨B, 0, none⟩) n xs := by
  subst hB
  refine ⟨hn, fun _ => ⟨_, rfl, by simp, fun j u hu => ?_⟩⟩
  have ha : (⟨w.heap.size, 0, none⟩ : Addr).add j = ⟨w.heap.size, j, none⟩ := by
    unfold Addr.add; by_cases h : j = 0 <;> simp [h]
  rw [ha, cell_new, ← hu, ← hC, Array.getElem?_toList]
theorem own_diff {w : World} {b b' n n' s s' : Nat} {e e' : TypeId} {v v' : Value} {xs xs' : List Value} (h : w.ownsRow b e s v n xs) (h' : w.ownsRow b' e' s' v' n' xs') (he : e ≠ e') : v'.ownBlock = none ∨ v'.ownBlock ≠ v.ownBlock := by
  rcases h'.2 with ⟨rfl, _⟩ | ⟨g', cap', cur', rfl, _, hg', _⟩
  · exact .inl rfl
  · refine .inr fun hh => ?_
    rcases h.2 with ⟨rfl, _⟩ | ⟨g, cap, cur, rfl, _, hg, _⟩
    · cases hh
    · simp only [Value.ownBlock, Option.some.injEq] at hh
      subst hh
      rw [hg] at hg'
      injection hg' with hg'
      injection hg' with h1 h2
      exact he h2
/-- a slice of steps that reads as ps -/
def RP (w : World) (A : Option Addr) (n : Nat) (ps : List (Sp × Stp)) : Prop := Reads w w.heap.size 11 A n (sc ps) ∧ ∀ p ∈ ps, SpIn w p.1 p.2
theorem next_cellN (a : Addr) (k i : Nat) : a.add (k + (i + 1)) = ⟨(a.add k).block, (a.add k).off + (i + 1), none⟩ := by
  unfold Addr.add
  by_cases h : k = 0 <;> simp [h, Nat.add_assoc]
section
variable {w w' : World} {A : Option Addr} {n : Nat} {ps : List (Sp × Stp)}
theorem RP.len (h : RP w A n ps) : ps.length = n := by have := h.1.1; rw [sc_length] at this; omega
theorem RP.at_ {k : Nat} (h : RP w A n ps) (hk : k < n) : ∃ ad p, A = some ad ∧ ps[k]? = some p ∧ ad.block < w.heap.size ∧ SpIn w p.1 p.2 ∧
    w.cell? (ad.add (k * 11)) = some (.slice p.1.Ai p.1.ni p.1.ci) ∧ w.cell? ⟨(ad.add (k * 11)).block, (ad.add (k * 11)).off + 1, none⟩ = some (.int .i64 p.1.caret) ∧ w.cell? ⟨(ad.add (k * 11)).block, (ad.add (k * 11)).off + 2, none⟩ = some (.string p.1.pend) ∧ w.cell? ⟨(ad.add (k * 11)).block, (ad.add (k * 11)).off + 3, none⟩ = some (.int .i64 p.1.mode) ∧ w.cell? ⟨(ad.add (k * 11)).block, (ad.add (k * 11)).off + 4, none⟩ = some (.bool p.1.conv) ∧ w.cell? ⟨(ad.add (k * 11)).block, (ad.add (k * 11)).off + 5, none⟩ = some (.slice p.1.Ab p.1.nb p.1.cb) ∧ w.cell? ⟨(ad.add (k * 11)).block, (ad.add (k * 11)).off + 6, none⟩ = some (.slice p.1.Af p.1.nf p.1.cf) ∧ w.cell? ⟨(ad.add (k * 11)).block, (ad.add (k * 11)).off + 7, none⟩ = some (.slice p.1.At p.1.nt p.1.ct) ∧ w.cell? ⟨(ad.add (k * 11)).block, (ad.add (k * 11)).off + 8, none⟩ = some (.int .i64 p.1.focus) ∧ w.cell? ⟨(ad.add (k * 11)).block, (ad.add (k * 11)).off + 9, none⟩ = some (.string p.1.prev) ∧ w.cell? ⟨(ad.add (k * 11)).block, (ad.add (k * 11)).off + 10, none⟩ = some (.string p.1.commit) := by
  have hl := h.len
  obtain ⟨ad, e, hb, hc⟩ := h.1.2 (by omega)
  have hp : ps[k]? = some ps[k] := List.getElem?_eq_getElem (by omega)
  have hx := fun i hi => sc_at ps k _ hp i hi
  refine ⟨ad, ps[k], e, hp, hb, h.2 _ (List.getElem_mem _), ?_, ?_, ?_, ?_, ?_, ?_, ?_, ?_, ?_, ?_, ?_⟩
  · exact hc _ _ (hx 0 (by omega))
  · rw [← next_cellN]; exact hc _ _ (hx 1 (by omega))
  · rw [← next_cellN]; exact hc _ _ (hx 2 (by omega))
  · rw [← next_cellN]; exact hc _ _ (hx 3 (by omega))
  · rw [← next_cellN]; exact hc _ _ (hx 4 (by omega))
  · rw [← next_cellN]; exact hc _ _ (hx 5 (by omega))
  · rw [← next_cellN]; exact hc _ _ (hx 6 (by omega))
  · rw [← next_cellN]; exact hc _ _ (hx 7 (by omega))
  · rw [← next_cellN]; exact hc _ _ (hx 8 (by omega))
  · rw [← next_cellN]; exact hc _ _ (hx 9 (by omega))
  · rw [← next_cellN]; exact hc _ _ (hx 10 (by omega))
theorem RP.keep (h : RP w A n ps) (hb : Below w.heap.size w w') : RP w' A n ps := ⟨(h.1.below hb).more hb.size, fun p hp => (h.2 p hp).keep hb⟩
theorem RP.drew (h : RP w A n ps) : RP w.drew A n ps := h.keep (Below.refl _ _).drew
theorem RP.nil (w : World) (A : Option Addr) : RP w A 0 [] := ⟨Reads.none_, fun p hp => by cases hp⟩
end
/-- steps of the call's own: a row of type T, their items of type ity, in blocks from lo on -/
structure OP (T ity : TypeId) (lo : Nat) (w : World) (v : Value) (ps : List (Sp × Stp)) : Prop where
  row : w.ownsRow lo T 11 v ps.length (sc ps)
  els : ∀ p ∈ ps, SpOwn ity lo w p.1 p.2
theorem SpOwn.kept {ity T : TypeId} {lo lo' s n : Nat} {w w' : World} {v : Value} {xs : List Value} {r : Sp} {q : Stp} (h : SpOwn ity lo w r q) (hr : w.ownsRow lo' T s v n xs) (hg : w.grownBy w' v.ownBlock) (h1 : T ≠ ity) (h2 : T ≠ 3) (h3 : T ≠ 4) (h4 : T ≠ 9) : SpOwn ity lo w' r q := by
  have a1 := h.it.kept hg (own_diff hr h.it h1)
  have a2 := h.bo.kept hg (own_diff hr h.bo h2)
  have a3 := h.fx.kept hg (own_diff hr h.fx h3)
  have a4 := h.tx.kept hg (own_diff hr h.tx h4)
  have i := h.inn
  exact ⟨a1, a2, a3, a4, ⟨RT.of_own a1, RI.of_own a2, RO.of_own a3, RS.of_own a4, i.caret, i.pend, i.mode, i.conv, i.focus, i.prev, i.commit, i.ni, i.nb, i.nf, i.nt, i.tcap, i.szi, i.szt, i.szp, i.szv, i.szm⟩⟩
section
variable {T ity : TypeId} {w w' : World} {lo : Nat} {v : Value} {ps : List (Sp × Stp)}
theorem OP.nil (T ity : TypeId) (lo : Nat) (w : World) : OP T ity lo w (.slice none 0 0) [] := ⟨World.ownsRow_nil _ _ _ _, fun p hp => by cases hp⟩
theorem OP.keep (h : OP T ity lo w v ps) (hb : Below w.heap.size w w') : OP T ity lo w' v ps := ⟨own_keep h.row hb, fun p hp => (h.els p hp).keep hb⟩
theorem OP.lower {lo' : Nat} (h : OP T ity lo w v ps) (hl : lo' ≤ lo) : OP T ity lo' w v ps := ⟨own_mono h.row hl, fun p hp => (h.els p hp).lower hl⟩
theorem OP.form (h : OP T ity lo w v ps) : ∃ A c, v = .slice A ps.length c ∧ RP w A ps.length ps ∧ ps.length ≤ c := by
  obtain ⟨A, c, rfl, hc⟩ := own_form h.row
  exact ⟨A, c, rfl, ⟨Reads.of_own h.row, fun p hp => (h.els p hp).inn⟩, hc⟩
/-- one step more -/
theorem OP.snoc (h : OP T ity lo w v ps) {p : Sp × Stp} {v' : Value} (hp : SpOwn ity lo w p.1 p.2) (hr : w'.ownsRow lo T 11 v' (ps.length + 1) (sc ps ++ p.1.cells.toList)) (hg : w.grownBy w' v.ownBlock) (h1 : T ≠ ity) (h2 : T ≠ 3) (h3 : T ≠ 4) (h4 : T ≠ 9) : OP T ity lo w' v' (ps ++ [p]) := by
  refine ⟨by rw [List.length_append, sc_append]; simpa [sc] using hr, fun q hq => ?_⟩
  rcases List.mem_append.1 hq with hq | hq
  · exact (h.els q hq).kept h.row hg h1 h2 h3 h4
  · simp at hq; subst hq; exact hp.kept h.row hg h1 h2 h3 h4
end
end Go.Proofs.YtebjfigjfhghcaaDoor.Und
