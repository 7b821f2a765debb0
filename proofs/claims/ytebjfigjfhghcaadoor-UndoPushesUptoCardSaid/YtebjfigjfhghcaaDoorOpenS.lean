/-
  How a slice of structs that came in is opened: a list of elements, each of which reads; what the form's reach says of what lies in it. Conditions: none.
-/
import Derived.Test.YtebjfigjfhghcaaDoorOpen
import Derived.ChangeSame
namespace Go.Proofs.YtebjfigjfhghcaaDoor.Fr
open Go.ChangeShapes Go.WideShapes Go.ChangeAt Go.RowKit Wd

theorem list_of {α : Type} {Q : Nat → α → Prop} : ∀ (n : Nat), (∀ i, i < n → ∃ p, Q i p) → ∃ l : List α, l.length = n ∧ ∀ i p, l[i]? = some p → Q i p
  | 0, _ => ⟨[], rfl, fun i p h => by simp at h⟩
  | n + 1, h => by
    obtain ⟨l, hl, hq⟩ := list_of n (fun i hi => h i (by omega))
    obtain ⟨p, hp⟩ := h n (by omega)
    refine ⟨l ++ [p], by simp [hl], fun i x hx => ?_⟩
    rcases Nat.lt_trichotomy i n with h1 | h1 | h1
    · rw [List.getElem?_append_left (by omega)] at hx
      exact hq i x hx
    · subst h1
      rw [← hl, List.getElem?_append_right (Nat.le_refl _)] at hx
      simp at hx
      subst hx
      exact hp
    · rw [List.getElem?_eq_none (by simp; omega)] at hx
      cases hx
theorem flat_len {α : Type} {cells : α → List Value} {s : Nat} (hs : ∀ p, (cells p).length = s) (ps : List α) : (ps.flatMap cells).length = ps.length * s := by
  induction ps with
  | nil => simp
  | cons p ps ih => rw [List.flatMap_cons, List.length_append, ih, hs, List.length_cons, Nat.add_mul, Nat.one_mul, Nat.add_comm]
theorem flat_at {α : Type} {cells : α → List Value} {s : Nat} (hs : ∀ p, (cells p).length = s) (ps : List α) {i r : Nat} {p : α} (h : ps[i]? = some p) (hr : r < s) : (ps.flatMap cells)[i * s + r]? = (cells p)[r]? := by
  induction ps generalizing i with
  | nil => simp at h
  | cons q ps ih =>
    rw [List.flatMap_cons]
    cases i with
    | zero =>
      simp at h
      subst h
      rw [Nat.zero_mul, Nat.zero_add, List.getElem?_append_left (by rw [hs]; exact hr)]
    | succ i =>
      have h' := ih (i := i) (by simpa using h)
      rw [List.getElem?_append_right (by rw [hs, Nat.add_mul]; omega), hs, ← h']
      congr 1
      rw [Nat.add_mul]; omega

section
variable {H : Type} {enc : TypeId × Value → H} {P : Program} {W : World}
/-- a slice of anything that can be read element by element -/
theorem open_list {α : Type} {cells : α → List Value} {R : α → DataW H × List MemPlace → Prop} {T E : TypeId} {s fuel : Nat} {cs : List Value} {x : DataW H × List MemPlace} (hT : P.underlying T = some (.slice E)) (hC : P.cellsOf E = s) (hs : 0 < s) (hlen : ∀ p, (cells p).length = s)
    (hE : ∀ n cs y, cs.length = s → DataW.trod enc P W 0 (fun _ => true) true n E cs = some y → ∃ p, cs = cells p ∧ R p y)
    (h : DataW.trod enc P W 0 (fun _ => true) true fuel T cs = some x) :
    ∃ A n c ps, cs = [.slice A n c] ∧ Reads W W.heap.size s A n (ps.flatMap cells) ∧ ps.length = n ∧ n ≤ c ∧ c ≤ maxLen ∧ (A = none → c = 0) ∧
      (x.1 = .nil ∧ ps = [] ∧ c = 0 ∨ ∃ es sp, x.1 = .slice es sp ∧ es.length = n ∧ es.length + sp.length = c ∧ ∀ (i : Nat) p, ps[i]? = some p → ∃ y, es[i]? = some y.1 ∧ R p y) := by
  have lt0 := DataW.trod_lt fuel _ _ _ h
  rcases DataW.trod_slice hT h with ⟨rfl, rfl⟩ | ⟨a, len, cap, elems, rest, n, _, rfl, rfl, _, hl, hm, hle, hel, hsp, _⟩
  · exact ⟨none, 0, 0, [], rfl, ⟨by simp, fun h => absurd h (by omega)⟩, rfl, Nat.le_refl _, Nat.zero_le _, fun _ => rfl, .inl ⟨rfl, rfl, rfl⟩⟩
  · have each : ∀ i, i < len → ∃ p, (∀ r u, r < s → (cells p)[r]? = some u → W.cell? (a.add (i * s + r)) = some u) ∧ ∃ y, elems[i]? = some y ∧ R p y := by
      intro i hi
      have h1 := hel i hi
      obtain ⟨y, hy⟩ : ∃ y, elems[i]? = some y := ⟨elems[i]'(by omega), List.getElem?_eq_getElem _⟩
      rw [hy, Option.bind_eq_some_iff] at h1
      obtain ⟨cs', hcs, hy'⟩ := h1
      obtain ⟨_, hcl, hcell⟩ := World.cells?_some hcs
      rw [hC] at hcl hcell
      obtain ⟨p, rfl, hR⟩ := hE n cs' y hcl hy'
      refine ⟨p, fun r u hr hu => ?_, y, hy, hR⟩
      rw [← hu, ← hcell r hr, add_of_add]
    obtain ⟨ps, hpl, hps⟩ := list_of len each
    have hrl := (hsp rfl).1
    refine ⟨some a, len, cap, ps, rfl, ⟨by rw [flat_len hlen, hpl], fun hn => ⟨a, rfl, ?_, fun j u hu => ?_⟩⟩, hpl, hl, hm, (fun h => by cases h), .inr ⟨_, _, rfl, by simp [hle], by simp [hle, hrl]; omega, fun i p hp => ?_⟩⟩
    · have hpos : 0 < (elems.length + rest.length) * s := Nat.mul_pos (by omega) hs
      have := lt0 (.cell (a.add 0).block (a.add 0).off) (by
        rw [hC]
        exact List.mem_append_left _ (by simp only [MemPlace.row, List.mem_map, List.mem_range]; exact ⟨0, hpos, rfl⟩))
      rw [← block_of_add a 0]; exact this
    · have hj : j < ps.length * s := by
        rcases Nat.lt_or_ge j (ps.length * s) with h' | h'
        · exact h'
        · rw [List.getElem?_eq_none (by rw [flat_len hlen]; exact h')] at hu; cases hu
      have hi : j / s < ps.length := Nat.div_lt_of_lt_mul (by rw [Nat.mul_comm]; exact hj)
      have hr : j % s < s := Nat.mod_lt _ hs
      have hp : ps[j / s]? = some ps[j / s] := List.getElem?_eq_getElem hi
      have e : j / s * s + j % s = j := by rw [Nat.mul_comm]; exact Nat.div_add_mod j s
      have h2 := flat_at hlen ps hp hr
      rw [e, hu] at h2
      have := (hps _ _ hp).1 (j % s) u hr h2.symm
      rw [e] at this
      exact this
    · obtain ⟨y, hy, hR⟩ := (hps i p hp).2
      exact ⟨y, by rw [List.getElem?_map, hy]; rfl, hR⟩

/-- what lies in a datum is within the form's reach -/
def Fits (P : Program) (t : TypeId) (d : DataW H) : Prop := ∀ x ∈ d.weights P t, x ≤ reachBytes
theorem fits_param {ts : List TypeId} {ds : List (DataW H)} (hz : (DataW.weightsEach P ts ds).all (· ≤ reachBytes) = true) {j : Nat} {t : TypeId} {d : DataW H} (ht : ts[j]? = some t) (hd : ds[j]? = some d) : Fits P t d := fun x hx => by
  have := List.all_eq_true.1 hz x (DataW.weights_mem_each ht hd x hx)
  simpa using this
theorem weights_mem_all {e : TypeId} : ∀ {es : List (DataW H)} {i : Nat} {d : DataW H}, es[i]? = some d → ∀ x ∈ d.weights P e, x ∈ DataW.weightsAll P e es
  | d0 :: es, 0, d, hd, x, hx => by
    simp at hd
    subst hd
    simp only [DataW.weightsAll, List.mem_append]
    exact .inl hx
  | d0 :: es, i + 1, d, hd, x, hx => by
    simp only [DataW.weightsAll, List.mem_append]
    exact .inr (weights_mem_all (i := i) (by simpa using hd) x hx)
  | [], _, _, hd, _, _ => by simp at hd
theorem fits_elem {t e : TypeId} {es sp : List (DataW H)} (h : Fits P t (.slice es sp)) (hu : P.underlying t = some (.slice e)) {i : Nat} {d : DataW H} (hd : es[i]? = some d) : Fits P e d := fun x hx => by
  refine h x ?_
  simp only [DataW.weights, hu, List.mem_cons, List.mem_append]
  exact .inr (.inl (weights_mem_all hd x hx))
theorem fits_field {t : TypeId} {fs : Array Field} {xs : List (DataW H)} (h : Fits P t (.agg xs)) (hu : P.underlying t = some (.struct fs)) {j : Nat} {f : Field} {d : DataW H} (hf : fs[j]? = some f) (hd : xs[j]? = some d) : Fits P f.type d := fun x hx => by
  refine h x ?_
  simp only [DataW.weights, hu]
  exact DataW.weights_mem_each (j := j) (t := f.type) (by rw [List.getElem?_map, Array.getElem?_toList, hf]; rfl) hd x hx
theorem reach_eq : reachBytes = 140737488351232 := by decide
theorem fits_slice {t e : TypeId} {es sp : List (DataW H)} (h : Fits P t (.slice es sp)) (hu : P.underlying t = some (.slice e)) : (es.length + sp.length) * P.bytesOf e ≤ 140737488351232 := by
  rw [← reach_eq]
  exact h _ (by simp [DataW.weights, hu])
theorem fits_string {t : TypeId} {s : ByteArray} (h : Fits P t (.lit (H := H) (.string s.data.toList))) : s.size ≤ 140737488351232 := by
  rw [← reach_eq]
  have := h s.data.toList.length (by simp [DataW.weights])
  rw [Array.length_toList] at this
  exact this
end
/-- a slice of bytes, by its cell -/
theorem open_bytes_cell {H : Type} {enc : TypeId × Value → H} {P : Program} {W : World} {T E : TypeId} {fuel : Nat} {cs : List Value} {y : DataW H × List MemPlace}
    (hT : P.underlying T = some (.slice E)) (hE : P.underlying E = some (.int .u8)) (hC : P.cellsOf E = 1) (h : DataW.trod enc P W 0 (fun _ => true) true fuel T cs = some y) :
    ∃ A n c l, cs = [.slice A n c] ∧ SB W A n c l ∧ (y.1 = .nil ∧ l = [] ∧ c = 0 ∨ ∃ es sp, y.1 = .slice es sp ∧ es.length = n ∧ es.length + sp.length = c) := by
  have lt0 := DataW.trod_lt fuel _ _ _ h
  rcases open_ints hT hE hC h with ⟨rfl, rfl⟩ | ⟨x, l, c, zs, rfl, _, hl, hm, hz, rfl, hcell, hwz⟩
  · exact ⟨none, 0, 0, [], rfl, ⟨Reads.none_, Nat.le_refl _, fun _ => rfl⟩, .inl ⟨rfl, rfl, rfl⟩⟩
  · have hz' : zs.length = c := by simpa using hz
    refine ⟨some x, l, c, (zs.take l).map fun z => UInt8.ofNat z.toNat, rfl, ⟨⟨by simp [bs]; omega, fun hn => ⟨_, rfl, ?_, fun j u hu => ?_⟩⟩, hl, (fun h => by cases h)⟩, .inr ⟨_, _, rfl, by simp [lits]; omega, by simp [lits]; omega⟩⟩
    · have := lt0 (.cell (x.add 0).block (x.add 0).off) (by simp only [MemPlace.row, List.mem_map, List.mem_range]; exact ⟨0, by omega, rfl⟩)
      rw [← block_of_add x 0]; exact this
    · simp only [bs, List.map_map, List.getElem?_map, Option.map_eq_some_iff] at hu
      obtain ⟨z, hz1, rfl⟩ := hu
      rw [List.getElem?_take] at hz1
      split at hz1
      · have hj : j < zs.length := by omega
        rw [hcell j hj]
        rw [List.getElem?_eq_getElem hj] at hz1
        injection hz1 with hz1
        have hw := hwz z (by rw [← hz1]; exact List.getElem_mem hj)
        have hb := bounds_u8 hw
        simp only [List.getD, List.getElem?_eq_getElem hj, Option.getD_some, hz1, Function.comp, UInt8.toNat_ofNat']
        congr 2
        omega
      · cases hz1
end Go.Proofs.YtebjfigjfhghcaaDoor.Fr
