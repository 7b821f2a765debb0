/-
  How a slice of characters is opened; what the form's reach says of strings and of such slices; a world that holds the two tables of unicode/utf8. Conditions: none.
-/
import Derived.Test.YtebjfigjfhghcaaDoorOpen
import Derived.Test.YtebjfigjfhghcaaDoorWordsI
import Derived.Test.YtebjfigjfhghcaaDoorUtfTab
namespace Go.Proofs.YtebjfigjfhghcaaDoor.Fr
open Go.ChangeShapes Go.WideShapes Go.ChangeAt Go.RowKit Wd

/-- a slice of numbers of 32 bits that came in -/
theorem open_ri {H : Type} {enc : TypeId × Value → H} {P : Program} {W : World} {base : Nat} {T E : TypeId} {v : Value} {d : DataW H} {p : List MemPlace}
    (hT : P.underlying T = some (.slice E)) (hE : P.underlying E = some (.int .i32)) (hC : P.cellsOf E = 1) (hok : Value.okWide P W .any base T v)
    (h : DataW.Trod enc P W 0 (fun _ => true) true T v d p) :
    ∃ A n c l, v = .slice A n c ∧ RI .i32 W A n l ∧ n ≤ c ∧ c ≤ maxLen ∧ (∀ z ∈ l, -2147483648 ≤ z ∧ z ≤ 2147483647) ∧ (d = .nil ∧ l = [] ∧ c = 0 ∨ ∃ es sp, d = .slice es sp ∧ es.length = n ∧ es.length + sp.length = c) := by
  obtain ⟨a0, len0, cap0, rfl⟩ := okWide_slice hT hok
  obtain ⟨fuel, hf⟩ := h
  have lt0 := DataW.trod_lt fuel _ _ _ hf
  rcases open_ints hT hE hC hf with ⟨hcs, hx⟩ | ⟨x, l, c, zs, hcs, _, hl, hm, hz, hx, hcell, hwz⟩
  · simp [Value.cells] at hcs
    obtain ⟨rfl, rfl, rfl⟩ := hcs
    exact ⟨none, 0, 0, [], rfl, Reads.none_, Nat.le_refl _, Nat.zero_le _, (fun z hz => by cases hz), .inl ⟨(Prod.mk.inj hx).1, rfl, rfl⟩⟩
  · simp [Value.cells] at hcs
    obtain ⟨rfl, rfl, rfl⟩ := hcs
    have hz' : zs.length = cap0 := by simpa using hz
    obtain ⟨rfl, rfl⟩ := Prod.mk.inj hx
    refine ⟨_, len0, cap0, zs.take len0, rfl, ?_, hl, hm, (fun z hz => bounds_i32 (hwz z (List.mem_of_mem_take hz))), .inr ⟨_, _, rfl, by simp [lits]; omega, by simp [lits]; omega⟩⟩
    refine ⟨by simp [is]; omega, fun hn => ⟨_, rfl, ?_, fun j u hu => ?_⟩⟩
    · have := lt0 (.cell (x.add 0).block (x.add 0).off) (by simp only [MemPlace.row, List.mem_map, List.mem_range]; exact ⟨0, by omega, rfl⟩)
      rw [← block_of_add x 0]; exact this
    · simp only [is, List.getElem?_map, Option.map_eq_some_iff] at hu
      obtain ⟨z, hz1, rfl⟩ := hu
      rw [List.getElem?_take] at hz1
      split at hz1
      · have hj : j < zs.length := by omega
        rw [hcell j hj]
        rw [List.getElem?_eq_getElem hj] at hz1
        injection hz1 with hz1
        simp [List.getD, List.getElem?_eq_getElem hj, hz1]
      · cases hz1
theorem string_reach {H : Type} {P : Program} {ts : List TypeId} {ds : List (DataW H)} {j : Nat} {t : TypeId} {s : ByteArray} (hz : (DataW.weightsEach P ts ds).all (· ≤ reachBytes) = true)
    (ht : ts[j]? = some t) (hd : ds[j]? = some (.lit (.string s.data.toList))) : s.size ≤ 140737488351232 := by
  have := sized_string hz ht hd
  have e : reachBytes = 140737488351232 := by decide
  rw [Array.length_toList, e] at this
  exact this
theorem ri_reach {H : Type} {P : Program} {ts : List TypeId} {ds : List (DataW H)} {j n c : Nat} {t e : TypeId} {d : DataW H} {l : List Int} (hz : (DataW.weightsEach P ts ds).all (· ≤ reachBytes) = true)
    (ht : ts[j]? = some t) (hd : ds[j]? = some d) (hu : P.underlying t = some (.slice e)) (hb : P.bytesOf e = 4) (h : d = .nil ∧ l = [] ∧ c = 0 ∨ ∃ es sp, d = .slice es sp ∧ es.length = n ∧ es.length + sp.length = c) : c ≤ 140737488351232 := by
  rcases h with ⟨_, _, rfl⟩ | ⟨es, sp, rfl, _, hc⟩
  · exact Nat.zero_le _
  · have := sized_slice hz ht hd hu
    rw [hb, hc] at this
    have e : reachBytes = 140737488351232 := by decide
    omega
theorem bulk_string_eq {H : Type} (s : ByteArray) : Rows.uptoBulk (DataW.lit (H := H) (.string s.data.toList)) = s.size + 1 := by
  simp only [Rows.uptoBulk]; rw [Array.length_toList]; rfl

/-- a world for the witness: the settled one, the two tables holding what their initialisers lay -/
noncomputable def laidWorld (os : Os) : World :=
  { World.holding Tryd.prog os ⟨#[], #[], []⟩ with heap := Utf.putCells (Utf.putCells (World.holding Tryd.prog os ⟨#[], #[], []⟩).heap 0 Utf.firstCells) 1 Utf.acceptCells }
end Go.Proofs.YtebjfigjfhghcaaDoor.Fr
