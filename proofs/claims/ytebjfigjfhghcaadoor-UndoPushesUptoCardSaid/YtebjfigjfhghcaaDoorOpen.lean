/-
  How arguments of the laws are opened: slices of bytes, slices of strings, with their capacities; what the form's own reach says of their sizes. Conditions: none.
-/
import Derived.Test.YtebjfigjfhghcaaDoorFrame
import Derived.SliceStrings
import Derived.SizedLaws
namespace Go.Proofs.YtebjfigjfhghcaaDoor.Fr
open Go.ChangeShapes Go.WideShapes Go.ChangeAt Go.RowKit Wd

/-- a slice of bytes that came in, with its capacity -/
theorem open_sb {H : Type} {enc : TypeId × Value → H} {P : Program} {W : World} {base : Nat} {T E : TypeId} {v : Value} {d : DataW H} {p : List MemPlace}
    (hT : P.underlying T = some (.slice E)) (hE : P.underlying E = some (.int .u8)) (hC : P.cellsOf E = 1) (hok : Value.okWide P W .any base T v)
    (h : DataW.Trod enc P W 0 (fun _ => true) true T v d p) :
    ∃ A n c l, v = .slice A n c ∧ SB W A n c l ∧ c ≤ maxLen ∧ (d = .nil ∧ l = [] ∧ c = 0 ∨ ∃ es sp, d = .slice es sp ∧ es.length = n ∧ es.length + sp.length = c) := by
  have hok' := hok
  have h' := h
  obtain ⟨A, n, c, l, rfl, hr, hc, hm, hd⟩ := open_bytes hT hE hC hok' h'
  refine ⟨A, n, c, l, rfl, ⟨hr, hc, fun hA => ?_⟩, hm, hd⟩
  subst hA
  obtain ⟨fuel, hf⟩ := h
  rcases open_ints hT hE hC hf with ⟨hcs, _⟩ | ⟨x, l, c, zs, hcs, _⟩
  · simp [Value.cells] at hcs
    exact hcs.2
  · simp [Value.cells] at hcs

/-- a slice of strings that came in -/
theorem open_strs {H : Type} {enc : TypeId × Value → H} {P : Program} {W : World} {base : Nat} {T E : TypeId} {v : Value} {d : DataW H} {p : List MemPlace}
    (hT : P.underlying T = some (.slice E)) (hE : P.underlying E = some .string) (hC : P.cellsOf E = 1) (hok : Value.okWide P W .any base T v)
    (h : DataW.Trod enc P W 0 (fun _ => true) true T v d p) :
    ∃ A n c ss, v = .slice A n c ∧ RS W A n ss ∧ n ≤ c ∧ c ≤ maxLen ∧ (A = none → c = 0) ∧ (d = .nil ∧ ss = [] ∧ c = 0 ∨ ∃ sp, d = .slice (ss.map fun s => .lit (.string s.data.toList)) sp ∧ ss.length + sp.length = c) := by
  obtain ⟨a0, len0, cap0, rfl⟩ := okWide_slice hT hok
  obtain ⟨fuel, hf⟩ := h
  have lt0 := DataW.trod_lt fuel _ _ _ hf
  rcases open_strings hT hE hC hf with ⟨hcs, hx⟩ | ⟨x, l, c, ss, hcs, _, hl, hm, hz, hx, hcell, _⟩
  · simp [Value.cells] at hcs
    obtain ⟨rfl, rfl, rfl⟩ := hcs
    exact ⟨none, 0, 0, [], rfl, Reads.none_, Nat.le_refl _, Nat.zero_le _, fun _ => rfl, .inl ⟨(Prod.mk.inj hx).1, rfl, rfl⟩⟩
  · simp [Value.cells] at hcs
    obtain ⟨rfl, rfl, rfl⟩ := hcs
    have hz' : ss.length = cap0 := by simpa using hz
    obtain ⟨rfl, rfl⟩ := Prod.mk.inj hx
    refine ⟨_, len0, cap0, ss.take len0, rfl, ?_, hl, hm, (fun h => by cases h), .inr ⟨_, rfl, by simp [strs]; omega⟩⟩
    refine ⟨by simp [vs]; omega, fun hn => ⟨_, rfl, ?_, fun j u hu => ?_⟩⟩
    · have := lt0 (.cell (x.add 0).block (x.add 0).off) (by simp only [MemPlace.row, List.mem_map, List.mem_range]; exact ⟨0, by omega, rfl⟩)
      rw [← block_of_add x 0]; exact this
    · simp only [vs, List.getElem?_map, Option.map_eq_some_iff] at hu
      obtain ⟨z, hz1, rfl⟩ := hu
      rw [List.getElem?_take] at hz1
      split at hz1
      · have hj : j < ss.length := by omega
        rw [hcell j hj]
        simp [List.getD, hz1]
      · cases hz1

/-- the form's own reach, of a slice of bytes -/
theorem sb_reach {H : Type} {P : Program} {ts : List TypeId} {ds : List (DataW H)} {j n c : Nat} {t e : TypeId} {d : DataW H} {l : List UInt8} (hz : (DataW.weightsEach P ts ds).all (· ≤ reachBytes) = true)
    (ht : ts[j]? = some t) (hd : ds[j]? = some d) (hu : P.underlying t = some (.slice e)) (hb : P.bytesOf e = 1) (h : d = .nil ∧ l = [] ∧ c = 0 ∨ ∃ es sp, d = .slice es sp ∧ es.length = n ∧ es.length + sp.length = c) : c ≤ 140737488351232 := by
  rcases h with ⟨_, _, rfl⟩ | ⟨es, sp, rfl, _, hc⟩
  · exact Nat.zero_le _
  · have := sized_slice hz ht hd hu
    rw [hb, hc] at this
    have e : reachBytes = 140737488351232 := by decide
    omega
theorem nat64 {z : Int} (h : (Lit.int .u64 z).wf = true) : ∃ m : Nat, z = (m : Int) ∧ m < 2 ^ 64 := by
  have := bounds_u64 h
  have e : (2 : Nat) ^ 64 = 18446744073709551616 := by decide
  exact ⟨z.toNat, by omega, by rw [e]; omega⟩
end Go.Proofs.YtebjfigjfhghcaaDoor.Fr
