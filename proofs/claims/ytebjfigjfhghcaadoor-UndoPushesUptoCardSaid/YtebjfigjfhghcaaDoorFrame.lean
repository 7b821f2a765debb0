/-
  The frame that all laws of this seat share: arguments read behind the call as they did before it where nothing below the old memory has changed; how an argument is opened. Conditions: none.
-/
import Derived.Test.YtebjfigjfhghcaaDoorWords
import Derived.OpenShut
import Derived.ShutString
import Derived.ChangeOld
import Derived.SizedLaws
import Derived.Deep.DeepHandedRow
namespace Go.Proofs.YtebjfigjfhghcaaDoor.Fr
open Go.ChangeShapes Go.WideShapes Go.ChangeAt Go.RowKit Wd

theorem own : ownKnob Tryd.prog.godebug = none := by kernel_rfl
theorem laidOut : laidOutB Tryd.prog = true := by kernel_rfl

/-- all arguments at once -/
theorem args_below {H : Type} {enc : TypeId × Value → H} {P : Program} (hl : laidOutB P = true) {W W' : World} (hb : Below W.heap.size W W') :
    ∀ {ts : List TypeId} {vs : List Value} {ds : List (DataW H)} {ps : List MemPlace}, (∀ t ∈ ts, P.readableRec t = true ∧ t < P.types.size) →
      DataW.TrodAll enc P W 0 (fun _ => true) true ts vs ds ps → DataW.TrodAll enc P W' 0 (fun b => decide (b < W.heap.size)) true ts vs ds ps
  | [], vs, ds, ps, _, h => by
    obtain ⟨rfl, rfl, rfl⟩ := trodAll_nil h
    exact trodAll_mk0
  | t :: ts, vs, ds, ps, hr, h => by
    obtain ⟨v, vs', d, ds', p, q, rfl, rfl, rfl, h0, r0⟩ := trodAll_cons h
    have ht := hr t (by simp)
    have lt0 : ∀ x ∈ p, x.block < W.heap.size := by obtain ⟨m, hm⟩ := h0; exact DataW.trod_lt m _ _ _ hm
    exact trodAll_cons_mk (Below.trod hl ht.1 ht.2 h0 hb lt0) (args_below hl hb (fun t' h' => hr t' (by simp [h'])) r0)

/-- a slice of bytes that came in -/
theorem open_bytes {H : Type} {enc : TypeId × Value → H} {P : Program} {W : World} {base : Nat} {T E : TypeId} {v : Value} {d : DataW H} {p : List MemPlace}
    (hT : P.underlying T = some (.slice E)) (hE : P.underlying E = some (.int .u8)) (hC : P.cellsOf E = 1) (hok : Value.okWide P W .any base T v)
    (h : DataW.Trod enc P W 0 (fun _ => true) true T v d p) :
    ∃ A n c l, v = .slice A n c ∧ RB W A n l ∧ n ≤ c ∧ c ≤ maxLen ∧ (d = .nil ∧ l = [] ∧ c = 0 ∨ ∃ es sp, d = .slice es sp ∧ es.length = n ∧ es.length + sp.length = c) := by
  obtain ⟨a0, len0, cap0, rfl⟩ := okWide_slice hT hok
  have h0 := h
  obtain ⟨fuel, hf⟩ := h
  have lt0 := DataW.trod_lt fuel _ _ _ hf
  rcases open_ints hT hE hC hf with ⟨hcs, hx⟩ | ⟨x, l, c, zs, hcs, _, hl, hm, hz, hx, hcell, hwz⟩
  · simp [Value.cells] at hcs
    obtain ⟨rfl, rfl, rfl⟩ := hcs
    exact ⟨none, 0, 0, [], rfl, Reads.none_, Nat.le_refl _, Nat.zero_le _, .inl ⟨(Prod.mk.inj hx).1, rfl, rfl⟩⟩
  · simp [Value.cells] at hcs
    obtain ⟨rfl, rfl, rfl⟩ := hcs
    have hz' : zs.length = cap0 := by simpa using hz
    obtain ⟨rfl, rfl⟩ := Prod.mk.inj hx
    refine ⟨_, len0, cap0, (zs.take len0).map fun z => UInt8.ofNat z.toNat, rfl, ?_, hl, hm, .inr ⟨_, _, rfl, by simp [lits]; omega, by simp [lits]; omega⟩⟩
    refine ⟨by simp [bs]; omega, fun hn => ⟨_, rfl, ?_, fun j u hu => ?_⟩⟩
    · have := lt0 (.cell (x.add 0).block (x.add 0).off) (by simp only [MemPlace.row, List.mem_map, List.mem_range]; exact ⟨0, by omega, rfl⟩)
      rw [← block_of_add x 0]; exact this
    · simp only [bs, List.map_map, List.getElem?_map, Option.map_eq_some_iff] at hu
      obtain ⟨z, hz1, rfl⟩ := hu
      rw [List.getElem?_take] at hz1
      split at hz1
      · have hj : j < zs.length := by omega
        rw [hcell j hj]
        rw [List.getElem?_eq_getElem hj] at hz1
        injection hz1 with hz1
        have hw := hwz z (by rw [← hz1]; exact List.getElem_mem hj)
        have hb := bounds_u8 hw
        simp only [List.getD, List.getElem?_eq_getElem hj, Option.getD_some, hz1, Function.comp, UInt8.toNat_ofNat']
        congr 2
        omega
      · cases hz1

/-- a word of 32 bits that came in -/
theorem word32 {z : Int} (h : (Lit.int .u32 z).wf = true) : ∃ s : BitVec 32, z = (s.toNat : Int) := by
  have hb := bounds_u32 h
  refine ⟨BitVec.ofNat 32 z.toNat, ?_⟩
  rw [BitVec.toNat_ofNat]; omega

end Go.Proofs.YtebjfigjfhghcaaDoor.Fr
