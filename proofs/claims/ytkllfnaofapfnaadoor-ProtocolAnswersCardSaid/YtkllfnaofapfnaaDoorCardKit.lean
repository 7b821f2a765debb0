/-
  The frame that all laws of this seat share: arguments read behind the call as they did before it where nothing below the old memory has changed; how an argument is opened. How arguments of the laws are opened: slices of bytes, slices of strings, with their capacities; what the form's own reach says of their sizes. The two package-level tables of unicode/utf8: what a row's list says of them, and a world that holds them. How a slice of characters is opened; what the form's reach says of strings and of such slices; a world that holds the two tables of unicode/utf8. Conditions: none.
-/
import Derived.Test.YtkllfnaofapfnaaDoorWords
import Derived.OpenShut
import Derived.ShutString
import Derived.ChangeOld
import Derived.SizedLaws
import Derived.Deep.DeepHandedRow
import Derived.SliceStrings
import Derived.Test.YtkllfnaofapfnaaDoorUtfValid
import Derived.Lib.LaidIn
import Derived.Lib.LaidU8T
import Derived.PinnedBridge
import Derived.Deep.DeepWitnessRowRef
import Derived.Test.YtkllfnaofapfnaaDoorWordsI
namespace Go.Proofs.YtkllfnaofapfnaaDoor.Fr
open Go.ChangeShapes Go.WideShapes Go.ChangeAt Go.RowKit Wd

theorem own : ownKnob Tryd.prog.godebug = none := by kernel_rfl
theorem laidOut : laidOutB Tryd.prog = true := by kernel_rfl

/-- all arguments at once -/
theorem args_below {H : Type} {enc : TypeId × Value → H} {P : Program} (hl : laidOutB P = true) {W W' : World} (hb : Below W.heap.size W W') :
    ∀ {ts : List TypeId} {vs : List Value} {ds : List (DataW H)} {ps : List MemPlace}, (∀ t ∈ ts, P.readableRec t = true ∧ t < P.types.size) →
      DataW.TrodAll enc P W 0 (fun _ => true) true ts vs ds ps → DataW.TrodAll enc P W' 0 (fun b => decide (b < W.heap.size)) true ts vs ds ps
  | [], vs, ds, ps, _, h => by
    obtain ⟨rfl, rfl, rfl⟩ := trodAll_nil h
    exact trodAll_mk0
  | t :: ts, vs, ds, ps, hr, h => by
    obtain ⟨v, vs', d, ds', p, q, rfl, rfl, rfl, h0, r0⟩ := trodAll_cons h
    have ht := hr t (by simp)
    have lt0 : ∀ x ∈ p, x.block < W.heap.size := by obtain ⟨m, hm⟩ := h0; exact DataW.trod_lt m _ _ _ hm
    exact trodAll_cons_mk (Below.trod hl ht.1 ht.2 h0 hb lt0) (args_below hl hb (fun t' h' => hr t' (by simp [h'])) r0)

/-- a slice of bytes that came in -/
theorem open_bytes {H : Type} {enc : TypeId × Value → H} {P : Program} {W : World} {base : Nat} {T E : TypeId} {v : Value} {d : DataW H} {p : List MemPlace}
    (hT : P.underlying T = some (.slice E)) (hE : P.underlying E = some (.int .u8)) (hC : P.cellsOf E = 1) (hok : Value.okWide P W .any base T v)
    (h : DataW.Trod enc P W 0 (fun _ => true) true T v d p) :
    ∃ A n c l, v = .slice A n c ∧ RB W A n l ∧ n ≤ c ∧ c ≤ maxLen ∧ (d = .nil ∧ l = [] ∧ c = 0 ∨ ∃ es sp, d = .slice es sp ∧ es.length = n ∧ es.length + sp.length = c) := by
  obtain ⟨a0, len0, cap0, rfl⟩ := okWide_slice hT hok
  have h0 := h
  obtain ⟨fuel, hf⟩ := h
  have lt0 := DataW.trod_lt fuel _ _ _ hf
  rcases open_ints hT hE hC hf with ⟨hcs, hx⟩ | ⟨x, l, c, zs, hcs, _, hl, hm, hz, hx, hcell, hwz⟩
  · simp [Value.cells] at hcs
    obtain ⟨rfl, rfl, rfl⟩ := hcs
    exact ⟨none, 0, 0, [], rfl, Reads.none_, Nat.le_refl _, Nat.zero_le _, .inl ⟨(Prod.mk.inj hx).1, rfl, rfl⟩⟩
  · simp [Value.cells] at hcs
    obtain ⟨rfl, rfl, rfl⟩ := hcs
    have hz' : zs.length = cap0 := by simpa using hz
    obtain ⟨rfl, rfl⟩ := Prod.mk.inj hx
    refine ⟨_, len0, cap0, (zs.take len0).map fun z => UInt8.ofNat z.toNat, rfl, ?_, hl, hm, .inr ⟨_, _, rfl, by simp [lits]; omega, by simp [lits]; omega⟩⟩
    refine ⟨by simp [bs]; omega, fun hn => ⟨_, rfl, ?_, fun j u hu => ?_⟩⟩
    · have := lt0 (.cell (x.add 0).block (x.add 0).off) (by simp only [MemPlace.row, List.mem_map, List.mem_range]; exact ⟨0, by omega, rfl⟩)
      rw [← block_of_add x 0]; exact this
    · simp only [bs, List.map_map, List.getElem?_map, Option.map_eq_some_iff] at hu
      obtain ⟨z, hz1, rfl⟩ := hu
      rw [List.getElem?_take] at hz1
      split at hz1
      · have hj : j < zs.length := by omega
        rw [hcell j hj]
        rw [List.getElem?_eq_getElem hj] at hz1
        injection hz1 with hz1
        have hw := hwz z (by rw [← hz1]; exact List.getElem_mem hj)
        have hb := bounds_u8 hw
        simp only [List.getD, List.getElem?_eq_getElem hj, Option.getD_some, hz1, Function.comp, UInt8.toNat_ofNat']
        congr 2
        omega
      · cases hz1

/-- a word of 32 bits that came in -/
theorem word32 {z : Int} (h : (Lit.int .u32 z).wf = true) : ∃ s : BitVec 32, z = (s.toNat : Int) := by
  have hb := bounds_u32 h
  refine ⟨BitVec.ofNat 32 z.toNat, ?_⟩
  rw [BitVec.toNat_ofNat]; omega

end Go.Proofs.YtkllfnaofapfnaaDoor.Fr
namespace Go.Proofs.YtkllfnaofapfnaaDoor.Fr
open Go.ChangeShapes Go.WideShapes Go.ChangeAt Go.RowKit Wd

/-- a slice of bytes that came in, with its capacity -/
theorem open_sb {H : Type} {enc : TypeId × Value → H} {P : Program} {W : World} {base : Nat} {T E : TypeId} {v : Value} {d : DataW H} {p : List MemPlace}
    (hT : P.underlying T = some (.slice E)) (hE : P.underlying E = some (.int .u8)) (hC : P.cellsOf E = 1) (hok : Value.okWide P W .any base T v)
    (h : DataW.Trod enc P W 0 (fun _ => true) true T v d p) :
    ∃ A n c l, v = .slice A n c ∧ SB W A n c l ∧ c ≤ maxLen ∧ (d = .nil ∧ l = [] ∧ c = 0 ∨ ∃ es sp, d = .slice es sp ∧ es.length = n ∧ es.length + sp.length = c) := by
  have hok' := hok
  have h' := h
  obtain ⟨A, n, c, l, rfl, hr, hc, hm, hd⟩ := open_bytes hT hE hC hok' h'
  refine ⟨A, n, c, l, rfl, ⟨hr, hc, fun hA => ?_⟩, hm, hd⟩
  subst hA
  obtain ⟨fuel, hf⟩ := h
  rcases open_ints hT hE hC hf with ⟨hcs, _⟩ | ⟨x, l, c, zs, hcs, _⟩
  · simp [Value.cells] at hcs
    exact hcs.2
  · simp [Value.cells] at hcs

/-- a slice of strings that came in -/
theorem open_strs {H : Type} {enc : TypeId × Value → H} {P : Program} {W : World} {base : Nat} {T E : TypeId} {v : Value} {d : DataW H} {p : List MemPlace}
    (hT : P.underlying T = some (.slice E)) (hE : P.underlying E = some .string) (hC : P.cellsOf E = 1) (hok : Value.okWide P W .any base T v)
    (h : DataW.Trod enc P W 0 (fun _ => true) true T v d p) :
    ∃ A n c ss, v = .slice A n c ∧ RS W A n ss ∧ n ≤ c ∧ c ≤ maxLen ∧ (A = none → c = 0) ∧ (d = .nil ∧ ss = [] ∧ c = 0 ∨ ∃ sp, d = .slice (ss.map fun s => .lit (.string s.data.toList)) sp ∧ ss.length + sp.length = c) := by
  obtain ⟨a0, len0, cap0, rfl⟩ := okWide_slice hT hok
  obtain ⟨fuel, hf⟩ := h
  have lt0 := DataW.trod_lt fuel _ _ _ hf
  rcases open_strings hT hE hC hf with ⟨hcs, hx⟩ | ⟨x, l, c, ss, hcs, _, hl, hm, hz, hx, hcell, _⟩
  · simp [Value.cells] at hcs
    obtain ⟨rfl, rfl, rfl⟩ := hcs
    exact ⟨none, 0, 0, [], rfl, Reads.none_, Nat.le_refl _, Nat.zero_le _, fun _ => rfl, .inl ⟨(Prod.mk.inj hx).1, rfl, rfl⟩⟩
  · simp [Value.cells] at hcs
    obtain ⟨rfl, rfl, rfl⟩ := hcs
    have hz' : ss.length = cap0 := by simpa using hz
    obtain ⟨rfl, rfl⟩ := Prod.mk.inj hx
    refine ⟨_, len0, cap0, ss.take len0, rfl, ?_, hl, hm, (fun h => by cases h), .inr ⟨_, rfl, by simp [strs]; omega⟩⟩
    refine ⟨by simp [vs]; omega, fun hn => ⟨_, rfl, ?_, fun j u hu => ?_⟩⟩
    · have := lt0 (.cell (x.add 0).block (x.add 0).off) (by simp only [MemPlace.row, List.mem_map, List.mem_range]; exact ⟨0, by omega, rfl⟩)
      rw [← block_of_add x 0]; exact this
    · simp only [vs, List.getElem?_map, Option.map_eq_some_iff] at hu
      obtain ⟨z, hz1, rfl⟩ := hu
      rw [List.getElem?_take] at hz1
      split at hz1
      · have hj : j < ss.length := by omega
        rw [hcell j hj]
        simp [List.getD, hz1]
      · cases hz1

/-- the form's own reach, of a slice of bytes -/
theorem sb_reach {H : Type} {P : Program} {ts : List TypeId} {ds : List (DataW H)} {j n c : Nat} {t e : TypeId} {d : DataW H} {l : List UInt8} (hz : (DataW.weightsEach P ts ds).all (· ≤ reachBytes) = true)
    (ht : ts[j]? = some t) (hd : ds[j]? = some d) (hu : P.underlying t = some (.slice e)) (hb : P.bytesOf e = 1) (h : d = .nil ∧ l = [] ∧ c = 0 ∨ ∃ es sp, d = .slice es sp ∧ es.length = n ∧ es.length + sp.length = c) : c ≤ 140737488351232 := by
  rcases h with ⟨_, _, rfl⟩ | ⟨es, sp, rfl, _, hc⟩
  · exact Nat.zero_le _
  · have := sized_slice hz ht hd hu
    rw [hb, hc] at this
    have e : reachBytes = 140737488351232 := by decide
    omega
theorem nat64 {z : Int} (h : (Lit.int .u64 z).wf = true) : ∃ m : Nat, z = (m : Int) ∧ m < 2 ^ 64 := by
  have := bounds_u64 h
  have e : (2 : Nat) ^ 64 = 18446744073709551616 := by decide
  exact ⟨z.toNat, by omega, by rw [e]; omega⟩
end Go.Proofs.YtkllfnaofapfnaaDoor.Fr
namespace Go.Proofs.YtkllfnaofapfnaaDoor.Utf
open Go.ChangeShapes Go.WideShapes Go.ChangeAt Go.RowKit Go.Lib

theorem accept_eq : (Rows.laid_unicode_utf8_acceptRanges : DataW Unit) = Lib.acceptData := by kernel_rfl
theorem first_eq : Rows.laid_unicode_utf8_first = Lib.firstData := Pinned.utf8First_eq

/-- what a row's list gives -/
theorem tabs_of {W : World} {l : List (String × DataW Unit)} (h : laidMet Tryd.prog l W) (h1 : ("unicode/utf8.first", Rows.laid_unicode_utf8_first) ∈ l) (h2 : ("unicode/utf8.acceptRanges", Rows.laid_unicode_utf8_acceptRanges) ∈ l) : Tabs W := by
  rw [first_eq] at h1
  rw [accept_eq] at h2
  exact utf8Tabs_of_readsT (U8Types.of196 Tryd.lays196) ⟨by kernel_rfl, by kernel_rfl, by kernel_rfl, by kernel_rfl, by kernel_rfl, by kernel_rfl, by kernel_rfl⟩ (Lib.laidMet.reads h h1) (Lib.laidMet.reads h h2)

/-- cells into a variable's block -/
def putCells (h : Array Obj) (g : Nat) (cs : Array Value) : Array Obj := h.modify g fun
  | .cells _ t frozen => .cells cs t frozen
  | o => o
def firstCells : Array Value := (Lib.firstTab.map fun z => Value.int .u8 z).toArray
def acceptCells : Array Value := ((List.range 16).flatMap fun i => [Value.int .u8 (Lib.accLo i), Value.int .u8 (Lib.accHi i)]).toArray
end Go.Proofs.YtkllfnaofapfnaaDoor.Utf
namespace Go.Proofs.YtkllfnaofapfnaaDoor.Fr
open Go.ChangeShapes Go.WideShapes Go.ChangeAt Go.RowKit Wd

/-- a slice of numbers of 32 bits that came in -/
theorem open_ri {H : Type} {enc : TypeId × Value → H} {P : Program} {W : World} {base : Nat} {T E : TypeId} {v : Value} {d : DataW H} {p : List MemPlace}
    (hT : P.underlying T = some (.slice E)) (hE : P.underlying E = some (.int .i32)) (hC : P.cellsOf E = 1) (hok : Value.okWide P W .any base T v)
    (h : DataW.Trod enc P W 0 (fun _ => true) true T v d p) :
    ∃ A n c l, v = .slice A n c ∧ RI .i32 W A n l ∧ n ≤ c ∧ c ≤ maxLen ∧ (∀ z ∈ l, -2147483648 ≤ z ∧ z ≤ 2147483647) ∧ (d = .nil ∧ l = [] ∧ c = 0 ∨ ∃ es sp, d = .slice es sp ∧ es.length = n ∧ es.length + sp.length = c) := by
  obtain ⟨a0, len0, cap0, rfl⟩ := okWide_slice hT hok
  obtain ⟨fuel, hf⟩ := h
  have lt0 := DataW.trod_lt fuel _ _ _ hf
  rcases open_ints hT hE hC hf with ⟨hcs, hx⟩ | ⟨x, l, c, zs, hcs, _, hl, hm, hz, hx, hcell, hwz⟩
  · simp [Value.cells] at hcs
    obtain ⟨rfl, rfl, rfl⟩ := hcs
    exact ⟨none, 0, 0, [], rfl, Reads.none_, Nat.le_refl _, Nat.zero_le _, (fun z hz => by cases hz), .inl ⟨(Prod.mk.inj hx).1, rfl, rfl⟩⟩
  · simp [Value.cells] at hcs
    obtain ⟨rfl, rfl, rfl⟩ := hcs
    have hz' : zs.length = cap0 := by simpa using hz
    obtain ⟨rfl, rfl⟩ := Prod.mk.inj hx
    refine ⟨_, len0, cap0, zs.take len0, rfl, ?_, hl, hm, (fun z hz => bounds_i32 (hwz z (List.mem_of_mem_take hz))), .inr ⟨_, _, rfl, by simp [lits]; omega, by simp [lits]; omega⟩⟩
    refine ⟨by simp [is]; omega, fun hn => ⟨_, rfl, ?_, fun j u hu => ?_⟩⟩
    · have := lt0 (.cell (x.add 0).block (x.add 0).off) (by simp only [MemPlace.row, List.mem_map, List.mem_range]; exact ⟨0, by omega, rfl⟩)
      rw [← block_of_add x 0]; exact this
    · simp only [is, List.getElem?_map, Option.map_eq_some_iff] at hu
      obtain ⟨z, hz1, rfl⟩ := hu
      rw [List.getElem?_take] at hz1
      split at hz1
      · have hj : j < zs.length := by omega
        rw [hcell j hj]
        rw [List.getElem?_eq_getElem hj] at hz1
        injection hz1 with hz1
        simp [List.getD, List.getElem?_eq_getElem hj, hz1]
      · cases hz1
theorem string_reach {H : Type} {P : Program} {ts : List TypeId} {ds : List (DataW H)} {j : Nat} {t : TypeId} {s : ByteArray} (hz : (DataW.weightsEach P ts ds).all (· ≤ reachBytes) = true)
    (ht : ts[j]? = some t) (hd : ds[j]? = some (.lit (.string s.data.toList))) : s.size ≤ 140737488351232 := by
  have := sized_string hz ht hd
  have e : reachBytes = 140737488351232 := by decide
  rw [Array.length_toList, e] at this
  exact this
theorem ri_reach {H : Type} {P : Program} {ts : List TypeId} {ds : List (DataW H)} {j n c : Nat} {t e : TypeId} {d : DataW H} {l : List Int} (hz : (DataW.weightsEach P ts ds).all (· ≤ reachBytes) = true)
    (ht : ts[j]? = some t) (hd : ds[j]? = some d) (hu : P.underlying t = some (.slice e)) (hb : P.bytesOf e = 4) (h : d = .nil ∧ l = [] ∧ c = 0 ∨ ∃ es sp, d = .slice es sp ∧ es.length = n ∧ es.length + sp.length = c) : c ≤ 140737488351232 := by
  rcases h with ⟨_, _, rfl⟩ | ⟨es, sp, rfl, _, hc⟩
  · exact Nat.zero_le _
  · have := sized_slice hz ht hd hu
    rw [hb, hc] at this
    have e : reachBytes = 140737488351232 := by decide
    omega
theorem bulk_string_eq {H : Type} (s : ByteArray) : Rows.uptoBulk (DataW.lit (H := H) (.string s.data.toList)) = s.size + 1 := by
  simp only [Rows.uptoBulk]; rw [Array.length_toList]; rfl

/-- a world for the witness: the settled one, the two tables holding what their initialisers lay -/
noncomputable def laidWorld (os : Os) : World :=
  { World.holding Tryd.prog os ⟨#[], #[], []⟩ with heap := Utf.putCells (Utf.putCells (World.holding Tryd.prog os ⟨#[], #[], []⟩).heap 0 Utf.firstCells) 1 Utf.acceptCells }
end Go.Proofs.YtkllfnaofapfnaaDoor.Fr
