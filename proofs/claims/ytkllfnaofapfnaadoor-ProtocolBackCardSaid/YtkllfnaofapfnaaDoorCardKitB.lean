/-
  The frame that all laws of this seat share: arguments read behind the call as they did before it where nothing below the old memory has changed; how an argument is opened. How arguments of the laws are opened: slices of bytes, slices of strings, with their capacities; what the form's own reach says of their sizes. The two package-level tables of unicode/utf8: what a row's list says of them, and a world that holds them. How a slice of characters is opened; what the form's reach says of strings and of such slices; a world that holds the two tables of unicode/utf8. How a slice of structs that came in is opened: a list of elements, each of which reads; what the form's reach says of what lies in it. How a request that came in is opened; what the form's reach says of it. How a reply that came in is opened; what the form's reach says of it. Conditions: none.
-/
import Derived.Test.YtkllfnaofapfnaaDoorWords
import Derived.OpenShut
import Derived.ShutString
import Derived.ChangeOld
import Derived.SizedLaws
import Derived.Deep.DeepHandedRow
import Derived.SliceStrings
import Derived.Test.YtkllfnaofapfnaaDoorUtfValid
import Derived.Lib.LaidIn
import Derived.Lib.LaidU8T
import Derived.PinnedBridge
import Derived.Deep.DeepWitnessRowRef
import Derived.Test.YtkllfnaofapfnaaDoorWordsI
import Derived.ChangeSame
import Derived.Test.YtkllfnaofapfnaaDoorReqRqOpen
import Derived.Test.YtkllfnaofapfnaaDoorRepIn
namespace Go.Proofs.YtkllfnaofapfnaaDoor.Fr
open Go.ChangeShapes Go.WideShapes Go.ChangeAt Go.RowKit Wd

theorem own : ownKnob Tryd.prog.godebug = none := by kernel_rfl
theorem laidOut : laidOutB Tryd.prog = true := by kernel_rfl

/-- all arguments at once -/
theorem args_below {H : Type} {enc : TypeId × Value → H} {P : Program} (hl : laidOutB P = true) {W W' : World} (hb : Below W.heap.size W W') :
    ∀ {ts : List TypeId} {vs : List Value} {ds : List (DataW H)} {ps : List MemPlace}, (∀ t ∈ ts, P.readableRec t = true ∧ t < P.types.size) →
      DataW.TrodAll enc P W 0 (fun _ => true) true ts vs ds ps → DataW.TrodAll enc P W' 0 (fun b => decide (b < W.heap.size)) true ts vs ds ps
  | [], vs, ds, ps, _, h => by
    obtain ⟨rfl, rfl, rfl⟩ := trodAll_nil h
    exact trodAll_mk0
  | t :: ts, vs, ds, ps, hr, h => by
    obtain ⟨v, vs', d, ds', p, q, rfl, rfl, rfl, h0, r0⟩ := trodAll_cons h
    have ht := hr t (by simp)
    have lt0 : ∀ x ∈ p, x.block < W.heap.size := by obtain ⟨m, hm⟩ := h0; exact DataW.trod_lt m _ _ _ hm
    exact trodAll_cons_mk (Below.trod hl ht.1 ht.2 h0 hb lt0) (args_below hl hb (fun t' h' => hr t' (by simp [h'])) r0)

/-- a slice of bytes that came in -/
theorem open_bytes {H : Type} {enc : TypeId × Value → H} {P : Program} {W : World} {base : Nat} {T E : TypeId} {v : Value} {d : DataW H} {p : List MemPlace}
    (hT : P.underlying T = some (.slice E)) (hE : P.underlying E = some (.int .u8)) (hC : P.cellsOf E = 1) (hok : Value.okWide P W .any base T v)
    (h : DataW.Trod enc P W 0 (fun _ => true) true T v d p) :
    ∃ A n c l, v = .slice A n c ∧ RB W A n l ∧ n ≤ c ∧ c ≤ maxLen ∧ (d = .nil ∧ l = [] ∧ c = 0 ∨ ∃ es sp, d = .slice es sp ∧ es.length = n ∧ es.length + sp.length = c) := by
  obtain ⟨a0, len0, cap0, rfl⟩ := okWide_slice hT hok
  have h0 := h
  obtain ⟨fuel, hf⟩ := h
  have lt0 := DataW.trod_lt fuel _ _ _ hf
  rcases open_ints hT hE hC hf with ⟨hcs, hx⟩ | ⟨x, l, c, zs, hcs, _, hl, hm, hz, hx, hcell, hwz⟩
  · simp [Value.cells] at hcs
    obtain ⟨rfl, rfl, rfl⟩ := hcs
    exact ⟨none, 0, 0, [], rfl, Reads.none_, Nat.le_refl _, Nat.zero_le _, .inl ⟨(Prod.mk.inj hx).1, rfl, rfl⟩⟩
  · simp [Value.cells] at hcs
    obtain ⟨rfl, rfl, rfl⟩ := hcs
    have hz' : zs.length = cap0 := by simpa using hz
    obtain ⟨rfl, rfl⟩ := Prod.mk.inj hx
    refine ⟨_, len0, cap0, (zs.take len0).map fun z => UInt8.ofNat z.toNat, rfl, ?_, hl, hm, .inr ⟨_, _, rfl, by simp [lits]; omega, by simp [lits]; omega⟩⟩
    refine ⟨by simp [bs]; omega, fun hn => ⟨_, rfl, ?_, fun j u hu => ?_⟩⟩
    · have := lt0 (.cell (x.add 0).block (x.add 0).off) (by simp only [MemPlace.row, List.mem_map, List.mem_range]; exact ⟨0, by omega, rfl⟩)
      rw [← block_of_add x 0]; exact this
    · simp only [bs, List.map_map, List.getElem?_map, Option.map_eq_some_iff] at hu
      obtain ⟨z, hz1, rfl⟩ := hu
      rw [List.getElem?_take] at hz1
      split at hz1
      · have hj : j < zs.length := by omega
        rw [hcell j hj]
        rw [List.getElem?_eq_getElem hj] at hz1
        injection hz1 with hz1
        have hw := hwz z (by rw [← hz1]; exact List.getElem_mem hj)
        have hb := bounds_u8 hw
        simp only [List.getD, List.getElem?_eq_getElem hj, Option.getD_some, hz1, Function.comp, UInt8.toNat_ofNat']
        congr 2
        omega
      · cases hz1

/-- a word of 32 bits that came in -/
theorem word32 {z : Int} (h : (Lit.int .u32 z).wf = true) : ∃ s : BitVec 32, z = (s.toNat : Int) := by
  have hb := bounds_u32 h
  refine ⟨BitVec.ofNat 32 z.toNat, ?_⟩
  rw [BitVec.toNat_ofNat]; omega

end Go.Proofs.YtkllfnaofapfnaaDoor.Fr
namespace Go.Proofs.YtkllfnaofapfnaaDoor.Fr
open Go.ChangeShapes Go.WideShapes Go.ChangeAt Go.RowKit Wd

/-- a slice of bytes that came in, with its capacity -/
theorem open_sb {H : Type} {enc : TypeId × Value → H} {P : Program} {W : World} {base : Nat} {T E : TypeId} {v : Value} {d : DataW H} {p : List MemPlace}
    (hT : P.underlying T = some (.slice E)) (hE : P.underlying E = some (.int .u8)) (hC : P.cellsOf E = 1) (hok : Value.okWide P W .any base T v)
    (h : DataW.Trod enc P W 0 (fun _ => true) true T v d p) :
    ∃ A n c l, v = .slice A n c ∧ SB W A n c l ∧ c ≤ maxLen ∧ (d = .nil ∧ l = [] ∧ c = 0 ∨ ∃ es sp, d = .slice es sp ∧ es.length = n ∧ es.length + sp.length = c) := by
  have hok' := hok
  have h' := h
  obtain ⟨A, n, c, l, rfl, hr, hc, hm, hd⟩ := open_bytes hT hE hC hok' h'
  refine ⟨A, n, c, l, rfl, ⟨hr, hc, fun hA => ?_⟩, hm, hd⟩
  subst hA
  obtain ⟨fuel, hf⟩ := h
  rcases open_ints hT hE hC hf with ⟨hcs, _⟩ | ⟨x, l, c, zs, hcs, _⟩
  · simp [Value.cells] at hcs
    exact hcs.2
  · simp [Value.cells] at hcs

/-- a slice of strings that came in -/
theorem open_strs {H : Type} {enc : TypeId × Value → H} {P : Program} {W : World} {base : Nat} {T E : TypeId} {v : Value} {d : DataW H} {p : List MemPlace}
    (hT : P.underlying T = some (.slice E)) (hE : P.underlying E = some .string) (hC : P.cellsOf E = 1) (hok : Value.okWide P W .any base T v)
    (h : DataW.Trod enc P W 0 (fun _ => true) true T v d p) :
    ∃ A n c ss, v = .slice A n c ∧ RS W A n ss ∧ n ≤ c ∧ c ≤ maxLen ∧ (A = none → c = 0) ∧ (d = .nil ∧ ss = [] ∧ c = 0 ∨ ∃ sp, d = .slice (ss.map fun s => .lit (.string s.data.toList)) sp ∧ ss.length + sp.length = c) := by
  obtain ⟨a0, len0, cap0, rfl⟩ := okWide_slice hT hok
  obtain ⟨fuel, hf⟩ := h
  have lt0 := DataW.trod_lt fuel _ _ _ hf
  rcases open_strings hT hE hC hf with ⟨hcs, hx⟩ | ⟨x, l, c, ss, hcs, _, hl, hm, hz, hx, hcell, _⟩
  · simp [Value.cells] at hcs
    obtain ⟨rfl, rfl, rfl⟩ := hcs
    exact ⟨none, 0, 0, [], rfl, Reads.none_, Nat.le_refl _, Nat.zero_le _, fun _ => rfl, .inl ⟨(Prod.mk.inj hx).1, rfl, rfl⟩⟩
  · simp [Value.cells] at hcs
    obtain ⟨rfl, rfl, rfl⟩ := hcs
    have hz' : ss.length = cap0 := by simpa using hz
    obtain ⟨rfl, rfl⟩ := Prod.mk.inj hx
    refine ⟨_, len0, cap0, ss.take len0, rfl, ?_, hl, hm, (fun h => by cases h), .inr ⟨_, rfl, by simp [strs]; omega⟩⟩
    refine ⟨by simp [vs]; omega, fun hn => ⟨_, rfl, ?_, fun j u hu => ?_⟩⟩
    · have := lt0 (.cell (x.add 0).block (x.add 0).off) (by simp only [MemPlace.row, List.mem_map, List.mem_range]; exact ⟨0, by omega, rfl⟩)
      rw [← block_of_add x 0]; exact this
    · simp only [vs, List.getElem?_map, Option.map_eq_some_iff] at hu
      obtain ⟨z, hz1, rfl⟩ := hu
      rw [List.getElem?_take] at hz1
      split at hz1
      · have hj : j < ss.length := by omega
        rw [hcell j hj]
        simp [List.getD, hz1]
      · cases hz1

/-- the form's own reach, of a slice of bytes -/
theorem sb_reach {H : Type} {P : Program} {ts : List TypeId} {ds : List (DataW H)} {j n c : Nat} {t e : TypeId} {d : DataW H} {l : List UInt8} (hz : (DataW.weightsEach P ts ds).all (· ≤ reachBytes) = true)
    (ht : ts[j]? = some t) (hd : ds[j]? = some d) (hu : P.underlying t = some (.slice e)) (hb : P.bytesOf e = 1) (h : d = .nil ∧ l = [] ∧ c = 0 ∨ ∃ es sp, d = .slice es sp ∧ es.length = n ∧ es.length + sp.length = c) : c ≤ 140737488351232 := by
  rcases h with ⟨_, _, rfl⟩ | ⟨es, sp, rfl, _, hc⟩
  · exact Nat.zero_le _
  · have := sized_slice hz ht hd hu
    rw [hb, hc] at this
    have e : reachBytes = 140737488351232 := by decide
    omega
theorem nat64 {z : Int} (h : (Lit.int .u64 z).wf = true) : ∃ m : Nat, z = (m : Int) ∧ m < 2 ^ 64 := by
  have := bounds_u64 h
  have e : (2 : Nat) ^ 64 = 18446744073709551616 := by decide
  exact ⟨z.toNat, by omega, by rw [e]; omega⟩
end Go.Proofs.YtkllfnaofapfnaaDoor.Fr
namespace Go.Proofs.YtkllfnaofapfnaaDoor.Utf
open Go.ChangeShapes Go.WideShapes Go.ChangeAt Go.RowKit Go.Lib

theorem accept_eq : (Rows.laid_unicode_utf8_acceptRanges : DataW Unit) = Lib.acceptData := by kernel_rfl
theorem first_eq : Rows.laid_unicode_utf8_first = Lib.firstData := Pinned.utf8First_eq

/-- what a row's list gives -/
theorem tabs_of {W : World} {l : List (String × DataW Unit)} (h : laidMet Tryd.prog l W) (h1 : ("unicode/utf8.first", Rows.laid_unicode_utf8_first) ∈ l) (h2 : ("unicode/utf8.acceptRanges", Rows.laid_unicode_utf8_acceptRanges) ∈ l) : Tabs W := by
  rw [first_eq] at h1
  rw [accept_eq] at h2
  exact utf8Tabs_of_readsT (U8Types.of196 Tryd.lays196) ⟨by kernel_rfl, by kernel_rfl, by kernel_rfl, by kernel_rfl, by kernel_rfl, by kernel_rfl, by kernel_rfl⟩ (Lib.laidMet.reads h h1) (Lib.laidMet.reads h h2)

/-- cells into a variable's block -/
def putCells (h : Array Obj) (g : Nat) (cs : Array Value) : Array Obj := h.modify g fun
  | .cells _ t frozen => .cells cs t frozen
  | o => o
def firstCells : Array Value := (Lib.firstTab.map fun z => Value.int .u8 z).toArray
def acceptCells : Array Value := ((List.range 16).flatMap fun i => [Value.int .u8 (Lib.accLo i), Value.int .u8 (Lib.accHi i)]).toArray
end Go.Proofs.YtkllfnaofapfnaaDoor.Utf
namespace Go.Proofs.YtkllfnaofapfnaaDoor.Fr
open Go.ChangeShapes Go.WideShapes Go.ChangeAt Go.RowKit Wd

/-- a slice of numbers of 32 bits that came in -/
theorem open_ri {H : Type} {enc : TypeId × Value → H} {P : Program} {W : World} {base : Nat} {T E : TypeId} {v : Value} {d : DataW H} {p : List MemPlace}
    (hT : P.underlying T = some (.slice E)) (hE : P.underlying E = some (.int .i32)) (hC : P.cellsOf E = 1) (hok : Value.okWide P W .any base T v)
    (h : DataW.Trod enc P W 0 (fun _ => true) true T v d p) :
    ∃ A n c l, v = .slice A n c ∧ RI .i32 W A n l ∧ n ≤ c ∧ c ≤ maxLen ∧ (∀ z ∈ l, -2147483648 ≤ z ∧ z ≤ 2147483647) ∧ (d = .nil ∧ l = [] ∧ c = 0 ∨ ∃ es sp, d = .slice es sp ∧ es.length = n ∧ es.length + sp.length = c) := by
  obtain ⟨a0, len0, cap0, rfl⟩ := okWide_slice hT hok
  obtain ⟨fuel, hf⟩ := h
  have lt0 := DataW.trod_lt fuel _ _ _ hf
  rcases open_ints hT hE hC hf with ⟨hcs, hx⟩ | ⟨x, l, c, zs, hcs, _, hl, hm, hz, hx, hcell, hwz⟩
  · simp [Value.cells] at hcs
    obtain ⟨rfl, rfl, rfl⟩ := hcs
    exact ⟨none, 0, 0, [], rfl, Reads.none_, Nat.le_refl _, Nat.zero_le _, (fun z hz => by cases hz), .inl ⟨(Prod.mk.inj hx).1, rfl, rfl⟩⟩
  · simp [Value.cells] at hcs
    obtain ⟨rfl, rfl, rfl⟩ := hcs
    have hz' : zs.length = cap0 := by simpa using hz
    obtain ⟨rfl, rfl⟩ := Prod.mk.inj hx
    refine ⟨_, len0, cap0, zs.take len0, rfl, ?_, hl, hm, (fun z hz => bounds_i32 (hwz z (List.mem_of_mem_take hz))), .inr ⟨_, _, rfl, by simp [lits]; omega, by simp [lits]; omega⟩⟩
    refine ⟨by simp [is]; omega, fun hn => ⟨_, rfl, ?_, fun j u hu => ?_⟩⟩
    · have := lt0 (.cell (x.add 0).block (x.add 0).off) (by simp only [MemPlace.row, List.mem_map, List.mem_range]; exact ⟨0, by omega, rfl⟩)
      rw [← block_of_add x 0]; exact this
    · simp only [is, List.getElem?_map, Option.map_eq_some_iff] at hu
      obtain ⟨z, hz1, rfl⟩ := hu
      rw [List.getElem?_take] at hz1
      split at hz1
      · have hj : j < zs.length := by omega
        rw [hcell j hj]
        rw [List.getElem?_eq_getElem hj] at hz1
        injection hz1 with hz1
        simp [List.getD, List.getElem?_eq_getElem hj, hz1]
      · cases hz1
theorem string_reach {H : Type} {P : Program} {ts : List TypeId} {ds : List (DataW H)} {j : Nat} {t : TypeId} {s : ByteArray} (hz : (DataW.weightsEach P ts ds).all (· ≤ reachBytes) = true)
    (ht : ts[j]? = some t) (hd : ds[j]? = some (.lit (.string s.data.toList))) : s.size ≤ 140737488351232 := by
  have := sized_string hz ht hd
  have e : reachBytes = 140737488351232 := by decide
  rw [Array.length_toList, e] at this
  exact this
theorem ri_reach {H : Type} {P : Program} {ts : List TypeId} {ds : List (DataW H)} {j n c : Nat} {t e : TypeId} {d : DataW H} {l : List Int} (hz : (DataW.weightsEach P ts ds).all (· ≤ reachBytes) = true)
    (ht : ts[j]? = some t) (hd : ds[j]? = some d) (hu : P.underlying t = some (.slice e)) (hb : P.bytesOf e = 4) (h : d = .nil ∧ l = [] ∧ c = 0 ∨ ∃ es sp, d = .slice es sp ∧ es.length = n ∧ es.length + sp.length = c) : c ≤ 140737488351232 := by
  rcases h with ⟨_, _, rfl⟩ | ⟨es, sp, rfl, _, hc⟩
  · exact Nat.zero_le _
  · have := sized_slice hz ht hd hu
    rw [hb, hc] at this
    have e : reachBytes = 140737488351232 := by decide
    omega
theorem bulk_string_eq {H : Type} (s : ByteArray) : Rows.uptoBulk (DataW.lit (H := H) (.string s.data.toList)) = s.size + 1 := by
  simp only [Rows.uptoBulk]; rw [Array.length_toList]; rfl

/-- a world for the witness: the settled one, the two tables holding what their initialisers lay -/
noncomputable def laidWorld (os : Os) : World :=
  { World.holding Tryd.prog os ⟨#[], #[], []⟩ with heap := Utf.putCells (Utf.putCells (World.holding Tryd.prog os ⟨#[], #[], []⟩).heap 0 Utf.firstCells) 1 Utf.acceptCells }
end Go.Proofs.YtkllfnaofapfnaaDoor.Fr
namespace Go.Proofs.YtkllfnaofapfnaaDoor.Fr
open Go.ChangeShapes Go.WideShapes Go.ChangeAt Go.RowKit Wd

theorem list_of {α : Type} {Q : Nat → α → Prop} : ∀ (n : Nat), (∀ i, i < n → ∃ p, Q i p) → ∃ l : List α, l.length = n ∧ ∀ i p, l[i]? = some p → Q i p
  | 0, _ => ⟨[], rfl, fun i p h => by simp at h⟩
  | n + 1, h => by
    obtain ⟨l, hl, hq⟩ := list_of n (fun i hi => h i (by omega))
    obtain ⟨p, hp⟩ := h n (by omega)
    refine ⟨l ++ [p], by simp [hl], fun i x hx => ?_⟩
    rcases Nat.lt_trichotomy i n with h1 | h1 | h1
    · rw [List.getElem?_append_left (by omega)] at hx
      exact hq i x hx
    · subst h1
      rw [← hl, List.getElem?_append_right (Nat.le_refl _)] at hx
      simp at hx
      subst hx
      exact hp
    · rw [List.getElem?_eq_none (by simp; omega)] at hx
      cases hx
theorem flat_len {α : Type} {cells : α → List Value} {s : Nat} (hs : ∀ p, (cells p).length = s) (ps : List α) : (ps.flatMap cells).length = ps.length * s := by
  induction ps with
  | nil => simp
  | cons p ps ih => rw [List.flatMap_cons, List.length_append, ih, hs, List.length_cons, Nat.add_mul, Nat.one_mul, Nat.add_comm]
theorem flat_at {α : Type} {cells : α → List Value} {s : Nat} (hs : ∀ p, (cells p).length = s) (ps : List α) {i r : Nat} {p : α} (h : ps[i]? = some p) (hr : r < s) : (ps.flatMap cells)[i * s + r]? = (cells p)[r]? := by
  induction ps generalizing i with
  | nil => simp at h
  | cons q ps ih =>
    rw [List.flatMap_cons]
    cases i with
    | zero =>
      simp at h
      subst h
      rw [Nat.zero_mul, Nat.zero_add, List.getElem?_append_left (by rw [hs]; exact hr)]
    | succ i =>
      have h' := ih (i := i) (by simpa using h)
      rw [List.getElem?_append_right (by rw [hs, Nat.add_mul]; omega), hs, ← h']
      congr 1
      rw [Nat.add_mul]; omega

section
variable {H : Type} {enc : TypeId × Value → H} {P : Program} {W : World}
/-- a slice of anything that can be read element by element -/
theorem open_list {α : Type} {cells : α → List Value} {R : α → DataW H × List MemPlace → Prop} {T E : TypeId} {s fuel : Nat} {cs : List Value} {x : DataW H × List MemPlace} (hT : P.underlying T = some (.slice E)) (hC : P.cellsOf E = s) (hs : 0 < s) (hlen : ∀ p, (cells p).length = s)
    (hE : ∀ n cs y, cs.length = s → DataW.trod enc P W 0 (fun _ => true) true n E cs = some y → ∃ p, cs = cells p ∧ R p y)
    (h : DataW.trod enc P W 0 (fun _ => true) true fuel T cs = some x) :
    ∃ A n c ps, cs = [.slice A n c] ∧ Reads W W.heap.size s A n (ps.flatMap cells) ∧ ps.length = n ∧ n ≤ c ∧ c ≤ maxLen ∧ (A = none → c = 0) ∧
      (x.1 = .nil ∧ ps = [] ∧ c = 0 ∨ ∃ es sp, x.1 = .slice es sp ∧ es.length = n ∧ es.length + sp.length = c ∧ ∀ (i : Nat) p, ps[i]? = some p → ∃ y, es[i]? = some y.1 ∧ R p y) := by
  have lt0 := DataW.trod_lt fuel _ _ _ h
  rcases DataW.trod_slice hT h with ⟨rfl, rfl⟩ | ⟨a, len, cap, elems, rest, n, _, rfl, rfl, _, hl, hm, hle, hel, hsp, _⟩
  · exact ⟨none, 0, 0, [], rfl, ⟨by simp, fun h => absurd h (by omega)⟩, rfl, Nat.le_refl _, Nat.zero_le _, fun _ => rfl, .inl ⟨rfl, rfl, rfl⟩⟩
  · have each : ∀ i, i < len → ∃ p, (∀ r u, r < s → (cells p)[r]? = some u → W.cell? (a.add (i * s + r)) = some u) ∧ ∃ y, elems[i]? = some y ∧ R p y := by
      intro i hi
      have h1 := hel i hi
      obtain ⟨y, hy⟩ : ∃ y, elems[i]? = some y := ⟨elems[i]'(by omega), List.getElem?_eq_getElem _⟩
      rw [hy, Option.bind_eq_some_iff] at h1
      obtain ⟨cs', hcs, hy'⟩ := h1
      obtain ⟨_, hcl, hcell⟩ := World.cells?_some hcs
      rw [hC] at hcl hcell
      obtain ⟨p, rfl, hR⟩ := hE n cs' y hcl hy'
      refine ⟨p, fun r u hr hu => ?_, y, hy, hR⟩
      rw [← hu, ← hcell r hr, add_of_add]
    obtain ⟨ps, hpl, hps⟩ := list_of len each
    have hrl := (hsp rfl).1
    refine ⟨some a, len, cap, ps, rfl, ⟨by rw [flat_len hlen, hpl], fun hn => ⟨a, rfl, ?_, fun j u hu => ?_⟩⟩, hpl, hl, hm, (fun h => by cases h), .inr ⟨_, _, rfl, by simp [hle], by simp [hle, hrl]; omega, fun i p hp => ?_⟩⟩
    · have hpos : 0 < (elems.length + rest.length) * s := Nat.mul_pos (by omega) hs
      have := lt0 (.cell (a.add 0).block (a.add 0).off) (by
        rw [hC]
        exact List.mem_append_left _ (by simp only [MemPlace.row, List.mem_map, List.mem_range]; exact ⟨0, hpos, rfl⟩))
      rw [← block_of_add a 0]; exact this
    · have hj : j < ps.length * s := by
        rcases Nat.lt_or_ge j (ps.length * s) with h' | h'
        · exact h'
        · rw [List.getElem?_eq_none (by rw [flat_len hlen]; exact h')] at hu; cases hu
      have hi : j / s < ps.length := Nat.div_lt_of_lt_mul (by rw [Nat.mul_comm]; exact hj)
      have hr : j % s < s := Nat.mod_lt _ hs
      have hp : ps[j / s]? = some ps[j / s] := List.getElem?_eq_getElem hi
      have e : j / s * s + j % s = j := by rw [Nat.mul_comm]; exact Nat.div_add_mod j s
      have h2 := flat_at hlen ps hp hr
      rw [e, hu] at h2
      have := (hps _ _ hp).1 (j % s) u hr h2.symm
      rw [e] at this
      exact this
    · obtain ⟨y, hy, hR⟩ := (hps i p hp).2
      exact ⟨y, by rw [List.getElem?_map, hy]; rfl, hR⟩

/-- what lies in a datum is within the form's reach -/
def Fits (P : Program) (t : TypeId) (d : DataW H) : Prop := ∀ x ∈ d.weights P t, x ≤ reachBytes
theorem fits_param {ts : List TypeId} {ds : List (DataW H)} (hz : (DataW.weightsEach P ts ds).all (· ≤ reachBytes) = true) {j : Nat} {t : TypeId} {d : DataW H} (ht : ts[j]? = some t) (hd : ds[j]? = some d) : Fits P t d := fun x hx => by
  have := List.all_eq_true.1 hz x (DataW.weights_mem_each ht hd x hx)
  simpa using this
theorem weights_mem_all {e : TypeId} : ∀ {es : List (DataW H)} {i : Nat} {d : DataW H}, es[i]? = some d → ∀ x ∈ d.weights P e, x ∈ DataW.weightsAll P e es
  | d0 :: es, 0, d, hd, x, hx => by
    simp at hd
    subst hd
    simp only [DataW.weightsAll, List.mem_append]
    exact .inl hx
  | d0 :: es, i + 1, d, hd, x, hx => by
    simp only [DataW.weightsAll, List.mem_append]
    exact .inr (weights_mem_all (i := i) (by simpa using hd) x hx)
  | [], _, _, hd, _, _ => by simp at hd
theorem fits_elem {t e : TypeId} {es sp : List (DataW H)} (h : Fits P t (.slice es sp)) (hu : P.underlying t = some (.slice e)) {i : Nat} {d : DataW H} (hd : es[i]? = some d) : Fits P e d := fun x hx => by
  refine h x ?_
  simp only [DataW.weights, hu, List.mem_cons, List.mem_append]
  exact .inr (.inl (weights_mem_all hd x hx))
theorem fits_field {t : TypeId} {fs : Array Field} {xs : List (DataW H)} (h : Fits P t (.agg xs)) (hu : P.underlying t = some (.struct fs)) {j : Nat} {f : Field} {d : DataW H} (hf : fs[j]? = some f) (hd : xs[j]? = some d) : Fits P f.type d := fun x hx => by
  refine h x ?_
  simp only [DataW.weights, hu]
  exact DataW.weights_mem_each (j := j) (t := f.type) (by rw [List.getElem?_map, Array.getElem?_toList, hf]; rfl) hd x hx
theorem reach_eq : reachBytes = 140737488351232 := by decide
theorem fits_slice {t e : TypeId} {es sp : List (DataW H)} (h : Fits P t (.slice es sp)) (hu : P.underlying t = some (.slice e)) : (es.length + sp.length) * P.bytesOf e ≤ 140737488351232 := by
  rw [← reach_eq]
  exact h _ (by simp [DataW.weights, hu])
theorem fits_string {t : TypeId} {s : ByteArray} (h : Fits P t (.lit (H := H) (.string s.data.toList))) : s.size ≤ 140737488351232 := by
  rw [← reach_eq]
  have := h s.data.toList.length (by simp [DataW.weights])
  rw [Array.length_toList] at this
  exact this
end
/-- a slice of bytes, by its cell -/
theorem open_bytes_cell {H : Type} {enc : TypeId × Value → H} {P : Program} {W : World} {T E : TypeId} {fuel : Nat} {cs : List Value} {y : DataW H × List MemPlace}
    (hT : P.underlying T = some (.slice E)) (hE : P.underlying E = some (.int .u8)) (hC : P.cellsOf E = 1) (h : DataW.trod enc P W 0 (fun _ => true) true fuel T cs = some y) :
    ∃ A n c l, cs = [.slice A n c] ∧ SB W A n c l ∧ (y.1 = .nil ∧ l = [] ∧ c = 0 ∨ ∃ es sp, y.1 = .slice es sp ∧ es.length = n ∧ es.length + sp.length = c) := by
  have lt0 := DataW.trod_lt fuel _ _ _ h
  rcases open_ints hT hE hC h with ⟨rfl, rfl⟩ | ⟨x, l, c, zs, rfl, _, hl, hm, hz, rfl, hcell, hwz⟩
  · exact ⟨none, 0, 0, [], rfl, ⟨Reads.none_, Nat.le_refl _, fun _ => rfl⟩, .inl ⟨rfl, rfl, rfl⟩⟩
  · have hz' : zs.length = c := by simpa using hz
    refine ⟨some x, l, c, (zs.take l).map fun z => UInt8.ofNat z.toNat, rfl, ⟨⟨by simp [bs]; omega, fun hn => ⟨_, rfl, ?_, fun j u hu => ?_⟩⟩, hl, (fun h => by cases h)⟩, .inr ⟨_, _, rfl, by simp [lits]; omega, by simp [lits]; omega⟩⟩
    · have := lt0 (.cell (x.add 0).block (x.add 0).off) (by simp only [MemPlace.row, List.mem_map, List.mem_range]; exact ⟨0, by omega, rfl⟩)
      rw [← block_of_add x 0]; exact this
    · simp only [bs, List.map_map, List.getElem?_map, Option.map_eq_some_iff] at hu
      obtain ⟨z, hz1, rfl⟩ := hu
      rw [List.getElem?_take] at hz1
      split at hz1
      · have hj : j < zs.length := by omega
        rw [hcell j hj]
        rw [List.getElem?_eq_getElem hj] at hz1
        injection hz1 with hz1
        have hw := hwz z (by rw [← hz1]; exact List.getElem_mem hj)
        have hb := bounds_u8 hw
        simp only [List.getD, List.getElem?_eq_getElem hj, Option.getD_some, hz1, Function.comp, UInt8.toNat_ofNat']
        congr 2
        omega
      · cases hz1
end Go.Proofs.YtkllfnaofapfnaaDoor.Fr
namespace Go.Proofs.YtkllfnaofapfnaaDoor.Fr
open Go.ChangeShapes Go.WideShapes Go.ChangeAt Go.RowKit Wd Prot

/-- a slice of numbers, by its cell -/
theorem open_ints_cell {H : Type} {enc : TypeId × Value → H} {P : Program} {W : World} {T E : TypeId} {k : IntKind} {fuel : Nat} {cs : List Value} {y : DataW H × List MemPlace}
    (hT : P.underlying T = some (.slice E)) (hE : P.underlying E = some (.int k)) (hC : P.cellsOf E = 1) (h : DataW.trod enc P W 0 (fun _ => true) true fuel T cs = some y) :
    ∃ A n c l, cs = [.slice A n c] ∧ RI k W A n l ∧ n ≤ c ∧ (y.1 = .nil ∧ l = [] ∧ c = 0 ∨ ∃ es sp, y.1 = .slice es sp ∧ es.length = n ∧ es.length + sp.length = c) := by
  have lt0 := DataW.trod_lt fuel _ _ _ h
  rcases open_ints hT hE hC h with ⟨rfl, rfl⟩ | ⟨x, l, c, zs, rfl, _, hl, hm, hz, rfl, hcell, hwz⟩
  · exact ⟨none, 0, 0, [], rfl, Reads.none_, Nat.le_refl _, .inl ⟨rfl, rfl, rfl⟩⟩
  · have hz' : zs.length = c := by simpa using hz
    refine ⟨some x, l, c, zs.take l, rfl, ⟨by simp [is]; omega, fun hn => ⟨_, rfl, ?_, fun j u hu => ?_⟩⟩, hl, .inr ⟨_, _, rfl, by simp [lits]; omega, by simp [lits]; omega⟩⟩
    · have := lt0 (.cell (x.add 0).block (x.add 0).off) (by simp only [MemPlace.row, List.mem_map, List.mem_range]; exact ⟨0, by omega, rfl⟩)
      rw [← block_of_add x 0]; exact this
    · simp only [is, List.getElem?_map, Option.map_eq_some_iff] at hu
      obtain ⟨z, hz1, rfl⟩ := hu
      rw [List.getElem?_take] at hz1
      split at hz1
      · have hj : j < zs.length := by omega
        rw [hcell j hj]
        rw [List.getElem?_eq_getElem hj] at hz1
        injection hz1 with hz1
        simp [List.getD, List.getElem?_eq_getElem hj, hz1]
      · cases hz1
theorem ten {α : Type} {l : List α} (h : l.length = 10) : ∃ a b c d e f g i j k, l = [a, b, c, d, e, f, g, i, j, k] := by
  match l, h with
  | [a, b, c, d, e, f, g, i, j, k], _ => exact ⟨a, b, c, d, e, f, g, i, j, k, rfl⟩
theorem nine {α : Type} {l : List α} (h : l.length = 9) : ∃ a b c d e f g i j, l = [a, b, c, d, e, f, g, i, j] := by
  match l, h with
  | [a, b, c, d, e, f, g, i, j], _ => exact ⟨a, b, c, d, e, f, g, i, j, rfl⟩
set_option maxRecDepth 100000 in
/-- a request that came in -/
theorem open_req {H : Type} {enc : TypeId × Value → H} {W : World} {base : Nat} {v : Value} {d : DataW H} {p : List MemPlace} (hok : Value.okWide Tryd.prog W .any base 27 v) (h : DataW.Trod enc Tryd.prog W 0 (fun _ => true) true 27 v d p) :
    ∃ r q, v = .agg r.cells ∧ (Fits Tryd.prog 27 d → RqOpen W r q) := by
  obtain ⟨cs, rfl, hsz⟩ := okWide_struct Tryd.underlying27 hok
  rw [show Tryd.prog.cellsOf 27 = 10 by kernel_rfl] at hsz
  obtain ⟨l⟩ := cs
  have hsz : l.length = 10 := hsz
  obtain ⟨fuel, hf⟩ := h
  obtain ⟨xs, n, _, hx, _, hlen, hg⟩ := DataW.trod_struct Tryd.underlying27 hf
  have hlen : xs.length = 9 := hlen
  obtain ⟨c0, c1, c2, c3, c4, c5, c6, c7, c8, c9, rfl⟩ := ten hsz
  obtain ⟨y0, y1, y2, y3, y4, y5, y6, y7, y8, rfl⟩ := nine hlen
  have k1 : Tryd.prog.cellsOf 3 = 1 := by kernel_rfl
  have k2 : Tryd.prog.cellsOf 23 = 2 := by kernel_rfl
  have k3 : Tryd.prog.cellsOf 9 = 1 := by kernel_rfl
  have k4 : Tryd.prog.cellsOf 4 = 1 := by kernel_rfl
  have k5 : Tryd.prog.cellsOf 24 = 1 := by kernel_rfl
  have k6 : Tryd.prog.cellsOf 25 = 1 := by kernel_rfl
  have h0 : DataW.trod enc Tryd.prog W 0 (fun _ => true) true n 3 [c0] = some y0 := by have := hg 0 _ rfl; simpa [Value.cells, k1] using this
  have h1 : DataW.trod enc Tryd.prog W 0 (fun _ => true) true n 3 [c1] = some y1 := by have := hg 1 _ rfl; simpa [Value.cells, k1] using this
  have h2 : DataW.trod enc Tryd.prog W 0 (fun _ => true) true n 23 [c2, c3] = some y2 := by have := hg 2 _ rfl; simpa [Value.cells, k2] using this
  have h3 : DataW.trod enc Tryd.prog W 0 (fun _ => true) true n 9 [c4] = some y3 := by have := hg 3 _ rfl; simpa [Value.cells, k3] using this
  have h4 : DataW.trod enc Tryd.prog W 0 (fun _ => true) true n 9 [c5] = some y4 := by have := hg 4 _ rfl; simpa [Value.cells, k3] using this
  have h5 : DataW.trod enc Tryd.prog W 0 (fun _ => true) true n 4 [c6] = some y5 := by have := hg 5 _ rfl; simpa [Value.cells, k4] using this
  have h6 : DataW.trod enc Tryd.prog W 0 (fun _ => true) true n 9 [c7] = some y6 := by have := hg 6 _ rfl; simpa [Value.cells, k3] using this
  have h7 : DataW.trod enc Tryd.prog W 0 (fun _ => true) true n 24 [c8] = some y7 := by have := hg 7 _ rfl; simpa [Value.cells, k5] using this
  have h8 : DataW.trod enc Tryd.prog W 0 (fun _ => true) true n 25 [c9] = some y8 := by have := hg 8 _ rfl; simpa [Value.cells, k6] using this
  clear hg
  obtain ⟨z0, e0, rfl, _⟩ := DataW.trod_int Tryd.underlying3 h0
  obtain ⟨z1, e1, rfl, _⟩ := DataW.trod_int Tryd.underlying3 h1
  obtain ⟨yk, yc, m, rfl, _, hk, hc⟩ := trod_struct2 Tryd.underlying23 h2
  have hk : DataW.trod enc Tryd.prog W 0 (fun _ => true) true m 3 [c2] = some yk := by simpa [k1] using hk
  have hc : DataW.trod enc Tryd.prog W 0 (fun _ => true) true m 5 [c3] = some yc := by simpa [show Tryd.prog.cellsOf 5 = 1 by kernel_rfl] using hc
  obtain ⟨z2, e2, rfl, _⟩ := DataW.trod_int Tryd.underlying3 hk
  obtain ⟨z3, e3, rfl, wz⟩ := DataW.trod_int Tryd.underlying5 hc
  have b3 := bounds_u8 wz
  obtain ⟨kc, rfl⟩ := Int.eq_ofNat_of_zero_le b3.1
  obtain ⟨s4, e4, rfl, _⟩ := DataW.trod_string Tryd.underlying9 h3
  obtain ⟨s5, e5, rfl, _⟩ := DataW.trod_string Tryd.underlying9 h4
  obtain ⟨b6, e6, rfl⟩ := DataW.trod_bool Tryd.underlying4 h5
  obtain ⟨s7, e7, rfl, _⟩ := DataW.trod_string Tryd.underlying9 h6
  obtain ⟨A7, n7, d7, l7, e8, r7, _, _⟩ := open_ints_cell Tryd.underlying24 Tryd.underlying3 k1 h7
  obtain ⟨A8, n8, d8, l8, e9, r8, hd8⟩ := open_bytes_cell Tryd.underlying25 Tryd.underlying5 (by kernel_rfl) h8
  simp only [List.cons.injEq, and_true] at e0 e1 e2 e3 e4 e5 e6 e7 e8 e9
  subst e0 e1 e2 e3 e4 e5 e6 e7 e8 e9
  refine ⟨⟨z0, z1, z2, kc, s4, s5, b6, s7, A7, n7, d7, A8, n8, d8⟩, ⟨z0, z1, z2, kc, s4, s5, b6, s7, l7, l8⟩, rfl, fun hfit => ?_⟩
  obtain ⟨rfl, _⟩ := Prod.mk.inj hx
  have f3 := fits_string (fits_field hfit Tryd.underlying27 (j := 3) rfl rfl)
  have f4 := fits_string (fits_field hfit Tryd.underlying27 (j := 4) rfl rfl)
  have f6 := fits_string (fits_field hfit Tryd.underlying27 (j := 6) rfl rfl)
  have f8 : Fits Tryd.prog 25 y8.1 := fits_field hfit Tryd.underlying27 (j := 8) rfl rfl
  have hcap := r8.cap
  refine ⟨r7, r8, ⟨rfl, rfl, rfl, rfl, rfl, rfl, rfl, rfl, rfl, r7.len, r8.rb.len⟩, ?_, by simp only; omega, by simp only; omega, by simp only; omega, by simp only; omega⟩
  rcases hd8 with ⟨_, _, hc0⟩ | ⟨es', sp', e, _, hcc⟩
  · simp only; omega
  · rw [e] at f8
    have h6 := fits_slice f8 Tryd.underlying25
    rw [show Tryd.prog.bytesOf 5 = 1 by kernel_rfl] at h6
    simp only; omega
end Go.Proofs.YtkllfnaofapfnaaDoor.Fr
namespace Go.Proofs.YtkllfnaofapfnaaDoor.Fr
open Go.ChangeShapes Go.WideShapes Go.ChangeAt Go.RowKit Wd Prot

/-- what a run is as a datum -/
def RunIs {H : Type} (p : ByteArray × Int) (y : DataW H × List MemPlace) : Prop := ∃ d, y.1 = .agg [.lit (.string p.1.data.toList), d]
set_option maxRecDepth 100000 in
theorem open_run {H : Type} {enc : TypeId × Value → H} {W : World} {fuel : Nat} {cs : List Value} {y : DataW H × List MemPlace} (h : DataW.trod enc Tryd.prog W 0 (fun _ => true) true fuel 69 cs = some y) : ∃ p : ByteArray × Int, cs = rc2 p ∧ RunIs p y := by
  obtain ⟨y0, y1, n, rfl, hl, h0, h1⟩ := trod_struct2 Tryd.underlying69 h
  rw [show Tryd.prog.cellsOf 69 = 2 by kernel_rfl] at hl
  match cs, hl with
  | [c0, c1], _ =>
    obtain ⟨s, e0, rfl, _⟩ := DataW.trod_string Tryd.underlying9 h0
    obtain ⟨z, e1, rfl, _⟩ := DataW.trod_int Tryd.underlying3 h1
    rw [show Tryd.prog.cellsOf 9 = 1 by kernel_rfl] at e0
    rw [show Tryd.prog.cellsOf 3 = 1 by kernel_rfl] at e1
    simp at e0 e1
    subst e0 e1
    exact ⟨(s, z), rfl, _, rfl⟩
/-- what a string is as a datum -/
def StrIs {H : Type} (s : ByteArray) (y : DataW H × List MemPlace) : Prop := y.1 = .lit (.string s.data.toList)
theorem flat_vs (ps : List ByteArray) : (ps.flatMap fun s => [Value.string s]) = vs ps := by
  induction ps with
  | nil => rfl
  | cons p ps ih => rw [List.flatMap_cons, ih]; rfl
theorem ten' {α : Type} {l : List α} (h : l.length = 10) : ∃ a b c d e f g i j k, l = [a, b, c, d, e, f, g, i, j, k] := by
  match l, h with
  | [a, b, c, d, e, f, g, i, j, k], _ => exact ⟨a, b, c, d, e, f, g, i, j, k, rfl⟩
theorem four {α : Type} {l : List α} (h : l.length = 4) : ∃ a b c d, l = [a, b, c, d] := by
  match l, h with
  | [a, b, c, d], _ => exact ⟨a, b, c, d, rfl⟩
theorem seven {α : Type} {l : List α} (h : l.length = 7) : ∃ a b c d e f g, l = [a, b, c, d, e, f, g] := by
  match l, h with
  | [a, b, c, d, e, f, g], _ => exact ⟨a, b, c, d, e, f, g, rfl⟩
set_option maxRecDepth 100000 in
/-- a reply that came in -/
theorem open_reply {H : Type} {enc : TypeId × Value → H} {W : World} {base : Nat} {v : Value} {d : DataW H} {p : List MemPlace} (hok : Value.okWide Tryd.prog W .any base 34 v) (h : DataW.Trod enc Tryd.prog W 0 (fun _ => true) true 34 v d p) :
    ∃ r q, v = .agg r.cells ∧ (Fits Tryd.prog 34 d → RpOpen W r q) := by
  obtain ⟨cs, rfl, hsz⟩ := okWide_struct Tryd.underlying34 hok
  rw [show Tryd.prog.cellsOf 34 = 10 by kernel_rfl] at hsz
  obtain ⟨l⟩ := cs
  have hsz : l.length = 10 := hsz
  obtain ⟨fuel, hf⟩ := h
  obtain ⟨xs, n, _, hx, _, hlen, hg⟩ := DataW.trod_struct Tryd.underlying34 hf
  have hlen : xs.length = 4 := hlen
  obtain ⟨c0, c1, c2, c3, c4, c5, c6, c7, c8, c9, rfl⟩ := ten' hsz
  obtain ⟨y0, y1, y2, y3, rfl⟩ := four hlen
  have k0 : Tryd.prog.cellsOf 28 = 1 := by kernel_rfl
  have k1 : Tryd.prog.cellsOf 3 = 1 := by kernel_rfl
  have k2 : Tryd.prog.cellsOf 32 = 7 := by kernel_rfl
  have k3 : Tryd.prog.cellsOf 9 = 1 := by kernel_rfl
  have k4 : Tryd.prog.cellsOf 4 = 1 := by kernel_rfl
  have k5 : Tryd.prog.cellsOf 29 = 1 := by kernel_rfl
  have k6 : Tryd.prog.cellsOf 25 = 1 := by kernel_rfl
  have k7 : Tryd.prog.cellsOf 30 = 1 := by kernel_rfl
  have h0 : DataW.trod enc Tryd.prog W 0 (fun _ => true) true n 28 [c0] = some y0 := by have := hg 0 _ rfl; simpa [Value.cells, k0] using this
  have h1 : DataW.trod enc Tryd.prog W 0 (fun _ => true) true n 3 [c1] = some y1 := by have := hg 1 _ rfl; simpa [Value.cells, k1] using this
  have h2 : DataW.trod enc Tryd.prog W 0 (fun _ => true) true n 32 [c2, c3, c4, c5, c6, c7, c8] = some y2 := by have := hg 2 _ rfl; simpa [Value.cells, k2] using this
  have h3 : DataW.trod enc Tryd.prog W 0 (fun _ => true) true n 25 [c9] = some y3 := by have := hg 3 _ rfl; simpa [Value.cells, k6] using this
  clear hg
  obtain ⟨vs', m, _, hvx, _, hvlen, hvg⟩ := DataW.trod_struct Tryd.underlying32 h2
  have hvlen : vs'.length = 7 := hvlen
  obtain ⟨v0, v1, v2, v3, v4, v5, v6, rfl⟩ := seven hvlen
  have g0 : DataW.trod enc Tryd.prog W 0 (fun _ => true) true m 29 [c2] = some v0 := by have := hvg 0 _ rfl; simpa [Value.cells, k5] using this
  have g1 : DataW.trod enc Tryd.prog W 0 (fun _ => true) true m 3 [c3] = some v1 := by have := hvg 1 _ rfl; simpa [Value.cells, k1] using this
  have g2 : DataW.trod enc Tryd.prog W 0 (fun _ => true) true m 30 [c4] = some v2 := by have := hvg 2 _ rfl; simpa [Value.cells, k7] using this
  have g3 : DataW.trod enc Tryd.prog W 0 (fun _ => true) true m 3 [c5] = some v3 := by have := hvg 3 _ rfl; simpa [Value.cells, k1] using this
  have g4 : DataW.trod enc Tryd.prog W 0 (fun _ => true) true m 9 [c6] = some v4 := by have := hvg 4 _ rfl; simpa [Value.cells, k3] using this
  have g5 : DataW.trod enc Tryd.prog W 0 (fun _ => true) true m 3 [c7] = some v5 := by have := hvg 5 _ rfl; simpa [Value.cells, k1] using this
  have g6 : DataW.trod enc Tryd.prog W 0 (fun _ => true) true m 4 [c8] = some v6 := by have := hvg 6 _ rfl; simpa [Value.cells, k4] using this
  clear hvg
  obtain ⟨z0, e0, rfl, _⟩ := DataW.trod_int Tryd.underlying28 h0
  obtain ⟨z1, e1, rfl, _⟩ := DataW.trod_int Tryd.underlying3 h1
  obtain ⟨Ap, np, cp, ps, e2, rp, hpl, hpc, hpm, hpA, hpd⟩ := open_list (cells := rc2) (R := RunIs) Tryd.underlying29 (show Tryd.prog.cellsOf 69 = 2 by kernel_rfl) (by decide) (fun _ => rfl) (fun n cs y _ h => open_run h) g0
  obtain ⟨z3, e3, rfl, _⟩ := DataW.trod_int Tryd.underlying3 g1
  obtain ⟨Ac, nc, cc, ss, e4, rs, hsl, hsc, hsm, hsA, hsd⟩ := open_list (cells := fun s => [Value.string s]) (R := StrIs) Tryd.underlying30 k3 (by decide) (fun _ => rfl) (fun n cs y _ h => by
    obtain ⟨s, e, rfl, _⟩ := DataW.trod_string Tryd.underlying9 h
    exact ⟨s, e, rfl⟩) g2
  obtain ⟨z5, e5, rfl, _⟩ := DataW.trod_int Tryd.underlying3 g3
  obtain ⟨s6, e6, rfl, _⟩ := DataW.trod_string Tryd.underlying9 g4
  obtain ⟨z7, e7, rfl, _⟩ := DataW.trod_int Tryd.underlying3 g5
  obtain ⟨b8, e8, rfl⟩ := DataW.trod_bool Tryd.underlying4 g6
  obtain ⟨Ad, nd, cd, l9, e9, r9, hd9⟩ := open_bytes_cell Tryd.underlying25 Tryd.underlying5 (by kernel_rfl) h3
  simp only [List.cons.injEq, and_true] at e0 e1 e2 e3 e4 e5 e6 e7 e8 e9
  subst e0 e1 e2 e3 e4 e5 e6 e7 e8 e9
  rw [flat_vs] at rs
  refine ⟨⟨z0, z1, Ap, np, cp, z3, Ac, nc, cc, z5, s6, z7, b8, Ad, nd, cd⟩, ⟨z0, z1, ps, z3, ss, z5, s6, z7, b8, l9⟩, rfl, fun hfit => ?_⟩
  obtain ⟨rfl, _⟩ := Prod.mk.inj hx
  obtain ⟨hv, _⟩ := Prod.mk.inj hvx
  have fv : Fits Tryd.prog 32 y2.1 := fits_field hfit Tryd.underlying34 (j := 2) rfl rfl
  rw [hvx] at fv
  have f4 := fits_string (fits_field fv Tryd.underlying32 (j := 4) rfl rfl)
  have f0 : Fits Tryd.prog 29 v0.1 := fits_field fv Tryd.underlying32 (j := 0) rfl rfl
  have f2 : Fits Tryd.prog 30 v2.1 := fits_field fv Tryd.underlying32 (j := 2) rfl rfl
  have f9 : Fits Tryd.prog 25 y3.1 := fits_field hfit Tryd.underlying34 (j := 3) rfl rfl
  have hcap := r9.cap
  have hnp : np ≤ 140737488355328 ∧ ∀ x ∈ ps, x.1.size ≤ 140737488355328 := by
    rcases hpd with ⟨_, rfl, h0⟩ | ⟨es, sp, e, hel, hcl, hE⟩
    · exact ⟨by omega, fun x hx => by cases hx⟩
    · rw [e] at f0
      have h6 := fits_slice f0 Tryd.underlying29
      rw [show Tryd.prog.bytesOf 69 = 24 by kernel_rfl] at h6
      refine ⟨by omega, fun x hx => ?_⟩
      obtain ⟨i, hi⟩ := List.getElem?_of_mem hx
      obtain ⟨y, hy, d, hyd⟩ := hE i x hi
      have h3 := fits_elem f0 Tryd.underlying29 hy
      rw [hyd] at h3
      have h4 := fits_string (fits_field h3 Tryd.underlying69 (j := 0) rfl rfl)
      omega
  have hnc : nc ≤ 140737488355328 ∧ ∀ s ∈ ss, s.size ≤ 140737488355328 := by
    rcases hsd with ⟨_, rfl, h0⟩ | ⟨es, sp, e, hel, hcl, hE⟩
    · exact ⟨by omega, fun x hx => by cases hx⟩
    · rw [e] at f2
      have h6 := fits_slice f2 Tryd.underlying30
      rw [show Tryd.prog.bytesOf 9 = 16 by kernel_rfl] at h6
      refine ⟨by omega, fun x hx => ?_⟩
      obtain ⟨i, hi⟩ := List.getElem?_of_mem hx
      obtain ⟨y, hy, hyd⟩ := hE i x hi
      have h3 := fits_elem f2 Tryd.underlying30 hy
      rw [hyd] at h3
      have h4 := fits_string h3
      omega
  refine ⟨rfl, rfl, rfl, rfl, rfl, rfl, rfl, rp, rs, r9, hnp.1, hnc.1, ?_, hnp.2, hnc.2, by simp only; omega⟩
  rcases hd9 with ⟨_, _, hc0⟩ | ⟨es', sp', e, _, hcc⟩
  · simp only; omega
  · rw [e] at f9
    have h6 := fits_slice f9 Tryd.underlying25
    rw [show Tryd.prog.bytesOf 5 = 1 by kernel_rfl] at h6
    simp only; omega
end Go.Proofs.YtkllfnaofapfnaaDoor.Fr
