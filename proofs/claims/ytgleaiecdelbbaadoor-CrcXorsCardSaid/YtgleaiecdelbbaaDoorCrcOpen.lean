/-
  The two structs that laws on check sums take, opened: numbers within their kinds. Conditions: none.
-/
import Derived.Test.YtgleaiecdelbbaaDoorFrame
import Derived.Lib.SmallJoins
namespace Go.Proofs.YtgleaiecdelbbaaDoor.Fr
open Go.Joins Go.ChangeShapes Go.WideShapes Go.RowKit Go.Deep

theorem int_cell {H : Type} {enc : TypeId × Value → H} {P : Program} {w : World} {base n : Nat} {spare : Nat → Bool} {held : Bool} {t : TypeId} {k : IntKind} {v : Value} {y : DataW H × List MemPlace} (ht : P.underlying t = some (.int k))
    (h : DataW.trod enc P w base spare held n t [v] = some y) : ∃ z, v = .int k z ∧ (Lit.int k z).wf = true := by
  obtain ⟨z, e, _, hw⟩ := DataW.trod_int ht h
  simp at e
  exact ⟨z, e, hw⟩
theorem nat_u64 {z : Int} (h : (Lit.int .u64 z).wf = true) : ∃ m : Nat, z = (m : Int) ∧ m ≤ 18446744073709551615 := ⟨z.toNat, by have := bounds_u64 h; omega, by have := bounds_u64 h; omega⟩
theorem nat_u16 {z : Int} (h : (Lit.int .u16 z).wf = true) : ∃ m : Nat, z = (m : Int) ∧ m < 65536 := ⟨z.toNat, by have := bounds_u16 h; omega, by have := bounds_u16 h; omega⟩
theorem nat_u32 {z : Int} (h : (Lit.int .u32 z).wf = true) : ∃ m : Nat, z = (m : Int) := ⟨z.toNat, by have := bounds_u32 h; omega⟩

theorem open_burst {H : Type} {enc : TypeId × Value → H} {W : World} {base : Nat} {v : Value} {d : DataW H} {p : List MemPlace} (hok : Value.okWide Tryd.prog W .any base 37 v)
    (h : DataW.Trod enc Tryd.prog W 0 (fun _ => true) true 37 v d p) : ∃ at0 bt : Nat, v = .agg #[.int .u16 (at0 : Int), .int .u32 (bt : Int)] ∧ at0 < 65536 := by
  obtain ⟨c0, c1, y0, y1, m, rfl, _, _, hy0, hy1⟩ := open_agg2 Tryd.underlying37 (by kernel_rfl) (show Tryd.prog.cellsOf 37 = 2 by kernel_rfl) hok h
  obtain ⟨z0, rfl, w0⟩ := int_cell Tryd.underlying35 hy0
  obtain ⟨z1, rfl, w1⟩ := int_cell Tryd.underlying23 hy1
  obtain ⟨a, rfl, ha⟩ := nat_u16 w0
  obtain ⟨b, rfl⟩ := nat_u32 w1
  exact ⟨a, b, rfl, ha⟩

section
variable {H : Type} {enc : TypeId × Value → H} {P : Program} {w : World} {base : Nat} {spare : Nat → Bool} {held : Bool}
theorem open_agg5 {r : Reach} {b0 : Nat} {t : TypeId} {f0 f1 f2 f3 f4 : Field} {v : Value} {d : DataW H} {p : List MemPlace} (hs : P.underlying t = some (.struct #[f0, f1, f2, f3, f4])) (hone : oneCellFields P #[f0, f1, f2, f3, f4] = true) (hC : P.cellsOf t = 5)
    (hv : Value.okWide P w r b0 t v) (h : DataW.Trod enc P w base spare held t v d p) :
    ∃ (v0 v1 v2 v3 v4 : Value) (y0 y1 y2 y3 y4 : DataW H × List MemPlace) (n : Nat), v = .agg #[v0, v1, v2, v3, v4] ∧
      DataW.trod enc P w base spare held n f0.type [v0] = some y0 ∧ DataW.trod enc P w base spare held n f1.type [v1] = some y1 ∧ DataW.trod enc P w base spare held n f2.type [v2] = some y2 ∧ DataW.trod enc P w base spare held n f3.type [v3] = some y3 ∧ DataW.trod enc P w base spare held n f4.type [v4] = some y4 := by
  obtain ⟨cs, rfl, hsz⟩ := okWide_struct hs hv
  obtain ⟨l⟩ := cs
  match l, hsz.trans hC with
  | [c0, c1, c2, c3, c4], _ =>
    obtain ⟨fuel, hf⟩ := h
    obtain ⟨xs, n, _, hx, _, hlen, hg⟩ := DataW.trod_struct hs hf
    obtain ⟨o0, k0⟩ := hone_of hone 0 f0 rfl
    obtain ⟨o1, k1⟩ := hone_of hone 1 f1 rfl
    obtain ⟨o2, k2⟩ := hone_of hone 2 f2 rfl
    obtain ⟨o3, k3⟩ := hone_of hone 3 f3 rfl
    obtain ⟨o4, k4⟩ := hone_of hone 4 f4 rfl
    match xs, hlen with
    | [y0, y1, y2, y3, y4], _ =>
      exact ⟨c0, c1, c2, c3, c4, y0, y1, y2, y3, y4, n, rfl, by simpa [Value.cells, o0, k0] using hg 0 f0 rfl, by simpa [Value.cells, o1, k1] using hg 1 f1 rfl, by simpa [Value.cells, o2, k2] using hg 2 f2 rfl, by simpa [Value.cells, o3, k3] using hg 3 f3 rfl, by simpa [Value.cells, o4, k4] using hg 4 f4 rfl⟩
end

theorem open_three {H : Type} {enc : TypeId × Value → H} {W : World} {base : Nat} {v : Value} {d : DataW H} {p : List MemPlace} (hok : Value.okWide Tryd.prog W .any base 33 v)
    (h : DataW.Trod enc Tryd.prog W 0 (fun _ => true) true 33 v d p) :
    ∃ (a b c : BitVec 32) (m n : Nat), v = .agg #[.int .u32 (a.toNat : Int), .int .u32 (b.toNat : Int), .int .u32 (c.toNat : Int), .int .u64 (m : Int), .int .u64 (n : Int)] ∧ m ≤ 18446744073709551615 ∧ n ≤ 18446744073709551615 := by
  obtain ⟨c0, c1, c2, c3, c4, y0, y1, y2, y3, y4, k, rfl, hy0, hy1, hy2, hy3, hy4⟩ := open_agg5 Tryd.underlying33 (by kernel_rfl) (show Tryd.prog.cellsOf 33 = 5 by kernel_rfl) hok h
  obtain ⟨z0, rfl, w0⟩ := int_cell Tryd.underlying23 hy0
  obtain ⟨z1, rfl, w1⟩ := int_cell Tryd.underlying23 hy1
  obtain ⟨z2, rfl, w2⟩ := int_cell Tryd.underlying23 hy2
  obtain ⟨z3, rfl, w3⟩ := int_cell Tryd.underlying31 hy3
  obtain ⟨z4, rfl, w4⟩ := int_cell Tryd.underlying31 hy4
  obtain ⟨a, rfl⟩ := word32 w0
  obtain ⟨b, rfl⟩ := word32 w1
  obtain ⟨c, rfl⟩ := word32 w2
  obtain ⟨m, rfl, hm⟩ := nat_u64 w3
  obtain ⟨n, rfl, hn⟩ := nat_u64 w4
  exact ⟨a, b, c, m, n, rfl, hm, hn⟩
end Go.Proofs.YtgleaiecdelbbaaDoor.Fr
