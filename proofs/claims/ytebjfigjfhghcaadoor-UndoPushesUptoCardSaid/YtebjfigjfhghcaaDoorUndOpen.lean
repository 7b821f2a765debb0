/-
  How a step and a slice of steps that came in are opened; what the bound of the second form says of them. Conditions: none. (Printed by gen/undopen.py.)
-/
import Derived.Test.YtebjfigjfhghcaaDoorOpenS
import Derived.Test.YtebjfigjfhghcaaDoorBulk
import Derived.Test.YtebjfigjfhghcaaDoorUndSteps
namespace Go.Proofs.YtebjfigjfhghcaaDoor.Fr
open Go.ChangeShapes Go.WideShapes Go.ChangeAt Go.RowKit Wd Und

/-- a slice of numbers, by its cell -/
theorem open_ints_cell {H : Type} {enc : TypeId × Value → H} {P : Program} {W : World} {T E : TypeId} {k : IntKind} {fuel : Nat} {cs : List Value} {y : DataW H × List MemPlace}
    (hT : P.underlying T = some (.slice E)) (hE : P.underlying E = some (.int k)) (hC : P.cellsOf E = 1) (h : DataW.trod enc P W 0 (fun _ => true) true fuel T cs = some y) :
    ∃ A n c l, cs = [.slice A n c] ∧ RI k W A n l ∧ n ≤ c ∧ (y.1 = .nil ∧ l = [] ∧ c = 0 ∨ ∃ es sp, y.1 = .slice es sp ∧ es.length = n ∧ es.length + sp.length = c) := by
  have lt0 := DataW.trod_lt fuel _ _ _ h
  rcases open_ints hT hE hC h with ⟨rfl, rfl⟩ | ⟨x, l, c, zs, rfl, _, hl, hm, hz, rfl, hcell, hwz⟩
  · exact ⟨none, 0, 0, [], rfl, Reads.none_, Nat.le_refl _, .inl ⟨rfl, rfl, rfl⟩⟩
  · have hz' : zs.length = c := by simpa using hz
    refine ⟨some x, l, c, zs.take l, rfl, ⟨by simp [is]; omega, fun hn => ⟨_, rfl, ?_, fun j u hu => ?_⟩⟩, hl, .inr ⟨_, _, rfl, by simp [lits]; omega, by simp [lits]; omega⟩⟩
    · have := lt0 (.cell (x.add 0).block (x.add 0).off) (by simp only [MemPlace.row, List.mem_map, List.mem_range]; exact ⟨0, by omega, rfl⟩)
      rw [← block_of_add x 0]; exact this
    · simp only [is, List.getElem?_map, Option.map_eq_some_iff] at hu
      obtain ⟨z, hz1, rfl⟩ := hu
      rw [List.getElem?_take] at hz1
      split at hz1
      · have hj : j < zs.length := by omega
        rw [hcell j hj]
        rw [List.getElem?_eq_getElem hj] at hz1
        injection hz1 with hz1
        simp [List.getD, List.getElem?_eq_getElem hj, hz1]
      · cases hz1
/-- what strings and items are as data -/
def StrIs {H : Type} (s : ByteArray) (y : DataW H × List MemPlace) : Prop := y.1 = .lit (.string s.data.toList)
def ItemIs {H : Type} (p : ByteArray × ByteArray) (y : DataW H × List MemPlace) : Prop := y.1 = .agg [.lit (.string p.1.data.toList), .lit (.string p.2.data.toList)]
theorem flat_vs (ps : List ByteArray) : (ps.flatMap fun s => [Value.string s]) = vs ps := by
  induction ps with
  | nil => rfl
  | cons p ps ih => rw [List.flatMap_cons, ih]; rfl
theorem flat_os (ps : List Bool) : (ps.flatMap fun s => [Value.bool s]) = os ps := by
  induction ps with
  | nil => rfl
  | cons p ps ih => rw [List.flatMap_cons, ih]; rfl
theorem eleven {α : Type} {l : List α} (h : l.length = 11) : ∃ a b c d e f g i j k m, l = [a, b, c, d, e, f, g, i, j, k, m] := by
  match l, h with
  | [a, b, c, d, e, f, g, i, j, k, m], _ => exact ⟨a, b, c, d, e, f, g, i, j, k, m, rfl⟩
theorem eight {α : Type} {l : List α} (h : l.length = 8) : ∃ a b c d e f g i, l = [a, b, c, d, e, f, g, i] := by
  match l, h with
  | [a, b, c, d, e, f, g, i], _ => exact ⟨a, b, c, d, e, f, g, i, rfl⟩
theorem three {α : Type} {l : List α} (h : l.length = 3) : ∃ a b c, l = [a, b, c] := by
  match l, h with
  | [a, b, c], _ => exact ⟨a, b, c, rfl⟩
theorem bulk_str {H : Type} (s : ByteArray) : s.size ≤ Rows.uptoBulk (DataW.lit (H := H) (.string s.data.toList)) := by
  simp only [Rows.uptoBulk, Array.length_toList]
  exact Nat.le_succ_of_le (Nat.le_refl _)
theorem bulk_string {H : Type} (s : ByteArray) : s.size ≤ Rows.uptoBulk (DataW.lit (H := H) (.string s.data.toList)) := bulk_str s
theorem bulk_slice {H : Type} {es sp : List (DataW H)} {b : Nat} (h : Rows.uptoBulk (.slice es sp) ≤ b) : es.length + sp.length ≤ b ∧ ∀ d ∈ es, Rows.uptoBulk d ≤ b := by
  have h1 := bulk_length es
  have h2 := bulk_length sp
  simp only [Rows.uptoBulk] at h
  exact ⟨by omega, fun d hd => by have := bulk_mem hd; omega⟩
theorem bulk_agg {H : Type} {xs : List (DataW H)} {b : Nat} (h : Rows.uptoBulk (.agg xs) ≤ b) : ∀ d ∈ xs, Rows.uptoBulk d ≤ b := by
  simp only [Rows.uptoBulk] at h
  exact fun d hd => by have := bulk_mem hd; omega
set_option maxRecDepth 100000 in
theorem open_item {H : Type} {enc : TypeId × Value → H} {W : World} {fuel : Nat} {cs : List Value} {y : DataW H × List MemPlace} (h : DataW.trod enc Tryd.prog W 0 (fun _ => true) true fuel 75 cs = some y) : ∃ p : ByteArray × ByteArray, cs = ic2 p ∧ ItemIs p y := by
  obtain ⟨y0, y1, n, rfl, hl, h0, h1⟩ := trod_struct2 Tryd.underlying75 h
  rw [show Tryd.prog.cellsOf 75 = 2 by kernel_rfl] at hl
  match cs, hl with
  | [c0, c1], _ =>
    obtain ⟨s, e0, rfl, _⟩ := DataW.trod_string Tryd.underlying9 h0
    obtain ⟨z, e1, rfl, _⟩ := DataW.trod_string Tryd.underlying9 h1
    rw [show Tryd.prog.cellsOf 9 = 1 by kernel_rfl] at e0 e1
    simp at e0 e1
    subst e0 e1
    exact ⟨(s, z), rfl, rfl⟩
set_option maxRecDepth 100000 in
set_option maxHeartbeats 1000000 in
/-- a step that came in, by its cells -/
theorem open_step_cells {H : Type} {enc : TypeId × Value → H} {W : World} {fuel : Nat} {cs : List Value} {y : DataW H × List MemPlace} (hsz : cs.length = 11) (hf : DataW.trod enc Tryd.prog W 0 (fun _ => true) true fuel 31 cs = some y) :
    ∃ p : Sp × Stp, cs = p.1.cells.toList ∧ (Rows.uptoBulk y.1 ≤ 1048576 → SpIn W p.1 p.2) := by
  obtain ⟨xs, n, _, hx, _, hlen, hg⟩ := DataW.trod_struct Tryd.underlying31 hf
  have hlen : xs.length = 8 := hlen
  obtain ⟨c0, c1, c2, c3, c4, c5, c6, c7, c8, c9, c10, rfl⟩ := eleven hsz
  obtain ⟨y0, y1, y2, y3, y4, y5, y6, y7, rfl⟩ := eight hlen
  have k1 : Tryd.prog.cellsOf 3 = 1 := by kernel_rfl
  have k2 : Tryd.prog.cellsOf 9 = 1 := by kernel_rfl
  have k3 : Tryd.prog.cellsOf 4 = 1 := by kernel_rfl
  have k4 : Tryd.prog.cellsOf 24 = 3 := by kernel_rfl
  have k5 : Tryd.prog.cellsOf 28 = 2 := by kernel_rfl
  have k6 : Tryd.prog.cellsOf 25 = 1 := by kernel_rfl
  have k7 : Tryd.prog.cellsOf 26 = 1 := by kernel_rfl
  have k8 : Tryd.prog.cellsOf 29 = 1 := by kernel_rfl
  have k9 : Tryd.prog.cellsOf 22 = 1 := by kernel_rfl
  have h0 : DataW.trod enc Tryd.prog W 0 (fun _ => true) true n 24 [c0, c1, c2] = some y0 := by have := hg 0 _ rfl; simpa [Value.cells, k4] using this
  have h1 : DataW.trod enc Tryd.prog W 0 (fun _ => true) true n 3 [c3] = some y1 := by have := hg 1 _ rfl; simpa [Value.cells, k1, k4] using this
  have h2 : DataW.trod enc Tryd.prog W 0 (fun _ => true) true n 4 [c4] = some y2 := by have := hg 2 _ rfl; simpa [Value.cells, k1, k3, k4] using this
  have h3 : DataW.trod enc Tryd.prog W 0 (fun _ => true) true n 28 [c5, c6] = some y3 := by have := hg 3 _ rfl; simpa [Value.cells, k1, k3, k4, k5] using this
  have h4 : DataW.trod enc Tryd.prog W 0 (fun _ => true) true n 29 [c7] = some y4 := by have := hg 4 _ rfl; simpa [Value.cells, k1, k3, k4, k5, k8] using this
  have h5 : DataW.trod enc Tryd.prog W 0 (fun _ => true) true n 3 [c8] = some y5 := by have := hg 5 _ rfl; simpa [Value.cells, k1, k3, k4, k5, k8] using this
  have h6 : DataW.trod enc Tryd.prog W 0 (fun _ => true) true n 9 [c9] = some y6 := by have := hg 6 _ rfl; simpa [Value.cells, k1, k2, k3, k4, k5, k8] using this
  have h7 : DataW.trod enc Tryd.prog W 0 (fun _ => true) true n 9 [c10] = some y7 := by have := hg 7 _ rfl; simpa [Value.cells, k1, k2, k3, k4, k5, k8] using this
  clear hg
  obtain ⟨us, m, _, hux, _, hulen, hug⟩ := DataW.trod_struct Tryd.underlying24 h0
  have hulen : us.length = 3 := hulen
  obtain ⟨u0, u1, u2, rfl⟩ := three hulen
  have i0 : DataW.trod enc Tryd.prog W 0 (fun _ => true) true m 22 [c0] = some u0 := by have := hug 0 _ rfl; simpa [Value.cells, k9] using this
  have i1 : DataW.trod enc Tryd.prog W 0 (fun _ => true) true m 3 [c1] = some u1 := by have := hug 1 _ rfl; simpa [Value.cells, k1, k9] using this
  have i2 : DataW.trod enc Tryd.prog W 0 (fun _ => true) true m 9 [c2] = some u2 := by have := hug 2 _ rfl; simpa [Value.cells, k1, k2, k9] using this
  clear hug
  obtain ⟨v0, v1, m', rfl, hvl, j0, j1⟩ := trod_struct2 Tryd.underlying28 h3
  have j0 : DataW.trod enc Tryd.prog W 0 (fun _ => true) true m' 25 [c5] = some v0 := by simpa [k6] using j0
  have j1 : DataW.trod enc Tryd.prog W 0 (fun _ => true) true m' 26 [c6] = some v1 := by simpa [k6, k7] using j1
  obtain ⟨Ai, ni, ci, il, e0, ri, hil, hic, him, hiA, hid⟩ := open_list (cells := ic2) (R := ItemIs) Tryd.underlying22 (show Tryd.prog.cellsOf 75 = 2 by kernel_rfl) (by decide) (fun _ => rfl) (fun n cs y _ h => open_item h) i0
  obtain ⟨z1, e1, rfl, _⟩ := DataW.trod_int Tryd.underlying3 i1
  obtain ⟨s2, e2, rfl, _⟩ := DataW.trod_string Tryd.underlying9 i2
  obtain ⟨z3, e3, rfl, _⟩ := DataW.trod_int Tryd.underlying3 h1
  obtain ⟨b4, e4, rfl⟩ := DataW.trod_bool Tryd.underlying4 h2
  obtain ⟨Ab, nb, cb, bl, e5, rb, hbc, hbd⟩ := open_ints_cell Tryd.underlying25 Tryd.underlying3 k1 j0
  obtain ⟨Af, nf, cf, fl, e6, rf, hfl, hfc, hfm, hfA, hfd⟩ := open_list (cells := fun s => [Value.bool s]) (R := fun _ _ => True) Tryd.underlying26 k3 (by decide) (fun _ => rfl) (fun n cs y _ h => by
    obtain ⟨s, e, rfl⟩ := DataW.trod_bool Tryd.underlying4 h
    exact ⟨s, e, trivial⟩) j1
  obtain ⟨At, nt, ct, tl, e7, rt, htl, htc, htm, htA, htd⟩ := open_list (cells := fun s => [Value.string s]) (R := StrIs) Tryd.underlying29 k2 (by decide) (fun _ => rfl) (fun n cs y _ h => by
    obtain ⟨s, e, rfl, _⟩ := DataW.trod_string Tryd.underlying9 h
    exact ⟨s, e, rfl⟩) h4
  obtain ⟨z8, e8, rfl, _⟩ := DataW.trod_int Tryd.underlying3 h5
  obtain ⟨s9, e9, rfl, _⟩ := DataW.trod_string Tryd.underlying9 h6
  obtain ⟨s10, e10, rfl, _⟩ := DataW.trod_string Tryd.underlying9 h7
  simp only [List.cons.injEq, and_true] at e0 e1 e2 e3 e4 e5 e6 e7 e8 e9 e10
  subst e0 e1 e2 e3 e4 e5 e6 e7 e8 e9 e10
  rw [flat_vs] at rt
  rw [flat_os] at rf
  refine ⟨(⟨Ai, ni, ci, z1, s2, z3, b4, Ab, nb, cb, Af, nf, cf, At, nt, ct, z8, s9, s10⟩, ⟨il, z1, s2, z3, b4, bl, fl, tl, z8, s9, s10⟩), rfl, fun hb => ?_⟩
  rw [hx] at hb
  have hb' := bulk_agg hb
  have b0 : Rows.uptoBulk y0.1 ≤ 1048576 := hb' _ (by simp)
  have b3 := hb' (DataW.agg [v0.1, v1.1]) (by simp)
  have b44 : Rows.uptoBulk y4.1 ≤ 1048576 := hb' _ (by simp)
  have b6 := Nat.le_trans (bulk_str s9) (hb' (DataW.lit (.string s9.data.toList)) (by simp))
  have b7 := Nat.le_trans (bulk_str s10) (hb' (DataW.lit (.string s10.data.toList)) (by simp))
  rw [hux] at b0
  have hc' := bulk_agg b0
  have d0 : Rows.uptoBulk u0.1 ≤ 1048576 := hc' _ (by simp)
  have d2 := Nat.le_trans (bulk_str s2) (hc' (DataW.lit (.string s2.data.toList)) (by simp))
  have he' := bulk_agg b3
  have g0 : Rows.uptoBulk v0.1 ≤ 1048576 := he' _ (by simp)
  have g1 : Rows.uptoBulk v1.1 ≤ 1048576 := he' _ (by simp)
  have hi : ni ≤ 1048576 ∧ ∀ x ∈ il, x.1.size ≤ 1048576 ∧ x.2.size ≤ 1048576 := by
    rcases hid with ⟨_, rfl, h0⟩ | ⟨es, sp, e, hel, hcl, hE⟩
    · exact ⟨by omega, fun x hx => by cases hx⟩
    · rw [e] at d0
      obtain ⟨q1, q2⟩ := bulk_slice d0
      refine ⟨by omega, fun x hx => ?_⟩
      obtain ⟨i, hi⟩ := List.getElem?_of_mem hx
      obtain ⟨y, hy, hyd⟩ := hE i x hi
      have q3 := q2 _ (List.mem_of_getElem? hy)
      rw [hyd] at q3
      have q4 := bulk_agg q3
      exact ⟨Nat.le_trans (bulk_str _) (q4 (DataW.lit (.string x.1.data.toList)) (by simp)), Nat.le_trans (bulk_str _) (q4 (DataW.lit (.string x.2.data.toList)) (by simp))⟩
  have ht : nt ≤ 1048576 ∧ ∀ s ∈ tl, s.size ≤ 1048576 := by
    rcases htd with ⟨_, rfl, h0⟩ | ⟨es, sp, e, hel, hcl, hE⟩
    · exact ⟨by omega, fun x hx => by cases hx⟩
    · rw [e] at b44
      obtain ⟨q1, q2⟩ := bulk_slice b44
      refine ⟨by omega, fun x hx => ?_⟩
      obtain ⟨i, hi⟩ := List.getElem?_of_mem hx
      obtain ⟨y, hy, hyd⟩ := hE i x hi
      have q3 := q2 _ (List.mem_of_getElem? hy)
      rw [hyd] at q3
      exact Nat.le_trans (bulk_str _) q3
  have hnb : nb ≤ 1048576 := by
    rcases hbd with ⟨_, _, h0⟩ | ⟨es, sp, e, hel, hcl⟩
    · omega
    · rw [e] at g0
      have := (bulk_slice g0).1
      omega
  have hnf : nf ≤ 1048576 := by
    rcases hfd with ⟨_, _, h0⟩ | ⟨es, sp, e, hel, hcl, _⟩
    · omega
    · rw [e] at g1
      have := (bulk_slice g1).1
      omega
  exact ⟨ri, rb, rf, rt, rfl, rfl, rfl, rfl, rfl, rfl, rfl, hi.1, hnb, hnf, ht.1, htc, hi.2, ht.2, d2, b6, b7⟩
set_option maxRecDepth 100000 in
/-- a step that came in -/
theorem open_step {H : Type} {enc : TypeId × Value → H} {W : World} {base : Nat} {v : Value} {d : DataW H} {p : List MemPlace} (hok : Value.okWide Tryd.prog W .any base 31 v) (h : DataW.Trod enc Tryd.prog W 0 (fun _ => true) true 31 v d p) :
    ∃ r q, v = .agg r.cells ∧ (Rows.uptoBulk d ≤ 1048576 → SpIn W r q) := by
  obtain ⟨cs, rfl, hsz⟩ := okWide_struct Tryd.underlying31 hok
  rw [show Tryd.prog.cellsOf 31 = 11 by kernel_rfl] at hsz
  obtain ⟨fuel, hf⟩ := h
  obtain ⟨pr, e, hb⟩ := open_step_cells (by simpa [Value.cells] using hsz) hf
  refine ⟨pr.1, pr.2, ?_, hb⟩
  have : cs = pr.1.cells := by simpa [Value.cells] using e
  rw [this]
set_option maxRecDepth 100000 in
/-- a slice of steps that came in -/
theorem open_steps {H : Type} {enc : TypeId × Value → H} {W : World} {base : Nat} {v : Value} {d : DataW H} {p : List MemPlace} (hok : Value.okWide Tryd.prog W .any base 44 v) (h : DataW.Trod enc Tryd.prog W 0 (fun _ => true) true 44 v d p) :
    ∃ A n c ps, v = .slice A n c ∧ n ≤ c ∧ (Rows.uptoBulk d ≤ 1048576 → RP W A n ps ∧ n ≤ 1048576) := by
  obtain ⟨a0, len0, cap0, rfl⟩ := okWide_slice Tryd.underlying44 hok
  obtain ⟨fuel, hf⟩ := h
  obtain ⟨A, n, c, ps, e, hr, hl, hc, hm, hA, hd⟩ := open_list (cells := fun p : Sp × Stp => p.1.cells.toList) (R := fun p y => Rows.uptoBulk y.1 ≤ 1048576 → SpIn W p.1 p.2) Tryd.underlying44 (show Tryd.prog.cellsOf 31 = 11 by kernel_rfl) (by decide) (fun _ => rfl) (fun n cs y h11 h => open_step_cells h11 h) hf
  simp [Value.cells] at e
  obtain ⟨rfl, rfl, rfl⟩ := e
  refine ⟨_, _, _, ps, rfl, hc, fun hb => ?_⟩
  rcases hd with ⟨_, rfl, h0⟩ | ⟨es, sp, e, hel, hcl, hE⟩
  · exact ⟨⟨hr, fun p hp => by cases hp⟩, by omega⟩
  · simp only at e
    rw [e] at hb
    obtain ⟨q1, q2⟩ := bulk_slice hb
    refine ⟨⟨hr, fun p hp => ?_⟩, by omega⟩
    obtain ⟨i, hi⟩ := List.getElem?_of_mem hp
    obtain ⟨y, hy, hyd⟩ := hE i p hi
    exact hyd (q2 _ (List.mem_of_getElem? hy))
end Go.Proofs.YtebjfigjfhghcaaDoor.Fr
