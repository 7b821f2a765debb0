/-
  How a request that came in is opened; what the form's reach says of it. Conditions: none.
-/
import Derived.Test.YtkllfnaofapfnaaDoorOpenS
import Derived.Test.YtkllfnaofapfnaaDoorReqLaw
namespace Go.Proofs.YtkllfnaofapfnaaDoor.Fr
open Go.ChangeShapes Go.WideShapes Go.ChangeAt Go.RowKit Wd Prot

/-- a slice of numbers, by its cell -/
theorem open_ints_cell {H : Type} {enc : TypeId × Value → H} {P : Program} {W : World} {T E : TypeId} {k : IntKind} {fuel : Nat} {cs : List Value} {y : DataW H × List MemPlace}
    (hT : P.underlying T = some (.slice E)) (hE : P.underlying E = some (.int k)) (hC : P.cellsOf E = 1) (h : DataW.trod enc P W 0 (fun _ => true) true fuel T cs = some y) :
    ∃ A n c l, cs = [.slice A n c] ∧ RI k W A n l ∧ n ≤ c ∧ (y.1 = .nil ∧ l = [] ∧ c = 0 ∨ ∃ es sp, y.1 = .slice es sp ∧ es.length = n ∧ es.length + sp.length = c) := by
  have lt0 := DataW.trod_lt fuel _ _ _ h
  rcases open_ints hT hE hC h with ⟨rfl, rfl⟩ | ⟨x, l, c, zs, rfl, _, hl, hm, hz, rfl, hcell, hwz⟩
  · exact ⟨none, 0, 0, [], rfl, Reads.none_, Nat.le_refl _, .inl ⟨rfl, rfl, rfl⟩⟩
  · have hz' : zs.length = c := by simpa using hz
    refine ⟨some x, l, c, zs.take l, rfl, ⟨by simp [is]; omega, fun hn => ⟨_, rfl, ?_, fun j u hu => ?_⟩⟩, hl, .inr ⟨_, _, rfl, by simp [lits]; omega, by simp [lits]; omega⟩⟩
    · have := lt0 (.cell (x.add 0).block (x.add 0).off) (by simp only [MemPlace.row, List.mem_map, List.mem_range]; exact ⟨0, by omega, rfl⟩)
      rw [← block_of_add x 0]; exact this
    · simp only [is, List.getElem?_map, Option.map_eq_some_iff] at hu
      obtain ⟨z, hz1, rfl⟩ := hu
      rw [List.getElem?_take] at hz1
      split at hz1
      · have hj : j < zs.length := by omega
        rw [hcell j hj]
        rw [List.getElem?_eq_getElem hj] at hz1
        injection hz1 with hz1
        simp [List.getD, List.getElem?_eq_getElem hj, hz1]
      · cases hz1
theorem ten {α : Type} {l : List α} (h : l.length = 10) : ∃ a b c d e f g i j k, l = [a, b, c, d, e, f, g, i, j, k] := by
  match l, h with
  | [a, b, c, d, e, f, g, i, j, k], _ => exact ⟨a, b, c, d, e, f, g, i, j, k, rfl⟩
theorem nine {α : Type} {l : List α} (h : l.length = 9) : ∃ a b c d e f g i j, l = [a, b, c, d, e, f, g, i, j] := by
  match l, h with
  | [a, b, c, d, e, f, g, i, j], _ => exact ⟨a, b, c, d, e, f, g, i, j, rfl⟩
set_option maxRecDepth 100000 in
/-- a request that came in -/
theorem open_req {H : Type} {enc : TypeId × Value → H} {W : World} {base : Nat} {v : Value} {d : DataW H} {p : List MemPlace} (hok : Value.okWide Tryd.prog W .any base 27 v) (h : DataW.Trod enc Tryd.prog W 0 (fun _ => true) true 27 v d p) :
    ∃ r q, v = .agg r.cells ∧ (Fits Tryd.prog 27 d → RqOpen W r q) := by
  obtain ⟨cs, rfl, hsz⟩ := okWide_struct Tryd.underlying27 hok
  rw [show Tryd.prog.cellsOf 27 = 10 by kernel_rfl] at hsz
  obtain ⟨l⟩ := cs
  have hsz : l.length = 10 := hsz
  obtain ⟨fuel, hf⟩ := h
  obtain ⟨xs, n, _, hx, _, hlen, hg⟩ := DataW.trod_struct Tryd.underlying27 hf
  have hlen : xs.length = 9 := hlen
  obtain ⟨c0, c1, c2, c3, c4, c5, c6, c7, c8, c9, rfl⟩ := ten hsz
  obtain ⟨y0, y1, y2, y3, y4, y5, y6, y7, y8, rfl⟩ := nine hlen
  have k1 : Tryd.prog.cellsOf 3 = 1 := by kernel_rfl
  have k2 : Tryd.prog.cellsOf 23 = 2 := by kernel_rfl
  have k3 : Tryd.prog.cellsOf 9 = 1 := by kernel_rfl
  have k4 : Tryd.prog.cellsOf 4 = 1 := by kernel_rfl
  have k5 : Tryd.prog.cellsOf 24 = 1 := by kernel_rfl
  have k6 : Tryd.prog.cellsOf 25 = 1 := by kernel_rfl
  have h0 : DataW.trod enc Tryd.prog W 0 (fun _ => true) true n 3 [c0] = some y0 := by have := hg 0 _ rfl; simpa [Value.cells, k1] using this
  have h1 : DataW.trod enc Tryd.prog W 0 (fun _ => true) true n 3 [c1] = some y1 := by have := hg 1 _ rfl; simpa [Value.cells, k1] using this
  have h2 : DataW.trod enc Tryd.prog W 0 (fun _ => true) true n 23 [c2, c3] = some y2 := by have := hg 2 _ rfl; simpa [Value.cells, k2] using this
  have h3 : DataW.trod enc Tryd.prog W 0 (fun _ => true) true n 9 [c4] = some y3 := by have := hg 3 _ rfl; simpa [Value.cells, k3] using this
  have h4 : DataW.trod enc Tryd.prog W 0 (fun _ => true) true n 9 [c5] = some y4 := by have := hg 4 _ rfl; simpa [Value.cells, k3] using this
  have h5 : DataW.trod enc Tryd.prog W 0 (fun _ => true) true n 4 [c6] = some y5 := by have := hg 5 _ rfl; simpa [Value.cells, k4] using this
  have h6 : DataW.trod enc Tryd.prog W 0 (fun _ => true) true n 9 [c7] = some y6 := by have := hg 6 _ rfl; simpa [Value.cells, k3] using this
  have h7 : DataW.trod enc Tryd.prog W 0 (fun _ => true) true n 24 [c8] = some y7 := by have := hg 7 _ rfl; simpa [Value.cells, k5] using this
  have h8 : DataW.trod enc Tryd.prog W 0 (fun _ => true) true n 25 [c9] = some y8 := by have := hg 8 _ rfl; simpa [Value.cells, k6] using this
  clear hg
  obtain ⟨z0, e0, rfl, _⟩ := DataW.trod_int Tryd.underlying3 h0
  obtain ⟨z1, e1, rfl, _⟩ := DataW.trod_int Tryd.underlying3 h1
  obtain ⟨yk, yc, m, rfl, _, hk, hc⟩ := trod_struct2 Tryd.underlying23 h2
  have hk : DataW.trod enc Tryd.prog W 0 (fun _ => true) true m 3 [c2] = some yk := by simpa [k1] using hk
  have hc : DataW.trod enc Tryd.prog W 0 (fun _ => true) true m 5 [c3] = some yc := by simpa [show Tryd.prog.cellsOf 5 = 1 by kernel_rfl] using hc
  obtain ⟨z2, e2, rfl, _⟩ := DataW.trod_int Tryd.underlying3 hk
  obtain ⟨z3, e3, rfl, wz⟩ := DataW.trod_int Tryd.underlying5 hc
  have b3 := bounds_u8 wz
  obtain ⟨kc, rfl⟩ := Int.eq_ofNat_of_zero_le b3.1
  obtain ⟨s4, e4, rfl, _⟩ := DataW.trod_string Tryd.underlying9 h3
  obtain ⟨s5, e5, rfl, _⟩ := DataW.trod_string Tryd.underlying9 h4
  obtain ⟨b6, e6, rfl⟩ := DataW.trod_bool Tryd.underlying4 h5
  obtain ⟨s7, e7, rfl, _⟩ := DataW.trod_string Tryd.underlying9 h6
  obtain ⟨A7, n7, d7, l7, e8, r7, _, _⟩ := open_ints_cell Tryd.underlying24 Tryd.underlying3 k1 h7
  obtain ⟨A8, n8, d8, l8, e9, r8, hd8⟩ := open_bytes_cell Tryd.underlying25 Tryd.underlying5 (by kernel_rfl) h8
  simp only [List.cons.injEq, and_true] at e0 e1 e2 e3 e4 e5 e6 e7 e8 e9
  subst e0 e1 e2 e3 e4 e5 e6 e7 e8 e9
  refine ⟨⟨z0, z1, z2, kc, s4, s5, b6, s7, A7, n7, d7, A8, n8, d8⟩, ⟨z0, z1, z2, kc, s4, s5, b6, s7, l7, l8⟩, rfl, fun hfit => ?_⟩
  obtain ⟨rfl, _⟩ := Prod.mk.inj hx
  have f3 := fits_string (fits_field hfit Tryd.underlying27 (j := 3) rfl rfl)
  have f4 := fits_string (fits_field hfit Tryd.underlying27 (j := 4) rfl rfl)
  have f6 := fits_string (fits_field hfit Tryd.underlying27 (j := 6) rfl rfl)
  have f8 : Fits Tryd.prog 25 y8.1 := fits_field hfit Tryd.underlying27 (j := 8) rfl rfl
  have hcap := r8.cap
  refine ⟨r7, r8, ⟨rfl, rfl, rfl, rfl, rfl, rfl, rfl, rfl, rfl, r7.len, r8.rb.len⟩, ?_, by simp only; omega, by simp only; omega, by simp only; omega, by simp only; omega⟩
  rcases hd8 with ⟨_, _, hc0⟩ | ⟨es', sp', e, _, hcc⟩
  · simp only; omega
  · rw [e] at f8
    have h6 := fits_slice f8 Tryd.underlying25
    rw [show Tryd.prog.bytesOf 5 = 1 by kernel_rfl] at h6
    simp only; omega
end Go.Proofs.YtkllfnaofapfnaaDoor.Fr
