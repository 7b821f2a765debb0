/-
  How a slice of parts that came in is opened; what the form's reach says of it. Conditions: none.
-/
import Derived.Test.YtncnocejmbfhaaaDoorOpenS
import Derived.Test.YtncnocejmbfhaaaDoorSecFind
namespace Go.Proofs.YtncnocejmbfhaaaDoor.Fr
open Go.ChangeShapes Go.WideShapes Go.ChangeAt Go.RowKit Wd Sec

/-- what a part is as a datum -/
def PartIs {H : Type} (W : World) (p : PV) (y : DataW H × List MemPlace) : Prop :=
  SB W p.A p.n p.c p.d ∧ ∃ d, y.1 = .agg [.lit (.string p.name.data.toList), d] ∧ (d = .nil ∧ p.d = [] ∧ p.c = 0 ∨ ∃ es sp, d = .slice es sp ∧ es.length = p.n ∧ es.length + sp.length = p.c)
theorem open_part {H : Type} {enc : TypeId × Value → H} {W : World} {fuel : Nat} {cs : List Value} {y : DataW H × List MemPlace} (h : DataW.trod enc Tryd.prog W 0 (fun _ => true) true fuel 46 cs = some y) : ∃ p : PV, cs = cell2 p ∧ PartIs W p y := by
  obtain ⟨y0, y1, n, rfl, hl, h0, h1⟩ := trod_struct2 Tryd.underlying46 h
  rw [show Tryd.prog.cellsOf 46 = 2 by kernel_rfl] at hl
  match cs, hl with
  | [c0, c1], _ =>
    obtain ⟨s, e0, rfl, _⟩ := DataW.trod_string Tryd.underlying9 h0
    obtain ⟨A, m, c, l, e1, hsb, hd⟩ := open_bytes_cell Tryd.underlying26 Tryd.underlying5 (by kernel_rfl) h1
    rw [show Tryd.prog.cellsOf 9 = 1 by kernel_rfl] at e0
    rw [show Tryd.prog.cellsOf 26 = 1 by kernel_rfl] at e1
    simp at e0 e1
    subst e0 e1
    exact ⟨⟨s, A, m, c, l⟩, rfl, hsb, _, rfl, hd⟩
/-- a slice of parts that came in -/
theorem open_parts {H : Type} {enc : TypeId × Value → H} {W : World} {base : Nat} {v : Value} {d : DataW H} {p : List MemPlace} (hok : Value.okWide Tryd.prog W .any base 22 v) (h : DataW.Trod enc Tryd.prog W 0 (fun _ => true) true 22 v d p) :
    ∃ A n c ps, v = .slice A n c ∧ RP W A n ps ∧ n ≤ c ∧ c ≤ maxLen ∧ (Fits Tryd.prog 22 d → c ≤ 140737488351232 ∧ Fit ps ∧ ∀ p ∈ ps, p.name.size ≤ 140737488351232) := by
  obtain ⟨a0, len0, cap0, rfl⟩ := okWide_slice Tryd.underlying22 hok
  obtain ⟨fuel, hf⟩ := h
  obtain ⟨A, n, c, ps, hcs, hr, hpl, hc, hm, hA, hd⟩ := open_list (cells := cell2) (R := PartIs W) Tryd.underlying22 (show Tryd.prog.cellsOf 46 = 2 by kernel_rfl) (by decide) (fun _ => rfl) (fun n cs y _ h => open_part h) hf
  simp [Value.cells] at hcs
  obtain ⟨rfl, rfl, rfl⟩ := hcs
  refine ⟨_, _, _, ps, rfl, ⟨hr, fun p hp => ?_⟩, hc, hm, fun hfit => ?_⟩
  · rcases hd with ⟨_, rfl, _⟩ | ⟨es, sp, _, _, _, hE⟩
    · cases hp
    · obtain ⟨i, hi⟩ := List.getElem?_of_mem hp
      obtain ⟨y, _, hR⟩ := hE i p hi
      exact hR.1
  · rcases hd with ⟨rfl, rfl, rfl⟩ | ⟨es, sp, rfl, hel, hcl, hE⟩
    · exact ⟨Nat.zero_le _, (fun p hp => by cases hp), fun p hp => by cases hp⟩
    · have h1 := fits_slice hfit Tryd.underlying22
      rw [show Tryd.prog.bytesOf 46 = 40 by kernel_rfl] at h1
      have h2 : ∀ p ∈ ps, p.n ≤ 140737488351232 ∧ p.name.size ≤ 140737488351232 := fun p hp => by
        obtain ⟨i, hi⟩ := List.getElem?_of_mem hp
        obtain ⟨y, hy, hsb, d, hyd, hdd⟩ := hE i p hi
        have h3 := fits_elem hfit Tryd.underlying22 hy
        rw [hyd] at h3
        have h4 := fits_string (fits_field h3 Tryd.underlying46 (j := 0) rfl rfl)
        have h5 := fits_field h3 Tryd.underlying46 (j := 1) rfl rfl
        have hcap := hsb.cap
        refine ⟨?_, h4⟩
        rcases hdd with ⟨_, _, hc0⟩ | ⟨es', sp', rfl, _, hcc⟩
        · omega
        · have h6 := fits_slice h5 Tryd.underlying26
          rw [show Tryd.prog.bytesOf 5 = 1 by kernel_rfl] at h6
          omega
      exact ⟨by omega, fun p hp => by have := (h2 p hp).1; omega, fun p hp => (h2 p hp).2⟩
end Go.Proofs.YtncnocejmbfhaaaDoor.Fr
