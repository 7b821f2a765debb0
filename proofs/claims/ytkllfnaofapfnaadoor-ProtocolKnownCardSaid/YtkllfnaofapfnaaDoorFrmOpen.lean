/-
  How a slice of slices of bytes that came in is opened; what the form's reach says of it. Conditions: none.
-/
import Derived.Test.YtkllfnaofapfnaaDoorOpenS
import Derived.Test.YtkllfnaofapfnaaDoorFrmWords
namespace Go.Proofs.YtkllfnaofapfnaaDoor.Fr
open Go.ChangeShapes Go.WideShapes Go.ChangeAt Go.RowKit Wd Frm

/-- what a message is as a datum -/
def RowIs {H : Type} (W : World) (p : BV) (y : DataW H × List MemPlace) : Prop :=
  SB W p.A p.n p.c p.d ∧ (y.1 = .nil ∧ p.d = [] ∧ p.c = 0 ∨ ∃ es sp, y.1 = .slice es sp ∧ es.length = p.n ∧ es.length + sp.length = p.c)
theorem flat_cs (ps : List BV) : (ps.flatMap fun p => [p.v]) = cs ps := by
  induction ps with
  | nil => rfl
  | cons p ps ih => rw [List.flatMap_cons, ih]; rfl
set_option maxRecDepth 100000 in
/-- a slice of slices of bytes that came in -/
theorem open_rows {H : Type} {enc : TypeId × Value → H} {W : World} {base : Nat} {v : Value} {d : DataW H} {p : List MemPlace} (hok : Value.okWide Tryd.prog W .any base 57 v) (h : DataW.Trod enc Tryd.prog W 0 (fun _ => true) true 57 v d p) :
    ∃ A n c ps, v = .slice A n c ∧ RL W A n ps ∧ n ≤ c ∧ c ≤ maxLen ∧ (Fits Tryd.prog 57 d → c ≤ 140737488351232 ∧ ∀ p ∈ ps, p.n ≤ 140737488351232) := by
  obtain ⟨a0, len0, cap0, rfl⟩ := okWide_slice Tryd.underlying57 hok
  obtain ⟨fuel, hf⟩ := h
  obtain ⟨A, n, c, ps, hcs, hr, hpl, hc, hm, hA, hd⟩ := open_list (cells := fun p : BV => [p.v]) (R := RowIs W) Tryd.underlying57 (show Tryd.prog.cellsOf 25 = 1 by kernel_rfl) (by decide) (fun _ => rfl) (fun n cs y _ h => by
    obtain ⟨A, m, c, l, e, hsb, hd⟩ := open_bytes_cell Tryd.underlying25 Tryd.underlying5 (by kernel_rfl) h
    exact ⟨⟨A, m, c, l⟩, e, hsb, hd⟩) hf
  simp [Value.cells] at hcs
  obtain ⟨rfl, rfl, rfl⟩ := hcs
  rw [flat_cs] at hr
  refine ⟨_, _, _, ps, rfl, ⟨hr, fun p hp => ?_⟩, hc, hm, fun hfit => ?_⟩
  · rcases hd with ⟨_, rfl, _⟩ | ⟨es, sp, _, _, _, hE⟩
    · cases hp
    · obtain ⟨i, hi⟩ := List.getElem?_of_mem hp
      obtain ⟨y, _, hR⟩ := hE i p hi
      exact hR.1
  · rcases hd with ⟨rfl, rfl, rfl⟩ | ⟨es, sp, rfl, hel, hcl, hE⟩
    · exact ⟨Nat.zero_le _, fun p hp => by cases hp⟩
    · have h1 := fits_slice hfit Tryd.underlying57
      rw [show Tryd.prog.bytesOf 25 = 24 by kernel_rfl] at h1
      refine ⟨by omega, fun p hp => ?_⟩
      obtain ⟨i, hi⟩ := List.getElem?_of_mem hp
      obtain ⟨y, hy, hsb, hdd⟩ := hE i p hi
      have h3 := fits_elem hfit Tryd.underlying57 hy
      have hcap := hsb.cap
      rcases hdd with ⟨_, _, hc0⟩ | ⟨es', sp', e, _, hcc⟩
      · omega
      · rw [e] at h3
        have h6 := fits_slice h3 Tryd.underlying25
        rw [show Tryd.prog.bytesOf 5 = 1 by kernel_rfl] at h6
        omega
end Go.Proofs.YtkllfnaofapfnaaDoor.Fr
