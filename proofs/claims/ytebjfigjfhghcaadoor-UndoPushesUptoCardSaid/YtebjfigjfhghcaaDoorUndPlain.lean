/-
  The plain law of pushing and popping steps, and a step of a slice at every later world. Conditions: none.
-/
import Derived.Test.YtebjfigjfhghcaaDoorUndCopies
import Derived.Test.YtebjfigjfhghcaaDoorUndPL
namespace Go.Proofs.YtebjfigjfhghcaaDoor.Und
open Go.RowKit Wd Utf

/-- what Push leaves -/
def pushV (l : List Stp) : List Stp := if l.all okB then lastN 16 l else []
theorem pushV_bad {l : List Stp} (h : l.all okB = false) : pushV l = [] := by unfold pushV; rw [h]; rfl
theorem pushV_ok {l : List Stp} (h : l.all okB = true) : pushV l = lastN 16 l := by unfold pushV; rw [h]; rfl
/-- the step that says nothing -/
def zeroS : Stp := ⟨[], 0, ⟨#[]⟩, 0, false, [], [], [], 0, ⟨#[]⟩, ⟨#[]⟩⟩
/-- what Pop leaves and gives -/
def popV (l : List Stp) : List Stp × Stp × Bool := match l.getLast? with
  | none => ([], zeroS, false)
  | some q => if okB q then (l.dropLast, q, true) else ([], zeroS, false)
theorem popV_nil : popV [] = ([], zeroS, false) := rfl
theorem popV_bad {l : List Stp} {n : Nat} {q : Stp} (hn : l.length = n + 1) (hq : l[n]? = some q) (ho : okB q = false) : popV l = ([], zeroS, false) := by
  have : l.getLast? = some q := by rw [List.getLast?_eq_getElem?, hn, Nat.add_sub_cancel]; exact hq
  unfold popV
  rw [this]
  simp [ho]
theorem popV_ok {l : List Stp} {n : Nat} {q : Stp} (hn : l.length = n + 1) (hq : l[n]? = some q) (ho : okB q = true) : popV l = (l.take n, q, true) := by
  have : l.getLast? = some q := by rw [List.getLast?_eq_getElem?, hn, Nat.add_sub_cancel]; exact hq
  unfold popV
  rw [this]
  simp [ho, List.dropLast_eq_take, hn]
/-- the zero step, as its cells -/
def zeroP : Sp := ⟨none, 0, 0, 0, ⟨#[]⟩, 0, false, none, 0, 0, none, 0, 0, none, 0, 0, 0, ⟨#[]⟩, ⟨#[]⟩⟩
theorem zeroP_own (ity : TypeId) (lo : Nat) (w : World) : SpOwn ity lo w zeroP zeroS :=
  ⟨World.ownsRow_nil _ _ _ _, World.ownsRow_nil _ _ _ _, World.ownsRow_nil _ _ _ _, World.ownsRow_nil _ _ _ _,
   ⟨RT.nil _ _, Reads.none_, RO.nil _ _, Reads.none_, rfl, rfl, rfl, rfl, rfl, rfl, rfl, (by decide), (by decide), (by decide), (by decide), (by decide), (by intro x hx; cases hx), (by intro x hx; cases hx), (by decide), (by decide), (by decide)⟩⟩
section
variable {w w' : World} {A : Option Addr} {n : Nat} {ps : List (Sp × Stp)}
/-- a step of a slice, at every later world -/
theorem RP.all_ {k : Nat} (h : RP w A n ps) (hk : k < n) : ∃ ad p, A = some ad ∧ ps[k]? = some p ∧ SpIn w p.1 p.2 ∧ ad.block < w.heap.size ∧ ∀ W, Below w.heap.size w W →
    W.cell? (ad.add (k * 11)) = some (.slice p.1.Ai p.1.ni p.1.ci) ∧ W.cell? ⟨(ad.add (k * 11)).block, (ad.add (k * 11)).off + 1, none⟩ = some (.int .i64 p.1.caret) ∧ W.cell? ⟨(ad.add (k * 11)).block, (ad.add (k * 11)).off + 2, none⟩ = some (.string p.1.pend) ∧ W.cell? ⟨(ad.add (k * 11)).block, (ad.add (k * 11)).off + 3, none⟩ = some (.int .i64 p.1.mode) ∧ W.cell? ⟨(ad.add (k * 11)).block, (ad.add (k * 11)).off + 4, none⟩ = some (.bool p.1.conv) ∧ W.cell? ⟨(ad.add (k * 11)).block, (ad.add (k * 11)).off + 5, none⟩ = some (.slice p.1.Ab p.1.nb p.1.cb) ∧ W.cell? ⟨(ad.add (k * 11)).block, (ad.add (k * 11)).off + 6, none⟩ = some (.slice p.1.Af p.1.nf p.1.cf) ∧ W.cell? ⟨(ad.add (k * 11)).block, (ad.add (k * 11)).off + 7, none⟩ = some (.slice p.1.At p.1.nt p.1.ct) ∧ W.cell? ⟨(ad.add (k * 11)).block, (ad.add (k * 11)).off + 8, none⟩ = some (.int .i64 p.1.focus) ∧ W.cell? ⟨(ad.add (k * 11)).block, (ad.add (k * 11)).off + 9, none⟩ = some (.string p.1.prev) ∧ W.cell? ⟨(ad.add (k * 11)).block, (ad.add (k * 11)).off + 10, none⟩ = some (.string p.1.commit) := by
  obtain ⟨ad, p, e, hp, hb, hin, h0, h1, h2, h3, h4, h5, h6, h7, h8, h9, h10⟩ := h.at_ hk
  refine ⟨ad, p, e, hp, hin, hb, fun W hW => ?_⟩
  have hb' : (ad.add (k * 11)).block < w.heap.size := by rw [block_of_add]; exact hb
  have hc : ∀ j, W.cell? ⟨(ad.add (k * 11)).block, j, none⟩ = w.cell? ⟨(ad.add (k * 11)).block, j, none⟩ := fun j => hW.cell (p := ⟨(ad.add (k * 11)).block, j, none⟩) hb'
  refine ⟨(hW.cell hb').trans h0, (hc _).trans h1, (hc _).trans h2, (hc _).trans h3, (hc _).trans h4, (hc _).trans h5, (hc _).trans h6, (hc _).trans h7, (hc _).trans h8, (hc _).trans h9, (hc _).trans h10⟩
/-- the slice without its newest -/
theorem RP.take (h : RP w A n ps) {k : Nat} (hk : k ≤ n) : RP w A k (ps.take k) := by
  refine ⟨?_, fun p hp => h.2 p (List.mem_of_mem_take hp)⟩
  rw [← sc_take]
  exact Reads.upto h.1 hk
end
end Go.Proofs.YtebjfigjfhghcaaDoor.Und
