/-
  A step in rows of the call's own; the contract of copy of package undo. Conditions: the step can be read, its lengths are bounded. (Printed by gen/undcopy.py.)
-/
import Derived.Test.YtebjfigjfhghcaaDoorUndClone
import Derived.Deep.DeepCutAuto
import Derived.Deep.RegionHeld3
import Derived.Deep.RegionLaw
import Derived.Handy
namespace Go.Proofs.YtebjfigjfhghcaaDoor.Und
open Go.RowKit Wd Utf

/-- a step in rows of the call's own, in blocks from lo on -/
structure SpOwn (ity : TypeId) (lo : Nat) (w : World) (r : Sp) (q : Stp) : Prop where
  it : w.ownsRow lo ity 2 (.slice r.Ai r.ni r.ci) r.ni (ic q.items)
  bo : w.ownsRow lo 3 1 (.slice r.Ab r.nb r.cb) r.nb (is .i64 q.bounds)
  fx : w.ownsRow lo 4 1 (.slice r.Af r.nf r.cf) r.nf (os q.fixed)
  tx : w.ownsRow lo 9 1 (.slice r.At r.nt r.ct) r.nt (vs q.texts)
  inn : SpIn w r q
theorem own_setl {w : World} {base size n : Nat} {e : TypeId} {v : Value} {xs : List Value} (h : w.ownsRow base e size v n xs) {g : Nat} (hg : g < base) (j : Nat) (u : Value) : (w.setCell ⟨g, j, none⟩ u).ownsRow base e size v n xs := by
  refine h.kept (row := some g) ((Upd.refl g w).set_ j _) ?_
  rcases h.2 with ⟨rfl, _⟩ | ⟨g', cap, cur, rfl, hb, _⟩
  · exact .inl rfl
  · refine .inr fun hh => ?_
    simp only [Value.ownBlock, Option.some.injEq] at hh
    omega
theorem own_drew {w : World} {base size n : Nat} {e : TypeId} {v : Value} {xs : List Value} (h : w.ownsRow base e size v n xs) : w.drew.ownsRow base e size v n xs := h
theorem SpOwn.keep {ity : TypeId} {lo : Nat} {w w' : World} {r : Sp} {q : Stp} (h : SpOwn ity lo w r q) (hb : Below w.heap.size w w') : SpOwn ity lo w' r q :=
  ⟨own_keep h.it hb, own_keep h.bo hb, own_keep h.fx hb, own_keep h.tx hb, h.inn.keep hb⟩
theorem SpOwn.lower {ity : TypeId} {lo lo' : Nat} {w : World} {r : Sp} {q : Stp} (h : SpOwn ity lo w r q) (hl : lo' ≤ lo) : SpOwn ity lo' w r q :=
  ⟨own_mono h.it hl, own_mono h.bo hl, own_mono h.fx hl, own_mono h.tx hl, h.inn⟩
/-- a step's cells, stored one after the other -/
theorem Blk.set11 {w : World} {g : Nat} {t : TypeId} {a0 a1 a2 a3 a4 a5 a6 a7 a8 a9 a10 : Value} (h : Blk w g t #[a0, a1, a2, a3, a4, a5, a6, a7, a8, a9, a10]) (b0 b1 b2 b3 b4 b5 b6 b7 b8 b9 b10 : Value) : Blk (((((((((((w.setCell ⟨g, 0, none⟩ b0).setCell ⟨g, 1, none⟩ b1).setCell ⟨g, 2, none⟩ b2).setCell ⟨g, 3, none⟩ b3).setCell ⟨g, 4, none⟩ b4).setCell ⟨g, 5, none⟩ b5).setCell ⟨g, 6, none⟩ b6).setCell ⟨g, 7, none⟩ b7).setCell ⟨g, 8, none⟩ b8).setCell ⟨g, 9, none⟩ b9).setCell ⟨g, 10, none⟩ b10) g t #[b0, b1, b2, b3, b4, b5, b6, b7, b8, b9, b10] := by
  have h0 := h.set_ 0 b0
  have h1 := h0.set_ 1 b1
  have h2 := h1.set_ 2 b2
  have h3 := h2.set_ 3 b3
  have h4 := h3.set_ 4 b4
  have h5 := h4.set_ 5 b5
  have h6 := h5.set_ 6 b6
  have h7 := h6.set_ 7 b7
  have h8 := h7.set_ 8 b8
  have h9 := h8.set_ 9 b9
  have h10 := h9.set_ 10 b10
  simpa using h10
theorem below_set11 {w w' : World} {B g : Nat} (h : Below B w w') (hg : B ≤ g) (b0 b1 b2 b3 b4 b5 b6 b7 b8 b9 b10 : Value) : Below B w (((((((((((w'.setCell ⟨g, 0, none⟩ b0).setCell ⟨g, 1, none⟩ b1).setCell ⟨g, 2, none⟩ b2).setCell ⟨g, 3, none⟩ b3).setCell ⟨g, 4, none⟩ b4).setCell ⟨g, 5, none⟩ b5).setCell ⟨g, 6, none⟩ b6).setCell ⟨g, 7, none⟩ b7).setCell ⟨g, 8, none⟩ b8).setCell ⟨g, 9, none⟩ b9).setCell ⟨g, 10, none⟩ b10) := by
  have h0 := h.setCell (p := ⟨g, 0, none⟩) hg b0
  have h1 := h0.setCell (p := ⟨g, 1, none⟩) hg b1
  have h2 := h1.setCell (p := ⟨g, 2, none⟩) hg b2
  have h3 := h2.setCell (p := ⟨g, 3, none⟩) hg b3
  have h4 := h3.setCell (p := ⟨g, 4, none⟩) hg b4
  have h5 := h4.setCell (p := ⟨g, 5, none⟩) hg b5
  have h6 := h5.setCell (p := ⟨g, 6, none⟩) hg b6
  have h7 := h6.setCell (p := ⟨g, 7, none⟩) hg b7
  have h8 := h7.setCell (p := ⟨g, 8, none⟩) hg b8
  have h9 := h8.setCell (p := ⟨g, 9, none⟩) hg b9
  have h10 := h9.setCell (p := ⟨g, 10, none⟩) hg b10
  exact h10
theorem own_set11 {w : World} {base size n : Nat} {e : TypeId} {v : Value} {xs : List Value} (h : w.ownsRow base e size v n xs) {g : Nat} (hg : g < base) (b0 b1 b2 b3 b4 b5 b6 b7 b8 b9 b10 : Value) : (((((((((((w.setCell ⟨g, 0, none⟩ b0).setCell ⟨g, 1, none⟩ b1).setCell ⟨g, 2, none⟩ b2).setCell ⟨g, 3, none⟩ b3).setCell ⟨g, 4, none⟩ b4).setCell ⟨g, 5, none⟩ b5).setCell ⟨g, 6, none⟩ b6).setCell ⟨g, 7, none⟩ b7).setCell ⟨g, 8, none⟩ b8).setCell ⟨g, 9, none⟩ b9).setCell ⟨g, 10, none⟩ b10).ownsRow base e size v n xs := by
  have h0 := own_setl h hg 0 b0
  have h1 := own_setl h0 hg 1 b1
  have h2 := own_setl h1 hg 2 b2
  have h3 := own_setl h2 hg 3 b3
  have h4 := own_setl h3 hg 4 b4
  have h5 := own_setl h4 hg 5 b5
  have h6 := own_setl h5 hg 6 b6
  have h7 := own_setl h6 hg 7 b7
  have h8 := own_setl h7 hg 8 b8
  have h9 := own_setl h8 hg 9 b9
  have h10 := own_setl h9 hg 10 b10
  exact h10
set_option maxRecDepth 100000 in
set_option maxHeartbeats 8000000 in
theorem copy_any (r : Sp) (q : Stp) (w : World) (hq : SpIn w r q) :
    Calls Tryd.prog 33 #[.agg r.cells] w fun e w' => ∃ r' : Sp, e = .returned (.agg r'.cells) ∧ SpOwn 75 w.heap.size w' r' q ∧ Below w.heap.size w w' := by
  have HQ := Lib.hid hq
  have HT := Lib.hid (fun (W : World) (hW : Below w.heap.size w W) => cloneT_any r.Ai r.ni r.ci q.items W (hq.keep hW).items hq.ni)
  have HI := Lib.hid (fun (W : World) (hW : Below w.heap.size w W) => cloneI_any r.Ab r.nb r.cb q.bounds W (hq.keep hW).bounds hq.nb)
  have HO := Lib.hid (fun (W : World) (hW : Below w.heap.size w W) => cloneO_any r.Af r.nf r.cf q.fixed W (hq.keep hW).fixed hq.nf)
  have HS := Lib.hid (fun (W : World) (hW : Below w.heap.size w W) => cloneS_any r.At r.nt r.ct q.texts W (hq.keep hW).texts hq.nt)
  have hb0 : Below w.heap.size w (w.alloc (.cells r.cells 31)) := (Below.refl _ _).alloc (Nat.le_refl _) _
  have K0 : Hid (Blk (w.alloc (.cells r.cells 31)) w.heap.size 31 r.cells) := Lib.hid (Blk.new w _ _)
  have B0 := Lib.hid hb0
  clear hq hb0
  obtain ⟨Ai, ni, ci, caret, pend, mode, conv, Ab, nb, cb, Af, nf, cf, At, nt, ct, focus, prev, commit⟩ := r
  unfold Sp.cells at *
  simp only at HT HI HO HS K0 B0
  have hsz : ((w.alloc (.cells #[.slice Ai ni ci, .int .i64 caret, .string pend, .int .i64 mode, .bool conv, .slice Ab nb cb, .slice Af nf cf, .slice At nt ct, .int .i64 focus, .string prev, .string commit] 31)).alloc (.cells #[.slice none 0 0, .int .i64 0, .string ⟨#[]⟩, .int .i64 0, .bool false, .slice none 0 0, .slice none 0 0, .slice none 0 0, .int .i64 0, .string ⟨#[]⟩, .string ⟨#[]⟩] 31)).heap.size = w.heap.size + 1 + 1 := by simp
  generalize hW0 : ((w.alloc (.cells #[.slice Ai ni ci, .int .i64 caret, .string pend, .int .i64 mode, .bool conv, .slice Ab nb cb, .slice Af nf cf, .slice At nt ct, .int .i64 focus, .string prev, .string commit] 31)).alloc (.cells #[.slice none 0 0, .int .i64 0, .string ⟨#[]⟩, .int .i64 0, .bool false, .slice none 0 0, .slice none 0 0, .slice none 0 0, .int .i64 0, .string ⟨#[]⟩, .string ⟨#[]⟩] 31)) = W0 at hsz
  have K0 : Hid (Blk W0 w.heap.size 31 #[.slice Ai ni ci, .int .i64 caret, .string pend, .int .i64 mode, .bool conv, .slice Ab nb cb, .slice Af nf cf, .slice At nt ct, .int .i64 focus, .string prev, .string commit]) := Lib.hid (hW0 ▸ K0.out.alloc _)
  have Z0 : Hid (Blk W0 (w.heap.size + 1) 31 #[.slice none 0 0, .int .i64 0, .string ⟨#[]⟩, .int .i64 0, .bool false, .slice none 0 0, .slice none 0 0, .slice none 0 0, .int .i64 0, .string ⟨#[]⟩, .string ⟨#[]⟩]) := Lib.hid (by have h := Blk.new (w.alloc (.cells #[.slice Ai ni ci, .int .i64 caret, .string pend, .int .i64 mode, .bool conv, .slice Ab nb cb, .slice Af nf cf, .slice At nt ct, .int .i64 focus, .string prev, .string commit] 31)) 31 #[.slice none 0 0, .int .i64 0, .string ⟨#[]⟩, .int .i64 0, .bool false, .slice none 0 0, .slice none 0 0, .slice none 0 0, .int .i64 0, .string ⟨#[]⟩, .string ⟨#[]⟩]; rw [show (w.alloc (.cells #[.slice Ai ni ci, .int .i64 caret, .string pend, .int .i64 mode, .bool conv, .slice Ab nb cb, .slice Af nf cf, .slice At nt ct, .int .i64 focus, .string prev, .string commit] 31)).heap.size = w.heap.size + 1 from by simp] at h; exact hW0 ▸ h)
  have B0 : Hid (Below w.heap.size w W0) := Lib.hid (hW0 ▸ B0.out.alloc B0.out.size _)
  go_enter Tryd.func33, Tryd.ntmps33
  have k0 : W0.cell? ⟨w.heap.size, 0, none⟩ = some (.slice Ai ni ci) := K0.out.cell 0
  go_wp2_with fail
  with_reducible refine (HT.out _ B0.out).mono ?_
  rintro e w1 ⟨v1, rfl, hown1, hb1⟩
  obtain ⟨A1, c1, rfl, hc1⟩ := own_form hown1
  have hown1 := own_mono hown1 (Nat.le_of_eq hsz.symm)
  have hl0 := K0.out.lt
  have hl1 := Z0.out.lt
  have K1 := Lib.hid (K0.out.below hb1 hl0)
  have Z1 := Lib.hid (Z0.out.below hb1 hl1)
  have B1 := Lib.hid (B0.out.trans (hb1.mono B0.out.size))
  have KJ : Hid (Blk (w1.setCell ⟨w.heap.size, 0, none⟩ (.slice A1 ni c1)).drew w.heap.size 31 #[.slice A1 ni c1, .int .i64 caret, .string pend, .int .i64 mode, .bool conv, .slice Ab nb cb, .slice Af nf cf, .slice At nt ct, .int .i64 focus, .string prev, .string commit]) := Lib.hid (K1.out.set_ 0 _)
  have ZJ : Hid (Blk (w1.setCell ⟨w.heap.size, 0, none⟩ (.slice A1 ni c1)).drew (w.heap.size + 1) 31 #[.slice none 0 0, .int .i64 0, .string ⟨#[]⟩, .int .i64 0, .bool false, .slice none 0 0, .slice none 0 0, .slice none 0 0, .int .i64 0, .string ⟨#[]⟩, .string ⟨#[]⟩]) := Lib.hid (Z1.out.far (by simp) _)
  have BJ : Hid (Below w.heap.size w (w1.setCell ⟨w.heap.size, 0, none⟩ (.slice A1 ni c1)).drew) := Lib.hid (B1.out.setCell (p := ⟨w.heap.size, 0, none⟩) (Nat.le_refl _) _).drew
  have OT := Lib.hid (own_drew (own_setl hown1 (g := w.heap.size) (by omega) 0 (.slice A1 ni c1)))
  clear hb1 hl0 hl1 hown1 K0 B0 Z0 hsz hW0 k0
  have k0 : w1.cell? ⟨w.heap.size, 0, none⟩ = some (.slice Ai ni ci) := K1.out.cell 0
  have f0 : w1.frozen? ⟨w.heap.size, 0, none⟩ = false := K1.out.frozen 0
  go_wp2_with fail
  have k5 : w1.cell? ⟨w.heap.size, 5, none⟩ = some (.slice Ab nb cb) := K1.out.cell 5
  have k6 : w1.cell? ⟨w.heap.size, 6, none⟩ = some (.slice Af nf cf) := K1.out.cell 6
  go_region_law (first
    | (go_simp; go_at_call 48; (with_reducible refine (HI.out _ BJ.out).mono ?_); rintro e w2 ⟨v2, rfl, hown2, hb2⟩; obtain ⟨A2, c2, rfl, hc2⟩ := own_form hown2; have OI := Lib.hid (own_mono (base' := w.heap.size + 1 + 1) hown2 (by have := ZJ.out.lt; omega)); have KJ := Lib.hid (KJ.out.below hb2 KJ.out.lt); have ZJ := Lib.hid (ZJ.out.below hb2 ZJ.out.lt); have OT := Lib.hid (own_keep OT.out hb2); have BJ := Lib.hid (BJ.out.trans (hb2.mono BJ.out.size)); clear hb2 hown2; have k6 : w2.cell? ⟨w.heap.size, 6, none⟩ = some (.slice Af nf cf) := KJ.out.cell 6)
    | (go_simp; go_at_call 49; (with_reducible refine (HO.out _ BJ.out).mono ?_); rintro e w3 ⟨v3, rfl, hown3, hb3⟩; obtain ⟨A3, c3, rfl, hc3⟩ := own_form hown3; have OO := Lib.hid (own_mono (base' := w.heap.size + 1 + 1) hown3 (by have := ZJ.out.lt; omega)); have KJ := Lib.hid (KJ.out.below hb3 KJ.out.lt); have ZJ := Lib.hid (ZJ.out.below hb3 ZJ.out.lt); have OT := Lib.hid (own_keep OT.out hb3); have OI := Lib.hid (own_keep OI.out hb3); have BJ := Lib.hid (BJ.out.trans (hb3.mono BJ.out.size)); clear hb3 hown3; have k5 : w3.cell? ⟨w.heap.size, 5, none⟩ = some (.slice Ab nb cb) := KJ.out.cell 5; have k6 : w3.cell? ⟨w.heap.size, 6, none⟩ = some (.slice Af nf cf) := KJ.out.cell 6; have f5 : w3.frozen? ⟨w.heap.size, 5, none⟩ = false := KJ.out.frozen 5; have f6 : w3.frozen? ⟨w.heap.size, 6, none⟩ = false := KJ.out.frozen 6))
  all_goals
    have K3 : Hid (Blk ((w3.setCell ⟨w.heap.size, 5, none⟩ (.slice A2 nb c2)).setCell ⟨w.heap.size, 6, none⟩ (.slice A3 nf c3)) w.heap.size 31 #[.slice A1 ni c1, .int .i64 caret, .string pend, .int .i64 mode, .bool conv, .slice A2 nb c2, .slice A3 nf c3, .slice At nt ct, .int .i64 focus, .string prev, .string commit]) := Lib.hid ((KJ.out.set_ 5 _).set_ 6 _)
    have Z3 : Hid (Blk ((w3.setCell ⟨w.heap.size, 5, none⟩ (.slice A2 nb c2)).setCell ⟨w.heap.size, 6, none⟩ (.slice A3 nf c3)) (w.heap.size + 1) 31 #[.slice none 0 0, .int .i64 0, .string ⟨#[]⟩, .int .i64 0, .bool false, .slice none 0 0, .slice none 0 0, .slice none 0 0, .int .i64 0, .string ⟨#[]⟩, .string ⟨#[]⟩]) := Lib.hid ((ZJ.out.far (by simp) _).far (by simp) _)
    have B3 : Hid (Below w.heap.size w ((w3.setCell ⟨w.heap.size, 5, none⟩ (.slice A2 nb c2)).setCell ⟨w.heap.size, 6, none⟩ (.slice A3 nf c3))) := Lib.hid ((BJ.out.setCell (p := ⟨w.heap.size, 5, none⟩) (Nat.le_refl _) _).setCell (p := ⟨w.heap.size, 6, none⟩) (Nat.le_refl _) _)
    have OT3 := Lib.hid (own_setl (own_setl OT.out (g := w.heap.size) (by omega) 5 (.slice A2 nb c2)) (g := w.heap.size) (by omega) 6 (.slice A3 nf c3))
    have OI3 := Lib.hid (own_setl (own_setl OI.out (g := w.heap.size) (by omega) 5 (.slice A2 nb c2)) (g := w.heap.size) (by omega) 6 (.slice A3 nf c3))
    have OO3 := Lib.hid (own_setl (own_setl OO.out (g := w.heap.size) (by omega) 5 (.slice A2 nb c2)) (g := w.heap.size) (by omega) 6 (.slice A3 nf c3))
    generalize ((w3.setCell ⟨w.heap.size, 5, none⟩ (.slice A2 nb c2)).setCell ⟨w.heap.size, 6, none⟩ (.slice A3 nf c3)) = w4 at K3 Z3 B3 OT3 OI3 OO3 ⊢
    clear k5 k6 f5 f6 KJ ZJ BJ OT OI OO k0 f0 K1 Z1 B1 HT HI HO
    have k7 : w4.cell? ⟨w.heap.size, 7, none⟩ = some (.slice At nt ct) := K3.out.cell 7
    go_wp2_with fail
    with_reducible refine (HS.out _ B3.out).mono ?_
    rintro e w5 ⟨v5, rfl, hown5, hb5⟩
    obtain ⟨A4, c4, rfl, hc4⟩ := own_form hown5
    have OS := Lib.hid (own_mono (base' := w.heap.size + 1 + 1) hown5 (by have := Z3.out.lt; omega))
    have K5 := Lib.hid (K3.out.below hb5 K3.out.lt)
    have Z5 := Lib.hid (Z3.out.below hb5 Z3.out.lt)
    have B5 := Lib.hid (B3.out.trans (hb5.mono B3.out.size))
    have OT5 := Lib.hid (own_keep OT3.out hb5)
    have OI5 := Lib.hid (own_keep OI3.out hb5)
    have OO5 := Lib.hid (own_keep OO3.out hb5)
    clear k7 hb5 hown5 K3 Z3 B3 OT3 OI3 OO3
    have k0 : w5.cell? ⟨w.heap.size, 0, none⟩ = some (.slice A1 ni c1) := K5.out.cell 0
    have k1 : w5.cell? ⟨w.heap.size, 1, none⟩ = some (.int .i64 caret) := K5.out.cell 1
    have k2 : w5.cell? ⟨w.heap.size, 2, none⟩ = some (.string pend) := K5.out.cell 2
    have k3 : w5.cell? ⟨w.heap.size, 3, none⟩ = some (.int .i64 mode) := K5.out.cell 3
    have k4 : w5.cell? ⟨w.heap.size, 4, none⟩ = some (.bool conv) := K5.out.cell 4
    have k5 : w5.cell? ⟨w.heap.size, 5, none⟩ = some (.slice A2 nb c2) := K5.out.cell 5
    have k6 : w5.cell? ⟨w.heap.size, 6, none⟩ = some (.slice A3 nf c3) := K5.out.cell 6
    have k7 : w5.cell? ⟨w.heap.size, 7, none⟩ = some (.slice At nt ct) := K5.out.cell 7
    have k8 : w5.cell? ⟨w.heap.size, 8, none⟩ = some (.int .i64 focus) := K5.out.cell 8
    have k9 : w5.cell? ⟨w.heap.size, 9, none⟩ = some (.string prev) := K5.out.cell 9
    have k10 : w5.cell? ⟨w.heap.size, 10, none⟩ = some (.string commit) := K5.out.cell 10
    have f7 : w5.frozen? ⟨w.heap.size, 7, none⟩ = false := K5.out.frozen 7
    have z0 : w5.cell? ⟨(w.heap.size + 1), 0, none⟩ = some (.slice none 0 0) := Z5.out.cell 0
    have g0 : w5.frozen? ⟨(w.heap.size + 1), 0, none⟩ = false := Z5.out.frozen 0
    have z1 : w5.cell? ⟨(w.heap.size + 1), 1, none⟩ = some (.int .i64 0) := Z5.out.cell 1
    have g1 : w5.frozen? ⟨(w.heap.size + 1), 1, none⟩ = false := Z5.out.frozen 1
    have z2 : w5.cell? ⟨(w.heap.size + 1), 2, none⟩ = some (.string ⟨#[]⟩) := Z5.out.cell 2
    have g2 : w5.frozen? ⟨(w.heap.size + 1), 2, none⟩ = false := Z5.out.frozen 2
    have z3 : w5.cell? ⟨(w.heap.size + 1), 3, none⟩ = some (.int .i64 0) := Z5.out.cell 3
    have g3 : w5.frozen? ⟨(w.heap.size + 1), 3, none⟩ = false := Z5.out.frozen 3
    have z4 : w5.cell? ⟨(w.heap.size + 1), 4, none⟩ = some (.bool false) := Z5.out.cell 4
    have g4 : w5.frozen? ⟨(w.heap.size + 1), 4, none⟩ = false := Z5.out.frozen 4
    have z5 : w5.cell? ⟨(w.heap.size + 1), 5, none⟩ = some (.slice none 0 0) := Z5.out.cell 5
    have g5 : w5.frozen? ⟨(w.heap.size + 1), 5, none⟩ = false := Z5.out.frozen 5
    have z6 : w5.cell? ⟨(w.heap.size + 1), 6, none⟩ = some (.slice none 0 0) := Z5.out.cell 6
    have g6 : w5.frozen? ⟨(w.heap.size + 1), 6, none⟩ = false := Z5.out.frozen 6
    have z7 : w5.cell? ⟨(w.heap.size + 1), 7, none⟩ = some (.slice none 0 0) := Z5.out.cell 7
    have g7 : w5.frozen? ⟨(w.heap.size + 1), 7, none⟩ = false := Z5.out.frozen 7
    have z8 : w5.cell? ⟨(w.heap.size + 1), 8, none⟩ = some (.int .i64 0) := Z5.out.cell 8
    have g8 : w5.frozen? ⟨(w.heap.size + 1), 8, none⟩ = false := Z5.out.frozen 8
    have z9 : w5.cell? ⟨(w.heap.size + 1), 9, none⟩ = some (.string ⟨#[]⟩) := Z5.out.cell 9
    have g9 : w5.frozen? ⟨(w.heap.size + 1), 9, none⟩ = false := Z5.out.frozen 9
    have z10 : w5.cell? ⟨(w.heap.size + 1), 10, none⟩ = some (.string ⟨#[]⟩) := Z5.out.cell 10
    have g10 : w5.frozen? ⟨(w.heap.size + 1), 10, none⟩ = false := Z5.out.frozen 10
    go_wp2_with fail
    have ZF : Hid (Blk ((((((((((((w5.setCell ⟨w.heap.size, 7, none⟩ (.slice A4 nt c4)).setCell ⟨(w.heap.size + 1), 0, none⟩ (.slice A1 ni c1)).setCell ⟨(w.heap.size + 1), 1, none⟩ (.int .i64 caret)).setCell ⟨(w.heap.size + 1), 2, none⟩ (.string pend)).setCell ⟨(w.heap.size + 1), 3, none⟩ (.int .i64 mode)).setCell ⟨(w.heap.size + 1), 4, none⟩ (.bool conv)).setCell ⟨(w.heap.size + 1), 5, none⟩ (.slice A2 nb c2)).setCell ⟨(w.heap.size + 1), 6, none⟩ (.slice A3 nf c3)).setCell ⟨(w.heap.size + 1), 7, none⟩ (.slice A4 nt c4)).setCell ⟨(w.heap.size + 1), 8, none⟩ (.int .i64 focus)).setCell ⟨(w.heap.size + 1), 9, none⟩ (.string prev)).setCell ⟨(w.heap.size + 1), 10, none⟩ (.string commit)) (w.heap.size + 1) 31 #[.slice A1 ni c1, .int .i64 caret, .string pend, .int .i64 mode, .bool conv, .slice A2 nb c2, .slice A3 nf c3, .slice A4 nt c4, .int .i64 focus, .string prev, .string commit]) := Lib.hid (Blk.set11 (Z5.out.far (by simp) (.slice A4 nt c4)) (.slice A1 ni c1) (.int .i64 caret) (.string pend) (.int .i64 mode) (.bool conv) (.slice A2 nb c2) (.slice A3 nf c3) (.slice A4 nt c4) (.int .i64 focus) (.string prev) (.string commit))
    have BF : Hid (Below w.heap.size w ((((((((((((w5.setCell ⟨w.heap.size, 7, none⟩ (.slice A4 nt c4)).setCell ⟨(w.heap.size + 1), 0, none⟩ (.slice A1 ni c1)).setCell ⟨(w.heap.size + 1), 1, none⟩ (.int .i64 caret)).setCell ⟨(w.heap.size + 1), 2, none⟩ (.string pend)).setCell ⟨(w.heap.size + 1), 3, none⟩ (.int .i64 mode)).setCell ⟨(w.heap.size + 1), 4, none⟩ (.bool conv)).setCell ⟨(w.heap.size + 1), 5, none⟩ (.slice A2 nb c2)).setCell ⟨(w.heap.size + 1), 6, none⟩ (.slice A3 nf c3)).setCell ⟨(w.heap.size + 1), 7, none⟩ (.slice A4 nt c4)).setCell ⟨(w.heap.size + 1), 8, none⟩ (.int .i64 focus)).setCell ⟨(w.heap.size + 1), 9, none⟩ (.string prev)).setCell ⟨(w.heap.size + 1), 10, none⟩ (.string commit))) := Lib.hid (below_set11 (B5.out.setCell (p := ⟨w.heap.size, 7, none⟩) (Nat.le_refl _) (.slice A4 nt c4)) (Nat.le_succ _) (.slice A1 ni c1) (.int .i64 caret) (.string pend) (.int .i64 mode) (.bool conv) (.slice A2 nb c2) (.slice A3 nf c3) (.slice A4 nt c4) (.int .i64 focus) (.string prev) (.string commit))
    have OTF := Lib.hid (own_set11 (own_setl OT5.out (g := w.heap.size) (by omega) 7 (.slice A4 nt c4)) (g := (w.heap.size + 1)) (by omega) (.slice A1 ni c1) (.int .i64 caret) (.string pend) (.int .i64 mode) (.bool conv) (.slice A2 nb c2) (.slice A3 nf c3) (.slice A4 nt c4) (.int .i64 focus) (.string prev) (.string commit))
    have OIF := Lib.hid (own_set11 (own_setl OI5.out (g := w.heap.size) (by omega) 7 (.slice A4 nt c4)) (g := (w.heap.size + 1)) (by omega) (.slice A1 ni c1) (.int .i64 caret) (.string pend) (.int .i64 mode) (.bool conv) (.slice A2 nb c2) (.slice A3 nf c3) (.slice A4 nt c4) (.int .i64 focus) (.string prev) (.string commit))
    have OOF := Lib.hid (own_set11 (own_setl OO5.out (g := w.heap.size) (by omega) 7 (.slice A4 nt c4)) (g := (w.heap.size + 1)) (by omega) (.slice A1 ni c1) (.int .i64 caret) (.string pend) (.int .i64 mode) (.bool conv) (.slice A2 nb c2) (.slice A3 nf c3) (.slice A4 nt c4) (.int .i64 focus) (.string prev) (.string commit))
    have OSF := Lib.hid (own_set11 (own_setl OS.out (g := w.heap.size) (by omega) 7 (.slice A4 nt c4)) (g := (w.heap.size + 1)) (by omega) (.slice A1 ni c1) (.int .i64 caret) (.string pend) (.int .i64 mode) (.bool conv) (.slice A2 nb c2) (.slice A3 nf c3) (.slice A4 nt c4) (.int .i64 focus) (.string prev) (.string commit))
    generalize ((((((((((((w5.setCell ⟨w.heap.size, 7, none⟩ (.slice A4 nt c4)).setCell ⟨(w.heap.size + 1), 0, none⟩ (.slice A1 ni c1)).setCell ⟨(w.heap.size + 1), 1, none⟩ (.int .i64 caret)).setCell ⟨(w.heap.size + 1), 2, none⟩ (.string pend)).setCell ⟨(w.heap.size + 1), 3, none⟩ (.int .i64 mode)).setCell ⟨(w.heap.size + 1), 4, none⟩ (.bool conv)).setCell ⟨(w.heap.size + 1), 5, none⟩ (.slice A2 nb c2)).setCell ⟨(w.heap.size + 1), 6, none⟩ (.slice A3 nf c3)).setCell ⟨(w.heap.size + 1), 7, none⟩ (.slice A4 nt c4)).setCell ⟨(w.heap.size + 1), 8, none⟩ (.int .i64 focus)).setCell ⟨(w.heap.size + 1), 9, none⟩ (.string prev)).setCell ⟨(w.heap.size + 1), 10, none⟩ (.string commit)) = wf at ZF BF OTF OIF OOF OSF ⊢
    have y0 : wf.cell? ⟨(w.heap.size + 1), 0, none⟩ = some (.slice A1 ni c1) := ZF.out.cell 0
    have y1 : wf.cell? ⟨(w.heap.size + 1), 1, none⟩ = some (.int .i64 caret) := ZF.out.cell 1
    have y2 : wf.cell? ⟨(w.heap.size + 1), 2, none⟩ = some (.string pend) := ZF.out.cell 2
    have y3 : wf.cell? ⟨(w.heap.size + 1), 3, none⟩ = some (.int .i64 mode) := ZF.out.cell 3
    have y4 : wf.cell? ⟨(w.heap.size + 1), 4, none⟩ = some (.bool conv) := ZF.out.cell 4
    have y5 : wf.cell? ⟨(w.heap.size + 1), 5, none⟩ = some (.slice A2 nb c2) := ZF.out.cell 5
    have y6 : wf.cell? ⟨(w.heap.size + 1), 6, none⟩ = some (.slice A3 nf c3) := ZF.out.cell 6
    have y7 : wf.cell? ⟨(w.heap.size + 1), 7, none⟩ = some (.slice A4 nt c4) := ZF.out.cell 7
    have y8 : wf.cell? ⟨(w.heap.size + 1), 8, none⟩ = some (.int .i64 focus) := ZF.out.cell 8
    have y9 : wf.cell? ⟨(w.heap.size + 1), 9, none⟩ = some (.string prev) := ZF.out.cell 9
    have y10 : wf.cell? ⟨(w.heap.size + 1), 10, none⟩ = some (.string commit) := ZF.out.cell 10
    refine bodyPost_ret (by simp [results, Tryd.results33, go_sem, y0, y1, y2, y3, y4, y5, y6, y7, y8, y9, y10]; rfl) rfl ?_
    have hq := HQ.out
    refine ⟨⟨A1, ni, c1, caret, pend, mode, conv, A2, nb, c2, A3, nf, c3, A4, nt, c4, focus, prev, commit⟩, rfl, ⟨own_mono OTF.out (by omega), own_mono OIF.out (by omega), own_mono OOF.out (by omega), own_mono OSF.out (by omega), ⟨RT.of_own OTF.out, RI.of_own OIF.out, RO.of_own OOF.out, RS.of_own OSF.out, hq.caret, hq.pend, hq.mode, hq.conv, hq.focus, hq.prev, hq.commit, hq.ni, hq.nb, hq.nf, hq.nt, hc4, hq.szi, hq.szt, hq.szp, hq.szv, hq.szm⟩⟩, BF.out⟩
end Go.Proofs.YtebjfigjfhghcaaDoor.Und
