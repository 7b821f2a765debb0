/-
  The contract of Pop of package undo. Conditions: the steps can be read, their lengths are bounded; the tables lie. (Printed by gen/undpop.py.)
-/
import Derived.Test.YtebjfigjfhghcaaDoorUndPlain
import Derived.Test.YtebjfigjfhghcaaDoorUndCheck
namespace Go.Proofs.YtebjfigjfhghcaaDoor.Und
open Go.RowKit Wd Utf

theorem blk_far11 {w : World} {g g' : Nat} {t : TypeId} {cs : Array Value} (h : Blk w g t cs) (hg : g ≠ g') (b0 b1 b2 b3 b4 b5 b6 b7 b8 b9 b10 : Value) : Blk (((((((((((w.setCell ⟨g', 0, none⟩ (b0)).setCell ⟨g', 1, none⟩ (b1)).setCell ⟨g', 2, none⟩ (b2)).setCell ⟨g', 3, none⟩ (b3)).setCell ⟨g', 4, none⟩ (b4)).setCell ⟨g', 5, none⟩ (b5)).setCell ⟨g', 6, none⟩ (b6)).setCell ⟨g', 7, none⟩ (b7)).setCell ⟨g', 8, none⟩ (b8)).setCell ⟨g', 9, none⟩ (b9)).setCell ⟨g', 10, none⟩ (b10)) g t cs := by
  have h0 := h.far (p := ⟨g', 0, none⟩) hg b0
  have h1 := h0.far (p := ⟨g', 1, none⟩) hg b1
  have h2 := h1.far (p := ⟨g', 2, none⟩) hg b2
  have h3 := h2.far (p := ⟨g', 3, none⟩) hg b3
  have h4 := h3.far (p := ⟨g', 4, none⟩) hg b4
  have h5 := h4.far (p := ⟨g', 5, none⟩) hg b5
  have h6 := h5.far (p := ⟨g', 6, none⟩) hg b6
  have h7 := h6.far (p := ⟨g', 7, none⟩) hg b7
  have h8 := h7.far (p := ⟨g', 8, none⟩) hg b8
  have h9 := h8.far (p := ⟨g', 9, none⟩) hg b9
  have h10 := h9.far (p := ⟨g', 10, none⟩) hg b10
  exact h10
theorem SpOwn.set11 {ity : TypeId} {lo g : Nat} {w : World} {r : Sp} {q : Stp} (h : SpOwn ity lo w r q) (hg : g < lo) (b0 b1 b2 b3 b4 b5 b6 b7 b8 b9 b10 : Value) : SpOwn ity lo (((((((((((w.setCell ⟨g, 0, none⟩ (b0)).setCell ⟨g, 1, none⟩ (b1)).setCell ⟨g, 2, none⟩ (b2)).setCell ⟨g, 3, none⟩ (b3)).setCell ⟨g, 4, none⟩ (b4)).setCell ⟨g, 5, none⟩ (b5)).setCell ⟨g, 6, none⟩ (b6)).setCell ⟨g, 7, none⟩ (b7)).setCell ⟨g, 8, none⟩ (b8)).setCell ⟨g, 9, none⟩ (b9)).setCell ⟨g, 10, none⟩ (b10)) r q := by
  have h0 := h.setl hg 0 b0
  have h1 := h0.setl hg 1 b1
  have h2 := h1.setl hg 2 b2
  have h3 := h2.setl hg 3 b3
  have h4 := h3.setl hg 4 b4
  have h5 := h4.setl hg 5 b5
  have h6 := h5.setl hg 6 b6
  have h7 := h6.setl hg 7 b7
  have h8 := h7.setl hg 8 b8
  have h9 := h8.setl hg 9 b9
  have h10 := h9.setl hg 10 b10
  exact h10
theorem OP.set11 {T ity : TypeId} {w : World} {lo g : Nat} {v : Value} {ps : List (Sp × Stp)} (h : OP T ity lo w v ps) (hg : g < lo) (b0 b1 b2 b3 b4 b5 b6 b7 b8 b9 b10 : Value) : OP T ity lo (((((((((((w.setCell ⟨g, 0, none⟩ (b0)).setCell ⟨g, 1, none⟩ (b1)).setCell ⟨g, 2, none⟩ (b2)).setCell ⟨g, 3, none⟩ (b3)).setCell ⟨g, 4, none⟩ (b4)).setCell ⟨g, 5, none⟩ (b5)).setCell ⟨g, 6, none⟩ (b6)).setCell ⟨g, 7, none⟩ (b7)).setCell ⟨g, 8, none⟩ (b8)).setCell ⟨g, 9, none⟩ (b9)).setCell ⟨g, 10, none⟩ (b10)) v ps := by
  have h0 := h.setl hg 0 b0
  have h1 := h0.setl hg 1 b1
  have h2 := h1.setl hg 2 b2
  have h3 := h2.setl hg 3 b3
  have h4 := h3.setl hg 4 b4
  have h5 := h4.setl hg 5 b5
  have h6 := h5.setl hg 6 b6
  have h7 := h6.setl hg 7 b7
  have h8 := h7.setl hg 8 b8
  have h9 := h8.setl hg 9 b9
  have h10 := h9.setl hg 10 b10
  exact h10
set_option maxRecDepth 100000 in
set_option maxHeartbeats 8000000 in
theorem pop_any (A : Option Addr) (n c : Nat) (ps : List (Sp × Stp)) (w : World) (hT : Tabs w) (hs : RP w A n ps) (hn : n ≤ 1048576) (hc : n ≤ c) :
    Calls Tryd.prog 20 #[.agg #[.slice A n c]] w fun e w' => ∃ v r, e = .returned (.tuple #[.agg #[v], .agg r.cells, .bool (popV (ps.map (·.2))).2.2]) ∧ ∃ rs, PL 31 75 w.heap.size w' v rs ∧ rs.map (·.2) = (popV (ps.map (·.2))).1 ∧ SpOwn 75 w.heap.size w' r (popV (ps.map (·.2))).2.1 ∧ Below w.heap.size w w' := by
  have HLN := Lib.hid hs.len
  rcases n with _ | m
  · have HV : Hid (popV (ps.map (·.2)) = ([], zeroS, false)) := Lib.hid (by rw [List.length_eq_zero_iff.1 HLN.out]; rfl)
    clear hs hT HLN
    have B0 : Hid (Below w.heap.size w (((w.alloc (.cells #[.slice A 0 c] 46)).alloc (.cells #[.slice none 0 0] 46)).alloc (.cells #[.slice none 0 0, .int .i64 0, .string ⟨#[]⟩, .int .i64 0, .bool false, .slice none 0 0, .slice none 0 0, .slice none 0 0, .int .i64 0, .string ⟨#[]⟩, .string ⟨#[]⟩] 31))) := Lib.hid ((((Below.refl _ _).alloc (Nat.le_refl _) _).alloc (by simp) _).alloc (by simp; omega) _)
    have KP : Hid (Blk (((w.alloc (.cells #[.slice A 0 c] 46)).alloc (.cells #[.slice none 0 0] 46)).alloc (.cells #[.slice none 0 0, .int .i64 0, .string ⟨#[]⟩, .int .i64 0, .bool false, .slice none 0 0, .slice none 0 0, .slice none 0 0, .int .i64 0, .string ⟨#[]⟩, .string ⟨#[]⟩] 31)) w.heap.size 46 #[.slice A 0 c]) := Lib.hid (((Blk.new w _ _).alloc _).alloc _)
    have KR : Hid (Blk (((w.alloc (.cells #[.slice A 0 c] 46)).alloc (.cells #[.slice none 0 0] 46)).alloc (.cells #[.slice none 0 0, .int .i64 0, .string ⟨#[]⟩, .int .i64 0, .bool false, .slice none 0 0, .slice none 0 0, .slice none 0 0, .int .i64 0, .string ⟨#[]⟩, .string ⟨#[]⟩] 31)) (w.heap.size + 1) 46 #[.slice none 0 0]) := Lib.hid (by have h := (Blk.new (w.alloc (.cells #[.slice A 0 c] 46)) 46 #[.slice none 0 0]).alloc (.cells #[.slice none 0 0, .int .i64 0, .string ⟨#[]⟩, .int .i64 0, .bool false, .slice none 0 0, .slice none 0 0, .slice none 0 0, .int .i64 0, .string ⟨#[]⟩, .string ⟨#[]⟩] 31); rwa [show (w.alloc (.cells #[.slice A 0 c] 46)).heap.size = w.heap.size + 1 from by simp] at h)
    have KZ : Hid (Blk (((w.alloc (.cells #[.slice A 0 c] 46)).alloc (.cells #[.slice none 0 0] 46)).alloc (.cells #[.slice none 0 0, .int .i64 0, .string ⟨#[]⟩, .int .i64 0, .bool false, .slice none 0 0, .slice none 0 0, .slice none 0 0, .int .i64 0, .string ⟨#[]⟩, .string ⟨#[]⟩] 31)) (w.heap.size + 1 + 1) 31 #[.slice none 0 0, .int .i64 0, .string ⟨#[]⟩, .int .i64 0, .bool false, .slice none 0 0, .slice none 0 0, .slice none 0 0, .int .i64 0, .string ⟨#[]⟩, .string ⟨#[]⟩]) := Lib.hid (by have h := Blk.new ((w.alloc (.cells #[.slice A 0 c] 46)).alloc (.cells #[.slice none 0 0] 46)) 31 #[.slice none 0 0, .int .i64 0, .string ⟨#[]⟩, .int .i64 0, .bool false, .slice none 0 0, .slice none 0 0, .slice none 0 0, .int .i64 0, .string ⟨#[]⟩, .string ⟨#[]⟩]; rwa [show ((w.alloc (.cells #[.slice A 0 c] 46)).alloc (.cells #[.slice none 0 0] 46)).heap.size = w.heap.size + 1 + 1 from by simp] at h)
    have hzz : (((w.alloc (.cells #[.slice A 0 c] 46)).alloc (.cells #[.slice none 0 0] 46)).alloc (.cells #[.slice none 0 0, .int .i64 0, .string ⟨#[]⟩, .int .i64 0, .bool false, .slice none 0 0, .slice none 0 0, .slice none 0 0, .int .i64 0, .string ⟨#[]⟩, .string ⟨#[]⟩] 31)).heap.size = w.heap.size + 1 + 1 + 1 := by simp
    go_enter Tryd.func20, Tryd.ntmps20
    go_upto_region 1 with fail
    generalize (((w.alloc (.cells #[.slice A 0 c] 46)).alloc (.cells #[.slice none 0 0] 46)).alloc (.cells #[.slice none 0 0, .int .i64 0, .string ⟨#[]⟩, .int .i64 0, .bool false, .slice none 0 0, .slice none 0 0, .slice none 0 0, .int .i64 0, .string ⟨#[]⟩, .string ⟨#[]⟩] 31)) = W0 at B0 KP KR KZ hzz ⊢
    have q0 : W0.cell? ⟨w.heap.size, 0, none⟩ = some (.slice A 0 c) := KP.out.cell 0
    have r0 : W0.cell? ⟨w.heap.size + 1, 0, none⟩ = some (.slice none 0 0) := KR.out.cell 0
    have r1 : W0.frozen? ⟨w.heap.size + 1, 0, none⟩ = false := KR.out.frozen 0
    have z0 : W0.cell? ⟨w.heap.size + 1 + 1, 0, none⟩ = some (.slice none 0 0) := KZ.out.cell 0
    have g0 : W0.frozen? ⟨w.heap.size + 1 + 1, 0, none⟩ = false := KZ.out.frozen 0
    have z1 : W0.cell? ⟨w.heap.size + 1 + 1, 1, none⟩ = some (.int .i64 0) := KZ.out.cell 1
    have g1 : W0.frozen? ⟨w.heap.size + 1 + 1, 1, none⟩ = false := KZ.out.frozen 1
    have z2 : W0.cell? ⟨w.heap.size + 1 + 1, 2, none⟩ = some (.string ⟨#[]⟩) := KZ.out.cell 2
    have g2 : W0.frozen? ⟨w.heap.size + 1 + 1, 2, none⟩ = false := KZ.out.frozen 2
    have z3 : W0.cell? ⟨w.heap.size + 1 + 1, 3, none⟩ = some (.int .i64 0) := KZ.out.cell 3
    have g3 : W0.frozen? ⟨w.heap.size + 1 + 1, 3, none⟩ = false := KZ.out.frozen 3
    have z4 : W0.cell? ⟨w.heap.size + 1 + 1, 4, none⟩ = some (.bool false) := KZ.out.cell 4
    have g4 : W0.frozen? ⟨w.heap.size + 1 + 1, 4, none⟩ = false := KZ.out.frozen 4
    have z5 : W0.cell? ⟨w.heap.size + 1 + 1, 5, none⟩ = some (.slice none 0 0) := KZ.out.cell 5
    have g5 : W0.frozen? ⟨w.heap.size + 1 + 1, 5, none⟩ = false := KZ.out.frozen 5
    have z6 : W0.cell? ⟨w.heap.size + 1 + 1, 6, none⟩ = some (.slice none 0 0) := KZ.out.cell 6
    have g6 : W0.frozen? ⟨w.heap.size + 1 + 1, 6, none⟩ = false := KZ.out.frozen 6
    have z7 : W0.cell? ⟨w.heap.size + 1 + 1, 7, none⟩ = some (.slice none 0 0) := KZ.out.cell 7
    have g7 : W0.frozen? ⟨w.heap.size + 1 + 1, 7, none⟩ = false := KZ.out.frozen 7
    have z8 : W0.cell? ⟨w.heap.size + 1 + 1, 8, none⟩ = some (.int .i64 0) := KZ.out.cell 8
    have g8 : W0.frozen? ⟨w.heap.size + 1 + 1, 8, none⟩ = false := KZ.out.frozen 8
    have z9 : W0.cell? ⟨w.heap.size + 1 + 1, 9, none⟩ = some (.string ⟨#[]⟩) := KZ.out.cell 9
    have g9 : W0.frozen? ⟨w.heap.size + 1 + 1, 9, none⟩ = false := KZ.out.frozen 9
    have z10 : W0.cell? ⟨w.heap.size + 1 + 1, 10, none⟩ = some (.string ⟨#[]⟩) := KZ.out.cell 10
    have g10 : W0.frozen? ⟨w.heap.size + 1 + 1, 10, none⟩ = false := KZ.out.frozen 10
    go_wp2_with fail
    have ZF : Hid (Blk ((((((((((((W0.setCell ⟨w.heap.size + 1, 0, none⟩ (.slice none 0 0)).setCell ⟨w.heap.size + 1 + 1, 0, none⟩ (.slice none 0 0)).setCell ⟨w.heap.size + 1 + 1, 1, none⟩ (.int .i64 0)).setCell ⟨w.heap.size + 1 + 1, 2, none⟩ (.string ⟨#[]⟩)).setCell ⟨w.heap.size + 1 + 1, 3, none⟩ (.int .i64 0)).setCell ⟨w.heap.size + 1 + 1, 4, none⟩ (.bool false)).setCell ⟨w.heap.size + 1 + 1, 5, none⟩ (.slice none 0 0)).setCell ⟨w.heap.size + 1 + 1, 6, none⟩ (.slice none 0 0)).setCell ⟨w.heap.size + 1 + 1, 7, none⟩ (.slice none 0 0)).setCell ⟨w.heap.size + 1 + 1, 8, none⟩ (.int .i64 0)).setCell ⟨w.heap.size + 1 + 1, 9, none⟩ (.string ⟨#[]⟩)).setCell ⟨w.heap.size + 1 + 1, 10, none⟩ (.string ⟨#[]⟩)) (w.heap.size + 1 + 1) 31 #[.slice none 0 0, .int .i64 0, .string ⟨#[]⟩, .int .i64 0, .bool false, .slice none 0 0, .slice none 0 0, .slice none 0 0, .int .i64 0, .string ⟨#[]⟩, .string ⟨#[]⟩]) := Lib.hid (Blk.set11 (KZ.out.far (by simp) (.slice none 0 0)) (.slice none 0 0) (.int .i64 0) (.string ⟨#[]⟩) (.int .i64 0) (.bool false) (.slice none 0 0) (.slice none 0 0) (.slice none 0 0) (.int .i64 0) (.string ⟨#[]⟩) (.string ⟨#[]⟩))
    have RF : Hid (Blk ((((((((((((W0.setCell ⟨w.heap.size + 1, 0, none⟩ (.slice none 0 0)).setCell ⟨w.heap.size + 1 + 1, 0, none⟩ (.slice none 0 0)).setCell ⟨w.heap.size + 1 + 1, 1, none⟩ (.int .i64 0)).setCell ⟨w.heap.size + 1 + 1, 2, none⟩ (.string ⟨#[]⟩)).setCell ⟨w.heap.size + 1 + 1, 3, none⟩ (.int .i64 0)).setCell ⟨w.heap.size + 1 + 1, 4, none⟩ (.bool false)).setCell ⟨w.heap.size + 1 + 1, 5, none⟩ (.slice none 0 0)).setCell ⟨w.heap.size + 1 + 1, 6, none⟩ (.slice none 0 0)).setCell ⟨w.heap.size + 1 + 1, 7, none⟩ (.slice none 0 0)).setCell ⟨w.heap.size + 1 + 1, 8, none⟩ (.int .i64 0)).setCell ⟨w.heap.size + 1 + 1, 9, none⟩ (.string ⟨#[]⟩)).setCell ⟨w.heap.size + 1 + 1, 10, none⟩ (.string ⟨#[]⟩)) (w.heap.size + 1) 46 #[.slice none 0 0]) := Lib.hid (blk_far11 (KR.out.set_ 0 (.slice none 0 0)) (by simp) (.slice none 0 0) (.int .i64 0) (.string ⟨#[]⟩) (.int .i64 0) (.bool false) (.slice none 0 0) (.slice none 0 0) (.slice none 0 0) (.int .i64 0) (.string ⟨#[]⟩) (.string ⟨#[]⟩))
    have BF : Hid (Below w.heap.size w ((((((((((((W0.setCell ⟨w.heap.size + 1, 0, none⟩ (.slice none 0 0)).setCell ⟨w.heap.size + 1 + 1, 0, none⟩ (.slice none 0 0)).setCell ⟨w.heap.size + 1 + 1, 1, none⟩ (.int .i64 0)).setCell ⟨w.heap.size + 1 + 1, 2, none⟩ (.string ⟨#[]⟩)).setCell ⟨w.heap.size + 1 + 1, 3, none⟩ (.int .i64 0)).setCell ⟨w.heap.size + 1 + 1, 4, none⟩ (.bool false)).setCell ⟨w.heap.size + 1 + 1, 5, none⟩ (.slice none 0 0)).setCell ⟨w.heap.size + 1 + 1, 6, none⟩ (.slice none 0 0)).setCell ⟨w.heap.size + 1 + 1, 7, none⟩ (.slice none 0 0)).setCell ⟨w.heap.size + 1 + 1, 8, none⟩ (.int .i64 0)).setCell ⟨w.heap.size + 1 + 1, 9, none⟩ (.string ⟨#[]⟩)).setCell ⟨w.heap.size + 1 + 1, 10, none⟩ (.string ⟨#[]⟩))) := Lib.hid (below_set11 (B0.out.setCell (p := ⟨w.heap.size + 1, 0, none⟩) (Nat.le_succ _) (.slice none 0 0)) (by omega) (.slice none 0 0) (.int .i64 0) (.string ⟨#[]⟩) (.int .i64 0) (.bool false) (.slice none 0 0) (.slice none 0 0) (.slice none 0 0) (.int .i64 0) (.string ⟨#[]⟩) (.string ⟨#[]⟩))
    generalize ((((((((((((W0.setCell ⟨w.heap.size + 1, 0, none⟩ (.slice none 0 0)).setCell ⟨w.heap.size + 1 + 1, 0, none⟩ (.slice none 0 0)).setCell ⟨w.heap.size + 1 + 1, 1, none⟩ (.int .i64 0)).setCell ⟨w.heap.size + 1 + 1, 2, none⟩ (.string ⟨#[]⟩)).setCell ⟨w.heap.size + 1 + 1, 3, none⟩ (.int .i64 0)).setCell ⟨w.heap.size + 1 + 1, 4, none⟩ (.bool false)).setCell ⟨w.heap.size + 1 + 1, 5, none⟩ (.slice none 0 0)).setCell ⟨w.heap.size + 1 + 1, 6, none⟩ (.slice none 0 0)).setCell ⟨w.heap.size + 1 + 1, 7, none⟩ (.slice none 0 0)).setCell ⟨w.heap.size + 1 + 1, 8, none⟩ (.int .i64 0)).setCell ⟨w.heap.size + 1 + 1, 9, none⟩ (.string ⟨#[]⟩)).setCell ⟨w.heap.size + 1 + 1, 10, none⟩ (.string ⟨#[]⟩)) = wf at ZF RF BF ⊢
    have y : wf.cell? ⟨w.heap.size + 1, 0, none⟩ = some (.slice none 0 0) := RF.out.cell 0
    have y0 : wf.cell? ⟨w.heap.size + 1 + 1, 0, none⟩ = some (.slice none 0 0) := ZF.out.cell 0
    have y1 : wf.cell? ⟨w.heap.size + 1 + 1, 1, none⟩ = some (.int .i64 0) := ZF.out.cell 1
    have y2 : wf.cell? ⟨w.heap.size + 1 + 1, 2, none⟩ = some (.string ⟨#[]⟩) := ZF.out.cell 2
    have y3 : wf.cell? ⟨w.heap.size + 1 + 1, 3, none⟩ = some (.int .i64 0) := ZF.out.cell 3
    have y4 : wf.cell? ⟨w.heap.size + 1 + 1, 4, none⟩ = some (.bool false) := ZF.out.cell 4
    have y5 : wf.cell? ⟨w.heap.size + 1 + 1, 5, none⟩ = some (.slice none 0 0) := ZF.out.cell 5
    have y6 : wf.cell? ⟨w.heap.size + 1 + 1, 6, none⟩ = some (.slice none 0 0) := ZF.out.cell 6
    have y7 : wf.cell? ⟨w.heap.size + 1 + 1, 7, none⟩ = some (.slice none 0 0) := ZF.out.cell 7
    have y8 : wf.cell? ⟨w.heap.size + 1 + 1, 8, none⟩ = some (.int .i64 0) := ZF.out.cell 8
    have y9 : wf.cell? ⟨w.heap.size + 1 + 1, 9, none⟩ = some (.string ⟨#[]⟩) := ZF.out.cell 9
    have y10 : wf.cell? ⟨w.heap.size + 1 + 1, 10, none⟩ = some (.string ⟨#[]⟩) := ZF.out.cell 10
    refine bodyPost_ret (by simp [results, Tryd.results20, go_sem, y, y0, y1, y2, y3, y4, y5, y6, y7, y8, y9, y10]; rfl) rfl ?_
    exact ⟨_, zeroP, by rw [HV.out]; rfl, [], PL.nil _ _ _ _, by rw [HV.out]; rfl, by rw [HV.out]; exact zeroP_own _ _ _, BF.out⟩
  · have HC := Lib.hid (fun (W : World) (hW : Below w.heap.size w W) => copies_any A m c (ps.take m) W ((hs.take (Nat.le_succ m)).keep hW) (by omega))
    obtain ⟨ad, ⟨r0, q⟩, rfl, hp, hin, hbk, hcw⟩ := hs.all_ (Nat.lt_succ_self m)
    have HK := Lib.hid (fun (W : World) (hW : Below w.heap.size w W) => check_any r0 q W (hT.keep hW) (hin.keep hW))
    have HY := Lib.hid (fun (W : World) (hW : Below w.heap.size w W) => copy_any r0 q W (hin.keep hW))
    have HPQ : Hid ((ps.map (·.2))[m]? = some q) := Lib.hid (by rw [List.getElem?_map, hp]; rfl)
    have HPL : Hid ((ps.map (·.2)).length = m + 1) := Lib.hid (by rw [List.length_map, HLN.out])
    have HPT : Hid ((ps.take m).map (·.2) = (ps.map (·.2)).take m) := Lib.hid (by rw [List.map_take])
    obtain ⟨Ai, ni, ci, caret, pend, mode, conv, Ab, nb, cb, Af, nf, cf, At, nt, ct, focus, prev, commit⟩ := r0
    unfold Sp.cells at HK HY
    simp only at HK HY hcw
    have CW := Lib.hid hcw
    clear hs hT hp hin hcw
    generalize ps.map (·.2) = L at HPQ HPL HPT ⊢
    have B0 : Hid (Below w.heap.size w (((w.alloc (.cells #[.slice (some ad) (m + 1) c] 46)).alloc (.cells #[.slice none 0 0] 46)).alloc (.cells #[.slice none 0 0, .int .i64 0, .string ⟨#[]⟩, .int .i64 0, .bool false, .slice none 0 0, .slice none 0 0, .slice none 0 0, .int .i64 0, .string ⟨#[]⟩, .string ⟨#[]⟩] 31))) := Lib.hid ((((Below.refl _ _).alloc (Nat.le_refl _) _).alloc (by simp) _).alloc (by simp; omega) _)
    have KP : Hid (Blk (((w.alloc (.cells #[.slice (some ad) (m + 1) c] 46)).alloc (.cells #[.slice none 0 0] 46)).alloc (.cells #[.slice none 0 0, .int .i64 0, .string ⟨#[]⟩, .int .i64 0, .bool false, .slice none 0 0, .slice none 0 0, .slice none 0 0, .int .i64 0, .string ⟨#[]⟩, .string ⟨#[]⟩] 31)) w.heap.size 46 #[.slice (some ad) (m + 1) c]) := Lib.hid (((Blk.new w _ _).alloc _).alloc _)
    have KR : Hid (Blk (((w.alloc (.cells #[.slice (some ad) (m + 1) c] 46)).alloc (.cells #[.slice none 0 0] 46)).alloc (.cells #[.slice none 0 0, .int .i64 0, .string ⟨#[]⟩, .int .i64 0, .bool false, .slice none 0 0, .slice none 0 0, .slice none 0 0, .int .i64 0, .string ⟨#[]⟩, .string ⟨#[]⟩] 31)) (w.heap.size + 1) 46 #[.slice none 0 0]) := Lib.hid (by have h := (Blk.new (w.alloc (.cells #[.slice (some ad) (m + 1) c] 46)) 46 #[.slice none 0 0]).alloc (.cells #[.slice none 0 0, .int .i64 0, .string ⟨#[]⟩, .int .i64 0, .bool false, .slice none 0 0, .slice none 0 0, .slice none 0 0, .int .i64 0, .string ⟨#[]⟩, .string ⟨#[]⟩] 31); rwa [show (w.alloc (.cells #[.slice (some ad) (m + 1) c] 46)).heap.size = w.heap.size + 1 from by simp] at h)
    have KZ : Hid (Blk (((w.alloc (.cells #[.slice (some ad) (m + 1) c] 46)).alloc (.cells #[.slice none 0 0] 46)).alloc (.cells #[.slice none 0 0, .int .i64 0, .string ⟨#[]⟩, .int .i64 0, .bool false, .slice none 0 0, .slice none 0 0, .slice none 0 0, .int .i64 0, .string ⟨#[]⟩, .string ⟨#[]⟩] 31)) (w.heap.size + 1 + 1) 31 #[.slice none 0 0, .int .i64 0, .string ⟨#[]⟩, .int .i64 0, .bool false, .slice none 0 0, .slice none 0 0, .slice none 0 0, .int .i64 0, .string ⟨#[]⟩, .string ⟨#[]⟩]) := Lib.hid (by have h := Blk.new ((w.alloc (.cells #[.slice (some ad) (m + 1) c] 46)).alloc (.cells #[.slice none 0 0] 46)) 31 #[.slice none 0 0, .int .i64 0, .string ⟨#[]⟩, .int .i64 0, .bool false, .slice none 0 0, .slice none 0 0, .slice none 0 0, .int .i64 0, .string ⟨#[]⟩, .string ⟨#[]⟩]; rwa [show ((w.alloc (.cells #[.slice (some ad) (m + 1) c] 46)).alloc (.cells #[.slice none 0 0] 46)).heap.size = w.heap.size + 1 + 1 from by simp] at h)
    have hzz : (((w.alloc (.cells #[.slice (some ad) (m + 1) c] 46)).alloc (.cells #[.slice none 0 0] 46)).alloc (.cells #[.slice none 0 0, .int .i64 0, .string ⟨#[]⟩, .int .i64 0, .bool false, .slice none 0 0, .slice none 0 0, .slice none 0 0, .int .i64 0, .string ⟨#[]⟩, .string ⟨#[]⟩] 31)).heap.size = w.heap.size + 1 + 1 + 1 := by simp
    go_enter Tryd.func20, Tryd.ntmps20
    go_upto_region 1 with fail
    generalize (((w.alloc (.cells #[.slice (some ad) (m + 1) c] 46)).alloc (.cells #[.slice none 0 0] 46)).alloc (.cells #[.slice none 0 0, .int .i64 0, .string ⟨#[]⟩, .int .i64 0, .bool false, .slice none 0 0, .slice none 0 0, .slice none 0 0, .int .i64 0, .string ⟨#[]⟩, .string ⟨#[]⟩] 31)) = W0 at B0 KP KR KZ hzz ⊢
    have q0 : W0.cell? ⟨w.heap.size, 0, none⟩ = some (.slice (some ad) (m + 1) c) := KP.out.cell 0
    obtain ⟨e0, e1, e2, e3, e4, e5, e6, e7, e8, e9, e10⟩ := CW.out W0 B0.out
    go_wp2_with fail
    with_reducible refine (HK.out _ B0.out).mono ?_
    rintro e w1 ⟨rfl, hb1⟩
    have KP := Lib.hid (KP.out.below hb1 KP.out.lt)
    have KR := Lib.hid (KR.out.below hb1 KR.out.lt)
    have KZ := Lib.hid (KZ.out.below hb1 KZ.out.lt)
    have B0 := Lib.hid (B0.out.trans (hb1.mono B0.out.size))
    clear hb1 q0 e0 e1 e2 e3 e4 e5 e6 e7 e8 e9 e10 HK
    have hz1 : w.heap.size + 1 + 1 < w1.heap.size := KZ.out.lt
    rcases ho : okB q with _ | _
    · have HV := Lib.hid (popV_bad HPL.out HPQ.out ho)
      rw [errI_f]
      clear ho
      have r0 : w1.cell? ⟨w.heap.size + 1, 0, none⟩ = some (.slice none 0 0) := KR.out.cell 0
      have r1 : w1.frozen? ⟨w.heap.size + 1, 0, none⟩ = false := KR.out.frozen 0
      have z0 : w1.cell? ⟨w.heap.size + 1 + 1, 0, none⟩ = some (.slice none 0 0) := KZ.out.cell 0
      have g0 : w1.frozen? ⟨w.heap.size + 1 + 1, 0, none⟩ = false := KZ.out.frozen 0
      have z1 : w1.cell? ⟨w.heap.size + 1 + 1, 1, none⟩ = some (.int .i64 0) := KZ.out.cell 1
      have g1 : w1.frozen? ⟨w.heap.size + 1 + 1, 1, none⟩ = false := KZ.out.frozen 1
      have z2 : w1.cell? ⟨w.heap.size + 1 + 1, 2, none⟩ = some (.string ⟨#[]⟩) := KZ.out.cell 2
      have g2 : w1.frozen? ⟨w.heap.size + 1 + 1, 2, none⟩ = false := KZ.out.frozen 2
      have z3 : w1.cell? ⟨w.heap.size + 1 + 1, 3, none⟩ = some (.int .i64 0) := KZ.out.cell 3
      have g3 : w1.frozen? ⟨w.heap.size + 1 + 1, 3, none⟩ = false := KZ.out.frozen 3
      have z4 : w1.cell? ⟨w.heap.size + 1 + 1, 4, none⟩ = some (.bool false) := KZ.out.cell 4
      have g4 : w1.frozen? ⟨w.heap.size + 1 + 1, 4, none⟩ = false := KZ.out.frozen 4
      have z5 : w1.cell? ⟨w.heap.size + 1 + 1, 5, none⟩ = some (.slice none 0 0) := KZ.out.cell 5
      have g5 : w1.frozen? ⟨w.heap.size + 1 + 1, 5, none⟩ = false := KZ.out.frozen 5
      have z6 : w1.cell? ⟨w.heap.size + 1 + 1, 6, none⟩ = some (.slice none 0 0) := KZ.out.cell 6
      have g6 : w1.frozen? ⟨w.heap.size + 1 + 1, 6, none⟩ = false := KZ.out.frozen 6
      have z7 : w1.cell? ⟨w.heap.size + 1 + 1, 7, none⟩ = some (.slice none 0 0) := KZ.out.cell 7
      have g7 : w1.frozen? ⟨w.heap.size + 1 + 1, 7, none⟩ = false := KZ.out.frozen 7
      have z8 : w1.cell? ⟨w.heap.size + 1 + 1, 8, none⟩ = some (.int .i64 0) := KZ.out.cell 8
      have g8 : w1.frozen? ⟨w.heap.size + 1 + 1, 8, none⟩ = false := KZ.out.frozen 8
      have z9 : w1.cell? ⟨w.heap.size + 1 + 1, 9, none⟩ = some (.string ⟨#[]⟩) := KZ.out.cell 9
      have g9 : w1.frozen? ⟨w.heap.size + 1 + 1, 9, none⟩ = false := KZ.out.frozen 9
      have z10 : w1.cell? ⟨w.heap.size + 1 + 1, 10, none⟩ = some (.string ⟨#[]⟩) := KZ.out.cell 10
      have g10 : w1.frozen? ⟨w.heap.size + 1 + 1, 10, none⟩ = false := KZ.out.frozen 10
      go_wp2_with fail
      have ZF : Hid (Blk ((((((((((((w1.setCell ⟨w.heap.size + 1, 0, none⟩ (.slice none 0 0)).setCell ⟨w.heap.size + 1 + 1, 0, none⟩ (.slice none 0 0)).setCell ⟨w.heap.size + 1 + 1, 1, none⟩ (.int .i64 0)).setCell ⟨w.heap.size + 1 + 1, 2, none⟩ (.string ⟨#[]⟩)).setCell ⟨w.heap.size + 1 + 1, 3, none⟩ (.int .i64 0)).setCell ⟨w.heap.size + 1 + 1, 4, none⟩ (.bool false)).setCell ⟨w.heap.size + 1 + 1, 5, none⟩ (.slice none 0 0)).setCell ⟨w.heap.size + 1 + 1, 6, none⟩ (.slice none 0 0)).setCell ⟨w.heap.size + 1 + 1, 7, none⟩ (.slice none 0 0)).setCell ⟨w.heap.size + 1 + 1, 8, none⟩ (.int .i64 0)).setCell ⟨w.heap.size + 1 + 1, 9, none⟩ (.string ⟨#[]⟩)).setCell ⟨w.heap.size + 1 + 1, 10, none⟩ (.string ⟨#[]⟩)) (w.heap.size + 1 + 1) 31 #[.slice none 0 0, .int .i64 0, .string ⟨#[]⟩, .int .i64 0, .bool false, .slice none 0 0, .slice none 0 0, .slice none 0 0, .int .i64 0, .string ⟨#[]⟩, .string ⟨#[]⟩]) := Lib.hid (Blk.set11 (KZ.out.far (by simp) (.slice none 0 0)) (.slice none 0 0) (.int .i64 0) (.string ⟨#[]⟩) (.int .i64 0) (.bool false) (.slice none 0 0) (.slice none 0 0) (.slice none 0 0) (.int .i64 0) (.string ⟨#[]⟩) (.string ⟨#[]⟩))
      have RF : Hid (Blk ((((((((((((w1.setCell ⟨w.heap.size + 1, 0, none⟩ (.slice none 0 0)).setCell ⟨w.heap.size + 1 + 1, 0, none⟩ (.slice none 0 0)).setCell ⟨w.heap.size + 1 + 1, 1, none⟩ (.int .i64 0)).setCell ⟨w.heap.size + 1 + 1, 2, none⟩ (.string ⟨#[]⟩)).setCell ⟨w.heap.size + 1 + 1, 3, none⟩ (.int .i64 0)).setCell ⟨w.heap.size + 1 + 1, 4, none⟩ (.bool false)).setCell ⟨w.heap.size + 1 + 1, 5, none⟩ (.slice none 0 0)).setCell ⟨w.heap.size + 1 + 1, 6, none⟩ (.slice none 0 0)).setCell ⟨w.heap.size + 1 + 1, 7, none⟩ (.slice none 0 0)).setCell ⟨w.heap.size + 1 + 1, 8, none⟩ (.int .i64 0)).setCell ⟨w.heap.size + 1 + 1, 9, none⟩ (.string ⟨#[]⟩)).setCell ⟨w.heap.size + 1 + 1, 10, none⟩ (.string ⟨#[]⟩)) (w.heap.size + 1) 46 #[.slice none 0 0]) := Lib.hid (blk_far11 (KR.out.set_ 0 (.slice none 0 0)) (by simp) (.slice none 0 0) (.int .i64 0) (.string ⟨#[]⟩) (.int .i64 0) (.bool false) (.slice none 0 0) (.slice none 0 0) (.slice none 0 0) (.int .i64 0) (.string ⟨#[]⟩) (.string ⟨#[]⟩))
      have BF : Hid (Below w.heap.size w ((((((((((((w1.setCell ⟨w.heap.size + 1, 0, none⟩ (.slice none 0 0)).setCell ⟨w.heap.size + 1 + 1, 0, none⟩ (.slice none 0 0)).setCell ⟨w.heap.size + 1 + 1, 1, none⟩ (.int .i64 0)).setCell ⟨w.heap.size + 1 + 1, 2, none⟩ (.string ⟨#[]⟩)).setCell ⟨w.heap.size + 1 + 1, 3, none⟩ (.int .i64 0)).setCell ⟨w.heap.size + 1 + 1, 4, none⟩ (.bool false)).setCell ⟨w.heap.size + 1 + 1, 5, none⟩ (.slice none 0 0)).setCell ⟨w.heap.size + 1 + 1, 6, none⟩ (.slice none 0 0)).setCell ⟨w.heap.size + 1 + 1, 7, none⟩ (.slice none 0 0)).setCell ⟨w.heap.size + 1 + 1, 8, none⟩ (.int .i64 0)).setCell ⟨w.heap.size + 1 + 1, 9, none⟩ (.string ⟨#[]⟩)).setCell ⟨w.heap.size + 1 + 1, 10, none⟩ (.string ⟨#[]⟩))) := Lib.hid (below_set11 (B0.out.setCell (p := ⟨w.heap.size + 1, 0, none⟩) (Nat.le_succ _) (.slice none 0 0)) (by omega) (.slice none 0 0) (.int .i64 0) (.string ⟨#[]⟩) (.int .i64 0) (.bool false) (.slice none 0 0) (.slice none 0 0) (.slice none 0 0) (.int .i64 0) (.string ⟨#[]⟩) (.string ⟨#[]⟩))
      generalize ((((((((((((w1.setCell ⟨w.heap.size + 1, 0, none⟩ (.slice none 0 0)).setCell ⟨w.heap.size + 1 + 1, 0, none⟩ (.slice none 0 0)).setCell ⟨w.heap.size + 1 + 1, 1, none⟩ (.int .i64 0)).setCell ⟨w.heap.size + 1 + 1, 2, none⟩ (.string ⟨#[]⟩)).setCell ⟨w.heap.size + 1 + 1, 3, none⟩ (.int .i64 0)).setCell ⟨w.heap.size + 1 + 1, 4, none⟩ (.bool false)).setCell ⟨w.heap.size + 1 + 1, 5, none⟩ (.slice none 0 0)).setCell ⟨w.heap.size + 1 + 1, 6, none⟩ (.slice none 0 0)).setCell ⟨w.heap.size + 1 + 1, 7, none⟩ (.slice none 0 0)).setCell ⟨w.heap.size + 1 + 1, 8, none⟩ (.int .i64 0)).setCell ⟨w.heap.size + 1 + 1, 9, none⟩ (.string ⟨#[]⟩)).setCell ⟨w.heap.size + 1 + 1, 10, none⟩ (.string ⟨#[]⟩)) = wf at ZF RF BF ⊢
      have y : wf.cell? ⟨w.heap.size + 1, 0, none⟩ = some (.slice none 0 0) := RF.out.cell 0
      have y0 : wf.cell? ⟨w.heap.size + 1 + 1, 0, none⟩ = some (.slice none 0 0) := ZF.out.cell 0
      have y1 : wf.cell? ⟨w.heap.size + 1 + 1, 1, none⟩ = some (.int .i64 0) := ZF.out.cell 1
      have y2 : wf.cell? ⟨w.heap.size + 1 + 1, 2, none⟩ = some (.string ⟨#[]⟩) := ZF.out.cell 2
      have y3 : wf.cell? ⟨w.heap.size + 1 + 1, 3, none⟩ = some (.int .i64 0) := ZF.out.cell 3
      have y4 : wf.cell? ⟨w.heap.size + 1 + 1, 4, none⟩ = some (.bool false) := ZF.out.cell 4
      have y5 : wf.cell? ⟨w.heap.size + 1 + 1, 5, none⟩ = some (.slice none 0 0) := ZF.out.cell 5
      have y6 : wf.cell? ⟨w.heap.size + 1 + 1, 6, none⟩ = some (.slice none 0 0) := ZF.out.cell 6
      have y7 : wf.cell? ⟨w.heap.size + 1 + 1, 7, none⟩ = some (.slice none 0 0) := ZF.out.cell 7
      have y8 : wf.cell? ⟨w.heap.size + 1 + 1, 8, none⟩ = some (.int .i64 0) := ZF.out.cell 8
      have y9 : wf.cell? ⟨w.heap.size + 1 + 1, 9, none⟩ = some (.string ⟨#[]⟩) := ZF.out.cell 9
      have y10 : wf.cell? ⟨w.heap.size + 1 + 1, 10, none⟩ = some (.string ⟨#[]⟩) := ZF.out.cell 10
      refine bodyPost_ret (by simp [results, Tryd.results20, go_sem, y, y0, y1, y2, y3, y4, y5, y6, y7, y8, y9, y10]; rfl) rfl ?_
      exact ⟨_, zeroP, by rw [HV.out]; rfl, [], PL.nil _ _ _ _, by rw [HV.out]; rfl, by rw [HV.out]; exact zeroP_own _ _ _, BF.out⟩
    · have HV := Lib.hid (popV_ok HPL.out HPQ.out ho)
      rw [errI_t]
      clear ho
      have q0 : w1.cell? ⟨w.heap.size, 0, none⟩ = some (.slice (some ad) (m + 1) c) := KP.out.cell 0
      obtain ⟨e0, e1, e2, e3, e4, e5, e6, e7, e8, e9, e10⟩ := CW.out w1 B0.out
      have hmc : m ≤ c := Nat.le_of_succ_le hc
      have B0 := Lib.hid B0.out.drew
      have KP := Lib.hid KP.out.drew
      have KR := Lib.hid KR.out.drew
      have KZ := Lib.hid KZ.out.drew
      have hz1 : w.heap.size + 1 + 1 < w1.drew.heap.size := hz1
      go_wp2_with fail
      go_region_law (first
        | (go_simp; go_at_call 32; (with_reducible refine (HC.out _ B0.out).mono ?_); rintro e wa ⟨va, rs, rfl, hop, hmap, hba⟩; obtain ⟨Av, cv, rfl, _, _⟩ := hop.form; have OA := Lib.hid (hop.lower (lo' := w.heap.size + 1 + 1 + 1) (by omega)); have HM := Lib.hid hmap; have KP := Lib.hid (KP.out.below hba KP.out.lt); have KR := Lib.hid (KR.out.below hba KR.out.lt); have KZ := Lib.hid (KZ.out.below hba KZ.out.lt); have B0 := Lib.hid (B0.out.trans (hba.mono B0.out.size)); have hz1 := Nat.lt_of_lt_of_le hz1 hba.size; (try (have SA := Lib.hid (SA.out.keep hba))); clear hop hmap hba; have q0 : wa.cell? ⟨w.heap.size, 0, none⟩ = some (.slice (some ad) (m + 1) c) := KP.out.cell 0; obtain ⟨e0, e1, e2, e3, e4, e5, e6, e7, e8, e9, e10⟩ := CW.out wa B0.out; have r0 : wa.cell? ⟨w.heap.size + 1, 0, none⟩ = some (.slice none 0 0) := KR.out.cell 0; have r1 : wa.frozen? ⟨w.heap.size + 1, 0, none⟩ = false := KR.out.frozen 0; have z0 : wa.cell? ⟨w.heap.size + 1 + 1, 0, none⟩ = some (.slice none 0 0) := KZ.out.cell 0; have g0 : wa.frozen? ⟨w.heap.size + 1 + 1, 0, none⟩ = false := KZ.out.frozen 0; have z1 : wa.cell? ⟨w.heap.size + 1 + 1, 1, none⟩ = some (.int .i64 0) := KZ.out.cell 1; have g1 : wa.frozen? ⟨w.heap.size + 1 + 1, 1, none⟩ = false := KZ.out.frozen 1; have z2 : wa.cell? ⟨w.heap.size + 1 + 1, 2, none⟩ = some (.string ⟨#[]⟩) := KZ.out.cell 2; have g2 : wa.frozen? ⟨w.heap.size + 1 + 1, 2, none⟩ = false := KZ.out.frozen 2; have z3 : wa.cell? ⟨w.heap.size + 1 + 1, 3, none⟩ = some (.int .i64 0) := KZ.out.cell 3; have g3 : wa.frozen? ⟨w.heap.size + 1 + 1, 3, none⟩ = false := KZ.out.frozen 3; have z4 : wa.cell? ⟨w.heap.size + 1 + 1, 4, none⟩ = some (.bool false) := KZ.out.cell 4; have g4 : wa.frozen? ⟨w.heap.size + 1 + 1, 4, none⟩ = false := KZ.out.frozen 4; have z5 : wa.cell? ⟨w.heap.size + 1 + 1, 5, none⟩ = some (.slice none 0 0) := KZ.out.cell 5; have g5 : wa.frozen? ⟨w.heap.size + 1 + 1, 5, none⟩ = false := KZ.out.frozen 5; have z6 : wa.cell? ⟨w.heap.size + 1 + 1, 6, none⟩ = some (.slice none 0 0) := KZ.out.cell 6; have g6 : wa.frozen? ⟨w.heap.size + 1 + 1, 6, none⟩ = false := KZ.out.frozen 6; have z7 : wa.cell? ⟨w.heap.size + 1 + 1, 7, none⟩ = some (.slice none 0 0) := KZ.out.cell 7; have g7 : wa.frozen? ⟨w.heap.size + 1 + 1, 7, none⟩ = false := KZ.out.frozen 7; have z8 : wa.cell? ⟨w.heap.size + 1 + 1, 8, none⟩ = some (.int .i64 0) := KZ.out.cell 8; have g8 : wa.frozen? ⟨w.heap.size + 1 + 1, 8, none⟩ = false := KZ.out.frozen 8; have z9 : wa.cell? ⟨w.heap.size + 1 + 1, 9, none⟩ = some (.string ⟨#[]⟩) := KZ.out.cell 9; have g9 : wa.frozen? ⟨w.heap.size + 1 + 1, 9, none⟩ = false := KZ.out.frozen 9; have z10 : wa.cell? ⟨w.heap.size + 1 + 1, 10, none⟩ = some (.string ⟨#[]⟩) := KZ.out.cell 10; have g10 : wa.frozen? ⟨w.heap.size + 1 + 1, 10, none⟩ = false := KZ.out.frozen 10)
        | (go_simp; go_at_call 33; (with_reducible refine (HY.out _ B0.out).mono ?_); rintro e wb ⟨⟨Bi, mi, di, xa, xp, xm, xv, Bb, mb, db, Bf, mf, df, Bt, mt, dt, xf, xq, xc⟩, rfl, hsb, hbb⟩; have SA := Lib.hid (hsb.lower (lo' := w.heap.size + 1 + 1 + 1) (by omega)); have KP := Lib.hid (KP.out.below hbb KP.out.lt); have KR := Lib.hid (KR.out.below hbb KR.out.lt); have KZ := Lib.hid (KZ.out.below hbb KZ.out.lt); have B0 := Lib.hid (B0.out.trans (hbb.mono B0.out.size)); have hz1 := Nat.lt_of_lt_of_le hz1 hbb.size; (try (have OA := Lib.hid (OA.out.keep hbb))); clear hsb hbb; have q0 : wb.cell? ⟨w.heap.size, 0, none⟩ = some (.slice (some ad) (m + 1) c) := KP.out.cell 0; obtain ⟨e0, e1, e2, e3, e4, e5, e6, e7, e8, e9, e10⟩ := CW.out wb B0.out; have r0 : wb.cell? ⟨w.heap.size + 1, 0, none⟩ = some (.slice none 0 0) := KR.out.cell 0; have r1 : wb.frozen? ⟨w.heap.size + 1, 0, none⟩ = false := KR.out.frozen 0; have z0 : wb.cell? ⟨w.heap.size + 1 + 1, 0, none⟩ = some (.slice none 0 0) := KZ.out.cell 0; have g0 : wb.frozen? ⟨w.heap.size + 1 + 1, 0, none⟩ = false := KZ.out.frozen 0; have z1 : wb.cell? ⟨w.heap.size + 1 + 1, 1, none⟩ = some (.int .i64 0) := KZ.out.cell 1; have g1 : wb.frozen? ⟨w.heap.size + 1 + 1, 1, none⟩ = false := KZ.out.frozen 1; have z2 : wb.cell? ⟨w.heap.size + 1 + 1, 2, none⟩ = some (.string ⟨#[]⟩) := KZ.out.cell 2; have g2 : wb.frozen? ⟨w.heap.size + 1 + 1, 2, none⟩ = false := KZ.out.frozen 2; have z3 : wb.cell? ⟨w.heap.size + 1 + 1, 3, none⟩ = some (.int .i64 0) := KZ.out.cell 3; have g3 : wb.frozen? ⟨w.heap.size + 1 + 1, 3, none⟩ = false := KZ.out.frozen 3; have z4 : wb.cell? ⟨w.heap.size + 1 + 1, 4, none⟩ = some (.bool false) := KZ.out.cell 4; have g4 : wb.frozen? ⟨w.heap.size + 1 + 1, 4, none⟩ = false := KZ.out.frozen 4; have z5 : wb.cell? ⟨w.heap.size + 1 + 1, 5, none⟩ = some (.slice none 0 0) := KZ.out.cell 5; have g5 : wb.frozen? ⟨w.heap.size + 1 + 1, 5, none⟩ = false := KZ.out.frozen 5; have z6 : wb.cell? ⟨w.heap.size + 1 + 1, 6, none⟩ = some (.slice none 0 0) := KZ.out.cell 6; have g6 : wb.frozen? ⟨w.heap.size + 1 + 1, 6, none⟩ = false := KZ.out.frozen 6; have z7 : wb.cell? ⟨w.heap.size + 1 + 1, 7, none⟩ = some (.slice none 0 0) := KZ.out.cell 7; have g7 : wb.frozen? ⟨w.heap.size + 1 + 1, 7, none⟩ = false := KZ.out.frozen 7; have z8 : wb.cell? ⟨w.heap.size + 1 + 1, 8, none⟩ = some (.int .i64 0) := KZ.out.cell 8; have g8 : wb.frozen? ⟨w.heap.size + 1 + 1, 8, none⟩ = false := KZ.out.frozen 8; have z9 : wb.cell? ⟨w.heap.size + 1 + 1, 9, none⟩ = some (.string ⟨#[]⟩) := KZ.out.cell 9; have g9 : wb.frozen? ⟨w.heap.size + 1 + 1, 9, none⟩ = false := KZ.out.frozen 9; have z10 : wb.cell? ⟨w.heap.size + 1 + 1, 10, none⟩ = some (.string ⟨#[]⟩) := KZ.out.cell 10; have g10 : wb.frozen? ⟨w.heap.size + 1 + 1, 10, none⟩ = false := KZ.out.frozen 10))
      all_goals
        go_wp2_with fail
        have ZF : Hid (Blk ((((((((((((wb.setCell ⟨w.heap.size + 1, 0, none⟩ (.slice Av rs.length cv)).setCell ⟨w.heap.size + 1 + 1, 0, none⟩ (.slice Bi mi di)).setCell ⟨w.heap.size + 1 + 1, 1, none⟩ (.int .i64 xa)).setCell ⟨w.heap.size + 1 + 1, 2, none⟩ (.string xp)).setCell ⟨w.heap.size + 1 + 1, 3, none⟩ (.int .i64 xm)).setCell ⟨w.heap.size + 1 + 1, 4, none⟩ (.bool xv)).setCell ⟨w.heap.size + 1 + 1, 5, none⟩ (.slice Bb mb db)).setCell ⟨w.heap.size + 1 + 1, 6, none⟩ (.slice Bf mf df)).setCell ⟨w.heap.size + 1 + 1, 7, none⟩ (.slice Bt mt dt)).setCell ⟨w.heap.size + 1 + 1, 8, none⟩ (.int .i64 xf)).setCell ⟨w.heap.size + 1 + 1, 9, none⟩ (.string xq)).setCell ⟨w.heap.size + 1 + 1, 10, none⟩ (.string xc)) (w.heap.size + 1 + 1) 31 #[.slice Bi mi di, .int .i64 xa, .string xp, .int .i64 xm, .bool xv, .slice Bb mb db, .slice Bf mf df, .slice Bt mt dt, .int .i64 xf, .string xq, .string xc]) := Lib.hid (Blk.set11 (KZ.out.far (by simp) (.slice Av rs.length cv)) (.slice Bi mi di) (.int .i64 xa) (.string xp) (.int .i64 xm) (.bool xv) (.slice Bb mb db) (.slice Bf mf df) (.slice Bt mt dt) (.int .i64 xf) (.string xq) (.string xc))
        have RF : Hid (Blk ((((((((((((wb.setCell ⟨w.heap.size + 1, 0, none⟩ (.slice Av rs.length cv)).setCell ⟨w.heap.size + 1 + 1, 0, none⟩ (.slice Bi mi di)).setCell ⟨w.heap.size + 1 + 1, 1, none⟩ (.int .i64 xa)).setCell ⟨w.heap.size + 1 + 1, 2, none⟩ (.string xp)).setCell ⟨w.heap.size + 1 + 1, 3, none⟩ (.int .i64 xm)).setCell ⟨w.heap.size + 1 + 1, 4, none⟩ (.bool xv)).setCell ⟨w.heap.size + 1 + 1, 5, none⟩ (.slice Bb mb db)).setCell ⟨w.heap.size + 1 + 1, 6, none⟩ (.slice Bf mf df)).setCell ⟨w.heap.size + 1 + 1, 7, none⟩ (.slice Bt mt dt)).setCell ⟨w.heap.size + 1 + 1, 8, none⟩ (.int .i64 xf)).setCell ⟨w.heap.size + 1 + 1, 9, none⟩ (.string xq)).setCell ⟨w.heap.size + 1 + 1, 10, none⟩ (.string xc)) (w.heap.size + 1) 46 #[.slice Av rs.length cv]) := Lib.hid (blk_far11 (KR.out.set_ 0 (.slice Av rs.length cv)) (by simp) (.slice Bi mi di) (.int .i64 xa) (.string xp) (.int .i64 xm) (.bool xv) (.slice Bb mb db) (.slice Bf mf df) (.slice Bt mt dt) (.int .i64 xf) (.string xq) (.string xc))
        have BF : Hid (Below w.heap.size w ((((((((((((wb.setCell ⟨w.heap.size + 1, 0, none⟩ (.slice Av rs.length cv)).setCell ⟨w.heap.size + 1 + 1, 0, none⟩ (.slice Bi mi di)).setCell ⟨w.heap.size + 1 + 1, 1, none⟩ (.int .i64 xa)).setCell ⟨w.heap.size + 1 + 1, 2, none⟩ (.string xp)).setCell ⟨w.heap.size + 1 + 1, 3, none⟩ (.int .i64 xm)).setCell ⟨w.heap.size + 1 + 1, 4, none⟩ (.bool xv)).setCell ⟨w.heap.size + 1 + 1, 5, none⟩ (.slice Bb mb db)).setCell ⟨w.heap.size + 1 + 1, 6, none⟩ (.slice Bf mf df)).setCell ⟨w.heap.size + 1 + 1, 7, none⟩ (.slice Bt mt dt)).setCell ⟨w.heap.size + 1 + 1, 8, none⟩ (.int .i64 xf)).setCell ⟨w.heap.size + 1 + 1, 9, none⟩ (.string xq)).setCell ⟨w.heap.size + 1 + 1, 10, none⟩ (.string xc))) := Lib.hid (below_set11 (B0.out.setCell (p := ⟨w.heap.size + 1, 0, none⟩) (Nat.le_succ _) (.slice Av rs.length cv)) (by omega) (.slice Bi mi di) (.int .i64 xa) (.string xp) (.int .i64 xm) (.bool xv) (.slice Bb mb db) (.slice Bf mf df) (.slice Bt mt dt) (.int .i64 xf) (.string xq) (.string xc))
        have OF := Lib.hid (OP.set11 (OA.out.setl (g := w.heap.size + 1) (by omega) 0 (.slice Av rs.length cv)) (g := w.heap.size + 1 + 1) (by omega) (.slice Bi mi di) (.int .i64 xa) (.string xp) (.int .i64 xm) (.bool xv) (.slice Bb mb db) (.slice Bf mf df) (.slice Bt mt dt) (.int .i64 xf) (.string xq) (.string xc))
        have SF := Lib.hid (SpOwn.set11 (SA.out.setl (g := w.heap.size + 1) (by omega) 0 (.slice Av rs.length cv)) (g := w.heap.size + 1 + 1) (by omega) (.slice Bi mi di) (.int .i64 xa) (.string xp) (.int .i64 xm) (.bool xv) (.slice Bb mb db) (.slice Bf mf df) (.slice Bt mt dt) (.int .i64 xf) (.string xq) (.string xc))
        generalize ((((((((((((wb.setCell ⟨w.heap.size + 1, 0, none⟩ (.slice Av rs.length cv)).setCell ⟨w.heap.size + 1 + 1, 0, none⟩ (.slice Bi mi di)).setCell ⟨w.heap.size + 1 + 1, 1, none⟩ (.int .i64 xa)).setCell ⟨w.heap.size + 1 + 1, 2, none⟩ (.string xp)).setCell ⟨w.heap.size + 1 + 1, 3, none⟩ (.int .i64 xm)).setCell ⟨w.heap.size + 1 + 1, 4, none⟩ (.bool xv)).setCell ⟨w.heap.size + 1 + 1, 5, none⟩ (.slice Bb mb db)).setCell ⟨w.heap.size + 1 + 1, 6, none⟩ (.slice Bf mf df)).setCell ⟨w.heap.size + 1 + 1, 7, none⟩ (.slice Bt mt dt)).setCell ⟨w.heap.size + 1 + 1, 8, none⟩ (.int .i64 xf)).setCell ⟨w.heap.size + 1 + 1, 9, none⟩ (.string xq)).setCell ⟨w.heap.size + 1 + 1, 10, none⟩ (.string xc)) = wf at ZF RF BF OF SF ⊢
        have y : wf.cell? ⟨w.heap.size + 1, 0, none⟩ = some (.slice Av rs.length cv) := RF.out.cell 0
        have y0 : wf.cell? ⟨w.heap.size + 1 + 1, 0, none⟩ = some (.slice Bi mi di) := ZF.out.cell 0
        have y1 : wf.cell? ⟨w.heap.size + 1 + 1, 1, none⟩ = some (.int .i64 xa) := ZF.out.cell 1
        have y2 : wf.cell? ⟨w.heap.size + 1 + 1, 2, none⟩ = some (.string xp) := ZF.out.cell 2
        have y3 : wf.cell? ⟨w.heap.size + 1 + 1, 3, none⟩ = some (.int .i64 xm) := ZF.out.cell 3
        have y4 : wf.cell? ⟨w.heap.size + 1 + 1, 4, none⟩ = some (.bool xv) := ZF.out.cell 4
        have y5 : wf.cell? ⟨w.heap.size + 1 + 1, 5, none⟩ = some (.slice Bb mb db) := ZF.out.cell 5
        have y6 : wf.cell? ⟨w.heap.size + 1 + 1, 6, none⟩ = some (.slice Bf mf df) := ZF.out.cell 6
        have y7 : wf.cell? ⟨w.heap.size + 1 + 1, 7, none⟩ = some (.slice Bt mt dt) := ZF.out.cell 7
        have y8 : wf.cell? ⟨w.heap.size + 1 + 1, 8, none⟩ = some (.int .i64 xf) := ZF.out.cell 8
        have y9 : wf.cell? ⟨w.heap.size + 1 + 1, 9, none⟩ = some (.string xq) := ZF.out.cell 9
        have y10 : wf.cell? ⟨w.heap.size + 1 + 1, 10, none⟩ = some (.string xc) := ZF.out.cell 10
        refine bodyPost_ret (by simp [results, Tryd.results20, go_sem, y, y0, y1, y2, y3, y4, y5, y6, y7, y8, y9, y10]; rfl) rfl ?_
        refine ⟨_, ⟨Bi, mi, di, xa, xp, xm, xv, Bb, mb, db, Bf, mf, df, Bt, mt, dt, xf, xq, xc⟩, by rw [HV.out]; rfl, rs, (OF.out.lower (by omega)).pl, ?_, ?_, BF.out⟩
        · rw [HV.out, HM.out]; exact HPT.out
        · rw [HV.out]; exact SF.out.lower (by omega)
end Go.Proofs.YtebjfigjfhghcaaDoor.Und
