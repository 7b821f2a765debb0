/-
  The law UndoApplies. Conditions: the step can be read, its lengths and the text are bounded; the tables lie. (Printed by gen/undlaws.py.)
-/
import Derived.Test.YtebjfigjfhghcaaDoorUndGiv40
import Derived.Test.YtebjfigjfhghcaaDoorUndRef3
import Derived.Test.YtebjfigjfhghcaaDoorUndApply
import Derived.Test.YtebjfigjfhghcaaDoorUndWorks
namespace Go.Proofs.YtebjfigjfhghcaaDoor.Und
open Go.RowKit Wd Utf

set_option maxRecDepth 100000 in
set_option maxHeartbeats 8000000 in
theorem applies_any (t : ByteArray) (r : Sp) (q : Stp) (w : World) (hT : Tabs w) (hq : SpIn w r q) (ht : t.size ≤ 9223372036854775807) :
    Calls Tryd.prog 6 #[.string t, .agg r.cells] w fun e w' => e = .returned (.bool true) ∧ Below w.heap.size w w' := by
  have B : Hid (Below w.heap.size w (w.alloc (.cells r.cells 31))) := Lib.hid ((Below.refl _ _).alloc (Nat.le_refl _) _)
  have K : Hid (Blk (w.alloc (.cells r.cells 31)) w.heap.size 31 r.cells) := Lib.hid (Blk.new w _ _)
  have HG := Lib.hid (fun (W : World) (hW : Below w.heap.size w W) => given40_any r q W (hq.keep hW))
  have HA := Lib.hid (fun (W : World) (hW : Below w.heap.size w W) => apply_any t r q W (hT.keep hW) (hq.keep hW) ht)
  have HW := Lib.hid (fun (W : World) (hW : Below w.heap.size w W) => works_any W (hT.keep hW))
  clear hT hq
  obtain ⟨Ai, ni, ci, caret, pend, mode, conv, Ab, nb, cb, Af, nf, cf, At, nt, ct, focus, prev, commit⟩ := r
  unfold Sp.cells at B K HG HA
  unfold Sp.cells
  simp only at B K HG HA
  go_enter Tryd.func6, Tryd.ntmps6
  go_upto_region 1 with fail
  generalize (w.alloc (.cells #[.slice Ai ni ci, .int .i64 caret, .string pend, .int .i64 mode, .bool conv, .slice Ab nb cb, .slice Af nf cf, .slice At nt ct, .int .i64 focus, .string prev, .string commit] 31)) = W0 at B K ⊢
  have k0 : W0.cell? ⟨w.heap.size, 0, none⟩ = some (.slice Ai ni ci) := K.out.cell 0
  have k1 : W0.cell? ⟨w.heap.size, 1, none⟩ = some (.int .i64 caret) := K.out.cell 1
  have k2 : W0.cell? ⟨w.heap.size, 2, none⟩ = some (.string pend) := K.out.cell 2
  have k3 : W0.cell? ⟨w.heap.size, 3, none⟩ = some (.int .i64 mode) := K.out.cell 3
  have k4 : W0.cell? ⟨w.heap.size, 4, none⟩ = some (.bool conv) := K.out.cell 4
  have k5 : W0.cell? ⟨w.heap.size, 5, none⟩ = some (.slice Ab nb cb) := K.out.cell 5
  have k6 : W0.cell? ⟨w.heap.size, 6, none⟩ = some (.slice Af nf cf) := K.out.cell 6
  have k7 : W0.cell? ⟨w.heap.size, 7, none⟩ = some (.slice At nt ct) := K.out.cell 7
  have k8 : W0.cell? ⟨w.heap.size, 8, none⟩ = some (.int .i64 focus) := K.out.cell 8
  have k9 : W0.cell? ⟨w.heap.size, 9, none⟩ = some (.string prev) := K.out.cell 9
  have k10 : W0.cell? ⟨w.heap.size, 10, none⟩ = some (.string commit) := K.out.cell 10
  go_wp2_with fail
  with_reducible refine (HA.out _ B.out).mono ?_
  rintro e w1 ⟨rfl, hb⟩
  have K := Lib.hid (K.out.below hb K.out.lt)
  have B := Lib.hid (B.out.trans (hb.mono B.out.size))
  clear hb k0 k1 k2 k3 k4 k5 k6 k7 k8 k9 k10
  have k0 : w1.cell? ⟨w.heap.size, 0, none⟩ = some (.slice Ai ni ci) := K.out.cell 0
  have k1 : w1.cell? ⟨w.heap.size, 1, none⟩ = some (.int .i64 caret) := K.out.cell 1
  have k2 : w1.cell? ⟨w.heap.size, 2, none⟩ = some (.string pend) := K.out.cell 2
  have k3 : w1.cell? ⟨w.heap.size, 3, none⟩ = some (.int .i64 mode) := K.out.cell 3
  have k4 : w1.cell? ⟨w.heap.size, 4, none⟩ = some (.bool conv) := K.out.cell 4
  have k5 : w1.cell? ⟨w.heap.size, 5, none⟩ = some (.slice Ab nb cb) := K.out.cell 5
  have k6 : w1.cell? ⟨w.heap.size, 6, none⟩ = some (.slice Af nf cf) := K.out.cell 6
  have k7 : w1.cell? ⟨w.heap.size, 7, none⟩ = some (.slice At nt ct) := K.out.cell 7
  have k8 : w1.cell? ⟨w.heap.size, 8, none⟩ = some (.int .i64 focus) := K.out.cell 8
  have k9 : w1.cell? ⟨w.heap.size, 9, none⟩ = some (.string prev) := K.out.cell 9
  have k10 : w1.cell? ⟨w.heap.size, 10, none⟩ = some (.string commit) := K.out.cell 10
  go_wp2_with fail
  with_reducible refine (HG.out _ B.out).mono ?_
  rintro e w2 ⟨r1, rfl, hfr, hb⟩
  have HV := Lib.hid (applyR_any t r1 q w2 hfr.inn ht)
  have K := Lib.hid (K.out.below hb K.out.lt)
  have B := Lib.hid (B.out.trans (hb.mono B.out.size))
  clear hb k0 k1 k2 k3 k4 k5 k6 k7 k8 k9 k10
  clear hfr
  unfold Sp.cells at HV
  generalize applyS t q = y at HV HA ⊢
  obtain ⟨y1, y2⟩ := y
  simp only at HV
  go_wp2_with fail
  with_reducible refine (HV.out).mono ?_
  rintro e w3 ⟨rfl, hb⟩
  have K := Lib.hid (K.out.below hb K.out.lt)
  have B := Lib.hid (B.out.trans (hb.mono B.out.size))
  clear hb 
  have hyy : (y1.toList == y1.toList) = true := by simp
  go_wp2_with fail
  with_reducible refine (HW.out _ B.out).mono ?_
  rintro e w4 ⟨rfl, hb⟩
  have K := Lib.hid (K.out.below hb K.out.lt)
  have B := Lib.hid (B.out.trans (hb.mono B.out.size))
  clear hb 
  go_wp2_with fail
  go_ret
  exact ⟨rfl, B.out⟩
end Go.Proofs.YtebjfigjfhghcaaDoor.Und
