/-
  The contract of Pop of package henkanref40. Conditions: the steps can be read, their lengths are bounded. (Printed by gen/undref2.py.)
-/
import Derived.Test.YtebjfigjfhghcaaDoorUndPlain
import Derived.Test.YtebjfigjfhghcaaDoorUndValR
import Derived.Test.YtebjfigjfhghcaaDoorUndApply
import Derived.BigRegion
import Derived.Deep.RegionWith
import Derived.Deep.RegionHeld3
import Derived.Deep.RegionLaw
namespace Go.Proofs.YtebjfigjfhghcaaDoor.Und
open Go.RowKit Wd Utf

set_option maxRecDepth 100000 in
set_option maxHeartbeats 8000000 in
theorem popR_any (A : Option Addr) (n c : Nat) (ps : List (Sp × Stp)) (w : World) (hs : RP w A n ps) (hn : n ≤ 1048576) (hc : n ≤ c) :
    Calls Tryd.prog 21 #[.slice A n c] w fun e w' => ∃ v r, e = .returned (.tuple #[v, .agg r.cells, .bool (popV (ps.map (·.2))).2.2]) ∧ (∃ A' m c' rs, v = .slice A' m c' ∧ RP w' A' m rs ∧ rs.map (·.2) = (popV (ps.map (·.2))).1) ∧ SpIn w' r (popV (ps.map (·.2))).2.1 ∧ Below w.heap.size w w' := by
  have HLN := Lib.hid hs.len
  have B0 : Hid (Below w.heap.size w (w.alloc (.cells #[.slice none 0 0, .int .i64 0, .string ⟨#[]⟩, .int .i64 0, .bool false, .slice none 0 0, .slice none 0 0, .slice none 0 0, .int .i64 0, .string ⟨#[]⟩, .string ⟨#[]⟩] 39))) := Lib.hid ((Below.refl _ _).alloc (Nat.le_refl _) _)
  have KZ : Hid (Blk (w.alloc (.cells #[.slice none 0 0, .int .i64 0, .string ⟨#[]⟩, .int .i64 0, .bool false, .slice none 0 0, .slice none 0 0, .slice none 0 0, .int .i64 0, .string ⟨#[]⟩, .string ⟨#[]⟩] 39)) w.heap.size 39 #[.slice none 0 0, .int .i64 0, .string ⟨#[]⟩, .int .i64 0, .bool false, .slice none 0 0, .slice none 0 0, .slice none 0 0, .int .i64 0, .string ⟨#[]⟩, .string ⟨#[]⟩]) := Lib.hid (Blk.new w _ _)
  rcases n with _ | m
  · have HV : Hid (popV (ps.map (·.2)) = ([], zeroS, false)) := Lib.hid (by rw [List.length_eq_zero_iff.1 HLN.out]; rfl)
    clear hs HLN
    go_enter Tryd.func21, Tryd.ntmps21
    go_upto_region 1 with fail
    generalize (w.alloc (.cells #[.slice none 0 0, .int .i64 0, .string ⟨#[]⟩, .int .i64 0, .bool false, .slice none 0 0, .slice none 0 0, .slice none 0 0, .int .i64 0, .string ⟨#[]⟩, .string ⟨#[]⟩] 39)) = W0 at B0 KZ ⊢
    have z0 : W0.cell? ⟨w.heap.size, 0, none⟩ = some (.slice none 0 0) := KZ.out.cell 0
    have g0 : W0.frozen? ⟨w.heap.size, 0, none⟩ = false := KZ.out.frozen 0
    have z1 : W0.cell? ⟨w.heap.size, 1, none⟩ = some (.int .i64 0) := KZ.out.cell 1
    have g1 : W0.frozen? ⟨w.heap.size, 1, none⟩ = false := KZ.out.frozen 1
    have z2 : W0.cell? ⟨w.heap.size, 2, none⟩ = some (.string ⟨#[]⟩) := KZ.out.cell 2
    have g2 : W0.frozen? ⟨w.heap.size, 2, none⟩ = false := KZ.out.frozen 2
    have z3 : W0.cell? ⟨w.heap.size, 3, none⟩ = some (.int .i64 0) := KZ.out.cell 3
    have g3 : W0.frozen? ⟨w.heap.size, 3, none⟩ = false := KZ.out.frozen 3
    have z4 : W0.cell? ⟨w.heap.size, 4, none⟩ = some (.bool false) := KZ.out.cell 4
    have g4 : W0.frozen? ⟨w.heap.size, 4, none⟩ = false := KZ.out.frozen 4
    have z5 : W0.cell? ⟨w.heap.size, 5, none⟩ = some (.slice none 0 0) := KZ.out.cell 5
    have g5 : W0.frozen? ⟨w.heap.size, 5, none⟩ = false := KZ.out.frozen 5
    have z6 : W0.cell? ⟨w.heap.size, 6, none⟩ = some (.slice none 0 0) := KZ.out.cell 6
    have g6 : W0.frozen? ⟨w.heap.size, 6, none⟩ = false := KZ.out.frozen 6
    have z7 : W0.cell? ⟨w.heap.size, 7, none⟩ = some (.slice none 0 0) := KZ.out.cell 7
    have g7 : W0.frozen? ⟨w.heap.size, 7, none⟩ = false := KZ.out.frozen 7
    have z8 : W0.cell? ⟨w.heap.size, 8, none⟩ = some (.int .i64 0) := KZ.out.cell 8
    have g8 : W0.frozen? ⟨w.heap.size, 8, none⟩ = false := KZ.out.frozen 8
    have z9 : W0.cell? ⟨w.heap.size, 9, none⟩ = some (.string ⟨#[]⟩) := KZ.out.cell 9
    have g9 : W0.frozen? ⟨w.heap.size, 9, none⟩ = false := KZ.out.frozen 9
    have z10 : W0.cell? ⟨w.heap.size, 10, none⟩ = some (.string ⟨#[]⟩) := KZ.out.cell 10
    have g10 : W0.frozen? ⟨w.heap.size, 10, none⟩ = false := KZ.out.frozen 10
    go_wp2_with fail
    have ZF : Hid (Blk (((((((((((W0.setCell ⟨w.heap.size, 0, none⟩ (.slice none 0 0)).setCell ⟨w.heap.size, 1, none⟩ (.int .i64 0)).setCell ⟨w.heap.size, 2, none⟩ (.string ⟨#[]⟩)).setCell ⟨w.heap.size, 3, none⟩ (.int .i64 0)).setCell ⟨w.heap.size, 4, none⟩ (.bool false)).setCell ⟨w.heap.size, 5, none⟩ (.slice none 0 0)).setCell ⟨w.heap.size, 6, none⟩ (.slice none 0 0)).setCell ⟨w.heap.size, 7, none⟩ (.slice none 0 0)).setCell ⟨w.heap.size, 8, none⟩ (.int .i64 0)).setCell ⟨w.heap.size, 9, none⟩ (.string ⟨#[]⟩)).setCell ⟨w.heap.size, 10, none⟩ (.string ⟨#[]⟩)) w.heap.size 39 #[.slice none 0 0, .int .i64 0, .string ⟨#[]⟩, .int .i64 0, .bool false, .slice none 0 0, .slice none 0 0, .slice none 0 0, .int .i64 0, .string ⟨#[]⟩, .string ⟨#[]⟩]) := Lib.hid (Blk.set11 KZ.out (.slice none 0 0) (.int .i64 0) (.string ⟨#[]⟩) (.int .i64 0) (.bool false) (.slice none 0 0) (.slice none 0 0) (.slice none 0 0) (.int .i64 0) (.string ⟨#[]⟩) (.string ⟨#[]⟩))
    have BF : Hid (Below w.heap.size w (((((((((((W0.setCell ⟨w.heap.size, 0, none⟩ (.slice none 0 0)).setCell ⟨w.heap.size, 1, none⟩ (.int .i64 0)).setCell ⟨w.heap.size, 2, none⟩ (.string ⟨#[]⟩)).setCell ⟨w.heap.size, 3, none⟩ (.int .i64 0)).setCell ⟨w.heap.size, 4, none⟩ (.bool false)).setCell ⟨w.heap.size, 5, none⟩ (.slice none 0 0)).setCell ⟨w.heap.size, 6, none⟩ (.slice none 0 0)).setCell ⟨w.heap.size, 7, none⟩ (.slice none 0 0)).setCell ⟨w.heap.size, 8, none⟩ (.int .i64 0)).setCell ⟨w.heap.size, 9, none⟩ (.string ⟨#[]⟩)).setCell ⟨w.heap.size, 10, none⟩ (.string ⟨#[]⟩))) := Lib.hid (below_set11 B0.out (Nat.le_refl _) (.slice none 0 0) (.int .i64 0) (.string ⟨#[]⟩) (.int .i64 0) (.bool false) (.slice none 0 0) (.slice none 0 0) (.slice none 0 0) (.int .i64 0) (.string ⟨#[]⟩) (.string ⟨#[]⟩))
    generalize (((((((((((W0.setCell ⟨w.heap.size, 0, none⟩ (.slice none 0 0)).setCell ⟨w.heap.size, 1, none⟩ (.int .i64 0)).setCell ⟨w.heap.size, 2, none⟩ (.string ⟨#[]⟩)).setCell ⟨w.heap.size, 3, none⟩ (.int .i64 0)).setCell ⟨w.heap.size, 4, none⟩ (.bool false)).setCell ⟨w.heap.size, 5, none⟩ (.slice none 0 0)).setCell ⟨w.heap.size, 6, none⟩ (.slice none 0 0)).setCell ⟨w.heap.size, 7, none⟩ (.slice none 0 0)).setCell ⟨w.heap.size, 8, none⟩ (.int .i64 0)).setCell ⟨w.heap.size, 9, none⟩ (.string ⟨#[]⟩)).setCell ⟨w.heap.size, 10, none⟩ (.string ⟨#[]⟩)) = wf at ZF BF ⊢
    have y0 : wf.cell? ⟨w.heap.size, 0, none⟩ = some (.slice none 0 0) := ZF.out.cell 0
    have y1 : wf.cell? ⟨w.heap.size, 1, none⟩ = some (.int .i64 0) := ZF.out.cell 1
    have y2 : wf.cell? ⟨w.heap.size, 2, none⟩ = some (.string ⟨#[]⟩) := ZF.out.cell 2
    have y3 : wf.cell? ⟨w.heap.size, 3, none⟩ = some (.int .i64 0) := ZF.out.cell 3
    have y4 : wf.cell? ⟨w.heap.size, 4, none⟩ = some (.bool false) := ZF.out.cell 4
    have y5 : wf.cell? ⟨w.heap.size, 5, none⟩ = some (.slice none 0 0) := ZF.out.cell 5
    have y6 : wf.cell? ⟨w.heap.size, 6, none⟩ = some (.slice none 0 0) := ZF.out.cell 6
    have y7 : wf.cell? ⟨w.heap.size, 7, none⟩ = some (.slice none 0 0) := ZF.out.cell 7
    have y8 : wf.cell? ⟨w.heap.size, 8, none⟩ = some (.int .i64 0) := ZF.out.cell 8
    have y9 : wf.cell? ⟨w.heap.size, 9, none⟩ = some (.string ⟨#[]⟩) := ZF.out.cell 9
    have y10 : wf.cell? ⟨w.heap.size, 10, none⟩ = some (.string ⟨#[]⟩) := ZF.out.cell 10
    refine bodyPost_ret (by simp [results, Tryd.results21, go_sem, y0, y1, y2, y3, y4, y5, y6, y7, y8, y9, y10]; rfl) rfl ?_
    exact ⟨_, zeroP, by rw [HV.out]; rfl, ⟨none, 0, 0, [], rfl, RP.nil _ _, by rw [HV.out]; rfl⟩, by rw [HV.out]; exact (zeroP_own 39 0 _).inn, BF.out⟩
  · obtain ⟨ad, ⟨r0, q⟩, rfl, hp, hin, hbk, hcw⟩ := hs.all_ (Nat.lt_succ_self m)
    have HK := Lib.hid (fun (W : World) (hW : Below w.heap.size w W) => validR_any r0 q W (hin.keep hW))
    have HPQ : Hid ((ps.map (·.2))[m]? = some q) := Lib.hid (by rw [List.getElem?_map, hp]; rfl)
    have HPL : Hid ((ps.map (·.2)).length = m + 1) := Lib.hid (by rw [List.length_map, HLN.out])
    have HPT : Hid ((ps.take m).map (·.2) = (ps.map (·.2)).take m) := Lib.hid (by rw [List.map_take])
    have HIN := Lib.hid hin
    have HST := Lib.hid (hs.take (Nat.le_succ m))
    obtain ⟨Ai, ni, ci, caret, pend, mode, conv, Ab, nb, cb, Af, nf, cf, At, nt, ct, focus, prev, commit⟩ := r0
    unfold Sp.cells at HK
    simp only at HK hcw
    have CW := Lib.hid hcw
    clear hs hp hin hcw
    generalize ps.map (·.2) = L at HPQ HPL HPT ⊢
    go_enter Tryd.func21, Tryd.ntmps21
    go_upto_region 1 with fail
    generalize (w.alloc (.cells #[.slice none 0 0, .int .i64 0, .string ⟨#[]⟩, .int .i64 0, .bool false, .slice none 0 0, .slice none 0 0, .slice none 0 0, .int .i64 0, .string ⟨#[]⟩, .string ⟨#[]⟩] 39)) = W0 at B0 KZ ⊢
    obtain ⟨e0, e1, e2, e3, e4, e5, e6, e7, e8, e9, e10⟩ := CW.out W0 B0.out
    go_wp2_with fail
    with_reducible refine (HK.out _ B0.out).mono ?_
    rintro e w1 ⟨rfl, hb1⟩
    have KZ := Lib.hid (KZ.out.below hb1 KZ.out.lt)
    have B0 := Lib.hid (B0.out.trans (hb1.mono B0.out.size))
    clear hb1 e0 e1 e2 e3 e4 e5 e6 e7 e8 e9 e10 HK
    rcases ho : okB q with _ | _
    · have HV := Lib.hid (popV_bad HPL.out HPQ.out ho)
      clear ho
      have z0 : w1.cell? ⟨w.heap.size, 0, none⟩ = some (.slice none 0 0) := KZ.out.cell 0
      have g0 : w1.frozen? ⟨w.heap.size, 0, none⟩ = false := KZ.out.frozen 0
      have z1 : w1.cell? ⟨w.heap.size, 1, none⟩ = some (.int .i64 0) := KZ.out.cell 1
      have g1 : w1.frozen? ⟨w.heap.size, 1, none⟩ = false := KZ.out.frozen 1
      have z2 : w1.cell? ⟨w.heap.size, 2, none⟩ = some (.string ⟨#[]⟩) := KZ.out.cell 2
      have g2 : w1.frozen? ⟨w.heap.size, 2, none⟩ = false := KZ.out.frozen 2
      have z3 : w1.cell? ⟨w.heap.size, 3, none⟩ = some (.int .i64 0) := KZ.out.cell 3
      have g3 : w1.frozen? ⟨w.heap.size, 3, none⟩ = false := KZ.out.frozen 3
      have z4 : w1.cell? ⟨w.heap.size, 4, none⟩ = some (.bool false) := KZ.out.cell 4
      have g4 : w1.frozen? ⟨w.heap.size, 4, none⟩ = false := KZ.out.frozen 4
      have z5 : w1.cell? ⟨w.heap.size, 5, none⟩ = some (.slice none 0 0) := KZ.out.cell 5
      have g5 : w1.frozen? ⟨w.heap.size, 5, none⟩ = false := KZ.out.frozen 5
      have z6 : w1.cell? ⟨w.heap.size, 6, none⟩ = some (.slice none 0 0) := KZ.out.cell 6
      have g6 : w1.frozen? ⟨w.heap.size, 6, none⟩ = false := KZ.out.frozen 6
      have z7 : w1.cell? ⟨w.heap.size, 7, none⟩ = some (.slice none 0 0) := KZ.out.cell 7
      have g7 : w1.frozen? ⟨w.heap.size, 7, none⟩ = false := KZ.out.frozen 7
      have z8 : w1.cell? ⟨w.heap.size, 8, none⟩ = some (.int .i64 0) := KZ.out.cell 8
      have g8 : w1.frozen? ⟨w.heap.size, 8, none⟩ = false := KZ.out.frozen 8
      have z9 : w1.cell? ⟨w.heap.size, 9, none⟩ = some (.string ⟨#[]⟩) := KZ.out.cell 9
      have g9 : w1.frozen? ⟨w.heap.size, 9, none⟩ = false := KZ.out.frozen 9
      have z10 : w1.cell? ⟨w.heap.size, 10, none⟩ = some (.string ⟨#[]⟩) := KZ.out.cell 10
      have g10 : w1.frozen? ⟨w.heap.size, 10, none⟩ = false := KZ.out.frozen 10
      go_wp2_with fail
      have ZF : Hid (Blk (((((((((((w1.setCell ⟨w.heap.size, 0, none⟩ (.slice none 0 0)).setCell ⟨w.heap.size, 1, none⟩ (.int .i64 0)).setCell ⟨w.heap.size, 2, none⟩ (.string ⟨#[]⟩)).setCell ⟨w.heap.size, 3, none⟩ (.int .i64 0)).setCell ⟨w.heap.size, 4, none⟩ (.bool false)).setCell ⟨w.heap.size, 5, none⟩ (.slice none 0 0)).setCell ⟨w.heap.size, 6, none⟩ (.slice none 0 0)).setCell ⟨w.heap.size, 7, none⟩ (.slice none 0 0)).setCell ⟨w.heap.size, 8, none⟩ (.int .i64 0)).setCell ⟨w.heap.size, 9, none⟩ (.string ⟨#[]⟩)).setCell ⟨w.heap.size, 10, none⟩ (.string ⟨#[]⟩)) w.heap.size 39 #[.slice none 0 0, .int .i64 0, .string ⟨#[]⟩, .int .i64 0, .bool false, .slice none 0 0, .slice none 0 0, .slice none 0 0, .int .i64 0, .string ⟨#[]⟩, .string ⟨#[]⟩]) := Lib.hid (Blk.set11 KZ.out (.slice none 0 0) (.int .i64 0) (.string ⟨#[]⟩) (.int .i64 0) (.bool false) (.slice none 0 0) (.slice none 0 0) (.slice none 0 0) (.int .i64 0) (.string ⟨#[]⟩) (.string ⟨#[]⟩))
      have BF : Hid (Below w.heap.size w (((((((((((w1.setCell ⟨w.heap.size, 0, none⟩ (.slice none 0 0)).setCell ⟨w.heap.size, 1, none⟩ (.int .i64 0)).setCell ⟨w.heap.size, 2, none⟩ (.string ⟨#[]⟩)).setCell ⟨w.heap.size, 3, none⟩ (.int .i64 0)).setCell ⟨w.heap.size, 4, none⟩ (.bool false)).setCell ⟨w.heap.size, 5, none⟩ (.slice none 0 0)).setCell ⟨w.heap.size, 6, none⟩ (.slice none 0 0)).setCell ⟨w.heap.size, 7, none⟩ (.slice none 0 0)).setCell ⟨w.heap.size, 8, none⟩ (.int .i64 0)).setCell ⟨w.heap.size, 9, none⟩ (.string ⟨#[]⟩)).setCell ⟨w.heap.size, 10, none⟩ (.string ⟨#[]⟩))) := Lib.hid (below_set11 B0.out (Nat.le_refl _) (.slice none 0 0) (.int .i64 0) (.string ⟨#[]⟩) (.int .i64 0) (.bool false) (.slice none 0 0) (.slice none 0 0) (.slice none 0 0) (.int .i64 0) (.string ⟨#[]⟩) (.string ⟨#[]⟩))
      generalize (((((((((((w1.setCell ⟨w.heap.size, 0, none⟩ (.slice none 0 0)).setCell ⟨w.heap.size, 1, none⟩ (.int .i64 0)).setCell ⟨w.heap.size, 2, none⟩ (.string ⟨#[]⟩)).setCell ⟨w.heap.size, 3, none⟩ (.int .i64 0)).setCell ⟨w.heap.size, 4, none⟩ (.bool false)).setCell ⟨w.heap.size, 5, none⟩ (.slice none 0 0)).setCell ⟨w.heap.size, 6, none⟩ (.slice none 0 0)).setCell ⟨w.heap.size, 7, none⟩ (.slice none 0 0)).setCell ⟨w.heap.size, 8, none⟩ (.int .i64 0)).setCell ⟨w.heap.size, 9, none⟩ (.string ⟨#[]⟩)).setCell ⟨w.heap.size, 10, none⟩ (.string ⟨#[]⟩)) = wf at ZF BF ⊢
      have y0 : wf.cell? ⟨w.heap.size, 0, none⟩ = some (.slice none 0 0) := ZF.out.cell 0
      have y1 : wf.cell? ⟨w.heap.size, 1, none⟩ = some (.int .i64 0) := ZF.out.cell 1
      have y2 : wf.cell? ⟨w.heap.size, 2, none⟩ = some (.string ⟨#[]⟩) := ZF.out.cell 2
      have y3 : wf.cell? ⟨w.heap.size, 3, none⟩ = some (.int .i64 0) := ZF.out.cell 3
      have y4 : wf.cell? ⟨w.heap.size, 4, none⟩ = some (.bool false) := ZF.out.cell 4
      have y5 : wf.cell? ⟨w.heap.size, 5, none⟩ = some (.slice none 0 0) := ZF.out.cell 5
      have y6 : wf.cell? ⟨w.heap.size, 6, none⟩ = some (.slice none 0 0) := ZF.out.cell 6
      have y7 : wf.cell? ⟨w.heap.size, 7, none⟩ = some (.slice none 0 0) := ZF.out.cell 7
      have y8 : wf.cell? ⟨w.heap.size, 8, none⟩ = some (.int .i64 0) := ZF.out.cell 8
      have y9 : wf.cell? ⟨w.heap.size, 9, none⟩ = some (.string ⟨#[]⟩) := ZF.out.cell 9
      have y10 : wf.cell? ⟨w.heap.size, 10, none⟩ = some (.string ⟨#[]⟩) := ZF.out.cell 10
      refine bodyPost_ret (by simp [results, Tryd.results21, go_sem, y0, y1, y2, y3, y4, y5, y6, y7, y8, y9, y10]; rfl) rfl ?_
      exact ⟨_, zeroP, by rw [HV.out]; rfl, ⟨none, 0, 0, [], rfl, RP.nil _ _, by rw [HV.out]; rfl⟩, by rw [HV.out]; exact (zeroP_own 39 0 _).inn, BF.out⟩
    · have HV := Lib.hid (popV_ok HPL.out HPQ.out ho)
      clear ho
      have hmc : m ≤ c := Nat.le_of_succ_le hc
      have hw : IntKind.i64.wrap (m : Int) = (m : Int) := IntWalk.i64_in _ (by omega)
      obtain ⟨e0, e1, e2, e3, e4, e5, e6, e7, e8, e9, e10⟩ := CW.out w1 B0.out
      go_wp2_with fail
      have z0 : w1.cell? ⟨w.heap.size, 0, none⟩ = some (.slice none 0 0) := KZ.out.cell 0
      have g0 : w1.frozen? ⟨w.heap.size, 0, none⟩ = false := KZ.out.frozen 0
      have z1 : w1.cell? ⟨w.heap.size, 1, none⟩ = some (.int .i64 0) := KZ.out.cell 1
      have g1 : w1.frozen? ⟨w.heap.size, 1, none⟩ = false := KZ.out.frozen 1
      have z2 : w1.cell? ⟨w.heap.size, 2, none⟩ = some (.string ⟨#[]⟩) := KZ.out.cell 2
      have g2 : w1.frozen? ⟨w.heap.size, 2, none⟩ = false := KZ.out.frozen 2
      have z3 : w1.cell? ⟨w.heap.size, 3, none⟩ = some (.int .i64 0) := KZ.out.cell 3
      have g3 : w1.frozen? ⟨w.heap.size, 3, none⟩ = false := KZ.out.frozen 3
      have z4 : w1.cell? ⟨w.heap.size, 4, none⟩ = some (.bool false) := KZ.out.cell 4
      have g4 : w1.frozen? ⟨w.heap.size, 4, none⟩ = false := KZ.out.frozen 4
      have z5 : w1.cell? ⟨w.heap.size, 5, none⟩ = some (.slice none 0 0) := KZ.out.cell 5
      have g5 : w1.frozen? ⟨w.heap.size, 5, none⟩ = false := KZ.out.frozen 5
      have z6 : w1.cell? ⟨w.heap.size, 6, none⟩ = some (.slice none 0 0) := KZ.out.cell 6
      have g6 : w1.frozen? ⟨w.heap.size, 6, none⟩ = false := KZ.out.frozen 6
      have z7 : w1.cell? ⟨w.heap.size, 7, none⟩ = some (.slice none 0 0) := KZ.out.cell 7
      have g7 : w1.frozen? ⟨w.heap.size, 7, none⟩ = false := KZ.out.frozen 7
      have z8 : w1.cell? ⟨w.heap.size, 8, none⟩ = some (.int .i64 0) := KZ.out.cell 8
      have g8 : w1.frozen? ⟨w.heap.size, 8, none⟩ = false := KZ.out.frozen 8
      have z9 : w1.cell? ⟨w.heap.size, 9, none⟩ = some (.string ⟨#[]⟩) := KZ.out.cell 9
      have g9 : w1.frozen? ⟨w.heap.size, 9, none⟩ = false := KZ.out.frozen 9
      have z10 : w1.cell? ⟨w.heap.size, 10, none⟩ = some (.string ⟨#[]⟩) := KZ.out.cell 10
      have g10 : w1.frozen? ⟨w.heap.size, 10, none⟩ = false := KZ.out.frozen 10
      go_region
      all_goals
        go_wp2_with fail
        have ZF : Hid (Blk (((((((((((w1.setCell ⟨w.heap.size, 0, none⟩ (.slice Ai ni ci)).setCell ⟨w.heap.size, 1, none⟩ (.int .i64 caret)).setCell ⟨w.heap.size, 2, none⟩ (.string pend)).setCell ⟨w.heap.size, 3, none⟩ (.int .i64 mode)).setCell ⟨w.heap.size, 4, none⟩ (.bool conv)).setCell ⟨w.heap.size, 5, none⟩ (.slice Ab nb cb)).setCell ⟨w.heap.size, 6, none⟩ (.slice Af nf cf)).setCell ⟨w.heap.size, 7, none⟩ (.slice At nt ct)).setCell ⟨w.heap.size, 8, none⟩ (.int .i64 focus)).setCell ⟨w.heap.size, 9, none⟩ (.string prev)).setCell ⟨w.heap.size, 10, none⟩ (.string commit)) w.heap.size 39 #[.slice Ai ni ci, .int .i64 caret, .string pend, .int .i64 mode, .bool conv, .slice Ab nb cb, .slice Af nf cf, .slice At nt ct, .int .i64 focus, .string prev, .string commit]) := Lib.hid (Blk.set11 KZ.out (.slice Ai ni ci) (.int .i64 caret) (.string pend) (.int .i64 mode) (.bool conv) (.slice Ab nb cb) (.slice Af nf cf) (.slice At nt ct) (.int .i64 focus) (.string prev) (.string commit))
        have BF : Hid (Below w.heap.size w (((((((((((w1.setCell ⟨w.heap.size, 0, none⟩ (.slice Ai ni ci)).setCell ⟨w.heap.size, 1, none⟩ (.int .i64 caret)).setCell ⟨w.heap.size, 2, none⟩ (.string pend)).setCell ⟨w.heap.size, 3, none⟩ (.int .i64 mode)).setCell ⟨w.heap.size, 4, none⟩ (.bool conv)).setCell ⟨w.heap.size, 5, none⟩ (.slice Ab nb cb)).setCell ⟨w.heap.size, 6, none⟩ (.slice Af nf cf)).setCell ⟨w.heap.size, 7, none⟩ (.slice At nt ct)).setCell ⟨w.heap.size, 8, none⟩ (.int .i64 focus)).setCell ⟨w.heap.size, 9, none⟩ (.string prev)).setCell ⟨w.heap.size, 10, none⟩ (.string commit))) := Lib.hid (below_set11 B0.out (Nat.le_refl _) (.slice Ai ni ci) (.int .i64 caret) (.string pend) (.int .i64 mode) (.bool conv) (.slice Ab nb cb) (.slice Af nf cf) (.slice At nt ct) (.int .i64 focus) (.string prev) (.string commit))
        generalize (((((((((((w1.setCell ⟨w.heap.size, 0, none⟩ (.slice Ai ni ci)).setCell ⟨w.heap.size, 1, none⟩ (.int .i64 caret)).setCell ⟨w.heap.size, 2, none⟩ (.string pend)).setCell ⟨w.heap.size, 3, none⟩ (.int .i64 mode)).setCell ⟨w.heap.size, 4, none⟩ (.bool conv)).setCell ⟨w.heap.size, 5, none⟩ (.slice Ab nb cb)).setCell ⟨w.heap.size, 6, none⟩ (.slice Af nf cf)).setCell ⟨w.heap.size, 7, none⟩ (.slice At nt ct)).setCell ⟨w.heap.size, 8, none⟩ (.int .i64 focus)).setCell ⟨w.heap.size, 9, none⟩ (.string prev)).setCell ⟨w.heap.size, 10, none⟩ (.string commit)) = wf at ZF BF ⊢
        have y0 : wf.cell? ⟨w.heap.size, 0, none⟩ = some (.slice Ai ni ci) := ZF.out.cell 0
        have y1 : wf.cell? ⟨w.heap.size, 1, none⟩ = some (.int .i64 caret) := ZF.out.cell 1
        have y2 : wf.cell? ⟨w.heap.size, 2, none⟩ = some (.string pend) := ZF.out.cell 2
        have y3 : wf.cell? ⟨w.heap.size, 3, none⟩ = some (.int .i64 mode) := ZF.out.cell 3
        have y4 : wf.cell? ⟨w.heap.size, 4, none⟩ = some (.bool conv) := ZF.out.cell 4
        have y5 : wf.cell? ⟨w.heap.size, 5, none⟩ = some (.slice Ab nb cb) := ZF.out.cell 5
        have y6 : wf.cell? ⟨w.heap.size, 6, none⟩ = some (.slice Af nf cf) := ZF.out.cell 6
        have y7 : wf.cell? ⟨w.heap.size, 7, none⟩ = some (.slice At nt ct) := ZF.out.cell 7
        have y8 : wf.cell? ⟨w.heap.size, 8, none⟩ = some (.int .i64 focus) := ZF.out.cell 8
        have y9 : wf.cell? ⟨w.heap.size, 9, none⟩ = some (.string prev) := ZF.out.cell 9
        have y10 : wf.cell? ⟨w.heap.size, 10, none⟩ = some (.string commit) := ZF.out.cell 10
        refine bodyPost_ret (by simp [results, Tryd.results21, go_sem, y0, y1, y2, y3, y4, y5, y6, y7, y8, y9, y10]; rfl) rfl ?_
        refine ⟨_, ⟨Ai, ni, ci, caret, pend, mode, conv, Ab, nb, cb, Af, nf, cf, At, nt, ct, focus, prev, commit⟩, by rw [HV.out]; rfl, ⟨some ad, m, c, ps.take m, rfl, HST.out.keep BF.out.drew, by rw [HV.out]; exact HPT.out⟩, by rw [HV.out]; exact HIN.out.keep BF.out.drew, BF.out.drew⟩
end Go.Proofs.YtebjfigjfhghcaaDoor.Und
