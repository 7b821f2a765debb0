/-
  The contract of Valid of package henkanref40. Conditions: the step can be read, its lengths are bounded. (Printed by gen/undvalr.py.)
-/
import Derived.Test.YtebjfigjfhghcaaDoorUndConvR
namespace Go.Proofs.YtebjfigjfhghcaaDoor.Und
open Go.RowKit Wd Utf

theorem plainR_eq {w : World} {r : Sp} {q : Stp} (h : SpIn w r q) : plainB q = (decide (r.nb = 0) && (decide (r.nf = 0) && (decide (r.nt = 0) && (r.focus == 0)))) := by
  unfold plainB
  rw [h.bounds.len, h.fixed.len, h.texts.len, h.focus]
  by_cases a : r.nb = 0
  · by_cases b : r.nf = 0
    · simp [a, b]
    · have : ¬ (r.nb + r.nf + r.nt = 0) := by omega
      rw [decide_eq_false this, decide_eq_false b]; simp
  · have : ¬ (r.nb + r.nf + r.nt = 0) := by omega
    rw [decide_eq_false this, decide_eq_false a]; simp
set_option maxRecDepth 100000 in
set_option maxHeartbeats 8000000 in
theorem validR_any (r : Sp) (q : Stp) (w : World) (hq : SpIn w r q) :
    Calls Tryd.prog 10 #[.agg r.cells] w fun e w' => e = .returned (.bool (okB q)) ∧ Below w.heap.size w w' := by
  have hb0 : Below w.heap.size w (w.alloc (.cells r.cells 39)) := (Below.refl _ _).alloc (Nat.le_refl _) _
  have K0 : Hid (Blk (w.alloc (.cells r.cells 39)) w.heap.size 39 r.cells) := Lib.hid (Blk.new w _ _)
  have B0 := Lib.hid hb0
  have HPL := Lib.hid (plainR_eq hq)
  have HBU := Lib.hid (fun (W : World) (hW : Below w.heap.size w W) => bufR_any r q W (hq.keep hW))
  have HCV := Lib.hid (fun (W : World) (hW : Below w.heap.size w W) => convR_any r q W (hq.keep hW))
  have HOK : Hid (okB q = (topB q && (if r.conv then convB q else plainB q))) := Lib.hid (by unfold okB; rw [hq.conv])
  have HTOP : Hid (topB q = (bufB q && (decide (1 ≤ r.mode) && (decide (r.mode ≤ 5) && ((decide (1 ≤ num r.commit) && decide (num r.commit ≤ 4096)) && (decide (0 ≤ num r.prev) && decide (num r.prev ≤ 64))))))) := Lib.hid (by unfold topB; rw [hq.mode, hq.commit, hq.prev]; simp only [Bool.and_assoc])
  have HSV := Lib.hid hq.szv
  have HSM := Lib.hid hq.szm
  have hnb := hq.nb
  have hnf := hq.nf
  have hnt := hq.nt
  clear hq hb0
  obtain ⟨Ai, ni, ci, caret, pend, mode, conv, Ab, nb, cb, Af, nf, cf, At, nt, ct, focus, prev, commit⟩ := r
  simp only at hnb hnf hnt HSV HSM HTOP HOK HPL
  unfold Sp.cells at *
  unfold Sp.buf at HBU
  simp only at K0 B0 HBU HCV
  generalize hcn : (decide (1 ≤ num commit) && decide (num commit ≤ 4096)) = bc at HTOP
  generalize hpn : (decide (0 ≤ num prev) && decide (num prev ≤ 64)) = bp at HTOP
  have HCC := Lib.hid (fun (W : World) => inRange_any commit 1 4096 W (by have := HSM.out; omega))
  have HCP := Lib.hid (fun (W : World) => inRange_any prev 0 64 W (by have := HSV.out; omega))
  rw [hcn] at HCC
  rw [hpn] at HCP
  clear hcn hpn
  go_enter Tryd.func10, Tryd.ntmps10
  go_wp2_with fail
  refine (HBU.out _ B0.out).mono ?_
  rintro e w1 ⟨rfl, hb1⟩
  have K1 := Lib.hid (K0.out.below hb1 K0.out.lt)
  have B1 := Lib.hid (B0.out.trans (hb1.mono B0.out.size))
  clear hb1
  have k3 : w1.cell? ⟨w.heap.size, 3, none⟩ = some (.int .i64 mode) := K1.out.cell 3
  have k10 : w1.cell? ⟨w.heap.size, 10, none⟩ = some (.string commit) := K1.out.cell 10
  rcases hbf : bufB q with _ | _
  · have HV : Hid (okB q = false) := Lib.hid (by rw [HOK.out, HTOP.out, hbf]; rfl)
    clear hbf
    go_wp2_with fail
    go_ret
    exact ⟨by rw [HV.out]; rfl, B1.out⟩
  have HBF := Lib.hid hbf
  clear hbf
  by_cases h0 : 1 ≤ mode
  · by_cases h1 : mode ≤ 5
    · have HT0 : Hid (topB q = (bc && bp)) := Lib.hid (by rw [HTOP.out, HBF.out, decide_eq_true h0, decide_eq_true h1]; rfl)
      go_wp2_with fail
      refine (HCC.out _).mono ?_
      rintro e w2 ⟨rfl, hb2⟩
      have K2 := Lib.hid (K1.out.below hb2 K1.out.lt)
      have B2 := Lib.hid (B1.out.trans (hb2.mono B1.out.size))
      clear hb2 k3 k10
      have k9 : w2.cell? ⟨w.heap.size, 9, none⟩ = some (.string prev) := K2.out.cell 9
      rcases bc with _ | _
      · have HV : Hid (okB q = false) := Lib.hid (by rw [HOK.out, HT0.out]; rfl)
        go_wp2_with fail
        go_ret
        exact ⟨by rw [HV.out]; rfl, B2.out⟩
      go_wp2_with fail
      refine (HCP.out _).mono ?_
      rintro e w3 ⟨rfl, hb3⟩
      have K3 := Lib.hid (K2.out.below hb3 K2.out.lt)
      have B3 := Lib.hid (B2.out.trans (hb3.mono B2.out.size))
      clear hb3 k9
      have k4 : w3.cell? ⟨w.heap.size, 4, none⟩ = some (.bool conv) := K3.out.cell 4
      rcases bp with _ | _
      · have HV : Hid (okB q = false) := Lib.hid (by rw [HOK.out, HT0.out]; rfl)
        go_wp2_with fail
        go_ret
        exact ⟨by rw [HV.out]; rfl, B3.out⟩
      have HO2 : Hid (okB q = (if conv then convB q else plainB q)) := Lib.hid (by rw [HOK.out, HT0.out]; rfl)
      rcases hcv : conv with _ | _
      · have HO3 : Hid (okB q = plainB q) := Lib.hid (by have := HO2.out; simpa [hcv] using this)
        subst hcv
        have k5 : w3.cell? ⟨w.heap.size, 5, none⟩ = some (.slice Ab nb cb) := K3.out.cell 5
        have k6 : w3.cell? ⟨w.heap.size, 6, none⟩ = some (.slice Af nf cf) := K3.out.cell 6
        have k7 : w3.cell? ⟨w.heap.size, 7, none⟩ = some (.slice At nt ct) := K3.out.cell 7
        have k8 : w3.cell? ⟨w.heap.size, 8, none⟩ = some (.int .i64 focus) := K3.out.cell 8
        by_cases pb : nb = 0
        · have pb1 : (((nb : Int)) == 0) = true := by rw [beq_iff_eq]; omega
          have pb2 : (nb : Int) = 0 := by omega
          by_cases pf : nf = 0
          · have pf1 : (((nf : Int)) == 0) = true := by rw [beq_iff_eq]; omega
            have pf2 : (nf : Int) = 0 := by omega
            by_cases pt : nt = 0
            · have pt1 : (((nt : Int)) == 0) = true := by rw [beq_iff_eq]; omega
              have pt2 : (nt : Int) = 0 := by omega
              rcases px : (focus == 0) with _ | _
              · have HV : Hid (okB q = false) := Lib.hid (by rw [HO3.out, HPL.out, px]; simp)
                go_wp2_with fail
                go_ret
                exact ⟨by rw [HV.out]; rfl, B3.out⟩
              · have HV : Hid (okB q = true) := Lib.hid (by rw [HO3.out, HPL.out, px, decide_eq_true pb, decide_eq_true pf, decide_eq_true pt]; rfl)
                go_wp2_with fail
                go_ret
                exact ⟨by rw [HV.out]; rfl, B3.out⟩
            · have pt1 : (((nt : Int)) == 0) = false := by rw [beq_eq_false_iff_ne]; omega
              have pt2 : ¬ (nt : Int) = 0 := by omega
              have HV : Hid (okB q = false) := Lib.hid (by rw [HO3.out, HPL.out, decide_eq_false pt]; simp)
              go_wp2_with fail
              go_ret
              exact ⟨by rw [HV.out]; rfl, B3.out⟩
          · have pf1 : (((nf : Int)) == 0) = false := by rw [beq_eq_false_iff_ne]; omega
            have pf2 : ¬ (nf : Int) = 0 := by omega
            have HV : Hid (okB q = false) := Lib.hid (by rw [HO3.out, HPL.out, decide_eq_false pf]; simp)
            go_wp2_with fail
            go_ret
            exact ⟨by rw [HV.out]; rfl, B3.out⟩
        · have pb1 : (((nb : Int)) == 0) = false := by rw [beq_eq_false_iff_ne]; omega
          have pb2 : ¬ (nb : Int) = 0 := by omega
          have HV : Hid (okB q = false) := Lib.hid (by rw [HO3.out, HPL.out, decide_eq_false pb]; simp)
          go_wp2_with fail
          go_ret
          exact ⟨by rw [HV.out]; rfl, B3.out⟩
      · have HO3 : Hid (okB q = convB q) := Lib.hid (by have := HO2.out; simpa [hcv] using this)
        subst hcv
        have k0 : w3.cell? ⟨w.heap.size, 0, none⟩ = some (.slice Ai ni ci) := K3.out.cell 0
        have k1 : w3.cell? ⟨w.heap.size, 1, none⟩ = some (.int .i64 caret) := K3.out.cell 1
        have k2 : w3.cell? ⟨w.heap.size, 2, none⟩ = some (.string pend) := K3.out.cell 2
        have k3 : w3.cell? ⟨w.heap.size, 3, none⟩ = some (.int .i64 mode) := K3.out.cell 3
        have k5 : w3.cell? ⟨w.heap.size, 5, none⟩ = some (.slice Ab nb cb) := K3.out.cell 5
        have k6 : w3.cell? ⟨w.heap.size, 6, none⟩ = some (.slice Af nf cf) := K3.out.cell 6
        have k7 : w3.cell? ⟨w.heap.size, 7, none⟩ = some (.slice At nt ct) := K3.out.cell 7
        have k8 : w3.cell? ⟨w.heap.size, 8, none⟩ = some (.int .i64 focus) := K3.out.cell 8
        have k9 : w3.cell? ⟨w.heap.size, 9, none⟩ = some (.string prev) := K3.out.cell 9
        have k10 : w3.cell? ⟨w.heap.size, 10, none⟩ = some (.string commit) := K3.out.cell 10
        go_wp2_with fail
        with_reducible refine (HCV.out _ B3.out).mono ?_
        rintro e w4 ⟨rfl, hb4⟩
        have B4 := Lib.hid (B3.out.trans (hb4.mono B3.out.size))
        clear hb4
        rw [← HO3.out]
        go_wp2_with fail
        go_ret
        exact ⟨rfl, B4.out⟩
    · have h1' : 5 < mode := by omega
      have HV : Hid (okB q = false) := Lib.hid (by rw [HOK.out, HTOP.out, decide_eq_false h1]; simp)
      clear h1
      go_wp2_with fail
      go_ret
      exact ⟨by rw [HV.out]; rfl, B1.out⟩
  · have h0' : mode < 1 := by omega
    have HV : Hid (okB q = false) := Lib.hid (by rw [HOK.out, HTOP.out, decide_eq_false h0]; simp)
    clear h0
    go_wp2_with fail
    go_ret
    exact ⟨by rw [HV.out]; rfl, B1.out⟩
end Go.Proofs.YtebjfigjfhghcaaDoor.Und
