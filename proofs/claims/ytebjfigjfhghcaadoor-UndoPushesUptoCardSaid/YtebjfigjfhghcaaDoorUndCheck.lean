/-
  The contract of Check of package undo. Conditions: the step can be read, its lengths are bounded; the two tables of unicode/utf8 lie as their initialisers lay them. (Printed by gen/undcheck.py.)
-/
import Derived.Test.YtebjfigjfhghcaaDoorUndConv
namespace Go.Proofs.YtebjfigjfhghcaaDoor.Und
open Go.RowKit Wd Utf

theorem plainB_eq {w : World} {r : Sp} {q : Stp} (h : SpIn w r q) : plainB q = (decide (r.nb + r.nf + r.nt = 0) && (r.focus == 0)) := by
  unfold plainB
  rw [h.bounds.len, h.fixed.len, h.texts.len, h.focus]
set_option maxRecDepth 100000 in
set_option maxHeartbeats 8000000 in
theorem check_any (r : Sp) (q : Stp) (w : World) (hT : Tabs w) (hq : SpIn w r q) :
    Calls Tryd.prog 12 #[.agg r.cells] w fun e w' => e = .returned (.int .i64 (errI (okB q))) ∧ Below w.heap.size w w' := by
  have hb0 : Below w.heap.size w (w.alloc (.cells r.cells 31)) := (Below.refl _ _).alloc (Nat.le_refl _) _
  have KJ : Hid (Blk (w.alloc (.cells r.cells 31)).drew w.heap.size 31 r.cells) := Lib.hid (Blk.new w _ _).drew
  have BJ := Lib.hid hb0.drew
  have HPL := Lib.hid (plainB_eq hq)
  have HNC := Lib.hid (fun (s : ByteArray) (hs : s.size ≤ 1048576) (W : World) (hW : Below w.heap.size w W) => count_any s W (by omega) (hT.keep hW))
  have HBU := Lib.hid (fun (W : World) (hW : Below w.heap.size w W) => bufC_any r q W (hT.keep hW) (hq.keep hW))
  have HCV := Lib.hid (fun (W : World) (hW : Below w.heap.size w W) => conv_any r q W (hT.keep hW) (hq.keep hW))
  have HOK : Hid (okB q = (topB q && (if r.conv then convB q else plainB q))) := Lib.hid (by unfold okB; rw [hq.conv])
  have HTOP : Hid (topB q = (bufB q && (decide (1 ≤ r.mode) && (decide (r.mode ≤ 5) && (decide (1 ≤ num r.commit) && (decide (num r.commit ≤ 4096) && (decide (0 ≤ num r.prev) && decide (num r.prev ≤ 64)))))))) := Lib.hid (by unfold topB; rw [hq.mode, hq.commit, hq.prev])
  have HSV := Lib.hid hq.szv
  have HSM := Lib.hid hq.szm
  have hnb := hq.nb
  have hnf := hq.nf
  have hnt := hq.nt
  clear hq hT hb0
  obtain ⟨Ai, ni, ci, caret, pend, mode, conv, Ab, nb, cb, Af, nf, cf, At, nt, ct, focus, prev, commit⟩ := r
  simp only at hnb hnf hnt HSV HSM HTOP HOK HPL
  unfold Sp.cells at *
  unfold Sp.buf at HBU
  simp only at KJ BJ HBU HCV
  go_enter Tryd.func12, Tryd.ntmps12
  go_wp2_with fail
  go_region_held3 (fun w' => w'.cell? ⟨w.heap.size, 9, none⟩ = some (.string prev) ∧ w'.cell? ⟨w.heap.size, 10, none⟩ = some (.string commit)) (first | exact ⟨KJ.out.cell 9, KJ.out.cell 10⟩ | go_keep) (first
    | (go_at_call 29; (with_reducible refine (HNC.out commit HSM.out _ ?_).mono ?_); (· exact BJ.out); rintro e w9 ⟨rfl, hb9⟩; have KJ := Lib.hid (KJ.out.below hb9 KJ.out.lt); have BJ := Lib.hid (BJ.out.trans (hb9.mono BJ.out.size)); clear hb9)
    | (go_at_call 29; (with_reducible refine (HNC.out prev HSV.out _ ?_).mono ?_); (· exact BJ.out); rintro e w9 ⟨rfl, hb9⟩; have KJ := Lib.hid (KJ.out.below hb9 KJ.out.lt); have BJ := Lib.hid (BJ.out.trans (hb9.mono BJ.out.size)); clear hb9))
  have k0 : w9.cell? ⟨w.heap.size, 0, none⟩ = some (.slice Ai ni ci) := KJ.out.cell 0
  have k1 : w9.cell? ⟨w.heap.size, 1, none⟩ = some (.int .i64 caret) := KJ.out.cell 1
  have k2 : w9.cell? ⟨w.heap.size, 2, none⟩ = some (.string pend) := KJ.out.cell 2
  go_wp2_with fail
  refine (HBU.out _ BJ.out).mono ?_
  rintro e w1 ⟨rfl, hb1⟩
  have K1 := Lib.hid (KJ.out.below hb1 KJ.out.lt)
  have B1 := Lib.hid (BJ.out.trans (hb1.mono BJ.out.size))
  clear hb1 k0 k1 k2
  have k2 : w1.cell? ⟨w.heap.size, 2, none⟩ = some (.string pend) := K1.out.cell 2
  have k3 : w1.cell? ⟨w.heap.size, 3, none⟩ = some (.int .i64 mode) := K1.out.cell 3
  have k4 : w1.cell? ⟨w.heap.size, 4, none⟩ = some (.bool conv) := K1.out.cell 4
  have k5 : w1.cell? ⟨w.heap.size, 5, none⟩ = some (.slice Ab nb cb) := K1.out.cell 5
  have k6 : w1.cell? ⟨w.heap.size, 6, none⟩ = some (.slice Af nf cf) := K1.out.cell 6
  have k7 : w1.cell? ⟨w.heap.size, 7, none⟩ = some (.slice At nt ct) := K1.out.cell 7
  have k8 : w1.cell? ⟨w.heap.size, 8, none⟩ = some (.int .i64 focus) := K1.out.cell 8
  rcases hbf : bufB q with _ | _
  · have HV : Hid (okB q = false) := Lib.hid (by rw [HOK.out, HTOP.out, hbf]; rfl)
    rw [errI_f]
    clear hbf
    go_wp2_with fail
    go_ret
    exact ⟨by rw [HV.out]; rfl, B1.out⟩
  have HBF := Lib.hid hbf
  rw [errI_t]
  clear hbf
  by_cases h0 : 1 ≤ mode
  · have g0 : 1 ≤ mode := h0
    by_cases h1 : mode ≤ 5
    · have g1 : mode ≤ 5 := h1
      by_cases h2 : 1 ≤ num commit
      · have g2 : 1 ≤ cnt commit.data.toList := h2
        by_cases h3 : num commit ≤ 4096
        · have g3 : cnt commit.data.toList ≤ 4096 := h3
          by_cases h4 : 0 ≤ num prev
          · have g4 : 0 ≤ cnt prev.data.toList := h4
            by_cases h5 : num prev ≤ 64
            · have g5 : cnt prev.data.toList ≤ 64 := h5
              have HT1 : Hid (topB q = true) := Lib.hid (by rw [HTOP.out, HBF.out, decide_eq_true h0, decide_eq_true h1, decide_eq_true h2, decide_eq_true h3, decide_eq_true h4, decide_eq_true h5]; rfl)
              clear h0 h1 h2 h3 h4 h5
              have HO2 : Hid (okB q = (if conv then convB q else plainB q)) := Lib.hid (by rw [HOK.out, HT1.out]; rfl)
              generalize cnt commit.data.toList = xc at *
              generalize cnt prev.data.toList = xp at *
              rcases hcv : conv with _ | _
              · skip
                by_cases p0 : nb + nf + nt = 0
                · have pp0 : (nb : Int) + (nf : Int) + (nt : Int) = 0 := by omega
                  by_cases p1 : focus = 0
                  · have HP : Hid (plainB q = true) := Lib.hid (by rw [HPL.out, decide_eq_true p0, p1]; rfl)
                    subst p1
                    have HV : Hid (okB q = true) := Lib.hid (by rw [HO2.out, hcv, HP.out]; rfl)
                    subst hcv
                    go_wp2_with fail
                    go_ret
                    exact ⟨by rw [HV.out]; rfl, B1.out⟩
                  · have HP : Hid (plainB q = false) := Lib.hid (by rw [HPL.out, beq_false_of_ne p1, Bool.and_false])
                    have pp1 : (focus == 0) = false := beq_false_of_ne p1
                    have HV : Hid (okB q = false) := Lib.hid (by rw [HO2.out, hcv, HP.out]; rfl)
                    subst hcv
                    go_wp2_with fail
                    go_ret
                    exact ⟨by rw [HV.out]; rfl, B1.out⟩
                · have pp0 : (nb : Int) + (nf : Int) + (nt : Int) ≠ 0 := by omega
                  have HP : Hid (plainB q = false) := Lib.hid (by rw [HPL.out, decide_eq_false p0]; rfl)
                  have HV : Hid (okB q = false) := Lib.hid (by rw [HO2.out, hcv, HP.out]; rfl)
                  subst hcv
                  go_wp2_with fail
                  go_ret
                  exact ⟨by rw [HV.out]; rfl, B1.out⟩
              · have kl : w1.cell? ⟨w.heap.size, 0, none⟩ = some (.slice Ai ni ci) := K1.out.cell 0
                have k9 : w1.cell? ⟨w.heap.size, 9, none⟩ = some (.string prev) := K1.out.cell 9
                have k10 : w1.cell? ⟨w.heap.size, 10, none⟩ = some (.string commit) := K1.out.cell 10
                have k1 : w1.cell? ⟨w.heap.size, 1, none⟩ = some (.int .i64 caret) := K1.out.cell 1
                by_cases p0 : nb + nf + nt = 0
                · have pp0 : (nb : Int) + (nf : Int) + (nt : Int) = 0 := by omega
                  by_cases p1 : focus = 0
                  · have HP : Hid (plainB q = true) := Lib.hid (by rw [HPL.out, decide_eq_true p0, p1]; rfl)
                    subst p1
                    subst hcv
                    go_wp2_with fail
                    with_reducible refine (HCV.out _ B1.out).mono ?_
                    rintro e w2 ⟨rfl, hb2⟩
                    have B2 := Lib.hid (B1.out.trans (hb2.mono B1.out.size))
                    clear hb2
                    rcases hcb : convB q with _ | _
                    · have HV : Hid (okB q = false) := Lib.hid (by have := HO2.out; simpa [hcb] using this)
                      clear hcb
                      go_wp2_with fail
                      go_ret
                      exact ⟨by rw [HV.out]; rfl, B2.out⟩
                    · have HV : Hid (okB q = true) := Lib.hid (by have := HO2.out; simpa [hcb] using this)
                      clear hcb
                      go_wp2_with fail
                      go_ret
                      exact ⟨by rw [HV.out]; rfl, B2.out⟩
                  · have HP : Hid (plainB q = false) := Lib.hid (by rw [HPL.out, beq_false_of_ne p1, Bool.and_false])
                    have pp1 : (focus == 0) = false := beq_false_of_ne p1
                    subst hcv
                    go_wp2_with fail
                    with_reducible refine (HCV.out _ B1.out).mono ?_
                    rintro e w2 ⟨rfl, hb2⟩
                    have B2 := Lib.hid (B1.out.trans (hb2.mono B1.out.size))
                    clear hb2
                    rcases hcb : convB q with _ | _
                    · have HV : Hid (okB q = false) := Lib.hid (by have := HO2.out; simpa [hcb] using this)
                      clear hcb
                      go_wp2_with fail
                      go_ret
                      exact ⟨by rw [HV.out]; rfl, B2.out⟩
                    · have HV : Hid (okB q = true) := Lib.hid (by have := HO2.out; simpa [hcb] using this)
                      clear hcb
                      go_wp2_with fail
                      go_ret
                      exact ⟨by rw [HV.out]; rfl, B2.out⟩
                · have pp0 : (nb : Int) + (nf : Int) + (nt : Int) ≠ 0 := by omega
                  have HP : Hid (plainB q = false) := Lib.hid (by rw [HPL.out, decide_eq_false p0]; rfl)
                  subst hcv
                  go_wp2_with fail
                  with_reducible refine (HCV.out _ B1.out).mono ?_
                  rintro e w2 ⟨rfl, hb2⟩
                  have B2 := Lib.hid (B1.out.trans (hb2.mono B1.out.size))
                  clear hb2
                  rcases hcb : convB q with _ | _
                  · have HV : Hid (okB q = false) := Lib.hid (by have := HO2.out; simpa [hcb] using this)
                    clear hcb
                    go_wp2_with fail
                    go_ret
                    exact ⟨by rw [HV.out]; rfl, B2.out⟩
                  · have HV : Hid (okB q = true) := Lib.hid (by have := HO2.out; simpa [hcb] using this)
                    clear hcb
                    go_wp2_with fail
                    go_ret
                    exact ⟨by rw [HV.out]; rfl, B2.out⟩
            · have g5 : 64 < cnt prev.data.toList := by have := h5; unfold num at this; omega
              have HV : Hid (okB q = false) := Lib.hid (by rw [HOK.out, HTOP.out, decide_eq_false h5]; simp)
              clear h0 h1 h2 h3 h4 h5
              generalize cnt commit.data.toList = xc at *
              generalize cnt prev.data.toList = xp at *
              go_wp2_with fail
              go_ret
              exact ⟨by rw [HV.out]; rfl, B1.out⟩
          · have g4 : cnt prev.data.toList < 0 := by have := h4; unfold num at this; omega
            have HV : Hid (okB q = false) := Lib.hid (by rw [HOK.out, HTOP.out, decide_eq_false h4]; simp)
            clear h0 h1 h2 h3 h4
            generalize cnt commit.data.toList = xc at *
            generalize cnt prev.data.toList = xp at *
            go_wp2_with fail
            go_ret
            exact ⟨by rw [HV.out]; rfl, B1.out⟩
        · have g3 : 4096 < cnt commit.data.toList := by have := h3; unfold num at this; omega
          have HV : Hid (okB q = false) := Lib.hid (by rw [HOK.out, HTOP.out, decide_eq_false h3]; simp)
          clear h0 h1 h2 h3
          generalize cnt commit.data.toList = xc at *
          generalize cnt prev.data.toList = xp at *
          go_wp2_with fail
          go_ret
          exact ⟨by rw [HV.out]; rfl, B1.out⟩
      · have g2 : cnt commit.data.toList < 1 := by have := h2; unfold num at this; omega
        have HV : Hid (okB q = false) := Lib.hid (by rw [HOK.out, HTOP.out, decide_eq_false h2]; simp)
        clear h0 h1 h2
        generalize cnt commit.data.toList = xc at *
        generalize cnt prev.data.toList = xp at *
        go_wp2_with fail
        go_ret
        exact ⟨by rw [HV.out]; rfl, B1.out⟩
    · have g1 : 5 < mode := by have := h1; unfold num at this; omega
      have HV : Hid (okB q = false) := Lib.hid (by rw [HOK.out, HTOP.out, decide_eq_false h1]; simp)
      clear h0 h1
      generalize cnt commit.data.toList = xc at *
      generalize cnt prev.data.toList = xp at *
      go_wp2_with fail
      go_ret
      exact ⟨by rw [HV.out]; rfl, B1.out⟩
  · have g0 : mode < 1 := by have := h0; unfold num at this; omega
    have HV : Hid (okB q = false) := Lib.hid (by rw [HOK.out, HTOP.out, decide_eq_false h0]; simp)
    clear h0
    generalize cnt commit.data.toList = xc at *
    generalize cnt prev.data.toList = xp at *
    go_wp2_with fail
    go_ret
    exact ⟨by rw [HV.out]; rfl, B1.out⟩
end Go.Proofs.YtebjfigjfhghcaaDoor.Und
