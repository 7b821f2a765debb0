/-
  The contract of Valid of package henkanref27. Conditions: the lists can be read, their lengths are bounded; the number is at least 1.
-/
import Derived.Test.YtebjfigjfhghcaaDoorUndSeg
namespace Go.Proofs.YtebjfigjfhghcaaDoor.Und
open Go.RowKit Wd Utf

set_option maxRecDepth 100000 in
set_option maxHeartbeats 4000000 in
theorem plan27_any (r : Sp) (q : Stp) (z : Int) (w : World) (hq : SpIn w r q) (hz1 : 1 ≤ z) :
    Calls Tryd.prog 40 #[.agg r.plan, .int .i64 z] w fun e w' => e = .returned (.bool (planB q z)) ∧ Below w.heap.size w w' := by
  have K0 : Hid (Blk (w.alloc (.cells r.plan 37)) w.heap.size 37 r.plan) := Lib.hid (Blk.new w _ _)
  have B0 : Hid (Below w.heap.size w (w.alloc (.cells r.plan 37))) := Lib.hid ((Below.refl _ _).alloc (Nat.le_refl _) _)
  have HS := Lib.hid hq.bounds
  have hl := hq.bounds.len
  have hfl := hq.fixed.len
  have hn := hq.nb
  have hnf := hq.nf
  have HP : Hid (planB q z = ((decide (2 ≤ r.nb) && ((q.bounds.getD 0 0 == 0) && ((q.bounds.getD (r.nb - 1) 0 == z) && upB q.bounds))) && decide (r.nf + 1 = r.nb))) := Lib.hid (by
    unfold planB
    rw [segB_eq q.bounds r.nb z hl, hfl, hl, decide_eq_true hz1, Bool.true_and])
  clear hq hfl
  obtain ⟨Ai, ni, ci, caret, pend, mode, conv, A, n, c, Af, nf, cf, At, nt, ct, focus, prev, commit⟩ := r
  simp only at hn hnf HP HS hl
  generalize q.bounds = l at HS HP hl
  unfold Sp.plan at *
  simp only at K0 B0
  go_enter Tryd.func40, Tryd.ntmps40
  go_wp2_with fail
  go_loopw [6] (fun i wr => ∃ k : Nat, 1 ≤ k ∧ (k = 1 ∨ k ≤ n) ∧ i = .int .i64 (k : Int) ∧ upB (l.take k) = true ∧ Blk wr w.heap.size 37 #[.slice A n c, .slice Af nf cf] ∧ Below w.heap.size w wr) (fun i _ => n - (intOf i).toNat)
  case atStart => exact ⟨1, Nat.le_refl _, .inl rfl, rfl, by cases l with | nil => rfl | cons a l => rfl, K0.out, B0.out⟩
  case round =>
    obtain ⟨k, hk1, hk, rfl, hup, hkb, hbl⟩ := hrel
    have HA := Lib.hid hup
    have B := Lib.hid hbl
    have K := Lib.hid hkb
    clear hup hbl hkb K0 B0
    by_cases hlt : k < n
    · obtain ⟨ad, rfl, _, c1⟩ := (HS.out.keep B.out).at_ hlt
      have c2 := RI.in_ (k := k - 1) (HS.out.keep B.out) (by omega)
      have hup1 := upB_take_succ (l := l) (k := k) (by omega) (by omega)
      have hbad1 := upB_bad (l := l) (k := k) (by omega) (by omega)
      have HU1 := Lib.hid hup1
      have HBD := Lib.hid hbad1
      clear hup1 hbad1
      generalize l.getD k 0 = x at c1 HU1 HBD
      generalize l.getD (k - 1) 0 = y at c2 HU1 HBD
      obtain ⟨j, hj⟩ : ∃ j, j = k - 1 := ⟨_, rfl⟩
      rw [← hj] at c2
      have hw1 : IntKind.i64.wrap ((k : Int) - 1) = (j : Int) := by rw [IntKind.wrap_i64]; omega
      have hj0 : (0 : Int) ≤ (j : Int) := by omega
      have hjn : (j : Int) < (n : Int) := by omega
      have hk0 : (0 : Int) ≤ (k : Int) := by omega
      have hkn : (k : Int) < (n : Int) := by omega
      have KD := Lib.hid (show wr.drew.cell? (ad.add k) = some (.int .i64 x) ∧ wr.drew.cell? (ad.add j) = some (.int .i64 y) from ⟨c1, c2⟩)
      clear hj
      by_cases hxy : y < x
      · have hxy' : y < x := hxy
        go_wp2_with fail
        go_region_held3 (fun w' => w'.cell? (ad.add k) = some (.int .i64 x) ∧ w'.cell? (ad.add j) = some (.int .i64 y)) (first | exact KD.out | go_keep) (fail)
        go_wp2_with fail
        go_roundw
        case rel => exact ⟨k + 1, by omega, .inr (by omega), by go_num, by rw [HU1.out, HA.out, decide_eq_true hxy]; rfl, (by exact K.out.drew), (by exact B.out.drew)⟩
        case measure => simp [intOf]; omega
      · have hxy' : x ≤ y := by omega
        have HV : Hid (planB q z = false) := Lib.hid (by rw [HP.out, HBD.out hxy]; simp)
        go_wp2_with fail
        go_region_held3 (fun w' => w'.cell? (ad.add k) = some (.int .i64 x) ∧ w'.cell? (ad.add j) = some (.int .i64 y)) (first | exact KD.out | go_keep) (fail)
        go_wp2_with fail
        go_ret
        exact ⟨by rw [HV.out]; rfl, (by exact B.out.drew)⟩
    · have HU : Hid (upB l = true) := Lib.hid (by have := HA.out; rwa [List.take_of_length_le (by omega)] at this)
      have k1 : wr.cell? ⟨w.heap.size, 1, none⟩ = some (.slice Af nf cf) := K.out.cell 1
      have hlt' : (n : Int) ≤ (k : Int) := by omega
      by_cases h2 : 2 ≤ n
      · have h2' : (2 : Int) ≤ (n : Int) := by omega
        by_cases h5 : nf + 1 = n
        · have h5' : ((nf : Int) == (n : Int) - 1) = true := by rw [beq_iff_eq]; omega
          obtain ⟨ad, rfl, _, hcl⟩ := (HS.out.keep B.out).at_ (j := n - 1) (by omega)
          have hc0 := RI.in0 (HS.out.keep B.out) (by omega)
          have ht : ((n : Int) - 1).toNat = n - 1 := by omega
          rcases h3 : (l.getD 0 0 == 0) with _ | _
          · have HV : Hid (planB q z = false) := Lib.hid (by rw [HP.out, h3]; simp)
            generalize l.getD 0 0 = z0 at hc0 h3
            go_wp2_with fail
            go_ret
            exact ⟨by rw [HV.out]; rfl, B.out⟩
          · rcases h4 : (l.getD (n - 1) 0 == z) with _ | _
            · have HV : Hid (planB q z = false) := Lib.hid (by rw [HP.out, h4]; simp)
              generalize l.getD 0 0 = z0 at hc0 h3
              generalize l.getD (n - 1) 0 = z1 at hcl h4
              go_wp2_with fail
              go_ret
              exact ⟨by rw [HV.out]; rfl, B.out⟩
            · have HV : Hid (planB q z = true) := Lib.hid (by rw [HP.out, h3, h4, HU.out, decide_eq_true h2, decide_eq_true h5]; rfl)
              generalize l.getD 0 0 = z0 at hc0 h3
              generalize l.getD (n - 1) 0 = z1 at hcl h4
              go_wp2_with fail
              go_ret
              exact ⟨by rw [HV.out]; rfl, B.out⟩
        · have h5' : ((nf : Int) == (n : Int) - 1) = false := by rw [beq_eq_false_iff_ne]; omega
          have HV : Hid (planB q z = false) := Lib.hid (by rw [HP.out, decide_eq_false h5]; simp)
          clear h5
          go_wp2_with fail
          go_ret
          exact ⟨by rw [HV.out]; rfl, B.out⟩
      · have h2' : (n : Int) < 2 := by omega
        have HV : Hid (planB q z = false) := Lib.hid (by rw [HP.out, decide_eq_false h2]; simp)
        clear h2
        go_wp2_with fail
        go_ret
        exact ⟨by rw [HV.out]; rfl, B.out⟩
end Go.Proofs.YtebjfigjfhghcaaDoor.Und
