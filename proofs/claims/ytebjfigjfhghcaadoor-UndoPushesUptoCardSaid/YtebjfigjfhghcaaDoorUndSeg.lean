/-
  The contracts of Check of package segment, of Check of package resize and of Valid of package henkanref27. Conditions: the lists can be read, their lengths are bounded.
-/
import Derived.Test.YtebjfigjfhghcaaDoorUndBuf
import Derived.Deep.RegionHeld3
namespace Go.Proofs.YtebjfigjfhghcaaDoor.Und
open Go.RowKit Wd Utf

theorem RI.in0 {w : World} {ad : Addr} {n : Nat} {l : List Int} (h : RI .i64 w (some ad) n l) (hn : 0 < n) : w.cell? ad = some (.int .i64 (l.getD 0 0)) := by
  obtain ⟨ad', e', _, hc⟩ := h.at_ hn
  injection e' with e'
  subst e'
  exact hc
theorem RI.in_ {w : World} {ad : Addr} {n k : Nat} {l : List Int} (h : RI .i64 w (some ad) n l) (hn : k < n) : w.cell? (ad.add k) = some (.int .i64 (l.getD k 0)) := by
  obtain ⟨ad', e', _, hc⟩ := h.at_ hn
  injection e' with e'
  subst e'
  exact hc
theorem segB_eq (l : List Int) (n : Nat) (z : Int) (h : l.length = n) : segB l z = (decide (1 ≤ z) && (decide (2 ≤ n) && ((l.getD 0 0 == 0) && ((l.getD (n - 1) 0 == z) && upB l)))) := by unfold segB; rw [h]
set_option maxRecDepth 100000 in
set_option maxHeartbeats 4000000 in
theorem seg_any (A : Option Addr) (n c : Nat) (l : List Int) (z : Int) (w : World) (hs : RI .i64 w A n l) (hn : n ≤ 1048576) :
    Calls Tryd.prog 56 #[.slice A n c, .int .i64 z] w fun e w' => e = .returned (.bool (segB l z)) ∧ Below w.heap.size w w' := by
  have HS := Lib.hid hs
  have hl := hs.len
  have HSB := Lib.hid (segB_eq l n z hl)
  clear hs
  by_cases h1 : 1 ≤ z
  · by_cases h2 : 2 ≤ n
    · have h2' : (2 : Int) ≤ (n : Int) := by omega
      obtain ⟨ad, rfl, _, hcl⟩ := HS.out.at_ (j := n - 1) (by omega)
      have hc0 := RI.in0 HS.out (by omega)
      have ht : ((n : Int) - 1).toNat = n - 1 := by omega
      rcases h3 : (l.getD 0 0 == 0) with _ | _
      · have HV : Hid (segB l z = false) := Lib.hid (by rw [HSB.out, h3]; simp)
        have h3' : (l.getD 0 0 != 0) = true := by rw [bne, h3]; rfl
        generalize l.getD 0 0 = z0 at hc0 h3'
        clear h3
        go_enter Tryd.func56, Tryd.ntmps56
        go_wp2_with fail
        go_ret
        exact ⟨by rw [HV.out]; rfl, Below.refl _ _⟩
      · have h3' : (l.getD 0 0 != 0) = false := by rw [bne, h3]; rfl
        rcases h4 : (l.getD (n - 1) 0 == z) with _ | _
        · have HV : Hid (segB l z = false) := Lib.hid (by rw [HSB.out, h4]; simp)
          have h4' : (l.getD (n - 1) 0 != z) = true := by rw [bne, h4]; rfl
          generalize l.getD 0 0 = z0 at hc0 h3'
          generalize l.getD (n - 1) 0 = z1 at hcl h4'
          clear h3 h4
          go_enter Tryd.func56, Tryd.ntmps56
          go_wp2_with fail
          go_ret
          exact ⟨by rw [HV.out]; rfl, Below.refl _ _⟩
        · have h4' : (l.getD (n - 1) 0 != z) = false := by rw [bne, h4]; rfl
          have HU : Hid (segB l z = upB l) := Lib.hid (by rw [HSB.out, h3, h4, decide_eq_true h1, decide_eq_true h2]; rfl)
          generalize l.getD 0 0 = z0 at hc0 h3'
          generalize l.getD (n - 1) 0 = z1 at hcl h4'
          clear h3 h4 HSB
          go_enter Tryd.func56, Tryd.ntmps56
          go_wp2_with fail
          go_loopw [5] (fun i wr => ∃ k : Nat, 1 ≤ k ∧ k ≤ n ∧ i = .int .i64 (k : Int) ∧ upB (l.take k) = true ∧ Below w.heap.size w wr) (fun i _ => n - (intOf i).toNat)
          case atStart => exact ⟨1, Nat.le_refl _, by omega, rfl, by cases l with | nil => rfl | cons a l => rfl, Below.refl _ _⟩
          case round =>
            obtain ⟨k, hk1, hk, rfl, hup, hbl⟩ := hrel
            have HA := Lib.hid hup
            have B := Lib.hid hbl
            clear hup hbl hc0 hcl h3' h4'
            by_cases hlt : k < n
            · have c1 := RI.in_ (HS.out.keep B.out) hlt
              have c2 := RI.in_ (k := k - 1) (HS.out.keep B.out) (by omega)
              have hup1 := upB_take_succ (l := l) (k := k) (by omega) (by omega)
              have hbad1 := upB_bad (l := l) (k := k) (by omega) (by omega)
              have HU1 := Lib.hid hup1
              have HBD := Lib.hid hbad1
              clear hup1 hbad1
              generalize l.getD k 0 = x at c1 HU1 HBD
              generalize l.getD (k - 1) 0 = y at c2 HU1 HBD
              obtain ⟨j, hj⟩ : ∃ j, j = k - 1 := ⟨_, rfl⟩
              rw [← hj] at c2
              have hw1 : IntKind.i64.wrap ((k : Int) - 1) = (j : Int) := by rw [IntKind.wrap_i64]; omega
              have hj0 : (0 : Int) ≤ (j : Int) := by omega
              have hjn : (j : Int) < (n : Int) := by omega
              have hk0 : (0 : Int) ≤ (k : Int) := by omega
              have hkn : (k : Int) < (n : Int) := by omega
              have KD := Lib.hid (show wr.drew.cell? (ad.add k) = some (.int .i64 x) ∧ wr.drew.cell? (ad.add j) = some (.int .i64 y) from ⟨c1, c2⟩)
              have HJ := Lib.hid hj
              clear ht hj
              by_cases hxy : y < x
              · have hxy' : y < x := hxy
                go_wp2_with fail
                go_region_held3 (fun w' => w'.cell? (ad.add k) = some (.int .i64 x) ∧ w'.cell? (ad.add j) = some (.int .i64 y)) (first | exact KD.out | go_keep) (fail)
                go_wp2_with fail
                go_roundw
                case rel => exact ⟨k + 1, by omega, by omega, by go_num, by rw [HU1.out, HA.out, decide_eq_true hxy]; rfl, (by exact B.out.drew)⟩
                case measure => simp [intOf]; omega
              · have hxy' : x ≤ y := by omega
                have HV : Hid (segB l z = false) := Lib.hid (by rw [HU.out]; exact HBD.out hxy)
                go_wp2_with fail
                go_region_held3 (fun w' => w'.cell? (ad.add k) = some (.int .i64 x) ∧ w'.cell? (ad.add j) = some (.int .i64 y)) (first | exact KD.out | go_keep) (fail)
                go_wp2_with fail
                go_ret
                exact ⟨by rw [HV.out]; rfl, (by exact B.out.drew)⟩
            · have hkn : k = n := by omega
              subst k
              have HV : Hid (segB l z = true) := Lib.hid (by rw [HU.out]; have := HA.out; rwa [List.take_of_length_le (by omega)] at this)
              go_wp2_with fail
              go_ret
              exact ⟨by rw [HV.out]; rfl, B.out⟩
    · have h2' : (n : Int) < 2 := by omega
      have HV : Hid (segB l z = false) := Lib.hid (by rw [HSB.out, decide_eq_false h2]; simp)
      clear h2
      go_enter Tryd.func56, Tryd.ntmps56
      go_wp2_with fail
      go_ret
      exact ⟨by rw [HV.out]; rfl, Below.refl _ _⟩
  · have h1' : z < 1 := by omega
    have HV : Hid (segB l z = false) := Lib.hid (by rw [HSB.out, decide_eq_false h1]; simp)
    go_enter Tryd.func56, Tryd.ntmps56
    go_wp2_with fail
    go_ret
    exact ⟨by rw [HV.out]; rfl, Below.refl _ _⟩
set_option maxHeartbeats 2000000 in
theorem resize_any (r : Sp) (q : Stp) (z : Int) (w : World) (hq : SpIn w r q) :
    Calls Tryd.prog 44 #[.agg r.plan, .int .i64 z] w fun e w' => e = .returned (.int .i64 (errI (planB q z))) ∧ Below w.heap.size w w' := by
  have hb0 : Below w.heap.size w (w.alloc (.cells r.plan 28)) := (Below.refl _ _).alloc (Nat.le_refl _) _
  have K0 : Hid (Blk (w.alloc (.cells r.plan 28)) w.heap.size 28 r.plan) := Lib.hid (Blk.new w _ _)
  have HC := Lib.hid (seg_any r.Ab r.nb r.cb q.bounds z _ (hq.bounds.keep hb0) hq.nb)
  have B0 := Lib.hid hb0
  have hbl := hq.bounds.len
  have hfl := hq.fixed.len
  have hnb := hq.nb
  have hnf := hq.nf
  have HP : Hid (planB q z = (segB q.bounds z && decide (r.nf + 1 = r.nb))) := Lib.hid (by unfold planB; rw [hbl, hfl])
  have H2 : Hid (segB q.bounds z = true → 2 ≤ r.nb) := Lib.hid (fun h => by
    rw [segB_eq q.bounds r.nb z hbl] at h
    simp only [Bool.and_eq_true, decide_eq_true_eq] at h
    exact h.2.1)
  clear hq hb0 hbl hfl
  obtain ⟨Ai, ni, ci, caret, pend, mode, conv, Ab, nb, cb, Af, nf, cf, At, nt, ct, focus, prev, commit⟩ := r
  simp only at hnb hnf HP HC H2
  unfold Sp.plan at *
  simp only at K0 B0 HC
  rcases hsb : segB q.bounds z with _ | _
  · rw [hsb] at HC
    have HV : Hid (planB q z = false) := Lib.hid (by rw [HP.out, hsb]; rfl)
    clear hsb
    go_enter Tryd.func44, Tryd.ntmps44
    go_wp2_with fail
    refine HC.out.mono ?_
    rintro e w1 ⟨rfl, hb1⟩
    have B1 := Lib.hid (B0.out.trans (hb1.mono B0.out.size))
    clear hb1
    go_wp2_with fail
    go_ret
    exact ⟨by rw [HV.out]; rfl, B1.out⟩
  · rw [hsb] at HC
    have hb2 := H2.out hsb
    have HPV : Hid (planB q z = decide (nf + 1 = nb)) := Lib.hid (by rw [HP.out, hsb]; rfl)
    clear hsb
    by_cases he : nf + 1 = nb
    · have HV : Hid (planB q z = true) := Lib.hid (by rw [HPV.out, decide_eq_true he])
      have hne : ((nf : Int) != (nb : Int) - 1) = false := by rw [bne_eq_false_iff_eq]; omega
      clear he
      go_enter Tryd.func44, Tryd.ntmps44
      go_wp2_with fail
      refine HC.out.mono ?_
      rintro e w1 ⟨rfl, hb1⟩
      have B1 := Lib.hid (B0.out.trans (hb1.mono B0.out.size))
      have K1 := Lib.hid (K0.out.below hb1 K0.out.lt)
      have k0 : w1.cell? ⟨w.heap.size, 0, none⟩ = some (.slice Ab nb cb) := K1.out.cell 0
      have k1 : w1.cell? ⟨w.heap.size, 1, none⟩ = some (.slice Af nf cf) := K1.out.cell 1
      clear hb1
      go_wp2_with fail
      go_ret
      exact ⟨by rw [HV.out]; rfl, B1.out⟩
    · have HV : Hid (planB q z = false) := Lib.hid (by rw [HPV.out, decide_eq_false he])
      have hne : ((nf : Int) != (nb : Int) - 1) = true := by rw [bne_iff_ne]; omega
      clear he
      go_enter Tryd.func44, Tryd.ntmps44
      go_wp2_with fail
      refine HC.out.mono ?_
      rintro e w1 ⟨rfl, hb1⟩
      have B1 := Lib.hid (B0.out.trans (hb1.mono B0.out.size))
      have K1 := Lib.hid (K0.out.below hb1 K0.out.lt)
      have k0 : w1.cell? ⟨w.heap.size, 0, none⟩ = some (.slice Ab nb cb) := K1.out.cell 0
      have k1 : w1.cell? ⟨w.heap.size, 1, none⟩ = some (.slice Af nf cf) := K1.out.cell 1
      clear hb1
      go_wp2_with fail
      go_ret
      exact ⟨by rw [HV.out]; rfl, B1.out⟩
end Go.Proofs.YtebjfigjfhghcaaDoor.Und
