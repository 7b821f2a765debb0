/-
  The contract of CheckRequest of package henkanref42. Conditions: the request can be read; lengths are within the form's reach. (Printed by gen/reqchk.py.)
-/
import Derived.Test.YtkllfnaofapfnaaDoorReqFor
import Derived.Test.YtkllfnaofapfnaaDoorUtfValidR
namespace Go.Proofs.YtkllfnaofapfnaaDoor.Prot
open Go.RowKit Wd Utf Cod

/-- the request's block in the reference -/
def RqR (B : Nat) (r : Req) (wx : World) : Prop := Blk wx B 42 r.cells
section
variable {B : Nat} {r : Req} {wx wy : World}
theorem RqR.keep (h : RqR B r wx) (hb : Below wx.heap.size wx wy) : RqR B r wy := Blk.below h hb (Blk.lt h)
theorem RqR.c0 (h : RqR B r wx) : wx.cell? ⟨B, 0, none⟩ = some (.int .i64 r.kind) := Blk.cell h 0
theorem RqR.c1 (h : RqR B r wx) : wx.cell? ⟨B, 1, none⟩ = some (.int .i64 r.ses) := Blk.cell h 1
theorem RqR.c2 (h : RqR B r wx) : wx.cell? ⟨B, 2, none⟩ = some (.int .i64 r.kk) := Blk.cell h 2
theorem RqR.c3 (h : RqR B r wx) : wx.cell? ⟨B, 3, none⟩ = some (.int .u8 (r.kc : Int)) := Blk.cell h 3
theorem RqR.c4 (h : RqR B r wx) : wx.cell? ⟨B, 4, none⟩ = some (.string r.bef) := Blk.cell h 4
theorem RqR.c5 (h : RqR B r wx) : wx.cell? ⟨B, 5, none⟩ = some (.string r.sel) := Blk.cell h 5
theorem RqR.c6 (h : RqR B r wx) : wx.cell? ⟨B, 6, none⟩ = some (.bool r.on) := Blk.cell h 6
theorem RqR.c7 (h : RqR B r wx) : wx.cell? ⟨B, 7, none⟩ = some (.string r.sur) := Blk.cell h 7
theorem RqR.c8 (h : RqR B r wx) : wx.cell? ⟨B, 8, none⟩ = some (.slice r.A7 r.n7 r.c7) := Blk.cell h 8
theorem RqR.c9 (h : RqR B r wx) : wx.cell? ⟨B, 9, none⟩ = some (.slice r.A8 r.n8 r.c8) := Blk.cell h 9
end
theorem argB_for {r : Req} {q : Rq} (hq : IsRq r q.seen q) : argB q = (nb r.kind 1 9 && !forR r) := by
  obtain ⟨q1, q2, q3, q4, q5, q6, q7, q8, q9, q10, q11⟩ := hq
  unfold argB forR
  rw [q1, q2, q3, q4, q5, q6, q7, q8, q10, q11, isEmpty_emB, isEmpty_emB, isEmpty_emB]
  have e1 : keyB r.kk r.kc = !(r.kk != 0 || (r.kc : Int) != 0) := by
    unfold keyB
    rw [Bool.eq_iff_iff, decide_eq_true_eq, Bool.not_eq_true', Bool.or_eq_false_iff, bne_eq_false_iff_eq, bne_eq_false_iff_eq]
    omega
  have e7 : (r.n7 == 0) = !decide (0 < r.n7) := by rw [Bool.eq_iff_iff, beq_iff_eq, Bool.not_eq_true', decide_eq_false_iff_not]; omega
  have e8 : (r.n8 == 0) = !decide (0 < r.n8) := by rw [Bool.eq_iff_iff, beq_iff_eq, Bool.not_eq_true', decide_eq_false_iff_not]; omega
  have n1 : (r.ses == 0) = !(r.ses != 0) := by simp [bne]
  have n3 : (r.kind == 3) = !(r.kind != 3) := by simp [bne]
  have n4 : (r.kind == 4) = !(r.kind != 4) := by simp [bne]
  have n5 : (r.kind == 5) = !(r.kind != 5) := by simp [bne]
  have n6 : (r.kind == 6) = !(r.kind != 6) := by simp [bne]
  have n7 : (r.kind == 7) = !(r.kind != 7) := by simp [bne]
  have n8 : (r.kind == 8) = !(r.kind != 8) := by simp [bne]
  rw [e1, e7, e8, n1, n3, n4, n5, n6, n7, n8]
  simp only [Bool.not_or, Bool.not_and, Bool.not_not, Bool.and_assoc, Bool.or_comm]
  ac_rfl
theorem chk_arg {q : Rq} (h : argB q = false) : chkR q = 1 := by unfold chkR; rw [h]; rfl
theorem chk_rng {q : Rq} (h : argB q = true) (h2 : rngB q = false) : chkR q = 6 := by unfold chkR; rw [h, h2]; rfl
theorem chk_txt {q : Rq} (h : argB q = true) (h2 : rngB q = true) (h3 : txtB q = false) : chkR q = 10 := by unfold chkR; rw [h, h2, h3]; rfl
theorem chk_lng {q : Rq} (h : argB q = true) (h2 : rngB q = true) (h3 : txtB q = true) (h4 : lngB q = false) : chkR q = 2 := by unfold chkR; rw [h, h2, h3, h4]; rfl
theorem chk_ok {q : Rq} (h : argB q = true) (h2 : rngB q = true) (h3 : txtB q = true) (h4 : lngB q = true) : chkR q = 0 := by unfold chkR; rw [h, h2, h3, h4]; rfl
/-- the memory of the reference's check -/
structure RE (w : World) (r : Req) (q : Rq) (wx : World) : Prop where
  rq : RqR w.heap.size r wx
  q : RqIn wx r q
  bel : Below w.heap.size w wx
theorem RE.keep {w wx wy : World} {r : Req} {q : Rq} (h : RE w r q wx) (hb : Below wx.heap.size wx wy) : RE w r q wy := ⟨h.rq.keep hb, h.q.keep hb, h.bel.trans (hb.mono h.bel.size)⟩
theorem RE.start {w : World} {r : Req} {q : Rq} (h : RqIn w r q) : RE w r q (w.alloc (.cells r.cells 42)) :=
  have hb : Below w.heap.size w (w.alloc (.cells r.cells 42)) := (Below.refl _ _).alloc (Nat.le_refl _) _
  ⟨Blk.new _ _ _, h.keep hb, hb⟩
theorem rng_eq {r : Req} {q : Rq} (hq : IsRq r q.seen q) : rngB q = (!(!numB r.ses || (r.kind == 3 && !nb r.kk 1 17)) && q.seen.all (fun z => nb z 0 1099511627776)) := by
  unfold rngB
  rw [hq.kind, hq.ses, hq.kk]
  cases numB r.ses <;> cases hk : (r.kind == 3) <;> cases nb r.kk 1 17 <;> simp [bne, hk]
theorem all_snoc {l : List Int} {k : Nat} (h : k < l.length) (f : Int → Bool) (h1 : (l.take k).all f = true) (h2 : f (l.getD k 0) = true) : (l.take (k + 1)).all f = true := by
  rw [List.take_succ_eq_append_getElem h, List.all_append, h1]
  simpa [List.getD, h] using h2
theorem all_bad {l : List Int} {k : Nat} (h : k < l.length) (f : Int → Bool) (h2 : f (l.getD k 0) = false) : l.all f = false := by
  rw [Bool.eq_false_iff]
  intro ha
  have := List.all_eq_true.1 ha (l.getD k 0) (by rw [List.getD, List.getElem?_eq_getElem h, Option.getD_some]; exact List.getElem_mem _)
  rw [h2] at this; cases this
set_option maxRecDepth 100000 in
set_option maxHeartbeats 8000000 in
theorem checkR_any (r : Req) (q : Rq) (w : World) (hq : RqIn w r q) (hb : r.bef.size ≤ 30000000000000) (hs : r.sel.size ≤ 30000000000000) (hu : r.sur.size ≤ 30000000000000) :
    Calls Tryd.prog 45 #[.agg r.cells] w fun e w' => e = .returned (.int .i64 (chkR q : Nat)) ∧ Below w.heap.size w w' := by
  have E0 := Lib.hid (RE.start hq)
  have IS := Lib.hid hq.is
  have HA := Lib.hid (argB_for hq.is)
  have HR := Lib.hid (rng_eq hq.is)
  have HF := Lib.hid (fun (w : World) => foreign_any r w)
  have hn7 := hq.n7
  clear hq
  unfold Req.cells at E0 HF ⊢
  rcases hN : nb r.kind 1 9 with _ | _
  · have HN := Lib.hid hN
    clear hN
    go_enter Tryd.func45, Tryd.ntmps45
    go_wp2_with fail
    refine (in_any _ _ _ _).mono ?_
    rintro e wq ⟨rfl, rfl⟩
    rw [HN.out]
    go_wp2_with fail
    go_ret
    exact ⟨by rw [chk_arg (by rw [HA.out, HN.out]; rfl)]; rfl, E0.out.bel⟩
  have HN := Lib.hid hN
  clear hN
  rcases hG : forR r with _ | _
  · have HG := Lib.hid hG
    clear hG
    have CA : Hid (argB q = true) := Lib.hid (by rw [HA.out, HN.out, HG.out]; rfl)
    go_enter Tryd.func45, Tryd.ntmps45
    go_wp2_with fail
    refine (in_any _ _ _ _).mono ?_
    rintro e wq ⟨rfl, rfl⟩
    rw [HN.out]
    go_wp2_with fail
    refine (HF.out _).mono ?_
    rintro e w1 ⟨rfl, hb1⟩
    rw [HG.out]
    have E := Lib.hid (E0.out.keep hb1)
    clear hb1 E0 HF
    go_upto_region 3 with fail
    generalize hX : (!numB r.ses || (r.kind == 3 && !nb r.kk 1 17)) = X at HR
    have HX := Lib.hid hX.symm
    clear hX
    go_cut [27] (fun s27 wx => s27 = .bool X ∧ w1 = wx)
    case first =>
      have k0 := E.out.rq.c0
      have k1 := E.out.rq.c1
      have k2 := E.out.rq.c2
      rcases hS : numB r.ses with _ | _
      · have HS : Hid (nb r.ses 0 2147483647 = false) := Lib.hid hS
        have HX2 : Hid (X = true) := Lib.hid (by rw [HX.out, hS]; rfl)
        clear hS
        go_wp2_with fail
        refine (in_any _ _ _ _).mono ?_
        rintro e wq ⟨rfl, rfl⟩
        rw [HS.out]
        go_wp2_with fail
        go_meet
        case rel => exact ⟨by rw [HX2.out], rfl⟩
      · have HS : Hid (nb r.ses 0 2147483647 = true) := Lib.hid hS
        by_cases hk : r.kind = 3
        · have HX2 : Hid (X = !nb r.kk 1 17) := Lib.hid (by rw [HX.out, hS, hk]; rfl)
          have hk1 : (r.kind == 3) = true := by rw [hk]; rfl
          clear hS hk
          go_wp2_with fail
          refine (in_any _ _ _ _).mono ?_
          rintro e wq ⟨rfl, rfl⟩
          rw [HS.out]
          go_wp2_with fail
          refine (in_any _ _ _ _).mono ?_
          rintro e wq ⟨rfl, rfl⟩
          go_wp2_with fail
          go_meet
          case rel => exact ⟨by rw [HX2.out], rfl⟩
        · have hk1 : (r.kind == 3) = false := by rw [beq_eq_false_iff_ne]; exact hk
          have HX2 : Hid (X = false) := Lib.hid (by rw [HX.out, hS, hk1]; rfl)
          clear hS hk
          go_wp2_with fail
          refine (in_any _ _ _ _).mono ?_
          rintro e wq ⟨rfl, rfl⟩
          rw [HS.out]
          go_wp2_with fail
          go_meet
          case rel => exact ⟨by rw [HX2.out], rfl⟩
    obtain ⟨rfl, rfl⟩ := hcut
    rcases X with _ | _
    rotate_left
    · go_wp2_with fail
      go_ret
      exact ⟨by rw [chk_rng CA.out (by rw [HR.out]; rfl)]; rfl, E.out.bel⟩
    have hlen := E.out.q.seen.len
    have HLEN := Lib.hid hlen
    clear hlen
    go_wp2_with fail
    go_loop [3] (fun i => ∃ k : Nat, k ≤ r.n7 ∧ i = .int .i64 (k : Int) ∧ (q.seen.take k).all (fun z => nb z 0 1099511627776) = true) (fun i => r.n7 - (intOf i).toNat)
    case atStart => exact ⟨0, Nat.zero_le _, rfl, by rw [List.take_zero]; rfl⟩
    case round =>
      obtain ⟨k, hk, rfl, hall⟩ := hrel
      have HALL := Lib.hid hall
      have k8 := E.out.rq.c8
      clear hall
      by_cases hlt : k < r.n7
      · obtain ⟨ad, hA, hbl, hc⟩ := E.out.q.seen.at_ hlt
        rw [hA] at k8
        clear hA hbl
        have hkl : k < q.seen.length := by rw [HLEN.out]; exact hlt
        have HKL := Lib.hid hkl
        clear hkl
        obtain ⟨z, hz⟩ : ∃ z, z = q.seen.getD k 0 := ⟨_, rfl⟩
        rw [← hz] at hc
        have HZ := Lib.hid hz
        clear hz
        rcases hV : nb z 0 1099511627776 with _ | _
        · have HV := Lib.hid hV
          have HB := Lib.hid (all_bad HKL.out (fun z => nb z 0 1099511627776) (by have h := hV; rw [HZ.out] at h; exact h))
          clear hV
          go_wp2_with fail
          refine (in_any _ _ _ _).mono ?_
          rintro e wq ⟨rfl, rfl⟩
          rw [HV.out]
          go_wp2_with fail
          go_ret
          exact ⟨by rw [chk_rng CA.out (by rw [HR.out, HB.out]; rfl)]; rfl, E.out.bel⟩
        · have HV := Lib.hid hV
          have HB := Lib.hid (all_snoc HKL.out (fun z => nb z 0 1099511627776) HALL.out (by have h := hV; rw [HZ.out] at h; exact h))
          clear hV
          go_wp2_with fail
          refine (in_any _ _ _ _).mono ?_
          rintro e wq ⟨rfl, rfl⟩
          rw [HV.out]
          go_wp2_with fail
          go_round
          case rel => exact ⟨k + 1, by omega, by go_num, HB.out⟩
          case measure => simp [intOf]; omega
      · obtain rfl : r.n7 = k := by omega
        have CR : Hid (rngB q = true) := Lib.hid (by
          have h := HALL.out
          rw [List.take_of_length_le (by rw [HLEN.out]; omega)] at h
          rw [HR.out, h]; rfl)
        have HT : Hid (txtB q = (vt r.bef && vt r.sel && vt r.sur)) := Lib.hid (by unfold txtB; rw [IS.out.bef, IS.out.sel, IS.out.sur])
        have HL : Hid (lngB q = (decide (r.bef.size ≤ 4096) && decide (r.sel.size ≤ 4096) && decide (r.sur.size ≤ 4096) && decide (r.n8 ≤ 69632) && decide (r.n7 ≤ 8))) := Lib.hid (by unfold lngB; rw [IS.out.bef, IS.out.sel, IS.out.sur, IS.out.data, HLEN.out])
        have V1 := Lib.hid (fun w : World => validR_any r.bef w hb)
        have V2 := Lib.hid (fun w : World => validR_any r.sel w hs)
        have V3 := Lib.hid (fun w : World => validR_any r.sur w hu)
        have k4 := E.out.rq.c4
        clear HALL
        rcases hv1 : vt r.bef with _ | _
        all_goals have HV1 := Lib.hid hv1; clear hv1
        ·
          go_wp2_with fail
          refine (V1.out _).mono ?_
          rintro e wv1 ⟨rfl, hbv⟩
          rw [show (runes r.bef.data.toList).isSome = _ from HV1.out]
          have E1 := Lib.hid (E.out.keep hbv)
          clear hbv
          go_wp2_with fail
          go_ret
          exact ⟨by rw [chk_txt CA.out CR.out (by rw [HT.out, HV1.out]; rfl)]; rfl, E1.out.bel⟩
        rcases hv2 : vt r.sel with _ | _
        all_goals have HV2 := Lib.hid hv2; clear hv2
        ·
          go_wp2_with fail
          refine (V1.out _).mono ?_
          rintro e wv1 ⟨rfl, hbv⟩
          rw [show (runes r.bef.data.toList).isSome = _ from HV1.out]
          have E1 := Lib.hid (E.out.keep hbv)
          clear hbv
          have k5 := E1.out.rq.c5
          go_wp2_with fail
          refine (V2.out _).mono ?_
          rintro e wv2 ⟨rfl, hbv⟩
          rw [show (runes r.sel.data.toList).isSome = _ from HV2.out]
          have E2 := Lib.hid (E1.out.keep hbv)
          clear hbv
          go_wp2_with fail
          go_ret
          exact ⟨by rw [chk_txt CA.out CR.out (by rw [HT.out, HV1.out, HV2.out]; rfl)]; rfl, E2.out.bel⟩
        rcases hv3 : vt r.sur with _ | _
        all_goals have HV3 := Lib.hid hv3; clear hv3
        ·
          go_wp2_with fail
          refine (V1.out _).mono ?_
          rintro e wv1 ⟨rfl, hbv⟩
          rw [show (runes r.bef.data.toList).isSome = _ from HV1.out]
          have E1 := Lib.hid (E.out.keep hbv)
          clear hbv
          have k5 := E1.out.rq.c5
          go_wp2_with fail
          refine (V2.out _).mono ?_
          rintro e wv2 ⟨rfl, hbv⟩
          rw [show (runes r.sel.data.toList).isSome = _ from HV2.out]
          have E2 := Lib.hid (E1.out.keep hbv)
          clear hbv
          have k7 := E2.out.rq.c7
          go_wp2_with fail
          refine (V3.out _).mono ?_
          rintro e wv3 ⟨rfl, hbv⟩
          rw [show (runes r.sur.data.toList).isSome = _ from HV3.out]
          have E3 := Lib.hid (E2.out.keep hbv)
          clear hbv
          go_wp2_with fail
          go_ret
          exact ⟨by rw [chk_txt CA.out CR.out (by rw [HT.out, HV1.out, HV2.out, HV3.out]; rfl)]; rfl, E3.out.bel⟩
        go_wp2_with fail
        refine (V1.out _).mono ?_
        rintro e wv1 ⟨rfl, hbv⟩
        rw [show (runes r.bef.data.toList).isSome = _ from HV1.out]
        have E1 := Lib.hid (E.out.keep hbv)
        clear hbv
        have k5 := E1.out.rq.c5
        go_wp2_with fail
        refine (V2.out _).mono ?_
        rintro e wv2 ⟨rfl, hbv⟩
        rw [show (runes r.sel.data.toList).isSome = _ from HV2.out]
        have E2 := Lib.hid (E1.out.keep hbv)
        clear hbv
        have k7 := E2.out.rq.c7
        go_wp2_with fail
        refine (V3.out _).mono ?_
        rintro e wv3 ⟨rfl, hbv⟩
        rw [show (runes r.sur.data.toList).isSome = _ from HV3.out]
        have E3 := Lib.hid (E2.out.keep hbv)
        clear hbv
        have CT : Hid (txtB q = true) := Lib.hid (by rw [HT.out, HV1.out, HV2.out, HV3.out]; rfl)
        clear k4 k5 k7 HT HV1 HV2 HV3 V1 V2 V3
        have k4 := E3.out.rq.c4
        have k5 := E3.out.rq.c5
        have k7 := E3.out.rq.c7
        replace k8 := E3.out.rq.c8
        have k9 := E3.out.rq.c9
        by_cases l0 : r.bef.size ≤ 4096
        rotate_left
        · have g0 : (4096 : Int) < ((r.bef.size : Nat) : Int) := by omega
          have g0' : 4096 < r.bef.size := by omega
          have CL : Hid (lngB q = false) := Lib.hid (by rw [HL.out, decide_eq_false l0]; simp)
          go_wp2_with fail
          go_ret
          exact ⟨by rw [chk_lng CA.out CR.out CT.out CL.out]; rfl, E3.out.bel⟩
        have g0 : ((r.bef.size : Nat) : Int) ≤ 4096 := by omega
        by_cases l1 : r.sel.size ≤ 4096
        rotate_left
        · have g1 : (4096 : Int) < ((r.sel.size : Nat) : Int) := by omega
          have g1' : 4096 < r.sel.size := by omega
          have CL : Hid (lngB q = false) := Lib.hid (by rw [HL.out, decide_eq_false l1]; simp)
          go_wp2_with fail
          go_ret
          exact ⟨by rw [chk_lng CA.out CR.out CT.out CL.out]; rfl, E3.out.bel⟩
        have g1 : ((r.sel.size : Nat) : Int) ≤ 4096 := by omega
        by_cases l2 : r.sur.size ≤ 4096
        rotate_left
        · have g2 : (4096 : Int) < ((r.sur.size : Nat) : Int) := by omega
          have g2' : 4096 < r.sur.size := by omega
          have CL : Hid (lngB q = false) := Lib.hid (by rw [HL.out, decide_eq_false l2]; simp)
          go_wp2_with fail
          go_ret
          exact ⟨by rw [chk_lng CA.out CR.out CT.out CL.out]; rfl, E3.out.bel⟩
        have g2 : ((r.sur.size : Nat) : Int) ≤ 4096 := by omega
        by_cases l3 : r.n8 ≤ 69632
        rotate_left
        · have g3 : (69632 : Int) < ((r.n8 : Nat) : Int) := by omega
          have g3' : 69632 < r.n8 := by omega
          have CL : Hid (lngB q = false) := Lib.hid (by rw [HL.out, decide_eq_false l3]; simp)
          go_wp2_with fail
          go_ret
          exact ⟨by rw [chk_lng CA.out CR.out CT.out CL.out]; rfl, E3.out.bel⟩
        have g3 : ((r.n8 : Nat) : Int) ≤ 69632 := by omega
        by_cases l4 : r.n7 ≤ 8
        rotate_left
        · have g4 : (8 : Int) < ((r.n7 : Nat) : Int) := by omega
          have g4' : 8 < r.n7 := by omega
          have CL : Hid (lngB q = false) := Lib.hid (by rw [HL.out, decide_eq_false l4]; simp)
          go_wp2_with fail
          go_ret
          exact ⟨by rw [chk_lng CA.out CR.out CT.out CL.out]; rfl, E3.out.bel⟩
        have g4 : ((r.n7 : Nat) : Int) ≤ 8 := by omega
        have CL : Hid (lngB q = true) := Lib.hid (by rw [HL.out, decide_eq_true l0, decide_eq_true l1, decide_eq_true l2, decide_eq_true l3, decide_eq_true l4]; rfl)
        go_wp2_with fail
        go_ret
        exact ⟨by rw [chk_ok CA.out CR.out CT.out CL.out]; first | rfl | (simp <;> omega), E3.out.bel⟩
  · have HG := Lib.hid hG
    clear hG
    go_enter Tryd.func45, Tryd.ntmps45
    go_wp2_with fail
    refine (in_any _ _ _ _).mono ?_
    rintro e wq ⟨rfl, rfl⟩
    rw [HN.out]
    go_wp2_with fail
    refine (HF.out _).mono ?_
    rintro e w1 ⟨rfl, hb1⟩
    rw [HG.out]
    have E := Lib.hid (E0.out.keep hb1)
    clear hb1 E0 HF
    go_wp2_with fail
    go_ret
    exact ⟨by rw [chk_arg (by rw [HA.out, HN.out, HG.out]; rfl)]; rfl, E.out.bel⟩
end Go.Proofs.YtkllfnaofapfnaaDoor.Prot
