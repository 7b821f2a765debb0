/-
  The contracts of count, converted and Valid of package henkanref40. Conditions: the step can be read, its lengths are bounded. (Printed by gen/undconvr.py.)
-/
import Derived.Test.YtebjfigjfhghcaaDoorUndConv
namespace Go.Proofs.YtebjfigjfhghcaaDoor.Und
open Go.RowKit Wd Utf

theorem inRange_any (s : ByteArray) (lo hi : Int) (w : World) (hs : s.size ≤ 30000000000000) :
    Calls Tryd.prog 26 #[.string s, .int .i64 lo, .int .i64 hi] w fun e w' => e = .returned (.bool (decide (lo ≤ num s) && decide (num s ≤ hi))) ∧ Below w.heap.size w w' := by
  have HC := Lib.hid (countR_any s w hs)
  unfold num
  generalize cnt s.data.toList = x at HC ⊢
  by_cases h1 : lo ≤ x
  · go_enter Tryd.func26, Tryd.ntmps26
    go_wp2_with fail
    refine HC.out.mono ?_
    rintro e w1 ⟨rfl, hb⟩
    go_wp2_with fail
    go_ret
    exact ⟨by simp [h1], hb⟩
  · have h1' : x < lo := by omega
    go_enter Tryd.func26, Tryd.ntmps26
    go_wp2_with fail
    refine HC.out.mono ?_
    rintro e w1 ⟨rfl, hb⟩
    go_wp2_with fail
    go_ret
    exact ⟨by simp; omega, hb⟩
theorem cat_snoc {l : List ByteArray} {k : Nat} (h : k < l.length) : cat (l.take k) ++ l.getD k ByteArray.empty = cat (l.take (k + 1)) := by
  have h1 : (cat (l.take k) ++ l.getD k ByteArray.empty).data.toList = (cat (l.take (k + 1))).data.toList := by
    unfold cat
    rw [catL_snoc h]
    simp [ByteArray.data_append]
  exact ByteArray.ext (Array.ext' h1)
theorem cat_size (l : List ByteArray) : (cat l).size = (catL l).length := by unfold cat; exact List.size_toArray ..
theorem catL_lenk {ss : List ByteArray} {b k : Nat} (h : ∀ s ∈ ss, s.size ≤ b) (hk : k ≤ ss.length) : (catL (ss.take k)).length ≤ k * b := by
  have := catL_len (ss := ss.take k) (b := b) (fun s hs => h s (List.mem_of_mem_take hs))
  rwa [List.length_take, Nat.min_eq_left hk] at this
set_option maxRecDepth 100000 in
set_option maxHeartbeats 8000000 in
theorem convR_any (r : Sp) (q : Stp) (w : World) (hq : SpIn w r q) :
    Calls Tryd.prog 27 #[.agg r.cells] w fun e w' => e = .returned (.bool (convB q)) ∧ Below w.heap.size w w' := by
  have hb0 : Below w.heap.size w (w.alloc (.cells r.cells 39)) := (Below.refl _ _).alloc (Nat.le_refl _) _
  have K0 : Hid (Blk (w.alloc (.cells r.cells 39)) w.heap.size 39 r.cells) := Lib.hid (Blk.new w _ _)
  have HQ := Lib.hid hq
  have HH := Lib.hid (headB_eq hq)
  have hnb := hq.nb
  have hnt := hq.nt
  have HBL := Lib.hid hq.bounds.len
  have HTL := Lib.hid hq.texts.len
  have HCM := Lib.hid hq.commit
  have B0 := Lib.hid hb0
  clear hq hb0
  obtain ⟨Ai, ni, ci, caret, pend, mode, conv, Ab, nb, cb, Af, nf, cf, At, nt, ct, focus, prev, commit⟩ := r
  simp only at hnb hnt HH HBL HTL HCM
  unfold Sp.cells at *
  simp only at K0 B0
  by_cases h0 : 2 ≤ nb
  · have g0 : (2 : Int) ≤ (nb : Int) := by omega
    have HC0 : Hid (convB q = ((decide (nt + 1 = nb) && (decide (0 ≤ focus) && decide (focus < (nt : Int)))) && restB q)) := Lib.hid (by unfold convB; rw [HH.out, decide_eq_true h0]; rfl)
    have HRB : Hid (restB q = ((decide (1 ≤ lastB q) && (decide (lastB q ≤ 64) && planB q (lastB q))) && (q.texts.all (fun t => decide (0 < num t)) && decide (catL q.texts = commit.data.toList)))) := Lib.hid (by unfold restB; rw [HCM.out])
    obtain ⟨ad, rfl, _, hcl⟩ := (HQ.out.keep B0.out).bounds.at_ (j := nb - 1) (by simp only; omega)
    have hlz : q.bounds.getD (nb - 1) 0 = lastB q := by unfold lastB; rw [HBL.out]
    rw [hlz] at hcl
    have ht : ((nb : Int) - 1).toNat = nb - 1 := by omega
    generalize hz : lastB q = z at hcl HRB
    have HRZ := Lib.hid (fun (h1 : 1 ≤ z) (W : World) (hW : Below w.heap.size w W) => plan27_any _ q z W (HQ.out.keep hW) h1)
    clear h0 HH hlz hz
    unfold Sp.plan at HRZ
    simp only at HRZ
    by_cases z1 : 1 ≤ z
    · by_cases z2 : z ≤ 64
      · go_enter Tryd.func27, Tryd.ntmps27
        go_wp2_with fail
        refine (HRZ.out z1 _ B0.out).mono ?_
        rintro e w1 ⟨rfl, hb1⟩
        have B1 := Lib.hid (B0.out.trans (hb1.mono B0.out.size))
        have K1 := Lib.hid (K0.out.below hb1 K0.out.lt)
        clear hb1 hcl
        have HZ1 := Lib.hid z1
        have HZ2 := Lib.hid z2

        rcases hp : planB q z with _ | _
        · have HV : Hid (convB q = false) := Lib.hid (by rw [HC0.out, HRB.out, hp]; simp)
          clear hp
          go_wp2_with fail
          go_ret
          exact ⟨by rw [HV.out]; rfl, B1.out⟩
        · have HPL := Lib.hid hp
          clear hp
          have k5 : w1.cell? ⟨w.heap.size, 5, none⟩ = some (.slice (some ad) nb cb) := K1.out.cell 5
          have k7 : w1.cell? ⟨w.heap.size, 7, none⟩ = some (.slice At nt ct) := K1.out.cell 7
          have k8 : w1.cell? ⟨w.heap.size, 8, none⟩ = some (.int .i64 focus) := K1.out.cell 8
          by_cases h0 : nt + 1 = nb
          · have g00 : (nt : Int) = (nb : Int) - 1 := by omega
            have g00b : ((nt : Int) != (nb : Int) - 1) = false := by rw [bne_eq_false_iff_eq]; omega
            by_cases h1 : 0 ≤ focus
            · have g10 : 0 ≤ focus := by omega
              by_cases h2 : focus < (nt : Int)
              · have g20 : focus < (nt : Int) := by omega
                have HR2 : Hid (convB q = (q.texts.all (fun t => decide (0 < num t)) && decide (catL q.texts = commit.data.toList))) := Lib.hid (by rw [HC0.out, HRB.out, HPL.out, decide_eq_true h0, decide_eq_true h1, decide_eq_true h2, decide_eq_true HZ1.out, decide_eq_true HZ2.out]; rfl)
                clear h0 h1 h2
                go_wp2_with fail
                go_loopw [5, 6] (fun o i wr => ∃ k : Nat, k ≤ nt ∧ i = .int .i64 (k : Int) ∧ o = .string (cat (q.texts.take k)) ∧ (q.texts.take k).all (fun t => decide (0 < num t)) = true ∧ Blk wr w.heap.size 39 #[.slice Ai ni ci, .int .i64 caret, .string pend, .int .i64 mode, .bool conv, .slice (some ad) nb cb, .slice Af nf cf, .slice At nt ct, .int .i64 focus, .string prev, .string commit] ∧ Below w.heap.size w wr) (fun _ i _ => nt - (intOf i).toNat)
                case atStart => exact ⟨0, Nat.zero_le _, rfl, rfl, rfl, K1.out, B1.out⟩
                case round =>
                  obtain ⟨k, hk, rfl, rfl, hall, hkb, hbl⟩ := hrel
                  have HA := Lib.hid hall
                  have B := Lib.hid hbl
                  have K := Lib.hid hkb
                  clear hall hbl hkb k5 k7 k8
                  have k7 : wr.cell? ⟨w.heap.size, 7, none⟩ = some (.slice At nt ct) := K.out.cell 7
                  by_cases hlt : k < nt
                  · obtain ⟨a2, rfl, _, hc1⟩ := (HQ.out.keep B.out).texts.at_ hlt
                    have hgd := getD_inS (l := q.texts) (k := k) (by rw [HTL.out]; exact hlt)
                    have htz := HQ.out.szt _ (List.mem_of_getElem? hgd)
                    have hcat := cat_snoc (l := q.texts) (k := k) (by rw [HTL.out]; exact hlt)
                    have hsz := catL_lenk HQ.out.szt (k := k) (by rw [HTL.out]; omega)
                    rw [← cat_size] at hsz
                    have HRS := Lib.hid (fun (W : World) (hW : Below w.heap.size w W) => RSin (HQ.out.keep hW).texts hlt)
                    generalize q.texts.getD k ByteArray.empty = t at hc1 hgd htz hcat HRS
                    generalize cat (q.texts.take k) = D at hsz hcat
                    generalize hDn : cat (q.texts.take (k + 1)) = Dn at hcat
                    have hadd : ∀ W : World, (Op.stringOp .add D t).run Tryd.prog W = .ok (.string Dn) W := fun W => by rw [run_string_add_sum _ _ _ (by omega), hcat]
                    have HG := Lib.hid hgd
                    have HDN := Lib.hid hDn
                    clear hgd hcat hsz hDn
                    go_wp2_with fail
                    refine (countR_any t _ (by omega)).mono ?_
                    rintro e w2 ⟨rfl, hb2⟩
                    have B2 := Lib.hid (B.out.trans (hb2.mono B.out.size))
                    have K2 := Lib.hid (K.out.below hb2 K.out.lt)
                    have k7' : w2.cell? ⟨w.heap.size, 7, none⟩ = some (.slice (some a2) nt ct) := K2.out.cell 7
                    have hc2 := HRS.out w2 B2.out
                    clear hb2 hc1 k7
                    by_cases hpos : 0 < num t
                    · have hpos' : 1 ≤ cnt t.data.toList := hpos
                      have HPO := Lib.hid (decide_eq_true hpos)
                      generalize cnt t.data.toList = x at hpos'
                      clear hpos
                      go_wp2_with fail
                      go_roundw
                      case rel => exact ⟨k + 1, by omega, by go_num, by rw [HDN.out], all_stp HG.out HA.out HPO.out, K2.out, B2.out⟩
                      case measure => simp [intOf]; omega
                    · have hpos' : cnt t.data.toList < 1 := by have : ¬ 0 < cnt t.data.toList := hpos; omega
                      have HV : Hid (convB q = false) := Lib.hid (by rw [HR2.out, all_nay HG.out (decide_eq_false hpos)]; rfl)
                      generalize cnt t.data.toList = x at hpos'
                      clear hpos
                      go_wp2_with fail
                      go_ret
                      exact ⟨by rw [HV.out]; rfl, B2.out⟩
                  · have hkn : k = nt := by omega
                    subst k
                    have HTK : Hid (q.texts.take nt = q.texts) := Lib.hid (List.take_of_length_le (by rw [HTL.out]; omega))
                    have HAL : Hid (q.texts.all (fun t => decide (0 < num t)) = true) := Lib.hid (by have := HA.out; rwa [HTK.out] at this)
                    have HR3 : Hid (convB q = decide (catL q.texts = commit.data.toList)) := Lib.hid (by rw [HR2.out, HAL.out]; rfl)
                    have k10 : wr.cell? ⟨w.heap.size, 10, none⟩ = some (.string commit) := K.out.cell 10
                    have HCE : Hid ((cat (q.texts.take nt)).data.toList = catL q.texts) := Lib.hid (by rw [HTK.out]; simp [cat])
                    generalize cat (q.texts.take nt) = D at HCE
                    by_cases he : catL q.texts = commit.data.toList
                    · have hbe : (D.toList == commit.toList) = true := by rw [ByteArray.toList_eq, ByteArray.toList_eq, HCE.out, he]; exact beq_self_eq_true _
                      have HV : Hid (convB q = true) := Lib.hid (by rw [HR3.out, decide_eq_true he])
                      clear he
                      go_wp2_with fail
                      go_ret
                      exact ⟨by rw [HV.out]; rfl, B.out⟩
                    · have hbe : (D.toList == commit.toList) = false := by rw [ByteArray.toList_eq, ByteArray.toList_eq, HCE.out, beq_eq_false_iff_ne]; exact he
                      have HV : Hid (convB q = false) := Lib.hid (by rw [HR3.out, decide_eq_false he])
                      clear he
                      go_wp2_with fail
                      go_ret
                      exact ⟨by rw [HV.out]; rfl, B.out⟩
              · have g21 : (nt : Int) ≤ focus := by omega
                have HV : Hid (convB q = false) := Lib.hid (by rw [HC0.out, decide_eq_false h2]; simp)
                clear h0 h1 h2
                go_wp2_with fail
                go_ret
                exact ⟨by rw [HV.out]; rfl, B1.out⟩
            · have g11 : focus < 0 := by omega
              have HV : Hid (convB q = false) := Lib.hid (by rw [HC0.out, decide_eq_false h1]; simp)
              clear h0 h1
              go_wp2_with fail
              go_ret
              exact ⟨by rw [HV.out]; rfl, B1.out⟩
          · have g01 : ((nt : Int) != (nb : Int) - 1) = true := by rw [bne_iff_ne]; omega
            have HV : Hid (convB q = false) := Lib.hid (by rw [HC0.out, decide_eq_false h0]; simp)
            clear h0
            go_wp2_with fail
            go_ret
            exact ⟨by rw [HV.out]; rfl, B1.out⟩
      · have z2' : 64 < z := by omega
        have HV : Hid (convB q = false) := Lib.hid (by rw [HC0.out, HRB.out, decide_eq_false z2]; simp)
        clear z2
        go_enter Tryd.func27, Tryd.ntmps27
        go_wp2_with fail
        go_ret
        exact ⟨by rw [HV.out]; rfl, B0.out⟩
    · have z1' : z < 1 := by omega
      have HV : Hid (convB q = false) := Lib.hid (by rw [HC0.out, HRB.out, decide_eq_false z1]; simp)
      clear z1
      go_enter Tryd.func27, Tryd.ntmps27
      go_wp2_with fail
      go_ret
      exact ⟨by rw [HV.out]; rfl, B0.out⟩
  · have g0 : (nb : Int) < 2 := by omega
    have HV : Hid (convB q = false) := Lib.hid (by unfold convB; rw [HH.out, decide_eq_false h0]; rfl)
    clear h0
    go_enter Tryd.func27, Tryd.ntmps27
    go_wp2_with fail
    go_ret
    exact ⟨by rw [HV.out]; rfl, B0.out⟩
end Go.Proofs.YtebjfigjfhghcaaDoor.Und
