/-
  The contracts of strings.Join with nothing between, of converted and of Check of package undo. Conditions: the step can be read, its lengths are bounded; the two tables of unicode/utf8 lie as their initialisers lay them. (Printed by gen/undconv.py.)
-/
import Derived.Test.YtebjfigjfhghcaaDoorUndSegR
import Derived.Deep.DeepCutAuto
import Derived.WalkMore
namespace Go.Proofs.YtebjfigjfhghcaaDoor.Und
open Go.RowKit Wd Utf

theorem inter_nil : ∀ xs : List (List UInt8), ([] : List UInt8).intercalate xs = xs.flatten
  | [] => rfl
  | [x] => by simp [List.intercalate]
  | x :: y :: r => by
    have := inter_nil (y :: r)
    simp only [List.intercalate, List.intersperse, List.flatten_cons, List.nil_append] at this ⊢
    rw [this]
theorem join_cat (ss : List ByteArray) : Lib.join (ss.map (·.data.toList)) [] = catL ss := by
  unfold Lib.join catL
  rw [inter_nil, List.flatMap_def]
theorem spot_of {w : World} {a : Addr} {v : Value} (h : w.cell? a = some v) : a.spot = none := by
  unfold World.cell? at h
  split at h
  · split at h
    · cases h
    · next hs => simpa using hs
  · cases h
theorem catL_len {ss : List ByteArray} {b : Nat} (h : ∀ s ∈ ss, s.size ≤ b) : (catL ss).length ≤ ss.length * b := by
  induction ss with
  | nil => simp [catL]
  | cons s ss ih =>
    have h1 := h s (by simp)
    have h2 := ih (fun x hx => h x (by simp [hx]))
    have hl : s.data.toList.length = s.size := by rw [Array.length_toList]; rfl
    unfold catL at h2 ⊢
    rw [List.flatMap_cons, List.length_append, List.length_cons, Nat.add_mul, hl]
    omega
theorem join_any (A : Option Addr) (n c : Nat) (ss : List ByteArray) (w : World) (hr : RS w A n ss) (hn : 0 < n) (hc : n ≤ c) (hb : n ≤ 140737488355328) (hlen : (catL ss).length ≤ 140737488355328) :
    Calls Tryd.prog 45 #[.slice A n c, .string ⟨#[]⟩] w fun e w' => e = .returned (.string (cat ss)) ∧ Below w.heap.size w w' := by
  have hl := hr.len
  obtain ⟨ad, rfl, hbk, hc0⟩ := hr.at_ hn
  have hsp := spot_of hc0
  obtain ⟨bk, o, sp⟩ := ad
  have hsp : sp = none := hsp
  subst hsp
  have := Tryd.strings_Join bk o c ss ⟨#[]⟩ w (fun j x hj => by
    obtain ⟨hjl, rfl⟩ := List.getElem?_eq_some_iff.1 hj
    obtain ⟨ad', e', _, hcj⟩ := hr.at_ (k := j) (by omega)
    injection e' with e'
    subst e'
    have ha : (⟨bk, o, none⟩ : Addr).add j = ⟨bk, o + j, none⟩ := by
      unfold Addr.add; by_cases h : j = 0 <;> simp [h]
    rw [ha] at hcj
    rw [hcj]
    simp [List.getD, hjl]) hbk (by omega) (by omega) (by rw [show (⟨#[]⟩ : ByteArray).data.toList = [] from rfl, join_cat]; exact hlen)
  rw [show (⟨#[]⟩ : ByteArray).data.toList = [] from rfl, join_cat, hl] at this
  exact this
theorem errI_t : errI true = 0 := rfl
theorem errI_f : errI false = 1 := rfl
theorem headB_eq {w : World} {r : Sp} {q : Stp} (h : SpIn w r q) : headB q = (decide (2 ≤ r.nb) && (decide (r.nt + 1 = r.nb) && (decide (0 ≤ r.focus) && decide (r.focus < (r.nt : Int))))) := by
  unfold headB
  rw [h.bounds.len, h.texts.len, h.focus]
theorem RSin {w : World} {ad : Addr} {n k : Nat} {l : List ByteArray} (h : RS w (some ad) n l) (hk : k < n) : w.cell? (ad.add k) = some (.string (l.getD k ByteArray.empty)) := by
  obtain ⟨ad', e', _, hc⟩ := h.at_ hk
  injection e' with e'
  subst e'
  exact hc
theorem getD_inS {l : List ByteArray} {k : Nat} (h : k < l.length) : l[k]? = some (l.getD k ByteArray.empty) := by
  rw [List.getElem?_eq_getElem h]; simp [List.getD, h]
set_option maxRecDepth 100000 in
set_option maxHeartbeats 8000000 in
theorem conv_any (r : Sp) (q : Stp) (w : World) (hT : Tabs w) (hq : SpIn w r q) :
    Calls Tryd.prog 31 #[.agg r.cells] w fun e w' => e = .returned (.bool (convB q)) ∧ Below w.heap.size w w' := by
  have hb0 : Below w.heap.size w (w.alloc (.cells r.cells 31)) := (Below.refl _ _).alloc (Nat.le_refl _) _
  have K0 : Hid (Blk (w.alloc (.cells r.cells 31)) w.heap.size 31 r.cells) := Lib.hid (Blk.new w _ _)
  have HQ := Lib.hid hq
  have HT := Lib.hid hT
  have HH := Lib.hid (headB_eq hq)
  have hnb := hq.nb
  have hnt := hq.nt
  have htc := hq.tcap
  have HBL := Lib.hid hq.bounds.len
  have HTL := Lib.hid hq.texts.len
  have HCM := Lib.hid hq.commit
  have B0 := Lib.hid hb0
  clear hq hT hb0
  obtain ⟨Ai, ni, ci, caret, pend, mode, conv, Ab, nb, cb, Af, nf, cf, At, nt, ct, focus, prev, commit⟩ := r
  simp only at hnb hnt htc HH HBL HTL HCM
  unfold Sp.cells at *
  simp only at K0 B0
  by_cases h0 : 2 ≤ nb
  · have g0 : (1 : Int) ≤ (nb : Int) - 1 := by omega
    by_cases h1 : nt + 1 = nb
    · have g1 : ((nt : Int) != (nb : Int) - 1) = false := by rw [bne_eq_false_iff_eq]; omega
      by_cases h2 : 0 ≤ focus
      · have g2 : 0 ≤ focus := by omega
        by_cases h3 : focus < (nt : Int)
        · have g3 : focus < (nb : Int) - 1 := by omega
          have HC : Hid (convB q = restB q) := Lib.hid (by unfold convB; rw [HH.out, decide_eq_true h0, decide_eq_true h1, decide_eq_true h2, decide_eq_true h3]; rfl)
          have HRB : Hid (restB q = ((decide (1 ≤ lastB q) && (decide (lastB q ≤ 64) && planB q (lastB q))) && (q.texts.all (fun t => decide (0 < num t)) && decide (catL q.texts = commit.data.toList)))) := Lib.hid (by unfold restB; rw [HCM.out])
          obtain ⟨ad, rfl, _, hcl⟩ := (HQ.out.keep B0.out).bounds.at_ (j := nb - 1) (by simp only; omega)
          have hlz : q.bounds.getD (nb - 1) 0 = lastB q := by unfold lastB; rw [HBL.out]
          rw [hlz] at hcl
          have ht : ((nb : Int) - 1).toNat = nb - 1 := by omega
          generalize hz : lastB q = z at hcl HRB
          have HRZ := Lib.hid (fun (W : World) (hW : Below w.heap.size w W) => resize_any _ q z W (HQ.out.keep hW))
          have HSEQ := Lib.hid h1
          clear h0 h1 h2 h3 HH hlz hz
          unfold Sp.plan at HRZ
          simp only at HRZ
          by_cases z1 : 1 ≤ z
          · by_cases z2 : z ≤ 64
            · have HR1 : Hid (restB q = (planB q z && (q.texts.all (fun t => decide (0 < num t)) && decide (catL q.texts = commit.data.toList)))) := Lib.hid (by rw [HRB.out, decide_eq_true z1, decide_eq_true z2]; rfl)
              go_enter Tryd.func31, Tryd.ntmps31
              go_wp2_with fail
              go_step3
              go_wp2_with fail
              refine (HRZ.out _ B0.out).mono ?_
              rintro e w1 ⟨rfl, hb1⟩
              have B1 := Lib.hid (B0.out.trans (hb1.mono B0.out.size))
              have K1 := Lib.hid (K0.out.below hb1 K0.out.lt)
              clear hb1 hcl
              rcases hp : planB q z with _ | _
              · have HV : Hid (convB q = false) := Lib.hid (by rw [HC.out, HR1.out, hp]; rfl)
                rw [errI_f]
                clear hp
                go_wp2_with fail
                try rw [Exit.noGoto_ret]
                go_ret
                exact ⟨by rw [HV.out]; rfl, B1.out⟩
              · have HR2 : Hid (convB q = (q.texts.all (fun t => decide (0 < num t)) && decide (catL q.texts = commit.data.toList))) := Lib.hid (by rw [HC.out, HR1.out, hp]; rfl)
                rw [errI_t]
                clear hp
                have k7 : w1.cell? ⟨w.heap.size, 7, none⟩ = some (.slice At nt ct) := K1.out.cell 7
                go_wp2_with fail
                go_step3
                go_wp2_with fail
                go_loopw [54] (fun i wr => ∃ k : Nat, k ≤ nt ∧ i = .int .i64 (k : Int) ∧ (q.texts.take k).all (fun t => decide (0 < num t)) = true ∧ Blk wr w.heap.size 31 #[.slice Ai ni ci, .int .i64 caret, .string pend, .int .i64 mode, .bool conv, .slice (some ad) nb cb, .slice Af nf cf, .slice At nt ct, .int .i64 focus, .string prev, .string commit] ∧ Below w.heap.size w wr) (fun i _ => nt - (intOf i).toNat)
                case atStart => exact ⟨0, Nat.zero_le _, rfl, rfl, K1.out, B1.out⟩
                case round =>
                  obtain ⟨k, hk, rfl, hall, hkb, hbl⟩ := hrel
                  have HA := Lib.hid hall
                  have B := Lib.hid hbl
                  have K := Lib.hid hkb
                  clear hall hbl hkb K1 B1 K0 B0 k7
                  by_cases hlt : k < nt
                  · obtain ⟨a2, rfl, _, hc1⟩ := (HQ.out.keep B.out).texts.at_ hlt
                    have hgd := getD_inS (l := q.texts) (k := k) (by rw [HTL.out]; exact hlt)
                    have htz := HQ.out.szt _ (List.mem_of_getElem? hgd)
                    generalize q.texts.getD k ByteArray.empty = t at hc1 hgd htz
                    have HG := Lib.hid hgd
                    clear hgd
                    go_wp2_with fail
                    refine (count_any t _ (by omega) (HT.out.keep B.out)).mono ?_
                    rintro e w2 ⟨rfl, hb2⟩
                    have B2 := Lib.hid (B.out.trans (hb2.mono B.out.size))
                    have K2 := Lib.hid (K.out.below hb2 K.out.lt)
                    clear hb2 hc1 B K
                    by_cases hpos : 0 < num t
                    · have hpos' : 0 < cnt t.data.toList := hpos
                      have HPO := Lib.hid (decide_eq_true hpos)
                      generalize cnt t.data.toList = x at hpos'
                      clear hpos
                      go_wp2_with fail
                      go_roundw
                      case rel => exact ⟨k + 1, by omega, by go_num, all_stp HG.out HA.out HPO.out, K2.out, B2.out⟩
                      case measure => simp [intOf]; omega
                    · have hpos' : cnt t.data.toList ≤ 0 := by have : ¬ 0 < cnt t.data.toList := hpos; omega
                      have HV : Hid (convB q = false) := Lib.hid (by rw [HR2.out, all_nay HG.out (decide_eq_false hpos)]; rfl)
                      generalize cnt t.data.toList = x at hpos'
                      clear hpos
                      go_wp2_with fail
                      try rw [Exit.noGoto_ret]
                      go_ret
                      exact ⟨by rw [HV.out]; rfl, B2.out⟩
                  · have hkn : k = nt := by omega
                    subst k
                    have HAL : Hid (q.texts.all (fun t => decide (0 < num t)) = true) := Lib.hid (by have := HA.out; rwa [List.take_of_length_le (by rw [HTL.out]; omega)] at this)
                    have HR3 : Hid (convB q = decide (catL q.texts = commit.data.toList)) := Lib.hid (by rw [HR2.out, HAL.out]; rfl)
                    have hcl := catL_len HQ.out.szt
                    rw [HTL.out] at hcl
                    have HJ := Lib.hid (join_any At nt ct q.texts wr.drew (HQ.out.keep B.out).texts (by have := HSEQ.out; omega) htc (by omega) (Nat.le_trans hcl (by omega)))
                    have k7 : wr.cell? ⟨w.heap.size, 7, none⟩ = some (.slice At nt ct) := K.out.cell 7
                    have k10 : wr.cell? ⟨w.heap.size, 10, none⟩ = some (.string commit) := K.out.cell 10
                    have KD := Lib.hid (show wr.drew.cell? ⟨w.heap.size, 7, none⟩ = some (.slice At nt ct) ∧ wr.drew.cell? ⟨w.heap.size, 10, none⟩ = some (.string commit) from ⟨k7, k10⟩)
                    have HCE : Hid ((cat q.texts).data.toList = catL q.texts) := Lib.hid (by simp [cat])
                    clear hcl
                    generalize cat q.texts = D at HJ HCE
                    by_cases he : catL q.texts = commit.data.toList
                    · have hbe : (D.toList == commit.toList) = true := by rw [ByteArray.toList_eq, ByteArray.toList_eq, HCE.out, he]; exact beq_self_eq_true _
                      have HV : Hid (convB q = true) := Lib.hid (by rw [HR3.out, decide_eq_true he])
                      clear he
                      go_wp2_with fail
                      go_region_held3 (fun w' => w'.cell? ⟨w.heap.size, 7, none⟩ = some (.slice At nt ct) ∧ w'.cell? ⟨w.heap.size, 10, none⟩ = some (.string commit)) (first | exact KD.out | exact KJ.out | go_keep) ((go_at_call 45; (with_reducible refine HJ.out.mono ?_); rintro e w9 ⟨rfl, hb9⟩; have K9 := Lib.hid (K.out.drew.below hb9 K.out.lt); have B9 := Lib.hid (B.out.drew.trans (hb9.mono B.out.size)); have KJ := Lib.hid (show w9.cell? ⟨w.heap.size, 7, none⟩ = some (.slice At nt ct) ∧ w9.cell? ⟨w.heap.size, 10, none⟩ = some (.string commit) from ⟨K9.out.cell 7, K9.out.cell 10⟩); clear hb9))
                      go_wp2_with fail
                      try rw [Exit.noGoto_ret]
                      go_ret
                      exact ⟨by rw [HV.out]; rfl, B9.out⟩
                    · have hbe : (D.toList == commit.toList) = false := by rw [ByteArray.toList_eq, ByteArray.toList_eq, HCE.out, beq_eq_false_iff_ne]; exact he
                      have HV : Hid (convB q = false) := Lib.hid (by rw [HR3.out, decide_eq_false he])
                      clear he
                      go_wp2_with fail
                      go_region_held3 (fun w' => w'.cell? ⟨w.heap.size, 7, none⟩ = some (.slice At nt ct) ∧ w'.cell? ⟨w.heap.size, 10, none⟩ = some (.string commit)) (first | exact KD.out | exact KJ.out | go_keep) ((go_at_call 45; (with_reducible refine HJ.out.mono ?_); rintro e w9 ⟨rfl, hb9⟩; have K9 := Lib.hid (K.out.drew.below hb9 K.out.lt); have B9 := Lib.hid (B.out.drew.trans (hb9.mono B.out.size)); have KJ := Lib.hid (show w9.cell? ⟨w.heap.size, 7, none⟩ = some (.slice At nt ct) ∧ w9.cell? ⟨w.heap.size, 10, none⟩ = some (.string commit) from ⟨K9.out.cell 7, K9.out.cell 10⟩); clear hb9))
                      go_wp2_with fail
                      try rw [Exit.noGoto_ret]
                      go_ret
                      exact ⟨by rw [HV.out]; rfl, B9.out⟩
            · have z2' : 64 < z := by omega
              have HV : Hid (convB q = false) := Lib.hid (by rw [HC.out, HRB.out, decide_eq_false z2]; simp)
              clear z2
              go_enter Tryd.func31, Tryd.ntmps31
              go_wp2_with fail
              go_step3
              go_wp2_with fail
              try rw [Exit.noGoto_ret]
              go_ret
              exact ⟨by rw [HV.out]; rfl, B0.out⟩
          · have z1' : z < 1 := by omega
            have HV : Hid (convB q = false) := Lib.hid (by rw [HC.out, HRB.out, decide_eq_false z1]; simp)
            clear z1
            go_enter Tryd.func31, Tryd.ntmps31
            go_wp2_with fail
            go_step3
            go_wp2_with fail
            try rw [Exit.noGoto_ret]
            go_ret
            exact ⟨by rw [HV.out]; rfl, B0.out⟩
        · have g3 : (nb : Int) - 1 ≤ focus := by omega
          have HV : Hid (convB q = false) := Lib.hid (by unfold convB; rw [HH.out, decide_eq_false h3]; simp)
          clear h0 h1 h2 h3
          go_enter Tryd.func31, Tryd.ntmps31
          go_wp2_with fail
          go_step3
          go_wp2_with fail
          try rw [Exit.noGoto_ret]
          go_ret
          exact ⟨by rw [HV.out]; rfl, B0.out⟩
      · have g2 : focus < 0 := by omega
        have HV : Hid (convB q = false) := Lib.hid (by unfold convB; rw [HH.out, decide_eq_false h2]; simp)
        clear h0 h1 h2
        go_enter Tryd.func31, Tryd.ntmps31
        go_wp2_with fail
        go_step3
        go_wp2_with fail
        try rw [Exit.noGoto_ret]
        go_ret
        exact ⟨by rw [HV.out]; rfl, B0.out⟩
    · have g1 : ((nt : Int) != (nb : Int) - 1) = true := by rw [bne_iff_ne]; omega
      have HV : Hid (convB q = false) := Lib.hid (by unfold convB; rw [HH.out, decide_eq_false h1]; simp)
      clear h0 h1
      go_enter Tryd.func31, Tryd.ntmps31
      go_wp2_with fail
      go_step3
      go_wp2_with fail
      try rw [Exit.noGoto_ret]
      go_ret
      exact ⟨by rw [HV.out]; rfl, B0.out⟩
  · have g0 : (nb : Int) - 1 < 1 := by omega
    have HV : Hid (convB q = false) := Lib.hid (by unfold convB; rw [HH.out, decide_eq_false h0]; simp)
    clear h0
    go_enter Tryd.func31, Tryd.ntmps31
    go_wp2_with fail
    go_step3
    go_wp2_with fail
    try rw [Exit.noGoto_ret]
    go_ret
    exact ⟨by rw [HV.out]; rfl, B0.out⟩
end Go.Proofs.YtebjfigjfhghcaaDoor.Und
