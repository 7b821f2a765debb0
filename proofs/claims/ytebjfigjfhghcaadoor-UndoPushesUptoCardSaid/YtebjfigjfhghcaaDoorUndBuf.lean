/-
  The contracts of Check of package compose and of Valid of package henkanref08. Conditions: the buffer can be read, its lengths are bounded; the two tables of unicode/utf8 lie as their initialisers lay them. (Printed by gen/undbuf.py.)
-/
import Derived.Test.YtebjfigjfhghcaaDoorUndOut
import Derived.Test.YtebjfigjfhghcaaDoorUndUtf
import Derived.Test.YtebjfigjfhghcaaDoorUtfCountR
namespace Go.Proofs.YtebjfigjfhghcaaDoor.Und
open Go.RowKit Wd Utf

/-- 0: nothing is wrong; 1: something is -/
def errI (b : Bool) : Int := if b then 0 else 1
theorem all_stp {α : Type} {f : α → Bool} {l : List α} {k : Nat} {x : α} (h : l[k]? = some x) (hall : (l.take k).all f = true) (hx : f x = true) : (l.take (k + 1)).all f = true := by
  obtain ⟨hk, rfl⟩ := List.getElem?_eq_some_iff.1 h
  rw [List.take_succ_eq_append_getElem hk, List.all_append, hall]
  simpa using hx
theorem all_nay {α : Type} {f : α → Bool} {l : List α} {k : Nat} {x : α} (h : l[k]? = some x) (hx : f x = false) : l.all f = false := by
  rw [Bool.eq_false_iff]
  intro ha
  have := List.all_eq_true.1 ha x (List.mem_of_getElem? h)
  rw [hx] at this; cases this
theorem RT.in_ {w : World} {ad : Addr} {n k : Nat} {l : List (ByteArray × ByteArray)} {x : ByteArray × ByteArray} (h : RT w (some ad) n l) (hx : l[k]? = some x) : ad.block < w.heap.size ∧ w.cell? (ad.add (k * 2)) = some (.string x.1) ∧ w.cell? ⟨(ad.add (k * 2)).block, (ad.add (k * 2)).off + 1, none⟩ = some (.string x.2) := by
  obtain ⟨hk, _⟩ := List.getElem?_eq_some_iff.1 hx
  obtain ⟨ad', x', e', hx', hb, h1, h2⟩ := h.at_ (k := k) (by rw [← h.len]; exact hk)
  injection e' with e'
  subst e'
  rw [hx] at hx'
  injection hx' with hx'
  subst hx'
  exact ⟨hb, h1, h2⟩
set_option maxRecDepth 100000 in
set_option maxHeartbeats 4000000 in
theorem bufC_any (r : Sp) (q : Stp) (w : World) (hT : Tabs w) (hq : SpIn w r q) :
    Calls Tryd.prog 30 #[.agg r.buf] w fun e w' => e = .returned (.int .i64 (errI (bufB q))) ∧ Below w.heap.size w w' := by
  have HQ := Lib.hid hq
  have HT := Lib.hid hT
  have K0 : Hid (Blk (w.alloc (.cells r.buf 24)) w.heap.size 24 r.buf) := Lib.hid (Blk.new w _ _)
  have B0 : Hid (Below w.heap.size w (w.alloc (.cells r.buf 24))) := Lib.hid ((Below.refl _ _).alloc (Nat.le_refl _) _)
  have hil := hq.items.len
  have hni := hq.ni
  have hszp := hq.szp
  have HBB : Hid (bufB q = (decide (r.ni ≤ 64) && (decide (0 ≤ r.caret) && (decide (r.caret ≤ (r.ni : Int)) && (decide (r.pend.size ≤ 8) && (inB r.pend 33 && q.items.all itemB)))))) := Lib.hid (by unfold bufB; rw [hil, hq.caret, hq.pend])
  clear hq hT
  obtain ⟨Ai, ni, ci, caret, pend, mode, conv, Ab, nb, cb, Af, nf, cf, At, nt, ct, focus, prev, commit⟩ := r
  simp only at hil hni hszp HBB
  have HIL := Lib.hid hil
  clear hil
  unfold Sp.buf at *
  simp only at K0 B0
  by_cases h0 : ni ≤ 64
  · have g0 : (ni : Int) ≤ 64 := by omega
    by_cases h1 : 0 ≤ caret
    · have g1 : 0 ≤ caret := by omega
      by_cases h2 : caret ≤ (ni : Int)
      · have g2 : caret ≤ (ni : Int) := by omega
        by_cases h3 : pend.size ≤ 8
        · have g3 : (pend.size : Int) ≤ 8 := by omega
          rcases hi : inB pend 33 with _ | _
          · have HV : Hid (bufB q = false) := Lib.hid (by rw [HBB.out, hi]; simp)
            have HI := Lib.hid hi
            clear hi h0 h1 h2 h3
            go_enter Tryd.func30, Tryd.ntmps30
            go_wp2_with fail
            refine (within_any pend 33 _ (by omega)).mono ?_
            rintro e wq ⟨rfl, hbw⟩
            rw [HI.out]
            have B1 := Lib.hid (B0.out.trans (hbw.mono B0.out.size))
            clear hbw
            go_wp2_with fail
            go_ret
            exact ⟨by rw [HV.out]; rfl, B1.out⟩
          have HI := Lib.hid hi
          have HB2 : Hid (bufB q = q.items.all itemB) := Lib.hid (by rw [HBB.out, hi, decide_eq_true h0, decide_eq_true h1, decide_eq_true h2, decide_eq_true h3]; rfl)
          clear hi h0 h1 h2 h3 HBB
          go_enter Tryd.func30, Tryd.ntmps30
          go_wp2_with fail
          refine (within_any pend 33 _ (by omega)).mono ?_
          rintro e wq ⟨rfl, hbw⟩
          rw [HI.out]
          have B1 := Lib.hid (B0.out.trans (hbw.mono B0.out.size))
          have K1 := Lib.hid (K0.out.below hbw K0.out.lt)
          clear hbw B0 K0
          have k0 : wq.cell? ⟨w.heap.size, 0, none⟩ = some (.slice Ai ni ci) := K1.out.cell 0
          go_wp2_with fail
          go_loopw [37] (fun i wr => ∃ k : Nat, k ≤ ni ∧ i = .int .i64 (k : Int) ∧ (q.items.take k).all itemB = true ∧ Below w.heap.size w wr) (fun i _ => ni - (intOf i).toNat)
          case atStart => exact ⟨0, Nat.zero_le _, rfl, rfl, B1.out⟩
          case round =>
            obtain ⟨k, hk, rfl, hall, hbl⟩ := hrel
            have HA := Lib.hid hall
            have B := Lib.hid hbl
            clear hall hbl K1 B1 k0
            by_cases hlt : k < ni
            · obtain ⟨ad, ⟨a, b⟩, rfl, hp, _, hc1, hc2⟩ := (HQ.out.keep B.out).items.at_ hlt
              have hsz := HQ.out.szi _ (List.mem_of_getElem? hp)
              have HP := Lib.hid hp
              clear hp
              simp only at hc1 hc2 hsz
              have B2 := Lib.hid (B.out.alloc B.out.size (.cells #[.string a, .string b] 75))
              have X2 : Hid (Blk (wr.alloc (.cells #[.string a, .string b] 75)) wr.heap.size 75 #[.string a, .string b]) := Lib.hid (Blk.new wr _ _)
              go_wp2_with fail
              refine (count_any b _ (by omega) (HT.out.keep B2.out)).mono ?_
              rintro e w1 ⟨rfl, hb1⟩
              have X3 := Lib.hid (X2.out.below hb1 X2.out.lt)
              have B3 := Lib.hid (B2.out.trans (hb1.mono B2.out.size))
              have x0 : w1.cell? ⟨wr.heap.size, 0, none⟩ = some (.string a) := X3.out.cell 0
              clear hb1 hc1 hc2 X2 B2
              rcases hn : (num b == 1) with _ | _
              · have HV : Hid (bufB q = false) := Lib.hid (by rw [HB2.out]; exact all_nay HP.out (by unfold itemB; rw [hn]; rfl))
                have hne : (cnt b.data.toList != 1) = true := by have : (cnt b.data.toList == 1) = false := hn; simp [bne, this]
                clear hn
                go_wp2_with fail
                go_ret
                exact ⟨by rw [HV.out]; rfl, B3.out⟩
              · have hne : (cnt b.data.toList != 1) = false := by have : (cnt b.data.toList == 1) = true := hn; simp [bne, this]
                have HN := Lib.hid hn
                clear hn
                go_wp2_with fail
                refine (within_any a 32 _ (by omega)).mono ?_
                rintro e w2 ⟨rfl, hb2⟩
                have B4 := Lib.hid (B3.out.trans (hb2.mono B3.out.size))
                clear hb2
                rcases hw : inB a 32 with _ | _
                · have HV : Hid (bufB q = false) := Lib.hid (by rw [HB2.out]; exact all_nay HP.out (by unfold itemB; rw [hw, Bool.and_false]))
                  clear hw
                  go_wp2_with fail
                  go_ret
                  exact ⟨by rw [HV.out]; rfl, B4.out⟩
                · have HW := Lib.hid (show itemB (a, b) = true by unfold itemB; rw [hw, HN.out]; rfl)
                  clear hw
                  go_wp2_with fail
                  go_roundw
                  case rel => exact ⟨k + 1, by omega, by go_num, all_stp HP.out HA.out HW.out, B4.out⟩
                  case measure => simp [intOf]; omega
            · have hkn : k = ni := by omega
              subst k
              have HV : Hid (bufB q = true) := Lib.hid (by rw [HB2.out]; have := HA.out; rwa [List.take_of_length_le (by rw [HIL.out]; omega)] at this)
              go_wp2_with fail
              go_ret
              exact ⟨by rw [HV.out]; rfl, B.out⟩
        · have g3 : (8 : Int) < (pend.size : Int) := by omega
          have HV : Hid (bufB q = false) := Lib.hid (by rw [HBB.out, decide_eq_false h3]; simp)
          clear h0 h1 h2 h3
          go_enter Tryd.func30, Tryd.ntmps30
          go_wp2_with fail
          go_ret
          exact ⟨by rw [HV.out]; rfl, B0.out⟩
      · have g2 : (ni : Int) < caret := by omega
        have HV : Hid (bufB q = false) := Lib.hid (by rw [HBB.out, decide_eq_false h2]; simp)
        clear h0 h1 h2
        go_enter Tryd.func30, Tryd.ntmps30
        go_wp2_with fail
        go_ret
        exact ⟨by rw [HV.out]; rfl, B0.out⟩
    · have g1 : caret < 0 := by omega
      have HV : Hid (bufB q = false) := Lib.hid (by rw [HBB.out, decide_eq_false h1]; simp)
      clear h0 h1
      go_enter Tryd.func30, Tryd.ntmps30
      go_wp2_with fail
      go_ret
      exact ⟨by rw [HV.out]; rfl, B0.out⟩
  · have g0 : (64 : Int) < (ni : Int) := by omega
    have HV : Hid (bufB q = false) := Lib.hid (by rw [HBB.out, decide_eq_false h0]; simp)
    clear h0
    go_enter Tryd.func30, Tryd.ntmps30
    go_wp2_with fail
    go_ret
    exact ⟨by rw [HV.out]; rfl, B0.out⟩
set_option maxRecDepth 100000 in
set_option maxHeartbeats 4000000 in
theorem bufR_any (r : Sp) (q : Stp) (w : World) (hq : SpIn w r q) :
    Calls Tryd.prog 25 #[.agg r.buf] w fun e w' => e = .returned (.bool (bufB q)) ∧ Below w.heap.size w w' := by
  have HQ := Lib.hid hq
  have K0 : Hid (Blk (w.alloc (.cells r.buf 36)) w.heap.size 36 r.buf) := Lib.hid (Blk.new w _ _)
  have B0 : Hid (Below w.heap.size w (w.alloc (.cells r.buf 36))) := Lib.hid ((Below.refl _ _).alloc (Nat.le_refl _) _)
  have hil := hq.items.len
  have hni := hq.ni
  have hszp := hq.szp
  have HBB : Hid (bufB q = (decide (r.ni ≤ 64) && (decide (0 ≤ r.caret) && (decide (r.caret ≤ (r.ni : Int)) && (decide (r.pend.size ≤ 8) && (inB r.pend 33 && q.items.all itemB)))))) := Lib.hid (by unfold bufB; rw [hil, hq.caret, hq.pend])
  clear hq
  obtain ⟨Ai, ni, ci, caret, pend, mode, conv, Ab, nb, cb, Af, nf, cf, At, nt, ct, focus, prev, commit⟩ := r
  simp only at hil hni hszp HBB
  have HIL := Lib.hid hil
  clear hil
  unfold Sp.buf at *
  simp only at K0 B0
  by_cases h0 : ni ≤ 64
  · have g0 : (ni : Int) ≤ 64 := by omega
    by_cases h1 : 0 ≤ caret
    · have g1 : 0 ≤ caret := by omega
      by_cases h2 : caret ≤ (ni : Int)
      · have g2 : caret ≤ (ni : Int) := by omega
        by_cases h3 : pend.size ≤ 8
        · have g3 : (pend.size : Int) ≤ 8 := by omega
          rcases hi : inB pend 33 with _ | _
          · have HV : Hid (bufB q = false) := Lib.hid (by rw [HBB.out, hi]; simp)
            have HI := Lib.hid hi
            clear hi h0 h1 h2 h3
            go_enter Tryd.func25, Tryd.ntmps25
            go_wp2_with fail
            refine (bytesR_any pend 33 _ (by omega)).mono ?_
            rintro e wq ⟨rfl, rfl⟩
            rw [HI.out]
            go_wp2_with fail
            go_ret
            exact ⟨by rw [HV.out]; rfl, B0.out⟩
          have HI := Lib.hid hi
          have HB2 : Hid (bufB q = q.items.all itemB) := Lib.hid (by rw [HBB.out, hi, decide_eq_true h0, decide_eq_true h1, decide_eq_true h2, decide_eq_true h3]; rfl)
          clear hi h0 h1 h2 h3 HBB
          go_enter Tryd.func25, Tryd.ntmps25
          go_wp2_with fail
          refine (bytesR_any pend 33 _ (by omega)).mono ?_
          rintro e wq ⟨rfl, rfl⟩
          rw [HI.out]
          go_wp2_with fail
          go_loopw [3] (fun i wr => ∃ k : Nat, k ≤ ni ∧ i = .int .i64 (k : Int) ∧ (q.items.take k).all itemB = true ∧ Blk wr w.heap.size 36 #[.slice Ai ni ci, .int .i64 caret, .string pend] ∧ Below w.heap.size w wr) (fun i _ => ni - (intOf i).toNat)
          case atStart => exact ⟨0, Nat.zero_le _, rfl, rfl, K0.out, B0.out⟩
          case round =>
            obtain ⟨k, hk, rfl, hall, hkb, hbl⟩ := hrel
            have HA := Lib.hid hall
            have K := Lib.hid hkb
            have B := Lib.hid hbl
            clear hall hkb hbl K0 B0
            by_cases hlt : k < ni
            · obtain ⟨ad, ⟨a, b⟩, rfl, hp, _, hc1, hc2⟩ := (HQ.out.keep B.out).items.at_ hlt
              have hsz := HQ.out.szi _ (List.mem_of_getElem? hp)
              have HP := Lib.hid hp
              have k0 : wr.cell? ⟨w.heap.size, 0, none⟩ = some (.slice (some ad) ni ci) := K.out.cell 0
              clear hp
              simp only at hc1 hc2 hsz
              go_wp2_with fail
              refine (countR_any b _ (by omega)).mono ?_
              rintro e w1 ⟨rfl, hb1⟩
              have K1 := Lib.hid (K.out.below hb1 K.out.lt)
              have B1 := Lib.hid (B.out.trans (hb1.mono B.out.size))
              have k0' : w1.cell? ⟨w.heap.size, 0, none⟩ = some (.slice (some ad) ni ci) := K1.out.cell 0
              have hc1' := (RT.in_ (HQ.out.keep B1.out).items HP.out).2.1
              simp only at hc1'
              clear hb1 k0 hc1 hc2 K B
              rcases hn : (num b == 1) with _ | _
              · have HV : Hid (bufB q = false) := Lib.hid (by rw [HB2.out]; exact all_nay HP.out (by unfold itemB; rw [hn]; rfl))
                have hne : (cnt b.data.toList != 1) = true := by have : (cnt b.data.toList == 1) = false := hn; simp [bne, this]
                clear hn
                go_wp2_with fail
                go_ret
                exact ⟨by rw [HV.out]; rfl, B1.out⟩
              · have hne : (cnt b.data.toList != 1) = false := by have : (cnt b.data.toList == 1) = true := hn; simp [bne, this]
                have HN := Lib.hid hn
                clear hn
                go_wp2_with fail
                refine (bytesR_any a 32 _ (by omega)).mono ?_
                rintro e wq ⟨rfl, rfl⟩
                rcases hw : inB a 32 with _ | _
                · have HV : Hid (bufB q = false) := Lib.hid (by rw [HB2.out]; exact all_nay HP.out (by unfold itemB; rw [hw, Bool.and_false]))
                  clear hw
                  go_wp2_with fail
                  go_ret
                  exact ⟨by rw [HV.out]; rfl, B1.out⟩
                · have HW := Lib.hid (show itemB (a, b) = true by unfold itemB; rw [hw, HN.out]; rfl)
                  clear hw
                  go_wp2_with fail
                  go_roundw
                  case rel => exact ⟨k + 1, by omega, by go_num, all_stp HP.out HA.out HW.out, K1.out, B1.out⟩
                  case measure => simp [intOf]; omega
            · have hkn : k = ni := by omega
              subst k
              have HV : Hid (bufB q = true) := Lib.hid (by rw [HB2.out]; have := HA.out; rwa [List.take_of_length_le (by rw [HIL.out]; omega)] at this)
              have k0 : wr.cell? ⟨w.heap.size, 0, none⟩ = some (.slice Ai ni ci) := K.out.cell 0
              go_wp2_with fail
              go_ret
              exact ⟨by rw [HV.out]; rfl, B.out⟩
        · have g3 : (8 : Int) < (pend.size : Int) := by omega
          have HV : Hid (bufB q = false) := Lib.hid (by rw [HBB.out, decide_eq_false h3]; simp)
          clear h0 h1 h2 h3
          go_enter Tryd.func25, Tryd.ntmps25
          go_wp2_with fail
          go_ret
          exact ⟨by rw [HV.out]; rfl, B0.out⟩
      · have g2 : (ni : Int) < caret := by omega
        have HV : Hid (bufB q = false) := Lib.hid (by rw [HBB.out, decide_eq_false h2]; simp)
        clear h0 h1 h2
        go_enter Tryd.func25, Tryd.ntmps25
        go_wp2_with fail
        go_ret
        exact ⟨by rw [HV.out]; rfl, B0.out⟩
    · have g1 : caret < 0 := by omega
      have HV : Hid (bufB q = false) := Lib.hid (by rw [HBB.out, decide_eq_false h1]; simp)
      clear h0 h1
      go_enter Tryd.func25, Tryd.ntmps25
      go_wp2_with fail
      go_ret
      exact ⟨by rw [HV.out]; rfl, B0.out⟩
  · have g0 : (64 : Int) < (ni : Int) := by omega
    have HV : Hid (bufB q = false) := Lib.hid (by rw [HBB.out, decide_eq_false h0]; simp)
    clear h0
    go_enter Tryd.func25, Tryd.ntmps25
    go_wp2_with fail
    go_ret
    exact ⟨by rw [HV.out]; rfl, B0.out⟩
end Go.Proofs.YtebjfigjfhghcaaDoor.Und
