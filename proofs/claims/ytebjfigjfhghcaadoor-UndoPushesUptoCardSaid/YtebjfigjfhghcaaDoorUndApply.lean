/-
  The contract of Apply of package undo. Conditions: the step can be read, its lengths are bounded; the text's length is within the form's reach; the tables lie.
-/
import Derived.Test.YtebjfigjfhghcaaDoorUndCheck
namespace Go.Proofs.YtebjfigjfhghcaaDoor.Und
open Go.RowKit Wd Utf

def applyS (text : ByteArray) (q : Stp) : ByteArray × Bool := match applyL text.data.toList q with
  | none => (⟨#[]⟩, false)
  | some l => (⟨l.toArray⟩, true)
theorem suf_eq (s p : List UInt8) : Lib.hasSuffix s p = (decide (p.length ≤ s.length) && decide (s.drop (s.length - p.length) = p)) := by
  unfold Lib.hasSuffix
  rw [Bool.eq_iff_iff, List.isSuffixOf_iff_suffix, Bool.and_eq_true, decide_eq_true_iff, decide_eq_true_iff]
  constructor
  · intro h
    exact ⟨h.length_le, (List.suffix_iff_eq_drop.1 h).symm⟩
  · rintro ⟨_, h2⟩
    rw [← h2]
    exact List.drop_suffix _ _
theorem applyS_bad {t : ByteArray} {q : Stp} (h : okB q = false) : applyS t q = (⟨#[]⟩, false) := by
  unfold applyS applyL; rw [h]; rfl
theorem applyS_ok {t : ByteArray} {q : Stp} (h : okB q = true) : applyS t q = if Lib.hasSuffix t.data.toList q.commit.data.toList then (⟨(Lib.trimSuffix t.data.toList q.commit.data.toList).toArray⟩, true) else (⟨#[]⟩, false) := by
  have hl : q.commit.data.toList.length = q.commit.size := by rw [Array.length_toList]; rfl
  unfold applyS applyL Lib.trimSuffix
  rw [h, suf_eq, hl]
  by_cases hc : (decide (q.commit.size ≤ t.data.toList.length) && decide (t.data.toList.drop (t.data.toList.length - q.commit.size) = q.commit.data.toList)) = true
  · simp only [hc, Bool.true_and, if_true]
  · rw [Bool.not_eq_true] at hc
    simp only [hc, Bool.true_and, Bool.false_eq_true, if_false]
set_option maxRecDepth 100000 in
set_option maxHeartbeats 8000000 in
theorem apply_any (t : ByteArray) (r : Sp) (q : Stp) (w : World) (hT : Tabs w) (hq : SpIn w r q) (ht : t.size ≤ 9223372036854775807) :
    Calls Tryd.prog 22 #[.string t, .agg r.cells] w fun e w' => e = .returned (.tuple #[.string (applyS t q).1, .bool (applyS t q).2]) ∧ Below w.heap.size w w' := by
  have B0 : Hid (Below w.heap.size w (w.alloc (.cells r.cells 31))) := Lib.hid ((Below.refl _ _).alloc (Nat.le_refl _) _)
  have K0 : Hid (Blk (w.alloc (.cells r.cells 31)) w.heap.size 31 r.cells) := Lib.hid (Blk.new w _ _)
  have HC := Lib.hid (fun (W : World) (hW : Below w.heap.size w W) => check_any r q W (hT.keep hW) (hq.keep hW))
  have HS := Lib.hid (fun (p : ByteArray) (W : World) => Tryd.strings_CutSuffix t p W ht)
  have HCM := Lib.hid hq.commit
  clear hT hq ht
  obtain ⟨Ai, ni, ci, caret, pend, mode, conv, Ab, nb, cb, Af, nf, cf, At, nt, ct, focus, prev, commit⟩ := r
  unfold Sp.cells at *
  simp only at B0 K0 HC HCM
  go_enter Tryd.func22, Tryd.ntmps22
  go_wp2_with fail
  refine (HC.out _ B0.out).mono ?_
  rintro e w1 ⟨rfl, hb1⟩
  have K1 := Lib.hid (K0.out.below hb1 K0.out.lt)
  have B1 := Lib.hid (B0.out.trans (hb1.mono B0.out.size))
  have k10 : w1.cell? ⟨w.heap.size, 10, none⟩ = some (.string commit) := K1.out.cell 10
  clear hb1
  rcases ho : okB q with _ | _
  · have HV := Lib.hid (applyS_bad (t := t) ho)
    rw [errI_f]
    clear ho
    go_wp2_with fail
    go_ret2
    exact ⟨by rw [HV.out]; rfl, B1.out⟩
  · have HV := Lib.hid (applyS_ok (t := t) ho)
    rw [HCM.out] at HV
    rw [errI_t]
    clear ho
    go_wp2_with fail
    refine (HS.out _ _).mono ?_
    rintro e w2 ⟨rfl, rfl⟩
    generalize Lib.trimSuffix t.data.toList commit.data.toList = L at HV
    rcases hs : Lib.hasSuffix t.data.toList commit.data.toList with _ | _
    · rw [hs] at HV
      go_wp2_with fail
      go_ret2
      exact ⟨by rw [HV.out]; rfl, B1.out⟩
    · rw [hs] at HV
      go_wp2_with fail
      go_ret2
      exact ⟨by rw [HV.out]; rfl, B1.out⟩
end Go.Proofs.YtebjfigjfhghcaaDoor.Und
