/-
  The contract of Given of package henkanlaw08: a copy of a buffer. Conditions: the buffer can be read, its length is bounded. (Printed by gen/undgiven.py.)
-/
import Derived.Test.YtebjfigjfhghcaaDoorUndCopy1
namespace Go.Proofs.YtebjfigjfhghcaaDoor.Und
open Go.RowKit Wd Utf

theorem info_item8 : (Tryd.prog.info? 81).map (fun i => (i.zero, i.size, i.bytes)) = some (some (.agg #[.string ⟨#[]⟩, .string ⟨#[]⟩]), 2, 32) := by kernel_rfl
theorem ic_snoc {l : List (ByteArray × ByteArray)} {k : Nat} {p : ByteArray × ByteArray} (h : l[k]? = some p) : ic (l.take k) ++ [.string p.1, .string p.2] = ic (l.take (k + 1)) := by
  obtain ⟨hk, rfl⟩ := List.getElem?_eq_some_iff.1 h
  rw [List.take_succ_eq_append_getElem hk, ic_append]
  rfl
set_option maxRecDepth 100000 in
set_option maxHeartbeats 8000000 in
theorem given8_any (A : Option Addr) (n c : Nat) (caret : Int) (pend : ByteArray) (l : List (ByteArray × ByteArray)) (w : World) (h : RT w A n l) (hn : n ≤ 1048576) :
    Calls Tryd.prog 28 #[.agg #[.slice A n c, .int .i64 caret, .string pend]] w fun e w' => ∃ v, e = .returned (.agg #[v, .int .i64 caret, .string pend]) ∧ w'.ownsRow w.heap.size 81 2 v n (ic l) ∧ Below w.heap.size w w' := by
  obtain ⟨i0, hi, hz0, hz1, hz2⟩ := info_parts info_item8
  have HI := Lib.hid hi
  have HR := Lib.hid h
  have B0 : Hid (Below w.heap.size w (((w.alloc (.cells #[.slice A n c, .int .i64 caret, .string pend] 24)).alloc (.cells #[.slice none 0 0, .int .i64 0, .string ⟨#[]⟩] 36)).alloc (.cells #[.slice none 0 0, .int .i64 caret, .string pend] 36))) := Lib.hid ((((Below.refl _ _).alloc (Nat.le_refl _) _).alloc (by simp) _).alloc (by simp; omega) _)
  have KP : Hid (Blk (((w.alloc (.cells #[.slice A n c, .int .i64 caret, .string pend] 24)).alloc (.cells #[.slice none 0 0, .int .i64 0, .string ⟨#[]⟩] 36)).alloc (.cells #[.slice none 0 0, .int .i64 caret, .string pend] 36)) w.heap.size 24 #[.slice A n c, .int .i64 caret, .string pend]) := Lib.hid (((Blk.new w _ _).alloc _).alloc _)
  have KZ : Hid (Blk (((w.alloc (.cells #[.slice A n c, .int .i64 caret, .string pend] 24)).alloc (.cells #[.slice none 0 0, .int .i64 0, .string ⟨#[]⟩] 36)).alloc (.cells #[.slice none 0 0, .int .i64 caret, .string pend] 36)) (w.heap.size + 1) 36 #[.slice none 0 0, .int .i64 0, .string ⟨#[]⟩]) := Lib.hid (by have h := (Blk.new (w.alloc (.cells #[.slice A n c, .int .i64 caret, .string pend] 24)) 36 #[.slice none 0 0, .int .i64 0, .string ⟨#[]⟩]).alloc (.cells #[.slice none 0 0, .int .i64 caret, .string pend] 36); rwa [show (w.alloc (.cells #[.slice A n c, .int .i64 caret, .string pend] 24)).heap.size = w.heap.size + 1 from by simp] at h)
  have KO : Hid (Blk (((w.alloc (.cells #[.slice A n c, .int .i64 caret, .string pend] 24)).alloc (.cells #[.slice none 0 0, .int .i64 0, .string ⟨#[]⟩] 36)).alloc (.cells #[.slice none 0 0, .int .i64 caret, .string pend] 36)) (w.heap.size + 1 + 1) 36 #[.slice none 0 0, .int .i64 caret, .string pend]) := Lib.hid (by have h := Blk.new ((w.alloc (.cells #[.slice A n c, .int .i64 caret, .string pend] 24)).alloc (.cells #[.slice none 0 0, .int .i64 0, .string ⟨#[]⟩] 36)) 36 #[.slice none 0 0, .int .i64 caret, .string pend]; rwa [show ((w.alloc (.cells #[.slice A n c, .int .i64 caret, .string pend] 24)).alloc (.cells #[.slice none 0 0, .int .i64 0, .string ⟨#[]⟩] 36)).heap.size = w.heap.size + 1 + 1 from by simp] at h)
  have hzz : (((w.alloc (.cells #[.slice A n c, .int .i64 caret, .string pend] 24)).alloc (.cells #[.slice none 0 0, .int .i64 0, .string ⟨#[]⟩] 36)).alloc (.cells #[.slice none 0 0, .int .i64 caret, .string pend] 36)).heap.size = w.heap.size + 1 + 1 + 1 := by simp
  clear h hi
  go_enter Tryd.func28, Tryd.ntmps28
  go_upto_region 2 with fail
  try generalize (((w.alloc (.cells #[.slice A n c, .int .i64 caret, .string pend] 24)).alloc (.cells #[.slice none 0 0, .int .i64 0, .string ⟨#[]⟩] 36)).alloc (.cells #[.slice none 0 0, .int .i64 caret, .string pend] 36)) = W0 at B0 KP KZ KO hzz ⊢
  go_wp2_with fail
  go_loopw [4] (fun i wr => ∃ k : Nat, ∃ v, k ≤ n ∧ i = .int .i64 (k : Int) ∧ Blk wr w.heap.size 24 #[.slice A n c, .int .i64 caret, .string pend] ∧ Blk wr (w.heap.size + 1) 36 #[.slice none 0 0, .int .i64 0, .string ⟨#[]⟩] ∧ Blk wr (w.heap.size + 1 + 1) 36 #[v, .int .i64 caret, .string pend] ∧ wr.ownsRow (w.heap.size + 1 + 1 + 1) 81 2 v k (ic (l.take k)) ∧ Below w.heap.size w wr) (fun i _ => n - (intOf i).toNat)
  case atStart => exact ⟨0, _, Nat.zero_le _, rfl, KP.out, KZ.out, KO.out, World.ownsRow_nil _ _ _ _, B0.out⟩
  case round =>
    obtain ⟨k, v, hk, rfl, h1, h2, h3, h4, hbl⟩ := hrel
    have B := Lib.hid hbl
    have KP := Lib.hid h1
    have KZ := Lib.hid h2
    have KO := Lib.hid h3
    obtain ⟨A1, c1, rfl, hc1⟩ := own_form h4
    have OW := Lib.hid h4
    clear hbl h1 h2 h3 h4 B0
    have hsz : w.heap.size + 1 + 1 < wr.heap.size := KO.out.lt
    by_cases hlt : k < n
    · obtain ⟨ad, ⟨x, y⟩, rfl, hp, hbk, e0, e1⟩ := (HR.out.keep B.out).at_ hlt
      simp only at e0 e1
      have HP := Lib.hid hp
      have p0 : wr.cell? ⟨w.heap.size, 0, none⟩ = some (.slice (some ad) n c) := KP.out.cell 0
      have o0 : wr.cell? ⟨w.heap.size + 1 + 1, 0, none⟩ = some (.slice A1 k c1) := KO.out.cell 0
      have BL := Lib.hid ((Below.refl wr.heap.size wr).alloc (Nat.le_refl _) (.cells #[.string x, .string y] 81))
      have OR := Lib.hid (own_keep OW.out BL.out)
      clear hp
      go_wp2_with fail
      go_region_law (first
        | (refine step_append_any _ (by rfl) (.tmp 18) (.tmp 32) _ (by rfl) (w.heap.size + 1 + 1 + 1) 81 i0 _ 2 32 Tryd.underlying34 HI.out hz0 hz1 hz2 (by kernel_rfl) (by decide) _ k (ic (l.take k)) (by rfl) (by exact OR.out) _ (some ⟨wr.heap.size, 0, none⟩) 1 1 [.string x, .string y] (by rfl) (Reads.litP _ _ _ _ 2 1 _ _ rfl rfl rfl) (by intro u hu; simp only [List.mem_cons, List.not_mem_nil, or_false] at hu; rcases hu with rfl | rfl <;> rfl) (by unfold maxLen; omega) (by omega) (by simp; omega) ?_; intro v4 w4 hown4 hg4 hat4; obtain ⟨A4, c4, rfl, hc4⟩ := own_form hown4; have O4 := Lib.hid hown4; have HG4 := Lib.hid hg4; have o4 : w4.cell? ⟨w.heap.size + 1 + 1, 0, none⟩ = some (.slice A1 k c1) := ((KO.out.alloc (.cells #[.string x, .string y] 81)).drew.grown hg4 (own_ne OR.out (Nat.lt_succ_self _))).cell 0; have f4 : w4.frozen? ⟨w.heap.size + 1 + 1, 0, none⟩ = false := ((KO.out.alloc (.cells #[.string x, .string y] 81)).drew.grown hg4 (own_ne OR.out (Nat.lt_succ_self _))).frozen 0; clear hown4 hg4 hat4))
      all_goals
        have KP4 := Lib.hid (((KP.out.alloc (.cells #[.string x, .string y] 81)).drew.grown HG4.out (own_ne OR.out (g := w.heap.size) (by omega))).far (p := ⟨w.heap.size + 1 + 1, 0, none⟩) (by simp; omega) (.slice A4 (k + 1) c4))
        have KZ4 := Lib.hid (((KZ.out.alloc (.cells #[.string x, .string y] 81)).drew.grown HG4.out (own_ne OR.out (g := w.heap.size + 1) (by omega))).far (p := ⟨w.heap.size + 1 + 1, 0, none⟩) (by simp) (.slice A4 (k + 1) c4))
        have KO4 := Lib.hid (((KO.out.alloc (.cells #[.string x, .string y] 81)).drew.grown HG4.out (own_ne OR.out (Nat.lt_succ_self _))).set_ 0 (.slice A4 (k + 1) c4))
        have O5 := O4.out
        rw [ic_snoc HP.out] at O5
        have O6 := Lib.hid (own_setl O5 (g := w.heap.size + 1 + 1) (by omega) 0 (.slice A4 (k + 1) c4))
        have B6 := Lib.hid ((own_below (B := w.heap.size) (B.out.trans (BL.out.drew.mono B.out.size)) (Nat.le_refl _) OR.out (by omega) HG4.out).setCell (p := ⟨w.heap.size + 1 + 1, 0, none⟩) (by show w.heap.size ≤ w.heap.size + 1 + 1; omega) (.slice A4 (k + 1) c4))
        clear O5 o4 f4 HG4 O4 BL OR e0 e1 p0 o0
        try go_wp2_with fail
        go_roundw
        case rel => exact ⟨k + 1, .slice A4 (k + 1) c4, by omega, by go_num, KP4.out, KZ4.out, KO4.out, O6.out, B6.out⟩
        case measure => simp [intOf]; omega
    · have hkn : k = n := by omega
      subst k
      have p0 : wr.cell? ⟨w.heap.size, 0, none⟩ = some (.slice A n c) := KP.out.cell 0
      have o0 : wr.cell? ⟨w.heap.size + 1 + 1, 0, none⟩ = some (.slice A1 n c1) := KO.out.cell 0
      have o1 : wr.cell? ⟨w.heap.size + 1 + 1, 1, none⟩ = some (.int .i64 caret) := KO.out.cell 1
      have o2 : wr.cell? ⟨w.heap.size + 1 + 1, 2, none⟩ = some (.string pend) := KO.out.cell 2
      have z0 : wr.cell? ⟨w.heap.size + 1, 0, none⟩ = some (.slice none 0 0) := KZ.out.cell 0
      have z1 : wr.cell? ⟨w.heap.size + 1, 1, none⟩ = some (.int .i64 0) := KZ.out.cell 1
      have z2 : wr.cell? ⟨w.heap.size + 1, 2, none⟩ = some (.string ⟨#[]⟩) := KZ.out.cell 2
      have f0 : wr.frozen? ⟨w.heap.size + 1, 0, none⟩ = false := KZ.out.frozen 0
      have f1 : wr.frozen? ⟨w.heap.size + 1, 1, none⟩ = false := KZ.out.frozen 1
      have f2 : wr.frozen? ⟨w.heap.size + 1, 2, none⟩ = false := KZ.out.frozen 2
      go_wp2_with fail
      have ZF : Hid (Blk (((wr.setCell ⟨w.heap.size + 1, 0, none⟩ (.slice A1 n c1)).setCell ⟨w.heap.size + 1, 1, none⟩ (.int .i64 caret)).setCell ⟨w.heap.size + 1, 2, none⟩ (.string pend)) (w.heap.size + 1) 36 #[.slice A1 n c1, .int .i64 caret, .string pend]) := Lib.hid (by simpa using ((KZ.out.set_ 0 (.slice A1 n c1)).set_ 1 (.int .i64 caret)).set_ 2 (.string pend))
      have BF : Hid (Below w.heap.size w (((wr.setCell ⟨w.heap.size + 1, 0, none⟩ (.slice A1 n c1)).setCell ⟨w.heap.size + 1, 1, none⟩ (.int .i64 caret)).setCell ⟨w.heap.size + 1, 2, none⟩ (.string pend))) := Lib.hid (((B.out.setCell (p := ⟨w.heap.size + 1, 0, none⟩) (Nat.le_succ _) (.slice A1 n c1)).setCell (p := ⟨w.heap.size + 1, 1, none⟩) (Nat.le_succ _) (.int .i64 caret)).setCell (p := ⟨w.heap.size + 1, 2, none⟩) (Nat.le_succ _) (.string pend))
      have OF := Lib.hid (own_setl (own_setl (own_setl OW.out (g := w.heap.size + 1) (by omega) 0 (.slice A1 n c1)) (g := w.heap.size + 1) (by omega) 1 (.int .i64 caret)) (g := w.heap.size + 1) (by omega) 2 (.string pend))
      generalize (((wr.setCell ⟨w.heap.size + 1, 0, none⟩ (.slice A1 n c1)).setCell ⟨w.heap.size + 1, 1, none⟩ (.int .i64 caret)).setCell ⟨w.heap.size + 1, 2, none⟩ (.string pend)) = wf at ZF BF OF ⊢
      have y0 : wf.cell? ⟨w.heap.size + 1, 0, none⟩ = some (.slice A1 n c1) := ZF.out.cell 0
      have y1 : wf.cell? ⟨w.heap.size + 1, 1, none⟩ = some (.int .i64 caret) := ZF.out.cell 1
      have y2 : wf.cell? ⟨w.heap.size + 1, 2, none⟩ = some (.string pend) := ZF.out.cell 2
      refine bodyPost_ret (by simp [results, Tryd.results28, go_sem, y0, y1, y2]; rfl) rfl ?_
      have OG := OF.out
      rw [List.take_of_length_le (by rw [HR.out.len]; exact Nat.le_refl _)] at OG
      exact ⟨.slice A1 n c1, rfl, own_mono OG (by omega), BF.out⟩
end Go.Proofs.YtebjfigjfhghcaaDoor.Und
