/-
  The contract of Push of package undo. Conditions: the steps can be read, their lengths are bounded; the tables lie. (Printed by gen/undpush.py.)
-/
import Derived.Test.YtebjfigjfhghcaaDoorUndCopies
import Derived.Test.YtebjfigjfhghcaaDoorUndCheck
import Derived.Test.YtebjfigjfhghcaaDoorUndPlain
namespace Go.Proofs.YtebjfigjfhghcaaDoor.Und
open Go.RowKit Wd Utf

set_option maxRecDepth 100000 in
set_option maxHeartbeats 8000000 in
theorem push_any (A : Option Addr) (n c : Nat) (ps : List (Sp × Stp)) (r : Sp) (q : Stp) (w : World) (hT : Tabs w) (hs : RP w A n ps) (hq : SpIn w r q) (hn : n ≤ 40) :
    Calls Tryd.prog 14 #[.agg #[.slice A n c], .agg r.cells] w fun e w' => ∃ v rs, e = .returned (.tuple #[.agg #[v], .int .i64 (errI ((ps.map (·.2) ++ [q]).all okB))]) ∧ PL 31 75 w.heap.size w' v rs ∧ rs.map (·.2) = pushV (ps.map (·.2) ++ [q]) ∧ Below w.heap.size w w' := by
  obtain ⟨i0, hi, hz0, hz1, hz2⟩ := info_parts info_step
  have HI := Lib.hid hi
  have B0 : Hid (Below w.heap.size w (((w.alloc (.cells #[.slice A n c] 46)).alloc (.cells r.cells 31)).alloc (.cells #[.slice none 0 0] 46)).drew) := Lib.hid ((((Below.refl _ _).alloc (Nat.le_refl _) _).alloc (by simp) _).alloc (by simp; omega) _).drew
  have HC := Lib.hid (fun (W : World) (hW : Below w.heap.size w W) => copies_any A n c ps W (hs.keep hW) (by omega))
  have HY := Lib.hid (fun (W : World) (hW : Below w.heap.size w W) => copy_any r q W (hq.keep hW))
  have HT := Lib.hid hT
  have HLN := Lib.hid hs.len
  generalize hL : ps.map (·.2) ++ [q] = L
  have HLL := Lib.hid hL
  clear hT hs hq hi hL
  obtain ⟨Ai, ni, ci, caret, pend, mode, conv, Ab, nb, cb, Af, nf, cf, At, nt, ct, focus, prev, commit⟩ := r
  unfold Sp.cells at B0 HY
  unfold Sp.cells
  simp only at B0 HY
  have K1 : Hid (Blk (((w.alloc (.cells #[.slice A n c] 46)).alloc (.cells #[.slice Ai ni ci, .int .i64 caret, .string pend, .int .i64 mode, .bool conv, .slice Ab nb cb, .slice Af nf cf, .slice At nt ct, .int .i64 focus, .string prev, .string commit] 31)).alloc (.cells #[.slice none 0 0] 46)).drew (w.heap.size + 1) 31 #[.slice Ai ni ci, .int .i64 caret, .string pend, .int .i64 mode, .bool conv, .slice Ab nb cb, .slice Af nf cf, .slice At nt ct, .int .i64 focus, .string prev, .string commit]) := Lib.hid (by have h := (Blk.new (w.alloc (.cells #[.slice A n c] 46)) 31 #[.slice Ai ni ci, .int .i64 caret, .string pend, .int .i64 mode, .bool conv, .slice Ab nb cb, .slice Af nf cf, .slice At nt ct, .int .i64 focus, .string prev, .string commit]).alloc (.cells #[.slice none 0 0] 46); rw [show (w.alloc (.cells #[.slice A n c] 46)).heap.size = w.heap.size + 1 from by simp] at h; exact h.drew)
  have Z1 : Hid (Blk (((w.alloc (.cells #[.slice A n c] 46)).alloc (.cells #[.slice Ai ni ci, .int .i64 caret, .string pend, .int .i64 mode, .bool conv, .slice Ab nb cb, .slice Af nf cf, .slice At nt ct, .int .i64 focus, .string prev, .string commit] 31)).alloc (.cells #[.slice none 0 0] 46)).drew (w.heap.size + 1 + 1) 46 #[.slice none 0 0]) := Lib.hid (by have h := Blk.new ((w.alloc (.cells #[.slice A n c] 46)).alloc (.cells #[.slice Ai ni ci, .int .i64 caret, .string pend, .int .i64 mode, .bool conv, .slice Ab nb cb, .slice Af nf cf, .slice At nt ct, .int .i64 focus, .string prev, .string commit] 31)) 46 #[.slice none 0 0]; rw [show ((w.alloc (.cells #[.slice A n c] 46)).alloc (.cells #[.slice Ai ni ci, .int .i64 caret, .string pend, .int .i64 mode, .bool conv, .slice Ab nb cb, .slice Af nf cf, .slice At nt ct, .int .i64 focus, .string prev, .string commit] 31)).heap.size = w.heap.size + 1 + 1 from by simp] at h; exact h.drew)
  have hzz : (((w.alloc (.cells #[.slice A n c] 46)).alloc (.cells #[.slice Ai ni ci, .int .i64 caret, .string pend, .int .i64 mode, .bool conv, .slice Ab nb cb, .slice Af nf cf, .slice At nt ct, .int .i64 focus, .string prev, .string commit] 31)).alloc (.cells #[.slice none 0 0] 46)).heap.size = w.heap.size + 1 + 1 + 1 := by simp
  go_enter Tryd.func14, Tryd.ntmps14
  go_wp2_with fail
  go_region_law (first
    | (refine step_append_any _ (by rfl) (.tmp 11) (.tmp 14) _ (by rfl) (w.heap.size + 1 + 1 + 1) 31 i0 _ 11 176 Tryd.underlying44 HI.out hz0 hz1 hz2 step_cells (by decide) _ n (sc rs) (by rfl) (by exact OR.out) _ (some ⟨wb.heap.size, 0, none⟩) 1 1 (sc [((⟨Bi, mi, di, xa, xp, xm, xv, Bb, mb, db, Bf, mf, df, Bt, mt, dt, xf, xq, xc⟩ : Sp), q)]) (by rfl) (Reads.litP _ _ _ _ 11 1 _ _ rfl (by simp [sc, Sp.cells]) (by simp [sc, Sp.cells])) (sc_one _) (by unfold maxLen; omega) (by omega) (by simp; omega) ?_; intro v4 w4 hown4 hg4 hat4; obtain ⟨A4, c4, rfl, hc4⟩ := own_form hown4; have O4 := Lib.hid hown4; have HG4 := Lib.hid hg4; clear hown4 hg4 hat4)
    | (go_simp; go_at_call 32; (with_reducible refine (HC.out _ B0.out).mono ?_); rintro e wa ⟨va, rs, rfl, hop, hmap, hba⟩; obtain ⟨A1, c1, rfl, _, _⟩ := hop.form; have hlr : rs.length = n := (by have := congrArg List.length hmap; rw [List.length_map, List.length_map, HLN.out] at this; exact this); have OA := Lib.hid (hop.lower (lo' := w.heap.size + 1 + 1 + 1) (Nat.le_of_eq hzz.symm)); have HM := Lib.hid hmap; have KA := Lib.hid (K1.out.below hba K1.out.lt); have ZA := Lib.hid (Z1.out.below hba Z1.out.lt); have BA := Lib.hid (B0.out.trans (hba.mono B0.out.size)); have b0 : wa.cell? ⟨w.heap.size + 1, 0, none⟩ = some (.slice Ai ni ci) := KA.out.cell 0; have b1 : wa.cell? ⟨w.heap.size + 1, 1, none⟩ = some (.int .i64 caret) := KA.out.cell 1; have b2 : wa.cell? ⟨w.heap.size + 1, 2, none⟩ = some (.string pend) := KA.out.cell 2; have b3 : wa.cell? ⟨w.heap.size + 1, 3, none⟩ = some (.int .i64 mode) := KA.out.cell 3; have b4 : wa.cell? ⟨w.heap.size + 1, 4, none⟩ = some (.bool conv) := KA.out.cell 4; have b5 : wa.cell? ⟨w.heap.size + 1, 5, none⟩ = some (.slice Ab nb cb) := KA.out.cell 5; have b6 : wa.cell? ⟨w.heap.size + 1, 6, none⟩ = some (.slice Af nf cf) := KA.out.cell 6; have b7 : wa.cell? ⟨w.heap.size + 1, 7, none⟩ = some (.slice At nt ct) := KA.out.cell 7; have b8 : wa.cell? ⟨w.heap.size + 1, 8, none⟩ = some (.int .i64 focus) := KA.out.cell 8; have b9 : wa.cell? ⟨w.heap.size + 1, 9, none⟩ = some (.string prev) := KA.out.cell 9; have b10 : wa.cell? ⟨w.heap.size + 1, 10, none⟩ = some (.string commit) := KA.out.cell 10; rw [hlr]; have h3a := Nat.le_trans (Nat.le_of_eq hzz.symm) hba.size; clear hop hmap hba)
    | (go_simp; go_at_call 33; (with_reducible refine (HY.out _ BA.out).mono ?_); rintro e wb ⟨⟨Bi, mi, di, xa, xp, xm, xv, Bb, mb, db, Bf, mf, df, Bt, mt, dt, xf, xq, xc⟩, rfl, hsb, hbb⟩; have SB := Lib.hid hsb; have OB := Lib.hid (OA.out.keep hbb); have BB := Lib.hid (BA.out.trans (hbb.mono BA.out.size)); have ZB := Lib.hid (ZA.out.below hbb ZA.out.lt); have OR := Lib.hid (own_keep (hlr ▸ OB.out.row) ((Below.refl _ wb).alloc (Nat.le_refl _) (.cells #[.slice Bi mi di, .int .i64 xa, .string xp, .int .i64 xm, .bool xv, .slice Bb mb db, .slice Bf mf df, .slice Bt mt dt, .int .i64 xf, .string xq, .string xc] 31))); have h3b := Nat.le_trans h3a hbb.size; have hab : wa.heap.size ≤ wb.heap.size := hbb.size; clear hsb hbb))
  all_goals
    have BL := Lib.hid ((Below.refl wb.heap.size wb).alloc (Nat.le_refl _) (.cells #[.slice Bi mi di, .int .i64 xa, .string xp, .int .i64 xm, .bool xv, .slice Bb mb db, .slice Bf mf df, .slice Bt mt dt, .int .i64 xf, .string xq, .string xc] 31))
    have OPF0 := Lib.hid ((OB.out.keep BL.out).snoc (p := ((⟨Bi, mi, di, xa, xp, xm, xv, Bb, mb, db, Bf, mf, df, Bt, mt, dt, xf, xq, xc⟩ : Sp), q)) ((SB.out.keep BL.out).lower (by omega)) (by have := O4.out; rw [hlr]; simpa [sc, Sp.cells] using this) (by rw [hlr]; exact HG4.out) (by decide) (by decide) (by decide) (by decide))
    have B4 := Lib.hid (own_below (B := w.heap.size) (BB.out.trans (BL.out.mono (by omega))) (Nat.le_refl _) OR.out (by omega) HG4.out)
    have Z4 := Lib.hid (((ZB.out.alloc (.cells #[.slice Bi mi di, .int .i64 xa, .string xp, .int .i64 xm, .bool xv, .slice Bb mb db, .slice Bf mf df, .slice Bt mt dt, .int .i64 xf, .string xq, .string xc] 31)).grown HG4.out (own_ne OR.out (Nat.lt_succ_self _))))
    have HMF : Hid ((rs ++ [((⟨Bi, mi, di, xa, xp, xm, xv, Bb, mb, db, Bf, mf, df, Bt, mt, dt, xf, xq, xc⟩ : Sp), q)]).map (·.2) = L) := Lib.hid (by rw [List.map_append, HM.out]; exact HLL.out)
    have hfl : (rs ++ [((⟨Bi, mi, di, xa, xp, xm, xv, Bb, mb, db, Bf, mf, df, Bt, mt, dt, xf, xq, xc⟩ : Sp), q)]).length = n + 1 := by rw [List.length_append, hlr]; rfl
    have hsz4 : w.heap.size + 1 + 1 < w4.heap.size := Z4.out.lt
    generalize rs ++ [((⟨Bi, mi, di, xa, xp, xm, xv, Bb, mb, db, Bf, mf, df, Bt, mt, dt, xf, xq, xc⟩ : Sp), q)] = full at OPF0 HMF hfl
    have OPF : Hid (OP 31 75 (w.heap.size + 1 + 1 + 1) w4 (.slice A4 (n + 1) c4) full) := Lib.hid OPF0.out
    clear OPF0 BL OB SB O4 HG4 OR ZB BB ZA BA KA HM OA B0 K1 Z1 HC HY h3a h3b hab b0 b1 b2 b3 b4 b5 b6 b7 b8 b9 b10 HI hz0 hz1 hz2
    have RF : Hid (RP w4 A4 (n + 1) full) := Lib.hid (by obtain ⟨A', c', e', hrp, _⟩ := OPF.out.form; rw [hfl] at hrp e'; injection e' with e1; subst e1; exact hrp)
    go_wp2_with fail
    go_loopw [18] (fun i wr => ∃ k : Nat, k ≤ n + 1 ∧ i = .int .i64 (k : Int) ∧ (L.take k).all okB = true ∧ Below w4.heap.size w4 wr) (fun i _ => n + 1 - (intOf i).toNat)
    case atStart => exact ⟨0, Nat.zero_le _, rfl, rfl, Below.refl _ _⟩
    case round =>
      obtain ⟨k, hk, rfl, hall, hbl⟩ := hrel
      have HA := Lib.hid hall
      have B := Lib.hid hbl
      clear hall hbl
      by_cases hlt : k < n + 1
      · obtain ⟨ad, p, rfl, hp, hbk, hin, c0, c1', c2, c3, c4', c5, c6, c7, c8, c9, c10⟩ := (RF.out.keep B.out).at_ hlt
        have HLK : Hid (L[k]? = some p.2) := Lib.hid (by rw [← HMF.out, List.getElem?_map, hp]; rfl)
        have HIN := Lib.hid hin
        have hb1 := Lib.hid ((Below.refl wr.heap.size wr).alloc (Nat.le_refl _) (.cells p.1.cells 31))
        clear hin hp
        go_wp2_with fail
        refine (check_any p.1 p.2 _ ((HT.out.keep B4.out).keep (B.out.trans (hb1.out.mono B.out.size))) (HIN.out.keep hb1.out)).mono ?_
        rintro e w5 ⟨rfl, hb5⟩
        have B5 := Lib.hid ((B.out.trans (hb1.out.mono B.out.size)).trans (hb5.mono (Nat.le_trans B.out.size hb1.out.size)))
        clear hb5 hb1 c0 c1' c2 c3 c4' c5 c6 c7 c8 c9 c10 hbk
        rcases ho : okB p.2 with _ | _
        · have HV : Hid (L.all okB = false) := Lib.hid (all_nay HLK.out ho)
          rw [errI_f]
          clear ho
          have Z5 := Lib.hid (Z4.out.below B5.out hsz4)
          have z5 : w5.cell? ⟨w.heap.size + 1 + 1, 0, none⟩ = some (.slice none 0 0) := Z5.out.cell 0
          have f5 : w5.frozen? ⟨w.heap.size + 1 + 1, 0, none⟩ = false := Z5.out.frozen 0
          go_wp2_with fail
          have BF := Lib.hid ((B4.out.trans (B5.out.mono B4.out.size)).setCell (p := ⟨w.heap.size + 1 + 1, 0, none⟩) (by show w.heap.size ≤ w.heap.size + 1 + 1; omega) (.slice none 0 0))
          have ZF := Lib.hid (Z5.out.set_ 0 (.slice none 0 0))
          generalize (w5.setCell ⟨w.heap.size + 1 + 1, 0, none⟩ (.slice none 0 0)) = wf at BF ZF ⊢
          have y0 : wf.cell? ⟨w.heap.size + 1 + 1, 0, none⟩ = some (.slice none 0 0) := ZF.out.cell 0
          refine bodyPost_ret (by simp [results, Tryd.results14, go_sem, y0]; rfl) rfl ?_
          exact ⟨_, [], by rw [HV.out]; rfl, PL.nil _ _ _ _, by rw [pushV_bad HV.out]; rfl, BF.out⟩
        · have HO := Lib.hid ho
          rw [errI_t]
          clear ho
          go_wp2_with fail
          go_roundw
          case rel => exact ⟨k + 1, by omega, by go_num, all_stp HLK.out HA.out HO.out, B5.out⟩
          case measure => simp [intOf]; omega
      · have hkn : k = n + 1 := by omega
        subst hkn
        have HV : Hid (L.all okB = true) := Lib.hid (by have := HA.out; rwa [List.take_of_length_le (by rw [← HMF.out, List.length_map, hfl]; exact Nat.le_refl _)] at this)
        have Z5 := Lib.hid (Z4.out.below B.out hsz4)
        have z5 : wr.cell? ⟨w.heap.size + 1 + 1, 0, none⟩ = some (.slice none 0 0) := Z5.out.cell 0
        have f5 : wr.frozen? ⟨w.heap.size + 1 + 1, 0, none⟩ = false := Z5.out.frozen 0
        have hd : (max 0 ((n : Int) + 1 - 16)).toNat = n - 15 := by omega
        go_wp2_with fail

        have BF := Lib.hid ((B4.out.trans (B.out.mono B4.out.size)).setCell (p := ⟨w.heap.size + 1 + 1, 0, none⟩) (by show w.heap.size ≤ w.heap.size + 1 + 1; omega) (.slice (Option.map (fun x => x.add ((n - 15) * 11)) A4) (n + 1 - (n - 15)) (c4 - (n - 15))))
        have ZF := Lib.hid (Z5.out.set_ 0 (.slice (Option.map (fun x => x.add ((n - 15) * 11)) A4) (n + 1 - (n - 15)) (c4 - (n - 15))))
        have OF := Lib.hid ((OPF.out.keep B.out).setl (g := w.heap.size + 1 + 1) (Nat.lt_succ_self _) 0 (.slice (Option.map (fun x => x.add ((n - 15) * 11)) A4) (n + 1 - (n - 15)) (c4 - (n - 15))))
        generalize (wr.setCell ⟨w.heap.size + 1 + 1, 0, none⟩ (.slice (Option.map (fun x => x.add ((n - 15) * 11)) A4) (n + 1 - (n - 15)) (c4 - (n - 15)))) = wf at BF ZF OF ⊢
        have y0 : wf.cell? ⟨w.heap.size + 1 + 1, 0, none⟩ = some (.slice (Option.map (fun x => x.add ((n - 15) * 11)) A4) (n + 1 - (n - 15)) (c4 - (n - 15))) := ZF.out.cell 0
        refine bodyPost_ret (by simp [results, Tryd.results14, go_sem, y0]; rfl) rfl ?_
        refine ⟨_, full.drop (n - 15), by rw [HV.out]; rfl, ⟨A4, c4, n - 15, _, full, by rw [hfl]; exact OF.out.lower (by omega), by omega, by rw [hfl], rfl, by rw [hfl]; omega⟩, ?_, BF.out⟩
        rw [List.map_drop, HMF.out, pushV_ok HV.out]
        unfold lastN
        rw [show L.length - 16 = n - 15 by rw [← HMF.out, List.length_map, hfl]; omega]
end Go.Proofs.YtebjfigjfhghcaaDoor.Und
