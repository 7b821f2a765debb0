/-
  The contract of all of package henkanlaw40: copies of steps. Conditions: the steps can be read, their lengths are bounded. (Printed by gen/undall.py.)
-/
import Derived.Test.YtebjfigjfhghcaaDoorUndGiv40
import Derived.Test.YtebjfigjfhghcaaDoorUndRef
namespace Go.Proofs.YtebjfigjfhghcaaDoor.Und
open Go.RowKit Wd Utf

set_option maxRecDepth 100000 in
set_option maxHeartbeats 8000000 in
theorem all_any (A : Option Addr) (n c : Nat) (ps : List (Sp × Stp)) (w : World) (hs : RP w A n ps) (hn : n ≤ 1048576) :
    Calls Tryd.prog 16 #[.slice A n c] w fun e w' => ∃ v rs, e = .returned v ∧ OF 39 81 w.heap.size w' v rs ∧ rs.map (·.2) = ps.map (·.2) ∧ Below w.heap.size w w' := by
  obtain ⟨i0, hi, hz0, hz1, hz2⟩ := info_parts info_stepR
  have HI := Lib.hid hi
  have HP := Lib.hid hs
  clear hs hi
  go_enter Tryd.func16, Tryd.ntmps16
  go_wp2_with fail
  go_loopw [3, 4] (fun o i wr => ∃ k : Nat, ∃ rs, k ≤ n ∧ i = .int .i64 (k : Int) ∧ rs.map (fun p : Sp × Stp => p.2) = (ps.take k).map (·.2) ∧ OF 39 81 w.heap.size wr o rs ∧ Below w.heap.size w wr) (fun _ i _ => n - (intOf i).toNat)
  case atStart => exact ⟨0, [], Nat.zero_le _, rfl, rfl, OF.nil _ _ _ _, Below.refl _ _⟩
  case round =>
    obtain ⟨k, rs, hk, rfl, hrs, hop, hbl⟩ := hrel
    obtain ⟨A1, c1, rfl, _, hc1⟩ := hop.form
    have HRS := Lib.hid hrs
    have O := Lib.hid hop
    have B := Lib.hid hbl
    clear hrs hop hbl
    by_cases hlt : k < n
    · obtain ⟨ad, ⟨r, q⟩, rfl, hp, hbk, hin, c0, c1', c2, c3, c4, c5, c6, c7, c8, c9, c10⟩ := (HP.out.keep B.out).at_ hlt
      have HPK := Lib.hid hp
      have HG := Lib.hid (given40_any r q wr hin)
      have hlen : rs.length = k := by have := congrArg List.length HRS.out; rw [List.length_map, List.length_map, List.length_take, (HP.out).len] at this; omega
      clear hp hin
      obtain ⟨Ai, ni, ci, caret, pend, mode, conv, Ab, nb, cb, Af, nf, cf, At, nt, ct, focus, prev, commit⟩ := r
      unfold Sp.cells at HG
      simp only at HG c0 c1' c2 c3 c4 c5 c6 c7 c8 c9 c10
      generalize hj : rs.length = j at *
      subst hlen
      go_wp2_with fail
      with_reducible refine (HG.out).mono ?_
      rintro e w2 ⟨⟨Bi, mi, di, xa, xp, xm, xv, Bb, mb, db, Bf, mf, df, Bt, mt, dt, xf, xq, xc⟩, rfl, hfr, hb2⟩
      have hw2 : w.heap.size ≤ w2.heap.size := Nat.le_trans B.out.size hb2.size
      have BL := Lib.hid ((Below.refl w2.heap.size w2).alloc (Nat.le_refl _) (.cells #[.slice Bi mi di, .int .i64 xa, .string xp, .int .i64 xm, .bool xv, .slice Bb mb db, .slice Bf mf df, .slice Bt mt dt, .int .i64 xf, .string xq, .string xc] 39))
      have FR := Lib.hid ((hfr.keep BL.out).lower (lo' := w.heap.size) B.out.size)
      have O2 := Lib.hid ((O.out.keep hb2).keep BL.out)
      have OR := Lib.hid (hj ▸ O2.out.row)
      have B2 := Lib.hid (B.out.trans (hb2.mono B.out.size))
      clear hfr hb2 c0 c1' c2 c3 c4 c5 c6 c7 c8 c9 c10
      go_wp2_with (at_builtin; refine wpList_append_any _ rfl (.tmp 11) (.tmp 17) _ rfl w.heap.size 39 i0 _ 11 176 Tryd.underlying49 HI.out hz0 hz1 hz2 step_cells (by decide) _ j (sc rs) rfl (by exact OR.out) _ (some ⟨w2.heap.size, 0, none⟩) 1 1 (sc [((⟨Bi, mi, di, xa, xp, xm, xv, Bb, mb, db, Bf, mf, df, Bt, mt, dt, xf, xq, xc⟩ : Sp), q)]) rfl (Reads.litP _ _ _ _ 11 1 _ _ rfl (by simp [sc, Sp.cells]) (by simp [sc, Sp.cells])) (sc_one _) (by unfold maxLen; omega) (by omega) (by simp; omega) ?_; intro v4 w4 hown4 hg4 hat4; obtain ⟨A4, c4, rfl, hc4⟩ := own_form hown4; have O4 := Lib.hid hown4; have HG4 := Lib.hid hg4; clear hown4 hg4 hat4)
      have OF4 := Lib.hid (O2.out.snoc (p := ((⟨Bi, mi, di, xa, xp, xm, xv, Bb, mb, db, Bf, mf, df, Bt, mt, dt, xf, xq, xc⟩ : Sp), q)) FR.out (by have := O4.out; rw [hj]; simpa [sc, Sp.cells] using this) HG4.out (by decide) (by decide) (by decide) (by decide))
      have B4 := Lib.hid (own_below (B := w.heap.size) (B2.out.trans (BL.out.mono hw2)) (Nat.le_refl _) OR.out (Nat.le_refl _) HG4.out)
      go_roundw
      case rel => exact ⟨j + 1, rs ++ [((⟨Bi, mi, di, xa, xp, xm, xv, Bb, mb, db, Bf, mf, df, Bt, mt, dt, xf, xq, xc⟩ : Sp), q)], by omega, by go_num, map_snoc HRS.out HPK.out, OF4.out, B4.out⟩
      case measure => simp [intOf]; omega
    · have hkn : k = n := by omega
      subst k
      go_wp2_with fail
      go_ret
      exact ⟨_, rfl, rs, O.out, by have := HRS.out; rwa [List.take_of_length_le (by rw [HP.out.len]; exact Nat.le_refl _)] at this, B.out⟩
end Go.Proofs.YtebjfigjfhghcaaDoor.Und
