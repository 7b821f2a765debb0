/-
  The contract of the closure in copies of package undo. Conditions: the step can be read, its lengths are bounded; the closure's slice is of the call's own.
-/
import Derived.Test.YtebjfigjfhghcaaDoorUndSteps
namespace Go.Proofs.YtebjfigjfhghcaaDoor.Und
open Go.RowKit Wd Utf

theorem info_step : (Tryd.prog.info? 31).map (fun i => (i.zero, i.size, i.bytes)) = some (some (.agg #[.slice none 0 0, .int .i64 0, .string ⟨#[]⟩, .int .i64 0, .bool false, .slice none 0 0, .slice none 0 0, .slice none 0 0, .int .i64 0, .string ⟨#[]⟩, .string ⟨#[]⟩]), 11, 176) := by kernel_rfl
theorem step_cells : (Value.agg #[.slice none 0 0, .int .i64 0, .string ⟨#[]⟩, .int .i64 0, .bool false, .slice none 0 0, .slice none 0 0, .slice none 0 0, .int .i64 0, .string ⟨#[]⟩, .string ⟨#[]⟩]).cells.size = 11 := by kernel_rfl
theorem own_ne {w : World} {base size n g : Nat} {e : TypeId} {v : Value} {xs : List Value} (h : w.ownsRow base e size v n xs) (hg : g < base) : some g ≠ v.ownBlock := by
  rcases h.2 with ⟨rfl, _⟩ | ⟨g', cap, cur, rfl, hb, _⟩
  · intro hh; cases hh
  · intro hh; simp only [Value.ownBlock, Option.some.injEq] at hh; omega
theorem SpOwn.setl {ity : TypeId} {lo g : Nat} {w : World} {r : Sp} {q : Stp} (h : SpOwn ity lo w r q) (hg : g < lo) (j : Nat) (u : Value) : SpOwn ity lo (w.setCell ⟨g, j, none⟩ u) r q := by
  have a1 := own_setl h.it hg j u
  have a2 := own_setl h.bo hg j u
  have a3 := own_setl h.fx hg j u
  have a4 := own_setl h.tx hg j u
  have i := h.inn
  exact ⟨a1, a2, a3, a4, ⟨RT.of_own a1, RI.of_own a2, RO.of_own a3, RS.of_own a4, i.caret, i.pend, i.mode, i.conv, i.focus, i.prev, i.commit, i.ni, i.nb, i.nf, i.nt, i.tcap, i.szi, i.szt, i.szp, i.szv, i.szm⟩⟩
theorem OP.setl {T ity : TypeId} {w : World} {lo g : Nat} {v : Value} {ps : List (Sp × Stp)} (h : OP T ity lo w v ps) (hg : g < lo) (j : Nat) (u : Value) : OP T ity lo (w.setCell ⟨g, j, none⟩ u) v ps :=
  ⟨own_setl h.row hg j u, fun p hp => (h.els p hp).setl hg j u⟩
set_option maxRecDepth 100000 in
set_option maxHeartbeats 8000000 in
theorem copy1_any (g lo : Nat) (v : Value) (ps : List (Sp × Stp)) (r : Sp) (q : Stp) (w : World) (hq : SpIn w r q) (hk : Blk w g 44 #[v]) (hop : OP 31 75 lo w v ps) (hg : g < lo) (hlo : lo ≤ w.heap.size) (hn : ps.length ≤ 1048576) :
    Calls Tryd.prog 46 #[.agg r.cells, .pointer (some ⟨g, 0, none⟩)] w fun e w' => e = .returned (.tuple #[]) ∧ ∃ v' r', Blk w' g 44 #[v'] ∧ OP 31 75 lo w' v' (ps ++ [(r', q)]) ∧ Below g w w' := by
  obtain ⟨i0, hi, hz0, hz1, hz2⟩ := info_parts info_step
  have HI := Lib.hid hi
  have hb0 : Below w.heap.size w (w.alloc (.cells r.cells 31)).drew := ((Below.refl _ _).alloc (Nat.le_refl _) _).drew
  have BD := Lib.hid hb0
  have KD : Hid (Blk (w.alloc (.cells r.cells 31)).drew w.heap.size 31 r.cells) := Lib.hid (Blk.new w _ _).drew
  have GD := Lib.hid (hk.below hb0 hk.lt)
  have OD := Lib.hid (hop.keep hb0)
  have HC := Lib.hid (fun (W : World) (hW : Below w.heap.size w W) => copy_any r q W (hq.keep hW))
  obtain ⟨A, c, rfl, _, _⟩ := hop.form
  have k0 : w.cell? ⟨g, 0, none⟩ = some (.slice A ps.length c) := hk.cell 0
  have f0 : w.frozen? ⟨g, 0, none⟩ = false := hk.frozen 0
  have hgw := hk.lt
  clear hq hi hb0 hk hop
  obtain ⟨Ai, ni, ci, caret, pend, mode, conv, Ab, nb, cb, Af, nf, cf, At, nt, ct, focus, prev, commit⟩ := r
  unfold Sp.cells at BD KD GD OD HC
  unfold Sp.cells
  simp only at BD KD GD OD HC
  generalize hps : ps.length = j at *
  go_enter Tryd.func46, Tryd.ntmps46
  go_wp2_with fail
  go_region_law (first
    | (refine step_append_any _ (by rfl) (.tmp 3) (.tmp 6) _ (by rfl) lo 31 i0 _ 11 176 Tryd.underlying44 HI.out hz0 hz1 hz2 step_cells (by decide) _ j (sc ps) (by rfl) (by exact OR.out) _ (some ⟨wa.heap.size, 0, none⟩) 1 1 (sc [((⟨Bi, mi, di, xa, xp, xm, xv, Bb, mb, db, Bf, mf, df, Bt, mt, dt, xf, xq, xc⟩ : Sp), q)]) (by rfl) (Reads.litP _ _ _ _ 11 1 _ _ rfl (by simp [sc, Sp.cells]) (by simp [sc, Sp.cells])) (sc_one _) (by unfold maxLen; omega) (by omega) (by simp; omega) ?_; intro v4 w4 hown4 hg4 hat4; obtain ⟨A4, c4, rfl, _⟩ := own_form hown4; have G4 := Lib.hid (GR.out.grown hg4 (own_ne OR.out hg)); have O4 := Lib.hid hown4; have HG4 := Lib.hid hg4; have k4 : w4.cell? ⟨g, 0, none⟩ = some (.slice A j c) := G4.out.cell 0; have f4 : w4.frozen? ⟨g, 0, none⟩ = false := G4.out.frozen 0; clear hown4 hg4 hat4)
    | (go_simp; go_at_call 33; (with_reducible refine (HC.out _ BD.out).mono ?_); rintro e wa ⟨⟨Bi, mi, di, xa, xp, xm, xv, Bb, mb, db, Bf, mf, df, Bt, mt, dt, xf, xq, xc⟩, rfl, hsa, hba⟩; have SA := Lib.hid hsa; have GA := Lib.hid (GD.out.below hba GD.out.lt); have OA := Lib.hid (OD.out.keep hba); have BA := Lib.hid (BD.out.trans (hba.mono BD.out.size)); have GR := Lib.hid (GA.out.alloc (.cells #[.slice Bi mi di, .int .i64 xa, .string xp, .int .i64 xm, .bool xv, .slice Bb mb db, .slice Bf mf df, .slice Bt mt dt, .int .i64 xf, .string xq, .string xc] 31)); have OR := Lib.hid (own_keep (hps ▸ OA.out.row) ((Below.refl _ wa).alloc (Nat.le_refl _) (.cells #[.slice Bi mi di, .int .i64 xa, .string xp, .int .i64 xm, .bool xv, .slice Bb mb db, .slice Bf mf df, .slice Bt mt dt, .int .i64 xf, .string xq, .string xc] 31))); have ka : wa.cell? ⟨g, 0, none⟩ = some (.slice A j c) := GA.out.cell 0; have hga : g < wa.heap.size := GA.out.lt; have hla : w.heap.size ≤ wa.heap.size := BA.out.size; clear hsa hba))
  all_goals
    have BB := Lib.hid ((Below.refl wa.heap.size wa).alloc (Nat.le_refl _) (.cells #[.slice Bi mi di, .int .i64 xa, .string xp, .int .i64 xm, .bool xv, .slice Bb mb db, .slice Bf mf df, .slice Bt mt dt, .int .i64 xf, .string xq, .string xc] 31))
    have OPA := Lib.hid (OA.out.keep BB.out)
    have SPA := Lib.hid ((SA.out.keep BB.out).lower (lo' := lo) (by have := BD.out.size; omega))
    go_end0
    refine ⟨rfl, _, ⟨Bi, mi, di, xa, xp, xm, xv, Bb, mb, db, Bf, mf, df, Bt, mt, dt, xf, xq, xc⟩, G4.out.set_ 0 _, OP.setl (OPA.out.snoc (p := (⟨Bi, mi, di, xa, xp, xm, xv, Bb, mb, db, Bf, mf, df, Bt, mt, dt, xf, xq, xc⟩, q)) SPA.out (by have := O4.out; rw [hps]; simpa [sc, Sp.cells] using this) HG4.out (by decide) (by decide) (by decide) (by decide)) hg 0 _, ?_⟩
    exact (own_below ((BA.out.mono (Nat.le_of_lt hgw)).trans (BB.out.mono (Nat.le_of_lt hga))) (Nat.le_of_lt hgw) OR.out (Nat.le_of_lt hg) HG4.out).setCell (p := ⟨g, 0, none⟩) (Nat.le_refl _) _
end Go.Proofs.YtebjfigjfhghcaaDoor.Und
