/-
  The contract of Told of package henkanlaw42: a copy of a reply. The contracts of SameView and SameReply of package henkanref42, of two replies that are the same. Conditions: the reply can be read, within the form's reach. (Printed by gen/reptold.py.) both can be read. (Printed by gen/repsame.py.)
-/
import Derived.Test.YtkllfnaofapfnaaDoorRepWords
import Derived.Test.YtkllfnaofapfnaaDoorReqAsked
import Derived.Deep.RegionHeld3
import Derived.Laws.Tables
import Derived.Test.YtkllfnaofapfnaaDoorRepIn
namespace Go.Proofs.YtkllfnaofapfnaaDoor.Prot
open Go.RowKit Wd Utf Cod

/-- the memory of Told: the reply, the result, the view -/
structure TE (w : World) (rep res view : Array Value) (wx : World) : Prop where
  rep : Blk wx w.heap.size 34 rep
  res : Blk wx (w.heap.size + 1) 48 res
  view : Blk wx (w.heap.size + 1 + 1) 32 view
  bel : Below w.heap.size w wx
  big : w.heap.size + 1 + 1 < wx.heap.size
theorem TE.start (w : World) (rep res view : Array Value) : TE w rep res view (((w.alloc (.cells rep 34)).alloc (.cells res 48)).alloc (.cells view 32)) := by
  have h1 : (w.alloc (.cells rep 34)).heap.size = w.heap.size + 1 := by simp
  have h2 : ((w.alloc (.cells rep 34)).alloc (.cells res 48)).heap.size = w.heap.size + 1 + 1 := by simp
  refine ⟨((Blk.new w _ _).alloc _).alloc _, ?_, ?_, (((Below.refl _ _).alloc (Nat.le_refl _) _).alloc (by simp) _).alloc (by simp; omega) _, by simp⟩
  · have := Blk.new (w.alloc (.cells rep 34)) 48 res
    rw [h1] at this
    exact this.alloc _
  · have := Blk.new ((w.alloc (.cells rep 34)).alloc (.cells res 48)) 32 view
    rwa [h2] at this
section
variable {w wx wy : World} {rep res view view' : Array Value}
theorem TE.grow (h : TE w rep res view wx) {row : Option Nat} (hg : wx.grownBy wy row) (hr : ∀ k, row = some k → w.heap.size + 1 + 1 < k) : TE w rep res view wy := by
  refine ⟨h.rep.grown hg ?_, h.res.grown hg ?_, h.view.grown hg ?_, h.bel.grown hg h.bel.size (fun k hk => by have := hr k hk; omega), Nat.lt_of_lt_of_le h.big hg.size⟩
  all_goals
    intro e
    have := hr _ e.symm
    omega
theorem TE.alloc (h : TE w rep res view wx) (o : Obj) : TE w rep res view (wx.alloc o) := ⟨h.rep.alloc o, h.res.alloc o, h.view.alloc o, h.bel.alloc h.bel.size o, by have := h.big; simp; omega⟩
theorem TE.drew (h : TE w rep res view wx) : TE w rep res view wx.drew := ⟨h.rep, h.res, h.view, h.bel.drew, h.big⟩
theorem TE.set_ (h : TE w rep res view wx) (i : Nat) (u : Value) (hv : view' = view.setIfInBounds i u) : TE w rep res view' (wx.setCell ⟨w.heap.size + 1 + 1, i, none⟩ u) := by
  subst hv
  exact ⟨h.rep.far (by simp; omega) u, h.res.far (by simp) u, h.view.set_ i u, h.bel.setCell (p := ⟨w.heap.size + 1 + 1, i, none⟩) (by simp; omega) u, by have := h.big; simp; omega⟩
end
theorem cells_any {w w' : World} {g : Nat} {t : TypeId} {cs : Array Value} (h : Blk w g t cs) (h' : Blk w' g t cs) : ∀ j, w'.cell? ⟨g, j, none⟩ = w.cell? ⟨g, j, none⟩ := fun j => (h'.cell j).trans (h.cell j).symm
set_option maxRecDepth 100000 in
set_option maxHeartbeats 8000000 in
theorem told_any (r : Rep) (q : Rp) (w : World) (hq : RpIn w r q) :
    Calls Tryd.prog 22 #[.agg r.cells] w fun e w' => Below w.heap.size w w' ∧ ∃ r' : Rep, e = .returned (.agg r'.cells) ∧ RpIn w' r' q := by
  obtain ⟨i0, hi, hz0, hz1, hz2⟩ := info_parts infoRun
  obtain ⟨i1, hi1, hy0, hy1, hy2⟩ := info_parts infoStr
  obtain ⟨i2, hi2, hx0, hx1, hx2⟩ := info_parts Tryd.infoU8
  have HI := Lib.hid hi
  have HI1 := Lib.hid hi1
  have HI2 := Lib.hid hi2
  have hnp := hq.np
  have hnc := hq.nc
  have hnd := hq.nd
  have HQ := Lib.hid hq
  clear hi hi1 hi2 hq
  obtain ⟨err, ses, Ap, np, cp, caret, Ac, nc, cc, chosen, commit, erase, taken, Ad, nd, cd⟩ := r
  simp only at hnp hnc hnd
  have T0 := Lib.hid (TE.start w (Rep.cells ⟨err, ses, Ap, np, cp, caret, Ac, nc, cc, chosen, commit, erase, taken, Ad, nd, cd⟩) #[.int .i64 0, .int .i64 0, .slice none 0 0, .int .i64 0, .slice none 0 0, .int .i64 0, .string ⟨#[]⟩, .int .i64 0, .bool false, .slice none 0 0] #[.slice Ap np cp, .int .i64 caret, .slice Ac nc cc, .int .i64 chosen, .string commit, .int .i64 erase, .bool taken])
  unfold Rep.cells at T0 ⊢
  simp only at T0
  go_enter Tryd.func22, Tryd.ntmps22
  go_upto_region 2 with fail
  generalize (((w.alloc (.cells #[.int .i64 err, .int .i64 ses, .slice Ap np cp, .int .i64 caret, .slice Ac nc cc, .int .i64 chosen, .string commit, .int .i64 erase, .bool taken, .slice Ad nd cd] 34)).alloc (.cells #[.int .i64 0, .int .i64 0, .slice none 0 0, .int .i64 0, .slice none 0 0, .int .i64 0, .string ⟨#[]⟩, .int .i64 0, .bool false, .slice none 0 0] 48)).alloc (.cells #[.slice Ap np cp, .int .i64 caret, .slice Ac nc cc, .int .i64 chosen, .string commit, .int .i64 erase, .bool taken] 32)) = W0 at *
  have v0 : W0.cell? ⟨w.heap.size + 1 + 1, 0, none⟩ = some (.slice Ap np cp) := T0.out.view.cell 0
  have fv0 := T0.out.view.frozen 0
  have hb0 := T0.out.big
  go_upto_region 3 with (at_builtin; refine wpList_append_any _ rfl (.tmp 6) (.tmp 8) _ rfl W0.heap.size 69 i0 _ 2 24 Tryd.underlying29 HI.out hz0 hz1 hz2 rfl (by decide) _ 0 [] rfl (own_emptyS _ _) _ Ap np cp (rc q.pre) rfl (by exact Reads.below HQ.out.pre (T0.out.bel.alloc T0.out.bel.size _)) (rc_one _) (by unfold maxLen; omega) (by omega) (by simp) ?_; intro v3 w3 ho hg ha; have O3 : Hid (w3.ownsRow W0.heap.size 69 2 v3 np (rc q.pre)) := Lib.hid (by simpa using ho); have T3 := Lib.hid ((T0.out.alloc _).grow hg (fun k hk => by have := ((own_emptyS W0 69).lt k hk).1; omega)); have hs3 : W0.heap.size ≤ w3.heap.size := (by have := hg.size; simp at this; omega); (obtain ⟨A3, c3, rfl, _⟩ := own_sliceS O3.out); have v0' : w3.cell? ⟨w.heap.size + 1 + 1, 0, none⟩ = some (.slice Ap np cp) := T3.out.view.cell 0; have fv0' := T3.out.view.frozen 0; clear ho hg ha)
  have T4 := Lib.hid (T3.out.set_ 0 (.slice A3 np c3) rfl)
  have O4 := Lib.hid (own_upd O3.out ((Upd.refl (w.heap.size + 1 + 1) w3).set_ 0 (.slice A3 np c3)) hb0)
  clear T0 T3 O3 v0 fv0 v0' fv0'
  simp only [List.setIfInBounds_toArray, List.set_cons_zero] at T4
  generalize hW1 : (w3.setCell ⟨w.heap.size + 1 + 1, 0, none⟩ (.slice A3 np c3)) = W1 at *
  have hs4 : W0.heap.size ≤ W1.heap.size := by rw [← hW1]; simpa using hs3
  clear hW1 hs3
  have v2 : W1.cell? ⟨w.heap.size + 1 + 1, 2, none⟩ = some (.slice Ac nc cc) := T4.out.view.cell 2
  have fv2 := T4.out.view.frozen 2
  have hb1 := T4.out.big
  go_upto_region 4 with (at_builtin; refine wpList_append_any _ rfl (.tmp 11) (.tmp 13) _ rfl W1.heap.size 9 i1 _ 1 16 Tryd.underlying30 HI1.out hy0 hy1 hy2 rfl (by decide) _ 0 [] rfl (own_empty _ _) _ Ac nc cc (vs q.cands) rfl (by exact Reads.below HQ.out.cands (T4.out.bel.alloc T4.out.bel.size _)) (vs_one _) (by unfold maxLen; omega) (by omega) (by simp) ?_; intro v5 w5 ho hg ha; have O5 : Hid (w5.ownsRow W1.heap.size 9 1 v5 nc (vs q.cands)) := Lib.hid (by simpa using ho); have T5 := Lib.hid ((T4.out.alloc _).grow hg (fun k hk => by have := ((own_empty W1 9).lt k hk).1; omega)); have OR5 := Lib.hid (World.ownsRow.kept (O4.out.alloc _) hg (own_apart (own_empty W1 9) (O4.out.alloc _) (by decide))); have hs5 : W1.heap.size ≤ w5.heap.size := (by have := hg.size; simp at this; omega); (obtain ⟨A5, c5, rfl, _⟩ := own_sliceS O5.out); have v2' : w5.cell? ⟨w.heap.size + 1 + 1, 2, none⟩ = some (.slice Ac nc cc) := T5.out.view.cell 2; have fv2' := T5.out.view.frozen 2; clear ho hg ha)
  have T6 := Lib.hid (T5.out.set_ 2 (.slice A5 nc c5) rfl)
  have O6 := Lib.hid (own_upd O5.out ((Upd.refl (w.heap.size + 1 + 1) w5).set_ 2 (.slice A5 nc c5)) (by omega))
  have OR6 := Lib.hid (own_upd OR5.out ((Upd.refl (w.heap.size + 1 + 1) w5).set_ 2 (.slice A5 nc c5)) hb0)
  clear T4 T5 O4 O5 OR5 v2 fv2 v2' fv2'
  generalize hW2 : (w5.setCell ⟨w.heap.size + 1 + 1, 2, none⟩ (.slice A5 nc c5)) = W2 at *
  have hs6 : W1.heap.size ≤ W2.heap.size := by rw [← hW2]; simpa using hs5
  clear hW2 hs5
  have k0 : W2.cell? ⟨w.heap.size, 0, none⟩ = some (.int .i64 err) := T6.out.rep.cell 0
  have k1 : W2.cell? ⟨w.heap.size, 1, none⟩ = some (.int .i64 ses) := T6.out.rep.cell 1
  have k9 : W2.cell? ⟨w.heap.size, 9, none⟩ = some (.slice Ad nd cd) := T6.out.rep.cell 9
  have v0 : W2.cell? ⟨w.heap.size + 1 + 1, 0, none⟩ = some (.slice A3 np c3) := T6.out.view.cell 0
  have v1 : W2.cell? ⟨w.heap.size + 1 + 1, 1, none⟩ = some (.int .i64 caret) := T6.out.view.cell 1
  have v2 : W2.cell? ⟨w.heap.size + 1 + 1, 2, none⟩ = some (.slice A5 nc c5) := T6.out.view.cell 2
  have v3 : W2.cell? ⟨w.heap.size + 1 + 1, 3, none⟩ = some (.int .i64 chosen) := T6.out.view.cell 3
  have v4 : W2.cell? ⟨w.heap.size + 1 + 1, 4, none⟩ = some (.string commit) := T6.out.view.cell 4
  have v5 : W2.cell? ⟨w.heap.size + 1 + 1, 5, none⟩ = some (.int .i64 erase) := T6.out.view.cell 5
  have v6 : W2.cell? ⟨w.heap.size + 1 + 1, 6, none⟩ = some (.bool taken) := T6.out.view.cell 6
  have hbd : ∀ (X : Option Addr) (d : Nat) (W : World), (Instr.build 48 #[(0, .int .i64 err), (1, .int .i64 ses), (2, .agg #[.slice A3 np c3, .int .i64 caret, .slice A5 nc c5, .int .i64 chosen, .string commit, .int .i64 erase, .bool taken]), (3, .slice X nd d)]).run Tryd.prog W = .ok (.agg #[.int .i64 err, .int .i64 ses, .slice A3 np c3, .int .i64 caret, .slice A5 nc c5, .int .i64 chosen, .string commit, .int .i64 erase, .bool taken, .slice X nd d]) W := fun _ _ W => run_build W _ _ _ (by kernel_rfl)
  have D0 : Hid ((∀ j, W2.drew.cell? ⟨w.heap.size, j, none⟩ = W2.cell? ⟨w.heap.size, j, none⟩) ∧ (∀ j, W2.drew.cell? ⟨w.heap.size + 1 + 1, j, none⟩ = W2.cell? ⟨w.heap.size + 1 + 1, j, none⟩)) := Lib.hid ⟨fun _ => rfl, fun _ => rfl⟩
  have D1 : Hid (∀ o, (∀ j, (W2.alloc o).drew.cell? ⟨w.heap.size, j, none⟩ = W2.cell? ⟨w.heap.size, j, none⟩) ∧ (∀ j, (W2.alloc o).drew.cell? ⟨w.heap.size + 1 + 1, j, none⟩ = W2.cell? ⟨w.heap.size + 1 + 1, j, none⟩)) := Lib.hid (fun o => ⟨cells_any T6.out.rep (T6.out.alloc o).drew.rep, cells_any T6.out.view (T6.out.alloc o).drew.view⟩)
  have hne1 : w.heap.size ≠ w.heap.size + 1 := by omega
  have hne2 : w.heap.size + 1 + 1 ≠ w.heap.size + 1 := by omega
  go_region_held3 (fun w' => (∀ j, w'.cell? ⟨w.heap.size, j, none⟩ = W2.cell? ⟨w.heap.size, j, none⟩) ∧ (∀ j, w'.cell? ⟨w.heap.size + 1 + 1, j, none⟩ = W2.cell? ⟨w.heap.size + 1 + 1, j, none⟩)) (first | with_reducible exact D0.out | with_reducible exact hcc7.out | with_reducible exact D1.out _ | (with_reducible refine ⟨?_, ?_⟩; (· ((repeat (with_reducible refine cells_set ?_ hne1 _ _)); (with_reducible exact hcc7.out.1))); (· ((repeat (with_reducible refine cells_set ?_ hne2 _ _)); (with_reducible exact hcc7.out.2)))))
    ((refine step_append_any _ (by rfl) (.tmp 21) (.tmp 23) _ (by rfl) W2.heap.size 5 i2 _ 1 1 Tryd.underlying25 HI2.out hx0 hx1 hx2 rfl (by decide) _ 0 [] (by rfl) (own_empty W2 5).drew _ Ad nd cd (bs q.data) (by rfl) (Reads.below HQ.out.data.rb ((T6.out.bel.alloc T6.out.bel.size _).drew)) (bs_one _) (by unfold maxLen; omega) (by omega) (by simp) ?_; intro v7 w7 ho hg ha; have O7 : Hid (w7.ownsRow W2.heap.size 5 1 v7 nd (bs q.data)) := Lib.hid (by simpa using ho); have T7 := Lib.hid ((T6.out.alloc _).drew.grow (by exact hg) (fun k hk => by have := ((own_empty W2 5).lt k hk).1; omega)); have OC7 := Lib.hid (World.ownsRow.kept (O6.out.alloc _).drew (by exact hg) (own_apart (own_empty W2 5).drew (O6.out.alloc _).drew (by decide))); have OR7 := Lib.hid (World.ownsRow.kept (OR6.out.alloc _).drew (by exact hg) (own_apart (own_empty W2 5).drew (OR6.out.alloc _).drew (by decide))); (obtain ⟨A9, c9, rfl, _⟩ := own_sliceS O7.out); have hcc7 := Lib.hid (show (∀ j, w7.cell? ⟨w.heap.size, j, none⟩ = W2.cell? ⟨w.heap.size, j, none⟩) ∧ (∀ j, w7.cell? ⟨w.heap.size + 1 + 1, j, none⟩ = W2.cell? ⟨w.heap.size + 1 + 1, j, none⟩) from ⟨cells_any T6.out.rep T7.out.rep, cells_any T6.out.view T7.out.view⟩); have r0 : w7.cell? ⟨w.heap.size + 1, 0, none⟩ = some (.int .i64 0) := T7.out.res.cell 0; have fr0 := T7.out.res.frozen 0; have r1 : w7.cell? ⟨w.heap.size + 1, 1, none⟩ = some (.int .i64 0) := T7.out.res.cell 1; have fr1 := T7.out.res.frozen 1; have r2 : w7.cell? ⟨w.heap.size + 1, 2, none⟩ = some (.slice none 0 0) := T7.out.res.cell 2; have fr2 := T7.out.res.frozen 2; have r3 : w7.cell? ⟨w.heap.size + 1, 3, none⟩ = some (.int .i64 0) := T7.out.res.cell 3; have fr3 := T7.out.res.frozen 3; have r4 : w7.cell? ⟨w.heap.size + 1, 4, none⟩ = some (.slice none 0 0) := T7.out.res.cell 4; have fr4 := T7.out.res.frozen 4; have r5 : w7.cell? ⟨w.heap.size + 1, 5, none⟩ = some (.int .i64 0) := T7.out.res.cell 5; have fr5 := T7.out.res.frozen 5; have r6 : w7.cell? ⟨w.heap.size + 1, 6, none⟩ = some (.string ⟨#[]⟩) := T7.out.res.cell 6; have fr6 := T7.out.res.frozen 6; have r7 : w7.cell? ⟨w.heap.size + 1, 7, none⟩ = some (.int .i64 0) := T7.out.res.cell 7; have fr7 := T7.out.res.frozen 7; have r8 : w7.cell? ⟨w.heap.size + 1, 8, none⟩ = some (.bool false) := T7.out.res.cell 8; have fr8 := T7.out.res.frozen 8; have r9 : w7.cell? ⟨w.heap.size + 1, 9, none⟩ = some (.slice none 0 0) := T7.out.res.cell 9; have fr9 := T7.out.res.frozen 9; have hs7 : W2.heap.size ≤ w7.heap.size := (by have := hg.size; simp at this; omega); clear ho hg ha))
  all_goals
    have U := Lib.hid (((((((((((Upd.refl (w.heap.size + 1) w7).set_ 0 (.int .i64 err)).set_ 1 (.int .i64 ses)).set_ 2 (.slice A3 np c3)).set_ 3 (.int .i64 caret)).set_ 4 (.slice A5 nc c5)).set_ 5 (.int .i64 chosen)).set_ 6 (.string commit)).set_ 7 (.int .i64 erase)).set_ 8 (.bool taken)).set_ 9 (.slice A9 nd c9))
    have OR8 := Lib.hid (own_upd OR7.out U.out (by omega))
    have OC8 := Lib.hid (own_upd OC7.out U.out (by omega))
    have O8 := Lib.hid (own_upd O7.out U.out (by omega))
    have B8 := Lib.hid (T7.out.bel.trans (U.out.below (B := w.heap.size) T7.out.bel.size (Nat.le_succ _)))
    clear D0 D1 hcc7 hbd T6 T7 O6 OR6 O7 OC7 OR7 U k0 k1 k9 v0 v1 v2 v3 v4 v5 v6
    go_wp2_with fail
    exact bodyPost_ret (v := .agg #[.int .i64 err, .int .i64 ses, .slice A3 np c3, .int .i64 caret, .slice A5 nc c5, .int .i64 chosen, .string commit, .int .i64 erase, .bool taken, .slice A9 nd c9]) (by simp [results, Tryd.results22, go_sem, *]) rfl ⟨B8.out, ⟨err, ses, A3, np, c3, caret, A5, nc, c5, chosen, commit, erase, taken, A9, nd, c9⟩, rfl, ⟨HQ.out.err, HQ.out.ses, HQ.out.caret, HQ.out.chosen, HQ.out.commit, HQ.out.erase, HQ.out.taken, RR.of_own OR8.out, RS.of_own OC8.out, own_sbP O8.out, hnp, hnc, hnd, HQ.out.szp, HQ.out.szc, HQ.out.szm⟩⟩
end Go.Proofs.YtkllfnaofapfnaaDoor.Prot
namespace Go.Proofs.YtkllfnaofapfnaaDoor.Prot
open Go.RowKit Wd Utf Cod

/-- the memory of SameView -/
structure VE (w : World) (a b : Array Value) (wx : World) : Prop where
  a : Blk wx w.heap.size 32 a
  b : Blk wx (w.heap.size + 1) 32 b
  bel : Below w.heap.size w wx
theorem VE.drew {w wx : World} {a b : Array Value} (h : VE w a b wx) : VE w a b wx.drew := ⟨h.a.drew, h.b.drew, h.bel.drew⟩
theorem VE.start (w : World) (a b : Array Value) : VE w a b ((w.alloc (.cells a 32)).alloc (.cells b 32)) := by
  refine ⟨(Blk.new w _ _).alloc _, ?_, ((Below.refl _ _).alloc (Nat.le_refl _) _).alloc (by simp) _⟩
  have := Blk.new (w.alloc (.cells a 32)) 32 b
  rwa [show (w.alloc (.cells a 32)).heap.size = w.heap.size + 1 by simp] at this
set_option maxRecDepth 100000 in
set_option maxHeartbeats 8000000 in
theorem sameV_walk (Ap Bp Ac Bc : Option Addr) (np cp dp nc cc dc : Nat) (caret chosen erase : Int) (commit : ByteArray) (taken : Bool) (pre : List (ByteArray × Int)) (cands : List ByteArray) (w : World)
    (h0 : RR w Ap np pre) (g0 : RR w Bp np pre) (h2 : RS w Ac nc cands) (g2 : RS w Bc nc cands) (hn : np ≤ 100000) (hc : nc ≤ 100000) :
    Calls Tryd.prog 44 #[.agg #[.slice Ap np cp, .int .i64 caret, .slice Ac nc cc, .int .i64 chosen, .string commit, .int .i64 erase, .bool taken], .agg #[.slice Bp np dp, .int .i64 caret, .slice Bc nc dc, .int .i64 chosen, .string commit, .int .i64 erase, .bool taken]] w fun e w' => e = .returned (.bool true) ∧ Below w.heap.size w w' := by
  have S0 := Lib.hid (VE.start w #[.slice Ap np cp, .int .i64 caret, .slice Ac nc cc, .int .i64 chosen, .string commit, .int .i64 erase, .bool taken] #[.slice Bp np dp, .int .i64 caret, .slice Bc nc dc, .int .i64 chosen, .string commit, .int .i64 erase, .bool taken])
  have H0 := Lib.hid h0
  have G0 := Lib.hid g0
  have H2 := Lib.hid h2
  have G2 := Lib.hid g2
  clear h0 g0 h2 g2
  go_enter Tryd.func44, Tryd.ntmps44
  go_wp2_with fail
  go_loopw [5] (fun i wr => ∃ k : Nat, k ≤ np ∧ i = .int .i64 (k : Int) ∧ VE w #[.slice Ap np cp, .int .i64 caret, .slice Ac nc cc, .int .i64 chosen, .string commit, .int .i64 erase, .bool taken] #[.slice Bp np dp, .int .i64 caret, .slice Bc nc dc, .int .i64 chosen, .string commit, .int .i64 erase, .bool taken] wr) (fun i _ => np - (intOf i).toNat)
  case atStart => exact ⟨0, Nat.zero_le _, rfl, S0.out⟩
  case round =>
    obtain ⟨k, hk, rfl, hse⟩ := hrel
    have S := Lib.hid hse
    clear hse
    by_cases hlt : k < np
    · obtain ⟨a1, ⟨t, z⟩, rfl, hp1, _, c1, c2⟩ := (H0.out.keep S.out.bel).at_ hlt
      obtain ⟨a2, x2, rfl, hp2, _, c3, c4⟩ := (G0.out.keep S.out.bel).at_ hlt
      rw [hp1] at hp2
      injection hp2 with hp2
      subst hp2
      simp only at c1 c2 c3 c4
      have p7 : wr.cell? ⟨w.heap.size, 0, none⟩ = some (.slice (some a1) np cp) := S.out.a.cell 0
      have q7 : wr.cell? ⟨w.heap.size + 1, 0, none⟩ = some (.slice (some a2) np dp) := S.out.b.cell 0
      have KD := Lib.hid (show wr.drew.cell? ⟨w.heap.size, 0, none⟩ = some (.slice (some a1) np cp) ∧ wr.drew.cell? ⟨w.heap.size + 1, 0, none⟩ = some (.slice (some a2) np dp) ∧ wr.drew.cell? (a1.add (k * 2)) = some (.string t) ∧ wr.drew.cell? ⟨(a1.add (k * 2)).block, (a1.add (k * 2)).off + 1, none⟩ = some (.int .i64 z) ∧ wr.drew.cell? (a2.add (k * 2)) = some (.string t) ∧ wr.drew.cell? ⟨(a2.add (k * 2)).block, (a2.add (k * 2)).off + 1, none⟩ = some (.int .i64 z) from ⟨p7, q7, c1, c2, c3, c4⟩)
      clear hp1 c1 c2 c3 c4 q7
      go_wp2_with fail
      go_region_held3 (fun w' => w'.cell? ⟨w.heap.size, 0, none⟩ = some (.slice (some a1) np cp) ∧ w'.cell? ⟨w.heap.size + 1, 0, none⟩ = some (.slice (some a2) np dp) ∧ w'.cell? (a1.add (k * 2)) = some (.string t) ∧ w'.cell? ⟨(a1.add (k * 2)).block, (a1.add (k * 2)).off + 1, none⟩ = some (.int .i64 z) ∧ w'.cell? (a2.add (k * 2)) = some (.string t) ∧ w'.cell? ⟨(a2.add (k * 2)).block, (a2.add (k * 2)).off + 1, none⟩ = some (.int .i64 z)) (first | exact KD.out | go_keep) (fail)
      go_wp2_with fail
      go_roundw
      case rel => exact ⟨k + 1, by omega, by go_num, (by exact S.out.drew)⟩
      case measure => simp [intOf]; omega
    · have hkn : k = np := by omega
      subst k
      have p0 : wr.cell? ⟨w.heap.size, 0, none⟩ = some (.slice Ap np cp) := S.out.a.cell 0
      clear S0
      go_wp2_with fail
      go_loopw [6] (fun i wr => ∃ k : Nat, k ≤ nc ∧ i = .int .i64 (k : Int) ∧ VE w #[.slice Ap np cp, .int .i64 caret, .slice Ac nc cc, .int .i64 chosen, .string commit, .int .i64 erase, .bool taken] #[.slice Bp np dp, .int .i64 caret, .slice Bc nc dc, .int .i64 chosen, .string commit, .int .i64 erase, .bool taken] wr) (fun i _ => nc - (intOf i).toNat)
      case atStart => exact ⟨0, Nat.zero_le _, rfl, S.out⟩
      case round =>
        obtain ⟨k, hk, rfl, hse⟩ := hrel
        clear S p0
        rename World => wq
        have S := Lib.hid hse
        clear hse
        by_cases hlt : k < nc
        · obtain ⟨a1, rfl, _, c1⟩ := (H2.out.keep S.out.bel).at_ hlt
          obtain ⟨a2, rfl, _, c3⟩ := (G2.out.keep S.out.bel).at_ hlt
          generalize cands.getD k ByteArray.empty = t at c1 c3
          have p7 : wq.cell? ⟨w.heap.size, 2, none⟩ = some (.slice (some a1) nc cc) := S.out.a.cell 2
          have q7 : wq.cell? ⟨w.heap.size + 1, 2, none⟩ = some (.slice (some a2) nc dc) := S.out.b.cell 2
          have KD := Lib.hid (show wq.drew.cell? ⟨w.heap.size, 2, none⟩ = some (.slice (some a1) nc cc) ∧ wq.drew.cell? ⟨w.heap.size + 1, 2, none⟩ = some (.slice (some a2) nc dc) ∧ wq.drew.cell? (a1.add k) = some (.string t) ∧ wq.drew.cell? (a2.add k) = some (.string t) from ⟨p7, q7, c1, c3⟩)
          clear c1 c3 q7
          go_wp2_with fail
          go_region_held3 (fun w' => w'.cell? ⟨w.heap.size, 2, none⟩ = some (.slice (some a1) nc cc) ∧ w'.cell? ⟨w.heap.size + 1, 2, none⟩ = some (.slice (some a2) nc dc) ∧ w'.cell? (a1.add k) = some (.string t) ∧ w'.cell? (a2.add k) = some (.string t)) (first | exact KD.out | go_keep) (fail)
          go_wp2_with fail
          go_roundw
          case rel => exact ⟨k + 1, by omega, by go_num, (by exact S.out.drew)⟩
          case measure => simp [intOf]; omega
        · have hkn : k = nc := by omega
          subst k
          have p2 : wq.cell? ⟨w.heap.size, 2, none⟩ = some (.slice Ac nc cc) := S.out.a.cell 2
          have a1 : wq.cell? ⟨w.heap.size, 1, none⟩ = some (.int .i64 caret) := S.out.a.cell 1
          have b1 : wq.cell? ⟨w.heap.size + 1, 1, none⟩ = some (.int .i64 caret) := S.out.b.cell 1
          have a3 : wq.cell? ⟨w.heap.size, 3, none⟩ = some (.int .i64 chosen) := S.out.a.cell 3
          have b3 : wq.cell? ⟨w.heap.size + 1, 3, none⟩ = some (.int .i64 chosen) := S.out.b.cell 3
          have a4 : wq.cell? ⟨w.heap.size, 4, none⟩ = some (.string commit) := S.out.a.cell 4
          have b4 : wq.cell? ⟨w.heap.size + 1, 4, none⟩ = some (.string commit) := S.out.b.cell 4
          have a5 : wq.cell? ⟨w.heap.size, 5, none⟩ = some (.int .i64 erase) := S.out.a.cell 5
          have b5 : wq.cell? ⟨w.heap.size + 1, 5, none⟩ = some (.int .i64 erase) := S.out.b.cell 5
          have a6 : wq.cell? ⟨w.heap.size, 6, none⟩ = some (.bool taken) := S.out.a.cell 6
          have b6 : wq.cell? ⟨w.heap.size + 1, 6, none⟩ = some (.bool taken) := S.out.b.cell 6
          go_wp2_with fail
          go_ret
          exact ⟨rfl, S.out.bel⟩
set_option maxRecDepth 100000 in
set_option maxHeartbeats 8000000 in
theorem sameP_walk (Ap Bp Ac Bc Ad Bd : Option Addr) (np cp dp nc cc dc nd cd dd : Nat) (err ses caret chosen erase : Int) (commit : ByteArray) (taken : Bool) (pre : List (ByteArray × Int)) (cands : List ByteArray) (data : List UInt8) (w : World)
    (h0 : RR w Ap np pre) (g0 : RR w Bp np pre) (h2 : RS w Ac nc cands) (g2 : RS w Bc nc cands) (h9 : RB w Ad nd data) (g9 : RB w Bd nd data) (hn : np ≤ 100000) (hc : nc ≤ 100000) :
    Calls Tryd.prog 21 #[.agg #[.int .i64 err, .int .i64 ses, .slice Ap np cp, .int .i64 caret, .slice Ac nc cc, .int .i64 chosen, .string commit, .int .i64 erase, .bool taken, .slice Ad nd cd], .agg #[.int .i64 err, .int .i64 ses, .slice Bp np dp, .int .i64 caret, .slice Bc nc dc, .int .i64 chosen, .string commit, .int .i64 erase, .bool taken, .slice Bd nd dd]] w fun e w' => e = .returned (.bool true) ∧ Below w.heap.size w w' := by
  have hb0 : Below w.heap.size w ((w.alloc (.cells #[.int .i64 err, .int .i64 ses, .slice Ap np cp, .int .i64 caret, .slice Ac nc cc, .int .i64 chosen, .string commit, .int .i64 erase, .bool taken, .slice Ad nd cd] 48)).alloc (.cells #[.int .i64 err, .int .i64 ses, .slice Bp np dp, .int .i64 caret, .slice Bc nc dc, .int .i64 chosen, .string commit, .int .i64 erase, .bool taken, .slice Bd nd dd] 48)) := ((Below.refl _ _).alloc (Nat.le_refl _) _).alloc (by simp) _
  have K1 : Hid (Blk ((w.alloc (.cells #[.int .i64 err, .int .i64 ses, .slice Ap np cp, .int .i64 caret, .slice Ac nc cc, .int .i64 chosen, .string commit, .int .i64 erase, .bool taken, .slice Ad nd cd] 48)).alloc (.cells #[.int .i64 err, .int .i64 ses, .slice Bp np dp, .int .i64 caret, .slice Bc nc dc, .int .i64 chosen, .string commit, .int .i64 erase, .bool taken, .slice Bd nd dd] 48)) w.heap.size 48 #[.int .i64 err, .int .i64 ses, .slice Ap np cp, .int .i64 caret, .slice Ac nc cc, .int .i64 chosen, .string commit, .int .i64 erase, .bool taken, .slice Ad nd cd]) := Lib.hid ((Blk.new w _ _).alloc _)
  have K2 : Hid (Blk ((w.alloc (.cells #[.int .i64 err, .int .i64 ses, .slice Ap np cp, .int .i64 caret, .slice Ac nc cc, .int .i64 chosen, .string commit, .int .i64 erase, .bool taken, .slice Ad nd cd] 48)).alloc (.cells #[.int .i64 err, .int .i64 ses, .slice Bp np dp, .int .i64 caret, .slice Bc nc dc, .int .i64 chosen, .string commit, .int .i64 erase, .bool taken, .slice Bd nd dd] 48)) (w.heap.size + 1) 48 #[.int .i64 err, .int .i64 ses, .slice Bp np dp, .int .i64 caret, .slice Bc nc dc, .int .i64 chosen, .string commit, .int .i64 erase, .bool taken, .slice Bd nd dd]) := Lib.hid (by
    have := Blk.new (w.alloc (.cells #[.int .i64 err, .int .i64 ses, .slice Ap np cp, .int .i64 caret, .slice Ac nc cc, .int .i64 chosen, .string commit, .int .i64 erase, .bool taken, .slice Ad nd cd] 48)) 48 #[.int .i64 err, .int .i64 ses, .slice Bp np dp, .int .i64 caret, .slice Bc nc dc, .int .i64 chosen, .string commit, .int .i64 erase, .bool taken, .slice Bd nd dd]
    rwa [show (w.alloc (.cells #[.int .i64 err, .int .i64 ses, .slice Ap np cp, .int .i64 caret, .slice Ac nc cc, .int .i64 chosen, .string commit, .int .i64 erase, .bool taken, .slice Ad nd cd] 48)).heap.size = w.heap.size + 1 by simp] at this)
  have HV := Lib.hid (sameV_walk Ap Bp Ac Bc np cp dp nc cc dc caret chosen erase commit taken pre cands _ (h0.keep hb0) (g0.keep hb0) (h2.keep hb0) (g2.keep hb0) hn hc)
  have H9 := Lib.hid h9
  have G9 := Lib.hid g9
  have B0 := Lib.hid hb0
  clear h0 g0 h2 g2 h9 g9 hb0
  go_enter Tryd.func21, Tryd.ntmps21
  go_wp2_with fail
  refine HV.out.mono ?_
  rintro e w1 ⟨rfl, hb1⟩
  have B1 : Hid (Below w.heap.size w w1) := Lib.hid (B0.out.trans (hb1.mono B0.out.size))
  have X1 := Lib.hid (K1.out.below hb1 K1.out.lt)
  have X2 := Lib.hid (K2.out.below hb1 K2.out.lt)
  clear hb1 K1 K2 B0 HV
  have c1 := (RB.keep H9.out B1.out).run_string (P := Tryd.prog) cd 25 5 9 Tryd.underlying25 Tryd.underlying5 Tryd.underlying9
  have c2 := (RB.keep G9.out B1.out).run_string (P := Tryd.prog) dd 25 5 9 Tryd.underlying25 Tryd.underlying5 Tryd.underlying9
  generalize (⟨data.toArray⟩ : ByteArray) = D at c1 c2
  have a9 : w1.cell? ⟨w.heap.size, 9, none⟩ = some (.slice Ad nd cd) := X1.out.cell 9
  have b9 : w1.cell? ⟨w.heap.size + 1, 9, none⟩ = some (.slice Bd nd dd) := X2.out.cell 9
  go_wp2_with fail
  go_ret
  exact ⟨rfl, B1.out⟩
theorem sameRep_any (r1 r2 : Rep) (q : Rp) (w : World) (h1 : RpIn w r1 q) (h2 : RpIn w r2 q) :
    Calls Tryd.prog 21 #[.agg r1.cells, .agg r2.cells] w fun e w' => e = .returned (.bool true) ∧ Below w.heap.size w w' := by
  obtain ⟨err, ses, Ap, np, cp, caret, Ac, nc, cc, chosen, commit, erase, taken, Ad, nd, cd⟩ := r1
  obtain ⟨err', ses', Bp, mp, dp, caret', Bc, mc, dc, chosen', commit', erase', taken', Bd, md, dd⟩ := r2
  obtain rfl := h1.err.symm.trans h2.err
  obtain rfl := h1.ses.symm.trans h2.ses
  obtain rfl := h1.caret.symm.trans h2.caret
  obtain rfl := h1.chosen.symm.trans h2.chosen
  obtain rfl := h1.commit.symm.trans h2.commit
  obtain rfl := h1.erase.symm.trans h2.erase
  obtain rfl := h1.taken.symm.trans h2.taken
  obtain rfl := h1.pre.len.symm.trans h2.pre.len
  obtain rfl := h1.cands.len.symm.trans h2.cands.len
  obtain rfl := h1.data.rb.len.symm.trans h2.data.rb.len
  exact sameP_walk _ _ _ _ _ _ _ _ _ _ _ _ _ _ _ _ _ _ _ _ _ _ q.pre q.cands q.data w h1.pre h2.pre h1.cands h2.cands h1.data.rb h2.data.rb h1.np h1.nc
end Go.Proofs.YtkllfnaofapfnaaDoor.Prot
