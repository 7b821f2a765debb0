/-
  The contract of Push of package henkanref40. Conditions: the steps can be read, their lengths are bounded. (Printed by gen/undref.py.)
-/
import Derived.Test.YtebjfigjfhghcaaDoorUndPlain
import Derived.Test.YtebjfigjfhghcaaDoorUndValR
namespace Go.Proofs.YtebjfigjfhghcaaDoor.Und
open Go.RowKit Wd Utf

theorem info_stepR : (Tryd.prog.info? 39).map (fun i => (i.zero, i.size, i.bytes)) = some (some (.agg #[.slice none 0 0, .int .i64 0, .string ⟨#[]⟩, .int .i64 0, .bool false, .slice none 0 0, .slice none 0 0, .slice none 0 0, .int .i64 0, .string ⟨#[]⟩, .string ⟨#[]⟩]), 11, 176) := by kernel_rfl
theorem Reads.cutX {w : World} {A : Option Addr} {n k : Nat} {ps : List (Sp × Stp)} (h : RP w A n ps) (hk : k ≤ n) : RP w (A.map (·.add (k * 11))) (n - k) (ps.drop k) := by
  refine ⟨⟨by rw [sc_length, List.length_drop, h.len], fun hn => ?_⟩, fun p hp => h.2 p (List.mem_of_mem_drop hp)⟩
  obtain ⟨ad, rfl, hb, hc⟩ := h.1.2 (by omega)
  refine ⟨ad.add (k * 11), rfl, by rw [block_of_add]; exact hb, fun j u hu => ?_⟩
  rw [add_of_add]
  refine hc _ _ ?_
  rw [← sc_drop, List.getElem?_drop] at hu
  exact hu
set_option maxRecDepth 100000 in
set_option maxHeartbeats 8000000 in
theorem pushR_any (A : Option Addr) (n c : Nat) (ps : List (Sp × Stp)) (r : Sp) (q : Stp) (w : World) (hs : RP w A n ps) (hq : SpIn w r q) (hn : n ≤ 40) :
    Calls Tryd.prog 15 #[.slice A n c, .agg r.cells] w fun e w' => ∃ A' m c', e = .returned (.tuple #[.slice A' m c', .bool ((ps.map (·.2) ++ [q]).all okB)]) ∧ (∃ rs, RP w' A' m rs ∧ rs.map (·.2) = pushV (ps.map (·.2) ++ [q])) ∧ Below w.heap.size w w' := by
  obtain ⟨i0, hi, hz0, hz1, hz2⟩ := info_parts info_stepR
  have HI := Lib.hid hi
  have B0 : Hid (Below w.heap.size w (w.alloc (.cells r.cells 39))) := Lib.hid ((Below.refl _ _).alloc (Nat.le_refl _) _)
  have K0 : Hid (Blk (w.alloc (.cells r.cells 39)) w.heap.size 39 r.cells) := Lib.hid (Blk.new w _ _)
  have HS := Lib.hid hs
  have HQ := Lib.hid hq
  have HLN := Lib.hid hs.len
  generalize hL : ps.map (·.2) ++ [q] = L
  have HLL := Lib.hid hL
  clear hs hq hi hL
  obtain ⟨Ai, ni, ci, caret, pend, mode, conv, Ab, nb, cb, Af, nf, cf, At, nt, ct, focus, prev, commit⟩ := r
  unfold Sp.cells at B0 K0
  unfold Sp.cells
  simp only at B0 K0
  go_enter Tryd.func15, Tryd.ntmps15
  go_upto_region 2 with fail
  have hz : (w.alloc (.cells #[.slice Ai ni ci, .int .i64 caret, .string pend, .int .i64 mode, .bool conv, .slice Ab nb cb, .slice Af nf cf, .slice At nt ct, .int .i64 focus, .string prev, .string commit] 39)).heap.size = w.heap.size + 1 := by simp
  generalize (w.alloc (.cells #[.slice Ai ni ci, .int .i64 caret, .string pend, .int .i64 mode, .bool conv, .slice Ab nb cb, .slice Af nf cf, .slice At nt ct, .int .i64 focus, .string prev, .string commit] 39)) = W0 at B0 K0 hz ⊢
  go_upto_region 3 with (at_builtin; refine wpList_append_any _ rfl (.tmp 8) (.tmp 9) _ rfl (w.heap.size + 1) 39 i0 _ 11 176 Tryd.underlying49 HI.out hz0 hz1 hz2 step_cells (by decide) _ 0 [] rfl (World.ownsRow_nil _ _ _ _) _ A n c (sc ps) rfl (by exact (HS.out.keep B0.out).1) (sc_one _) (by unfold maxLen; omega) (by omega) (by omega) ?_; intro v1 w1 ho hg ha; have O1 : Hid (w1.ownsRow (w.heap.size + 1) 39 11 v1 n (sc ps)) := Lib.hid (by simpa using ho); have B1 := Lib.hid (own_below (B := w.heap.size) B0.out (Nat.le_refl _) (World.ownsRow_nil W0 (w.heap.size + 1) 39 11) (Nat.le_succ _) hg); have K1 := Lib.hid (K0.out.grown hg (by intro h; cases h)); obtain ⟨A1, c1, rfl, _⟩ := own_form O1.out; clear ho hg ha)
  have hsz1 : w.heap.size < w1.heap.size := K1.out.lt
  have k0 : w1.cell? ⟨w.heap.size, 0, none⟩ = some (.slice Ai ni ci) := K1.out.cell 0
  have k1 : w1.cell? ⟨w.heap.size, 1, none⟩ = some (.int .i64 caret) := K1.out.cell 1
  have k2 : w1.cell? ⟨w.heap.size, 2, none⟩ = some (.string pend) := K1.out.cell 2
  have k3 : w1.cell? ⟨w.heap.size, 3, none⟩ = some (.int .i64 mode) := K1.out.cell 3
  have k4 : w1.cell? ⟨w.heap.size, 4, none⟩ = some (.bool conv) := K1.out.cell 4
  have k5 : w1.cell? ⟨w.heap.size, 5, none⟩ = some (.slice Ab nb cb) := K1.out.cell 5
  have k6 : w1.cell? ⟨w.heap.size, 6, none⟩ = some (.slice Af nf cf) := K1.out.cell 6
  have k7 : w1.cell? ⟨w.heap.size, 7, none⟩ = some (.slice At nt ct) := K1.out.cell 7
  have k8 : w1.cell? ⟨w.heap.size, 8, none⟩ = some (.int .i64 focus) := K1.out.cell 8
  have k9 : w1.cell? ⟨w.heap.size, 9, none⟩ = some (.string prev) := K1.out.cell 9
  have k10 : w1.cell? ⟨w.heap.size, 10, none⟩ = some (.string commit) := K1.out.cell 10
  have BL := Lib.hid ((Below.refl w1.heap.size w1).alloc (Nat.le_refl _) (.cells #[.slice Ai ni ci, .int .i64 caret, .string pend, .int .i64 mode, .bool conv, .slice Ab nb cb, .slice Af nf cf, .slice At nt ct, .int .i64 focus, .string prev, .string commit] 39))
  have OR := Lib.hid (own_keep O1.out BL.out)
  go_upto_region 4 with (at_builtin; refine wpList_append_any _ rfl (.tmp 11) (.tmp 13) _ rfl (w.heap.size + 1) 39 i0 _ 11 176 Tryd.underlying49 HI.out hz0 hz1 hz2 step_cells (by decide) _ n (sc ps) rfl (by exact OR.out) _ (some ⟨w1.heap.size, 0, none⟩) 1 1 (sc [((⟨Ai, ni, ci, caret, pend, mode, conv, Ab, nb, cb, Af, nf, cf, At, nt, ct, focus, prev, commit⟩ : Sp), q)]) rfl (Reads.litP _ _ _ _ 11 1 _ _ rfl (by simp [sc, Sp.cells]) (by simp [sc, Sp.cells])) (sc_one _) (by unfold maxLen; omega) (by omega) (by simp; omega) ?_; intro v2 w2 ho hg ha; have HG := Lib.hid hg; obtain ⟨A2, c2, rfl, hc2⟩ := own_form ho; have O2 := Lib.hid ho; clear ho hg ha)
  have B2 := Lib.hid (own_below (B := w.heap.size) (B1.out.trans (BL.out.mono B1.out.size)) (Nat.le_refl _) OR.out (by omega) HG.out)
  have RF : Hid (RP w2 A2 (n + 1) (ps ++ [((⟨Ai, ni, ci, caret, pend, mode, conv, Ab, nb, cb, Af, nf, cf, At, nt, ct, focus, prev, commit⟩ : Sp), q)])) := Lib.hid (by
    refine ⟨by rw [sc_append]; exact Reads.of_own O2.out, fun p hp => ?_⟩
    rcases List.mem_append.1 hp with hp | hp
    · exact (HS.out.2 p hp).keep B2.out
    · simp at hp; subst hp; exact HQ.out.keep B2.out)
  have HMF : Hid ((ps ++ [((⟨Ai, ni, ci, caret, pend, mode, conv, Ab, nb, cb, Af, nf, cf, At, nt, ct, focus, prev, commit⟩ : Sp), q)]).map (·.2) = L) := Lib.hid (by rw [List.map_append]; exact HLL.out)
  have hfl : (ps ++ [((⟨Ai, ni, ci, caret, pend, mode, conv, Ab, nb, cb, Af, nf, cf, At, nt, ct, focus, prev, commit⟩ : Sp), q)]).length = n + 1 := by rw [List.length_append, HLN.out]; rfl
  generalize ps ++ [((⟨Ai, ni, ci, caret, pend, mode, conv, Ab, nb, cb, Af, nf, cf, At, nt, ct, focus, prev, commit⟩ : Sp), q)] = full at RF HMF hfl
  clear O2 HG OR BL k0 k1 k2 k3 k4 k5 k6 k7 k8 k9 k10 O1 K1 B1 K0 B0 HI hz0 hz1 hz2 HS HQ HLL hsz1
  go_wp2_with fail
  go_loopw [7] (fun i wr => ∃ k : Nat, k ≤ n + 1 ∧ i = .int .i64 (k : Int) ∧ (L.take k).all okB = true ∧ Below w2.heap.size w2 wr) (fun i _ => n + 1 - (intOf i).toNat)
  case atStart => exact ⟨0, Nat.zero_le _, rfl, rfl, Below.refl _ _⟩
  case round =>
    obtain ⟨k, hk, rfl, hall, hbl⟩ := hrel
    have HA := Lib.hid hall
    have B := Lib.hid hbl
    clear hall hbl
    by_cases hlt : k < n + 1
    · obtain ⟨ad, p, rfl, hp, hbk, hin, c0, c1', c2', c3, c4', c5, c6, c7, c8, c9, c10⟩ := (RF.out.keep B.out).at_ hlt
      have HLK : Hid (L[k]? = some p.2) := Lib.hid (by rw [← HMF.out, List.getElem?_map, hp]; rfl)
      have HIN := Lib.hid hin
      clear hin hp
      go_wp2_with fail
      refine (validR_any p.1 p.2 _ HIN.out).mono ?_
      rintro e w5 ⟨rfl, hb5⟩
      have B5 := Lib.hid (B.out.trans (hb5.mono B.out.size))
      clear hb5 c0 c1' c2' c3 c4' c5 c6 c7 c8 c9 c10 hbk
      rcases ho : okB p.2 with _ | _
      · have HV : Hid (L.all okB = false) := Lib.hid (all_nay HLK.out ho)
        clear ho
        go_wp2_with fail
        go_ret2
        exact ⟨none, 0, 0, by rw [HV.out]; try rfl, ⟨[], RP.nil _ _, by rw [pushV_bad HV.out]; rfl⟩, B2.out.trans (B5.out.mono B2.out.size)⟩
      · have HO := Lib.hid ho
        clear ho
        go_wp2_with fail
        go_roundw
        case rel => exact ⟨k + 1, by omega, by go_num, all_stp HLK.out HA.out HO.out, B5.out⟩
        case measure => simp [intOf]; omega
    · have hkn : k = n + 1 := by omega
      subst hkn
      have HV : Hid (L.all okB = true) := Lib.hid (by have := HA.out; rwa [List.take_of_length_le (by rw [← HMF.out, List.length_map, hfl]; exact Nat.le_refl _)] at this)
      have HLL : Hid (L.length = n + 1) := Lib.hid (by rw [← HMF.out, List.length_map, hfl])
      by_cases h16 : n + 1 ≤ 16
      · go_wp2_with fail
        go_ret2
        refine ⟨_, _, _, by rw [HV.out]; rfl, ⟨full, RF.out.keep B.out, ?_⟩, B2.out.trans (B.out.mono B2.out.size)⟩
        rw [HMF.out, pushV_ok HV.out]
        unfold lastN
        rw [HLL.out, Nat.sub_eq_zero_of_le h16]
        rfl
      · have hd : ((n : Int) + 1 - 16).toNat = n - 15 := by omega
        go_wp2_with fail
        go_ret2
        refine ⟨_, _, _, by rw [HV.out]; rfl, ⟨full.drop (n - 15), Reads.cutX (RF.out.keep B.out) (by omega), ?_⟩, B2.out.trans (B.out.mono B2.out.size)⟩
        rw [List.map_drop, HMF.out, pushV_ok HV.out]
        unfold lastN
        rw [HLL.out, show n + 1 - 16 = n - 15 by omega]
end Go.Proofs.YtebjfigjfhghcaaDoor.Und
