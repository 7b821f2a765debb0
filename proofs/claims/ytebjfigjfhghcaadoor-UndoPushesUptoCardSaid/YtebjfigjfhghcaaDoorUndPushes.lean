/-
  The law UndoPushes. Conditions: the steps can be read, their lengths are bounded; the tables lie. (Printed by gen/undlaws2.py.)
-/
import Derived.Test.YtebjfigjfhghcaaDoorUndAll
import Derived.Test.YtebjfigjfhghcaaDoorUndWorks
import Derived.Test.YtebjfigjfhghcaaDoorUndLit
import Derived.Test.YtebjfigjfhghcaaDoorUndPut7
import Derived.Deep.RegionHeld3
import Derived.Deep.DeepCutAuto
namespace Go.Proofs.YtebjfigjfhghcaaDoor.Und
open Go.RowKit Wd Utf

/-- steps and a step, to be read -/
def QW (w : World) (A : Option Addr) (n : Nat) (rs : List (Sp × Stp)) (r : Sp) (q : Stp) : Prop := RP w A n rs ∧ SpIn w r q
theorem QW.keep {w w' : World} {A : Option Addr} {n : Nat} {rs : List (Sp × Stp)} {r : Sp} {q : Stp} (h : QW w A n rs r q) (hb : Below w.heap.size w w') : QW w' A n rs r q := ⟨h.1.keep hb, h.2.keep hb⟩
theorem QW.rp {w : World} {A : Option Addr} {n : Nat} {rs : List (Sp × Stp)} {r : Sp} {q : Stp} (h : QW w A n rs r q) : RP w A n rs := h.1
theorem QW.sp {w : World} {A : Option Addr} {n : Nat} {rs : List (Sp × Stp)} {r : Sp} {q : Stp} (h : QW w A n rs r q) : SpIn w r q := h.2
set_option maxRecDepth 100000 in
set_option maxHeartbeats 16000000 in
theorem pushes_any (A : Option Addr) (n c : Nat) (ps : List (Sp × Stp)) (r : Sp) (q : Stp) (w : World) (hT : Tabs w) (hs : RP w A n ps) (hm : n ≤ 1048576) (hq : SpIn w r q) :
    Calls Tryd.prog 4 #[.slice A n c, .agg r.cells] w fun e w' => e = .returned (.bool true) ∧ Below w.heap.size w w' := by
  have HT := Lib.hid hT
  by_cases h40 : n ≤ 40
  · have B : Hid (Below w.heap.size w (w.alloc (.cells r.cells 31))) := Lib.hid ((Below.refl _ _).alloc (Nat.le_refl _) _)
    have K0 : Hid (Blk (w.alloc (.cells r.cells 31)) w.heap.size 31 r.cells) := Lib.hid (Blk.new w _ _)
    have HP := Lib.hid (fun (W : World) (hW : Below w.heap.size w W) => push_any A n c ps r q W (hT.keep hW) (hs.keep hW) (hq.keep hW) h40)
    have HGS := Lib.hid (fun (W : World) (hW : Below w.heap.size w W) => given40_any r q W (hq.keep hW))
    have HAL := Lib.hid (fun (W : World) (hW : Below w.heap.size w W) => all_any A n c ps W (hs.keep hW) hm)
    have HW := Lib.hid (fun (W : World) (hW : Below w.heap.size w W) => works_any W (hT.keep hW))
    have HLN : Hid ((ps.map (·.2)).length = n) := Lib.hid (by rw [List.length_map, hs.len])
    have hz0 : (w.alloc (.cells r.cells 31)).heap.size = w.heap.size + 1 := by simp
    clear hT hs hq
    obtain ⟨Ai, ni, ci, caret, pend, mode, conv, Ab, nb, cb, Af, nf, cf, At, nt, ct, focus, prev, commit⟩ := r
    unfold Sp.cells at B K0 HP HGS hz0
    unfold Sp.cells
    simp only at B K0 HP HGS hz0
    generalize hx : ((ps.map (·.2)) ++ [q]).all okB = X at HP
    have HX := Lib.hid hx
    have HPV := Lib.hid (show (pushV ((ps.map (·.2)) ++ [q])).length ≤ 41 from by
      unfold pushV
      split
      · unfold lastN; rw [List.length_drop, List.length_append, HLN.out]; simp only [List.length_cons, List.length_nil]; omega
      · exact Nat.zero_le _)
    clear hx
    go_enter Tryd.func4, Tryd.ntmps4
    go_upto_region 1 with fail
    generalize (w.alloc (.cells #[.slice Ai ni ci, .int .i64 caret, .string pend, .int .i64 mode, .bool conv, .slice Ab nb cb, .slice Af nf cf, .slice At nt ct, .int .i64 focus, .string prev, .string commit] 31)) = W0 at B K0 hz0 ⊢
    have k0 : W0.cell? ⟨w.heap.size, 0, none⟩ = some (.slice Ai ni ci) := K0.out.cell 0
    have k1 : W0.cell? ⟨w.heap.size, 1, none⟩ = some (.int .i64 caret) := K0.out.cell 1
    have k2 : W0.cell? ⟨w.heap.size, 2, none⟩ = some (.string pend) := K0.out.cell 2
    have k3 : W0.cell? ⟨w.heap.size, 3, none⟩ = some (.int .i64 mode) := K0.out.cell 3
    have k4 : W0.cell? ⟨w.heap.size, 4, none⟩ = some (.bool conv) := K0.out.cell 4
    have k5 : W0.cell? ⟨w.heap.size, 5, none⟩ = some (.slice Ab nb cb) := K0.out.cell 5
    have k6 : W0.cell? ⟨w.heap.size, 6, none⟩ = some (.slice Af nf cf) := K0.out.cell 6
    have k7 : W0.cell? ⟨w.heap.size, 7, none⟩ = some (.slice At nt ct) := K0.out.cell 7
    have k8 : W0.cell? ⟨w.heap.size, 8, none⟩ = some (.int .i64 focus) := K0.out.cell 8
    have k9 : W0.cell? ⟨w.heap.size, 9, none⟩ = some (.string prev) := K0.out.cell 9
    have k10 : W0.cell? ⟨w.heap.size, 10, none⟩ = some (.string commit) := K0.out.cell 10
    go_wp2_with fail
    with_reducible refine (HP.out _ B.out).mono ?_
    rintro e w1 ⟨v1, rs1, rfl, hpl, hmap, hb⟩
    obtain ⟨A1, c1, rfl, hrp, _⟩ := hpl.form
    obtain ⟨lo, hlo⟩ : ∃ lo, W0.heap.size = lo := ⟨_, rfl⟩
    obtain ⟨hi, hhi⟩ : ∃ hi, w1.heap.size = hi := ⟨_, rfl⟩
    have PS := Lib.hid (show ∀ p ∈ rs1.map (·.1), Sob w1 lo hi p from by
      intro p hp
      rw [← hlo]
      obtain ⟨x, hx, rfl⟩ := List.mem_map.1 hp
      exact Sob.of_own (hpl.els x hx) (Nat.le_of_eq hhi))
    have hlh : lo ≤ hi := by rw [← hlo, ← hhi]; exact hb.size
    have P1 := Lib.hid hpl
    have R1 := Lib.hid hrp
    have M1 := Lib.hid hmap
    have H1 : Hid (rs1.length ≤ 1048576) := Lib.hid (by have h := congrArg List.length hmap; rw [List.length_map] at h; have := HPV.out; omega)
    have K0 := Lib.hid (K0.out.below hb K0.out.lt)
    have B := Lib.hid (B.out.trans (hb.mono B.out.size))
    rw [hlo] at P1
    have HLO := Lib.hid hlo
    have HHI := Lib.hid hhi
    clear hlo hhi
    clear hb hpl hrp hmap HP HPV k0 k1 k2 k3 k4 k5 k6 k7 k8 k9 k10
    generalize hj : rs1.length = j1 at P1 R1 H1 ⊢
    have HJ := Lib.hid hj
    clear hj
    go_upto_region 4 with fail
    have hb := (Below.refl w1.heap.size w1).alloc (Nat.le_refl _) (.cells #[.slice A1 j1 c1] 46)
    have K7 : Hid (Blk (w1.alloc (.cells #[.slice A1 j1 c1] 46)) w1.heap.size 46 #[.slice A1 j1 c1]) := Lib.hid (Blk.new w1 _ _)
    have P1 := Lib.hid (P1.out.keep hb)
    have PS := Lib.hid (fun p hp => (PS.out p hp).keep hb)
    have R1 := Lib.hid (R1.out.keep hb)
    have K0 := Lib.hid (K0.out.below hb K0.out.lt)
    have B := Lib.hid (B.out.trans (hb.mono B.out.size))
    clear hb
    generalize (w1.alloc (.cells #[.slice A1 j1 c1] 46)) = W2 at P1 PS R1 K0 B K7 ⊢
    go_cut [7, 8] (fun s7 s8 wx => s8 = .bool X ∧ ∃ (A2 : Option Addr) (m2 c2 : Nat) (rs2 : List (Sp × Stp)), s7 = .slice A2 m2 c2 ∧ RP wx A2 m2 rs2 ∧ rs2.map (fun p : Sp × Stp => p.2) = pushV ((ps.map (·.2)) ++ [q]) ∧ Below W2.heap.size W2 wx)
    case first =>
      have BX := Lib.hid ((Below.refl W2.heap.size W2).drew)
      have B := Lib.hid B.out.drew
      have K0 := Lib.hid (K0.out.drew)
      have KD := Lib.hid (show W2.drew.cell? ⟨w.heap.size, 0, none⟩ = some (.slice Ai ni ci) ∧ W2.drew.cell? ⟨w.heap.size, 1, none⟩ = some (.int .i64 caret) ∧ W2.drew.cell? ⟨w.heap.size, 2, none⟩ = some (.string pend) ∧ W2.drew.cell? ⟨w.heap.size, 3, none⟩ = some (.int .i64 mode) ∧ W2.drew.cell? ⟨w.heap.size, 4, none⟩ = some (.bool conv) ∧ W2.drew.cell? ⟨w.heap.size, 5, none⟩ = some (.slice Ab nb cb) ∧ W2.drew.cell? ⟨w.heap.size, 6, none⟩ = some (.slice Af nf cf) ∧ W2.drew.cell? ⟨w.heap.size, 7, none⟩ = some (.slice At nt ct) ∧ W2.drew.cell? ⟨w.heap.size, 8, none⟩ = some (.int .i64 focus) ∧ W2.drew.cell? ⟨w.heap.size, 9, none⟩ = some (.string prev) ∧ W2.drew.cell? ⟨w.heap.size, 10, none⟩ = some (.string commit) from ⟨K0.out.cell 0, K0.out.cell 1, K0.out.cell 2, K0.out.cell 3, K0.out.cell 4, K0.out.cell 5, K0.out.cell 6, K0.out.cell 7, K0.out.cell 8, K0.out.cell 9, K0.out.cell 10⟩)
      go_region_held3 (fun w' => w'.cell? ⟨w.heap.size, 0, none⟩ = some (.slice Ai ni ci) ∧ w'.cell? ⟨w.heap.size, 1, none⟩ = some (.int .i64 caret) ∧ w'.cell? ⟨w.heap.size, 2, none⟩ = some (.string pend) ∧ w'.cell? ⟨w.heap.size, 3, none⟩ = some (.int .i64 mode) ∧ w'.cell? ⟨w.heap.size, 4, none⟩ = some (.bool conv) ∧ w'.cell? ⟨w.heap.size, 5, none⟩ = some (.slice Ab nb cb) ∧ w'.cell? ⟨w.heap.size, 6, none⟩ = some (.slice Af nf cf) ∧ w'.cell? ⟨w.heap.size, 7, none⟩ = some (.slice At nt ct) ∧ w'.cell? ⟨w.heap.size, 8, none⟩ = some (.int .i64 focus) ∧ w'.cell? ⟨w.heap.size, 9, none⟩ = some (.string prev) ∧ w'.cell? ⟨w.heap.size, 10, none⟩ = some (.string commit)) (first | with_reducible exact KD.out | with_reducible exact KJ.out | go_keep) (first | (go_at_call 16; (with_reducible refine (HAL.out _ B.out).mono ?_); rintro e wj ⟨v5, rs5, rfl, hof, hm5, hb⟩; obtain ⟨A5, c5, rfl, hrp5, _⟩ := hof.form; have B := Lib.hid (B.out.trans (hb.mono B.out.size)); have BX := Lib.hid (BX.out.trans (hb.mono BX.out.size)); have K0 := Lib.hid (K0.out.below hb K0.out.lt); (try (have FS := Lib.hid (FS.out.keep hb))); (try (have R5 := Lib.hid (R5.out.keep hb))); have KJ := Lib.hid (show wj.cell? ⟨w.heap.size, 0, none⟩ = some (.slice Ai ni ci) ∧ wj.cell? ⟨w.heap.size, 1, none⟩ = some (.int .i64 caret) ∧ wj.cell? ⟨w.heap.size, 2, none⟩ = some (.string pend) ∧ wj.cell? ⟨w.heap.size, 3, none⟩ = some (.int .i64 mode) ∧ wj.cell? ⟨w.heap.size, 4, none⟩ = some (.bool conv) ∧ wj.cell? ⟨w.heap.size, 5, none⟩ = some (.slice Ab nb cb) ∧ wj.cell? ⟨w.heap.size, 6, none⟩ = some (.slice Af nf cf) ∧ wj.cell? ⟨w.heap.size, 7, none⟩ = some (.slice At nt ct) ∧ wj.cell? ⟨w.heap.size, 8, none⟩ = some (.int .i64 focus) ∧ wj.cell? ⟨w.heap.size, 9, none⟩ = some (.string prev) ∧ wj.cell? ⟨w.heap.size, 10, none⟩ = some (.string commit) from ⟨K0.out.cell 0, K0.out.cell 1, K0.out.cell 2, K0.out.cell 3, K0.out.cell 4, K0.out.cell 5, K0.out.cell 6, K0.out.cell 7, K0.out.cell 8, K0.out.cell 9, K0.out.cell 10⟩); have R5 := Lib.hid hrp5; have M5 := Lib.hid hm5; clear hof hrp5 hm5 hb) | (go_at_call 11; (with_reducible refine (HGS.out _ B.out).mono ?_); rintro e wh ⟨ry, rfl, hfr, hb⟩; have B := Lib.hid (B.out.trans (hb.mono B.out.size)); have BX := Lib.hid (BX.out.trans (hb.mono BX.out.size)); have K0 := Lib.hid (K0.out.below hb K0.out.lt); (try (have FS := Lib.hid (FS.out.keep hb))); (try (have R5 := Lib.hid (R5.out.keep hb))); have KJ := Lib.hid (show wh.cell? ⟨w.heap.size, 0, none⟩ = some (.slice Ai ni ci) ∧ wh.cell? ⟨w.heap.size, 1, none⟩ = some (.int .i64 caret) ∧ wh.cell? ⟨w.heap.size, 2, none⟩ = some (.string pend) ∧ wh.cell? ⟨w.heap.size, 3, none⟩ = some (.int .i64 mode) ∧ wh.cell? ⟨w.heap.size, 4, none⟩ = some (.bool conv) ∧ wh.cell? ⟨w.heap.size, 5, none⟩ = some (.slice Ab nb cb) ∧ wh.cell? ⟨w.heap.size, 6, none⟩ = some (.slice Af nf cf) ∧ wh.cell? ⟨w.heap.size, 7, none⟩ = some (.slice At nt ct) ∧ wh.cell? ⟨w.heap.size, 8, none⟩ = some (.int .i64 focus) ∧ wh.cell? ⟨w.heap.size, 9, none⟩ = some (.string prev) ∧ wh.cell? ⟨w.heap.size, 10, none⟩ = some (.string commit) from ⟨K0.out.cell 0, K0.out.cell 1, K0.out.cell 2, K0.out.cell 3, K0.out.cell 4, K0.out.cell 5, K0.out.cell 6, K0.out.cell 7, K0.out.cell 8, K0.out.cell 9, K0.out.cell 10⟩); have FS := Lib.hid hfr.inn; clear hfr hb) | (go_at_call 15; (have HPR := pushR_l _ rs5.length c5 rs5 ry q _ R5.out FS.out (by have h3 := congrArg List.length M5.out; rw [List.length_map, HLN.out] at h3; omega)); (rw [M5.out, HX.out] at HPR); (with_reducible refine HPR.mono ?_); clear HPR; rintro e wi ⟨A2, m2, c2, rfl, ⟨rs2, hrp2, hm2⟩, hb⟩; have B := Lib.hid (B.out.trans (hb.mono B.out.size)); have BX := Lib.hid (BX.out.trans (hb.mono BX.out.size)); have K0 := Lib.hid (K0.out.below hb K0.out.lt); (try (have FS := Lib.hid (FS.out.keep hb))); (try (have R5 := Lib.hid (R5.out.keep hb))); have KJ := Lib.hid (show wi.cell? ⟨w.heap.size, 0, none⟩ = some (.slice Ai ni ci) ∧ wi.cell? ⟨w.heap.size, 1, none⟩ = some (.int .i64 caret) ∧ wi.cell? ⟨w.heap.size, 2, none⟩ = some (.string pend) ∧ wi.cell? ⟨w.heap.size, 3, none⟩ = some (.int .i64 mode) ∧ wi.cell? ⟨w.heap.size, 4, none⟩ = some (.bool conv) ∧ wi.cell? ⟨w.heap.size, 5, none⟩ = some (.slice Ab nb cb) ∧ wi.cell? ⟨w.heap.size, 6, none⟩ = some (.slice Af nf cf) ∧ wi.cell? ⟨w.heap.size, 7, none⟩ = some (.slice At nt ct) ∧ wi.cell? ⟨w.heap.size, 8, none⟩ = some (.int .i64 focus) ∧ wi.cell? ⟨w.heap.size, 9, none⟩ = some (.string prev) ∧ wi.cell? ⟨w.heap.size, 10, none⟩ = some (.string commit) from ⟨K0.out.cell 0, K0.out.cell 1, K0.out.cell 2, K0.out.cell 3, K0.out.cell 4, K0.out.cell 5, K0.out.cell 6, K0.out.cell 7, K0.out.cell 8, K0.out.cell 9, K0.out.cell 10⟩); have D2 := Lib.hid hrp2; have N2 := Lib.hid hm2; clear hrp2 hm2 hb))
      all_goals
        go_wp2_with fail
        go_meet
        exact ⟨rfl, _, _, _, _, rfl, D2.out, N2.out, BX.out⟩
    obtain ⟨rfl, A2, m2, c2, rs2, rfl, hrp2, hm2, hb⟩ := hcut
    rename World => W3
    have D2 := Lib.hid hrp2
    have N2 := Lib.hid hm2
    have P1 := Lib.hid (P1.out.keep hb)
    have PS := Lib.hid (fun p hp => (PS.out p hp).keep hb)
    have R1 := Lib.hid (R1.out.keep hb)
    have K0 := Lib.hid (K0.out.below hb K0.out.lt)
    have B := Lib.hid (B.out.trans (hb.mono B.out.size))
    have K7 := Lib.hid (K7.out.below hb K7.out.lt)
    clear hb hrp2 hm2
    go_upto_region 5 with fail
    have p0 : W3.cell? ⟨w1.heap.size, 0, none⟩ = some (.slice A1 j1 c1) := K7.out.cell 0
    go_cut [50] (fun s50 wx => s50 = .bool false ∧ Below W3.heap.size W3 wx)
    case first =>
      have HAP := Lib.hid (all_any A1 j1 c1 rs1 W3 R1.out H1.out)
      clear HX
      rcases X with _ | _
      all_goals
        first | rw [errI_t] | rw [errI_f]
        go_wp2_with fail
        with_reducible refine (HAP.out).mono ?_
        rintro e w4 ⟨v4, rs4, rfl, hof, hm4, hb⟩
        obtain ⟨A4, c4, rfl, hrp4, _⟩ := hof.form
        have HSA := Lib.hid (sameAll_any A4 A2 rs4.length c4 m2 c2 rs4 rs2 w4 hrp4 (D2.out.keep hb) (hm4.trans (M1.out.trans N2.out.symm)) (by have h3 := congrArg List.length hm4; rw [List.length_map, List.length_map, HJ.out] at h3; have := H1.out; omega))
        have BX := Lib.hid hb
        clear hof hm4 hb hrp4
        go_wp2_with fail
        with_reducible refine (HSA.out).mono ?_
        rintro e w5 ⟨rfl, hb⟩
        have BX := Lib.hid (BX.out.trans (hb.mono BX.out.size))
        go_wp2_with fail
        go_meet
        exact ⟨rfl, BX.out⟩
    obtain ⟨rfl, hb⟩ := hcut
    rename World => W4
    have P1 := Lib.hid (P1.out.keep hb)
    have PS := Lib.hid (fun p hp => (PS.out p hp).keep hb)
    have K0 := Lib.hid (K0.out.below hb K0.out.lt)
    have B := Lib.hid (B.out.trans (hb.mono B.out.size))
    have K7 := Lib.hid (K7.out.below hb K7.out.lt)
    clear hb p0 D2 N2 R1
    have hH : w.heap.size < hi := by have := HLO.out; omega
    have hi4 : hi ≤ W4.heap.size := by have := K7.out.lt; have := HHI.out; omega
    go_upto_region 7 with fail
    have BW := Lib.hid B.out
    go_cut [9, 10] (fun s9 s10 wx => ∃ (A5 : Option Addr) (c5 : Nat) (rs5 : List (Sp × Stp)) (ry : Sp) (g : Nat), s9 = .slice A5 rs5.length c5 ∧ s10 = .pointer (some ⟨g, 0, none⟩) ∧ OF 39 81 hi wx (.slice A5 rs5.length c5) rs5 ∧ rs5.map (fun p : Sp × Stp => p.2) = (ps.map (·.2)) ∧ SpFr 81 hi wx ry q ∧ Blk wx g 39 ry.cells ∧ hi ≤ g ∧ Below W4.heap.size W4 wx)
    case first =>
      refine wp_region_any (by kernel_rfl) ?_
      change wpAny _ _ _ _ _ _ _ (World.drew _)
      refine Reg.wpAny_inv0 _ (I7 W4.heap.size n A c (ps.map (·.2)) q #[.slice Ai ni ci, .int .i64 caret, .string pend, .int .i64 mode, .bool conv, .slice Ab nb cb, .slice Af nf cf, .slice At nt ct, .int .i64 focus, .string prev, .string commit] w.heap.size W4) ?hf ?hs ?hd _ _ _ rfl (Nat.le_of_eq (by kernel_rfl)) ?hI
      case hf => exact Reg.back_of (by kernel_rfl)
      case hI =>
        obtain ⟨fv, hfv⟩ := put7_self _
        exact ⟨fv, hfv, (Below.refl _ _).drew, ⟨fun e => by simp [Array.getD] at e, fun e => by simp [Array.getD] at e, fun e => by simp [Array.getD] at e, fun e => by simp [Array.getD] at e, fun e => by simp [Array.getD] at e, fun e => by simp [Array.getD] at e, fun e => by simp [Array.getD] at e, Nat.le_refl _⟩, K0.out.drew, Nat.lt_of_lt_of_le hH hi4⟩
      case hd =>
        intro listed a W hz hall hI
        obtain ⟨fv, rfl, hB, hP, hK, _⟩ := hI
        have hL : ∀ j, j < 7 → listed.getD j false = true := fun j hj => by have h := hall j hj; have hz' : listed.size = 7 := hz; simpa [Array.getD, hz', hj] using h
        obtain ⟨A5, c5, rs5, h1, h2, h3⟩ := hP.f1 (hL 1 (by decide))
        obtain ⟨ry, h4, h5⟩ := hP.f3 (hL 3 (by decide))
        obtain ⟨g, h6, h7, _, _, h8, _⟩ := hP.f4 (hL 4 (by decide))
        have h9 := (hP.f5 (hL 5 (by decide))).2
        rw [h1] at h2 h9
        simp only [put7, Reg.putL, Act.put, List.setIfInBounds_toArray, List.set_cons_zero, List.set_cons_succ]
        rw [h9, h6]
        go_wp2_with fail
        go_meet
        exact ⟨A5, c5, rs5, ry, g, rfl, rfl, h2.lower hi4, h3, h5.lower hi4, h8 (hL 6 (by decide)) ry h4, Nat.le_trans hi4 h7, hB⟩
      case hs =>
        intro i o listed a W ho hz' hl hp hI
        obtain ⟨fv, rfl, hB, hP, hK, hH⟩ := hI
        have hz : listed.size = 7 := hz'
        simp only [put7, Reg.putL, Act.put, List.setIfInBounds_toArray, List.set_cons_zero, List.set_cons_succ]
        match i, ho with
        | 0, ho =>
          obtain rfl : _ = o := Option.some.inj ho
          have hlt : 0 < listed.size := by omega
          have hl' : listed.getD 0 false = false := Reg.getD_ff hl
          refine wpOp_step rfl (fun K' hK' => ?_)
          go_simp
          refine hK' _ _ (I7.up hlt (fv := upv fv 0 (.slice A n c)) ?_ hB hP.o0 hK hH)
          first | rfl | (unfold put7; simp [Reg.putL, Act.put, upv])
        | 1, ho =>
          obtain rfl : _ = o := Option.some.inj ho
          have hlt : 1 < listed.size := by omega
          have hl' : listed.getD 1 false = false := Reg.getD_ff hl
          have h0 : fv 0 = .slice A n c := hP.f0 (hp ⟨0, .data⟩ (by simp) rfl)
          refine wpOp_step rfl (fun K' hK' => ?_)
          go_simp
          go_at_call 16
          with_reducible refine (HAL.out _ (BW.out.trans (hB.mono BW.out.size))).mono ?_
          rintro e wj ⟨v5, rs5, rfl, hof, hm5, hb⟩
          obtain ⟨A5, c5, rfl, _, _⟩ := hof.form
          try go_simp
          refine hK' _ _ (I7.up hlt (fv := upv fv 1 (.slice A5 rs5.length c5)) ?_ (hB.trans (hb.mono hB.size)) (hP.o1 hl' hb hof hm5) (hK.below hb hK.lt) hH)
          first | rfl | (unfold put7; simp [Reg.putL, Act.put, upv, h0])
        | 2, ho =>
          obtain rfl : _ = o := Option.some.inj ho
          have hlt : 2 < listed.size := by omega
          have hl' : listed.getD 2 false = false := Reg.getD_ff hl
          have k0 : W.cell? ⟨w.heap.size, 0, none⟩ = some (.slice Ai ni ci) := hK.cell 0
          have k1 : W.cell? ⟨w.heap.size, 1, none⟩ = some (.int .i64 caret) := hK.cell 1
          have k2 : W.cell? ⟨w.heap.size, 2, none⟩ = some (.string pend) := hK.cell 2
          have k3 : W.cell? ⟨w.heap.size, 3, none⟩ = some (.int .i64 mode) := hK.cell 3
          have k4 : W.cell? ⟨w.heap.size, 4, none⟩ = some (.bool conv) := hK.cell 4
          have k5 : W.cell? ⟨w.heap.size, 5, none⟩ = some (.slice Ab nb cb) := hK.cell 5
          have k6 : W.cell? ⟨w.heap.size, 6, none⟩ = some (.slice Af nf cf) := hK.cell 6
          have k7 : W.cell? ⟨w.heap.size, 7, none⟩ = some (.slice At nt ct) := hK.cell 7
          have k8 : W.cell? ⟨w.heap.size, 8, none⟩ = some (.int .i64 focus) := hK.cell 8
          have k9 : W.cell? ⟨w.heap.size, 9, none⟩ = some (.string prev) := hK.cell 9
          have k10 : W.cell? ⟨w.heap.size, 10, none⟩ = some (.string commit) := hK.cell 10
          refine wpOp_step rfl (fun K' hK' => ?_)
          go_simp
          refine hK' _ _ (I7.up hlt (fv := upv fv 2 (.agg #[.slice Ai ni ci, .int .i64 caret, .string pend, .int .i64 mode, .bool conv, .slice Ab nb cb, .slice Af nf cf, .slice At nt ct, .int .i64 focus, .string prev, .string commit])) ?_ hB hP.o2 hK hH)
          first | rfl | (unfold put7; simp [Reg.putL, Act.put, upv])
        | 3, ho =>
          obtain rfl : _ = o := Option.some.inj ho
          have hlt : 3 < listed.size := by omega
          have hl' : listed.getD 3 false = false := Reg.getD_ff hl
          have h2 : fv 2 = .agg #[.slice Ai ni ci, .int .i64 caret, .string pend, .int .i64 mode, .bool conv, .slice Ab nb cb, .slice Af nf cf, .slice At nt ct, .int .i64 focus, .string prev, .string commit] := hP.f2 (hp ⟨2, .data⟩ (by simp) rfl)
          refine wpOp_step rfl (fun K' hK' => ?_)
          go_simp
          go_at_call 11
          with_reducible refine (HGS.out _ (BW.out.trans (hB.mono BW.out.size))).mono ?_
          rintro e wj ⟨ry, rfl, hfr, hb⟩
          try go_simp
          refine hK' _ _ (I7.up hlt (fv := upv fv 3 (.agg ry.cells)) ?_ (hB.trans (hb.mono hB.size)) (hP.o3 hl' hb hfr) (hK.below hb hK.lt) hH)
          first | rfl | (unfold put7; simp [Reg.putL, Act.put, upv, h2, Sp.cells])
        | 4, ho =>
          obtain rfl : _ = o := Option.some.inj ho
          have hlt : 4 < listed.size := by omega
          have hl' : listed.getD 4 false = false := Reg.getD_ff hl
          refine wpOp_step rfl (fun K' hK' => ?_)
          go_simp
          refine hK' _ _ (I7.up hlt (fv := upv fv 4 (.pointer (some ⟨W.heap.size, 0, none⟩))) ?_ (hB.alloc hB.size _) (hP.o4 hl') (hK.alloc _) hH)
          first | rfl | (unfold put7; simp [Reg.putL, Act.put, upv])
        | 5, ho =>
          obtain rfl : _ = o := Option.some.inj ho
          have hlt : 5 < listed.size := by omega
          have hl' : listed.getD 5 false = false := Reg.getD_ff hl
          have h1l : listed.getD 1 false = true := hp ⟨1, .data⟩ (by simp) rfl
          obtain ⟨A5, c5, rs5, h1, _, _⟩ := hP.f1 h1l
          refine wpOp_step rfl (fun K' hK' => ?_)
          go_simp
          refine hK' _ _ (I7.up hlt (fv := upv fv 5 (fv 1)) ?_ hB (hP.o5 h1l) hK hH)
          first | rfl | (unfold put7; simp [Reg.putL, Act.put, upv, h1])
        | 6, ho =>
          obtain rfl : _ = o := Option.some.inj ho
          have hlt : 6 < listed.size := by omega
          have hl' : listed.getD 6 false = false := Reg.getD_ff hl
          have h3l : listed.getD 3 false = true := hp ⟨3, .data⟩ (by simp) rfl
          have h4l : listed.getD 4 false = true := hp ⟨4, .data⟩ (by simp) rfl
          obtain ⟨ry, h3, _⟩ := hP.f3 h3l
          obtain ⟨g, h4, hg1, hg2, hg3, _, hg5⟩ := hP.f4 h4l
          have hz := hg3 hl'
          have z0 : W.cell? ⟨g, 0, none⟩ = some (.slice none 0 0) := hz.cell 0
          have z1 : W.cell? ⟨g, 1, none⟩ = some (.int .i64 0) := hz.cell 1
          have z2 : W.cell? ⟨g, 2, none⟩ = some (.string ⟨#[]⟩) := hz.cell 2
          have z3 : W.cell? ⟨g, 3, none⟩ = some (.int .i64 0) := hz.cell 3
          have z4 : W.cell? ⟨g, 4, none⟩ = some (.bool false) := hz.cell 4
          have z5 : W.cell? ⟨g, 5, none⟩ = some (.slice none 0 0) := hz.cell 5
          have z6 : W.cell? ⟨g, 6, none⟩ = some (.slice none 0 0) := hz.cell 6
          have z7 : W.cell? ⟨g, 7, none⟩ = some (.slice none 0 0) := hz.cell 7
          have z8 : W.cell? ⟨g, 8, none⟩ = some (.int .i64 0) := hz.cell 8
          have z9 : W.cell? ⟨g, 9, none⟩ = some (.string ⟨#[]⟩) := hz.cell 9
          have z10 : W.cell? ⟨g, 10, none⟩ = some (.string ⟨#[]⟩) := hz.cell 10
          have y0 : W.frozen? ⟨g, 0, none⟩ = false := hz.frozen 0
          have y1 : W.frozen? ⟨g, 1, none⟩ = false := hz.frozen 1
          have y2 : W.frozen? ⟨g, 2, none⟩ = false := hz.frozen 2
          have y3 : W.frozen? ⟨g, 3, none⟩ = false := hz.frozen 3
          have y4 : W.frozen? ⟨g, 4, none⟩ = false := hz.frozen 4
          have y5 : W.frozen? ⟨g, 5, none⟩ = false := hz.frozen 5
          have y6 : W.frozen? ⟨g, 6, none⟩ = false := hz.frozen 6
          have y7 : W.frozen? ⟨g, 7, none⟩ = false := hz.frozen 7
          have y8 : W.frozen? ⟨g, 8, none⟩ = false := hz.frozen 8
          have y9 : W.frozen? ⟨g, 9, none⟩ = false := hz.frozen 9
          have y10 : W.frozen? ⟨g, 10, none⟩ = false := hz.frozen 10
          have hq := hP.o6 h3l hl' h3 h4 h4l
          have hKn := blk_far11 hK (g' := g) (by omega) (.slice ry.Ai ry.ni ry.ci) (.int .i64 ry.caret) (.string ry.pend) (.int .i64 ry.mode) (.bool ry.conv) (.slice ry.Ab ry.nb ry.cb) (.slice ry.Af ry.nf ry.cf) (.slice ry.At ry.nt ry.ct) (.int .i64 ry.focus) (.string ry.prev) (.string ry.commit)
          have hBn := below_set11 hB (g := g) hg1 (.slice ry.Ai ry.ni ry.ci) (.int .i64 ry.caret) (.string ry.pend) (.int .i64 ry.mode) (.bool ry.conv) (.slice ry.Ab ry.nb ry.cb) (.slice ry.Af ry.nf ry.cf) (.slice ry.At ry.nt ry.ct) (.int .i64 ry.focus) (.string ry.prev) (.string ry.commit)
          unfold Sp.cells at h3
          clear hz
          refine wpOp_step rfl (fun K' hK' => ?_)
          go_simp
          refine hK' _ _ (I7.up hlt (fv := fv) ?_ hBn hq hKn hH)
          first | rfl | (unfold put7; simp [Reg.putL, Act.put, h3, h4])
        | n + 7, ho => exact absurd (Array.getElem?_eq_some_iff.1 ho).1 (by show ¬ n + 7 < 7; omega)
    obtain ⟨A5, c5, rs5, ry, g, rfl, rfl, ho5, hm5, hf5, hk5, hg5, hb⟩ := hcut
    rename World => wx
    have P1 := Lib.hid (P1.out.keep hb)
    have PS := Lib.hid (fun p hp => (PS.out p hp).keep hb)
    have K0 := Lib.hid (K0.out.below hb K0.out.lt)
    have B := Lib.hid (B.out.trans (hb.mono B.out.size))
    have K7 := Lib.hid (K7.out.below hb K7.out.lt)
    have M5 := Lib.hid hm5
    have O5 := Lib.hid ho5
    have F5 := Lib.hid hf5
    obtain ⟨zAi, zni, zci, zcaret, zpend, zmode, zconv, zAb, znb, zcb, zAf, znf, zcf, zAt, znt, zct, zfocus, zprev, zcommit⟩ := ry
    unfold Sp.cells at hk5
    simp only at hk5
    have KG := Lib.hid hk5
    have hle : hi ≤ wx.heap.size := Nat.le_trans hi4 hb.size
    have hlx : lo ≤ wx.heap.size := Nat.le_trans hlh hle
    have MM := Lib.hid (Mid.refl lo hi wx)
    clear hb ho5 hm5 hf5 hk5 BW M1
    go_wp2_with fail
    go_loopw [11] (fun i wr => ∃ k : Nat, k ≤ j1 ∧ i = .int .i64 (k : Int) ∧ (∀ p ∈ rs1.map (·.1), Sob wr lo hi p) ∧ Mid lo hi wx wr) (fun i _ => j1 - (intOf i).toNat)
    case atStart => exact ⟨0, Nat.zero_le _, rfl, PS.out, MM.out⟩
    case round =>
      obtain ⟨k, hk, rfl, h1, h2⟩ := hrel
      clear PS MM
      rename World => wr
      have PS := Lib.hid h1
      have MM := Lib.hid h2
      have hsz := h2.size
      clear h1 h2
      have p0 : wr.cell? ⟨w1.heap.size, 0, none⟩ = some (.slice A1 j1 c1) := (Blk.mid K7.out MM.out (Nat.le_of_eq HHI.out.symm)).cell 0
      have hjb := H1.out
      by_cases hlt : k < j1
      · obtain ⟨ad, ⟨rk, qk⟩, rfl, hp, hcur, hcw⟩ := P1.out.at_ hlt
        obtain ⟨c0, c1', c2', c3', c4', c5', c6', c7', c8', c9', c10'⟩ := hcw wr (MM.out.step _ hcur)
        have HS := Lib.hid (spoil_any lo hi (rs1.map (·.1)) rk (List.mem_map.2 ⟨_, List.mem_of_getElem? hp, rfl⟩) wr PS.out (Nat.le_trans hle hsz))
        clear hp hcur hcw
        obtain ⟨yAi, yni, yci, ycaret, ypend, ymode, yconv, yAb, ynb, ycb, yAf, ynf, ycf, yAt, ynt, yct, yfocus, yprev, ycommit⟩ := rk
        unfold Sp.cells at HS
        simp only at HS c0 c1' c2' c3' c4' c5' c6' c7' c8' c9' c10'
        go_wp2_with fail
        with_reducible refine (HS.out).mono ?_
        rintro e wn ⟨rfl, hPn, hMn⟩
        have PN := Lib.hid hPn
        have MN := Lib.hid (MM.out.trans hMn)
        clear hPn hMn
        go_wp2_with fail
        go_roundw
        case rel => exact ⟨k + 1, by omega, by go_num, PN.out, MN.out⟩
        case measure => simp [intOf]; omega
      · have hkn : k = j1 := by omega
        subst k
        have BL := MM.out.below hlx
        have hlo2 := HLO.out
        have B := Lib.hid (B.out.trans (BL.mono (by omega)))
        have K0 := Lib.hid (Blk.midl K0.out MM.out (by omega))
        have KG := Lib.hid (Blk.mid KG.out MM.out hg5)
        clear hlo2
        have RW := Lib.hid (show QW wr A5 rs5.length rs5 ⟨zAi, zni, zci, zcaret, zpend, zmode, zconv, zAb, znb, zcb, zAf, znf, zcf, zAt, znt, zct, zfocus, zprev, zcommit⟩ q from by
          obtain ⟨A', c', e, hrp, _⟩ := (O5.out.mid MM.out (Nat.le_refl _)).form
          injection e with e1 _ _
          subst e1
          exact ⟨hrp, (F5.out.mid MM.out (Nat.le_refl _)).inn⟩)
        clear PS MM BL O5 F5
        go_upto_region 12 with fail
        have B := Lib.hid B.out.drew
        have K0 := Lib.hid (K0.out.drew)
        have KG := Lib.hid (KG.out.drew)
        have RW := Lib.hid (RW.out.keep (Below.refl _ _).drew)
        have KD := Lib.hid (show wr.drew.cell? ⟨w.heap.size, 0, none⟩ = some (.slice Ai ni ci) ∧ wr.drew.cell? ⟨w.heap.size, 1, none⟩ = some (.int .i64 caret) ∧ wr.drew.cell? ⟨w.heap.size, 2, none⟩ = some (.string pend) ∧ wr.drew.cell? ⟨w.heap.size, 3, none⟩ = some (.int .i64 mode) ∧ wr.drew.cell? ⟨w.heap.size, 4, none⟩ = some (.bool conv) ∧ wr.drew.cell? ⟨w.heap.size, 5, none⟩ = some (.slice Ab nb cb) ∧ wr.drew.cell? ⟨w.heap.size, 6, none⟩ = some (.slice Af nf cf) ∧ wr.drew.cell? ⟨w.heap.size, 7, none⟩ = some (.slice At nt ct) ∧ wr.drew.cell? ⟨w.heap.size, 8, none⟩ = some (.int .i64 focus) ∧ wr.drew.cell? ⟨w.heap.size, 9, none⟩ = some (.string prev) ∧ wr.drew.cell? ⟨w.heap.size, 10, none⟩ = some (.string commit) ∧ wr.drew.cell? ⟨g, 0, none⟩ = some (.slice zAi zni zci) ∧ wr.drew.cell? ⟨g, 1, none⟩ = some (.int .i64 zcaret) ∧ wr.drew.cell? ⟨g, 2, none⟩ = some (.string zpend) ∧ wr.drew.cell? ⟨g, 3, none⟩ = some (.int .i64 zmode) ∧ wr.drew.cell? ⟨g, 4, none⟩ = some (.bool zconv) ∧ wr.drew.cell? ⟨g, 5, none⟩ = some (.slice zAb znb zcb) ∧ wr.drew.cell? ⟨g, 6, none⟩ = some (.slice zAf znf zcf) ∧ wr.drew.cell? ⟨g, 7, none⟩ = some (.slice zAt znt zct) ∧ wr.drew.cell? ⟨g, 8, none⟩ = some (.int .i64 zfocus) ∧ wr.drew.cell? ⟨g, 9, none⟩ = some (.string zprev) ∧ wr.drew.cell? ⟨g, 10, none⟩ = some (.string zcommit) from ⟨K0.out.cell 0, K0.out.cell 1, K0.out.cell 2, K0.out.cell 3, K0.out.cell 4, K0.out.cell 5, K0.out.cell 6, K0.out.cell 7, K0.out.cell 8, K0.out.cell 9, K0.out.cell 10, KG.out.cell 0, KG.out.cell 1, KG.out.cell 2, KG.out.cell 3, KG.out.cell 4, KG.out.cell 5, KG.out.cell 6, KG.out.cell 7, KG.out.cell 8, KG.out.cell 9, KG.out.cell 10⟩)
        go_region_held3 (fun w' => w'.cell? ⟨w.heap.size, 0, none⟩ = some (.slice Ai ni ci) ∧ w'.cell? ⟨w.heap.size, 1, none⟩ = some (.int .i64 caret) ∧ w'.cell? ⟨w.heap.size, 2, none⟩ = some (.string pend) ∧ w'.cell? ⟨w.heap.size, 3, none⟩ = some (.int .i64 mode) ∧ w'.cell? ⟨w.heap.size, 4, none⟩ = some (.bool conv) ∧ w'.cell? ⟨w.heap.size, 5, none⟩ = some (.slice Ab nb cb) ∧ w'.cell? ⟨w.heap.size, 6, none⟩ = some (.slice Af nf cf) ∧ w'.cell? ⟨w.heap.size, 7, none⟩ = some (.slice At nt ct) ∧ w'.cell? ⟨w.heap.size, 8, none⟩ = some (.int .i64 focus) ∧ w'.cell? ⟨w.heap.size, 9, none⟩ = some (.string prev) ∧ w'.cell? ⟨w.heap.size, 10, none⟩ = some (.string commit) ∧ w'.cell? ⟨g, 0, none⟩ = some (.slice zAi zni zci) ∧ w'.cell? ⟨g, 1, none⟩ = some (.int .i64 zcaret) ∧ w'.cell? ⟨g, 2, none⟩ = some (.string zpend) ∧ w'.cell? ⟨g, 3, none⟩ = some (.int .i64 zmode) ∧ w'.cell? ⟨g, 4, none⟩ = some (.bool zconv) ∧ w'.cell? ⟨g, 5, none⟩ = some (.slice zAb znb zcb) ∧ w'.cell? ⟨g, 6, none⟩ = some (.slice zAf znf zcf) ∧ w'.cell? ⟨g, 7, none⟩ = some (.slice zAt znt zct) ∧ w'.cell? ⟨g, 8, none⟩ = some (.int .i64 zfocus) ∧ w'.cell? ⟨g, 9, none⟩ = some (.string zprev) ∧ w'.cell? ⟨g, 10, none⟩ = some (.string zcommit)) (first | with_reducible exact KD.out | with_reducible exact KJ.out | go_keep) (first | (go_at_call 16; (with_reducible refine (HAL.out _ B.out).mono ?_); rintro e wj ⟨v6, rs6, rfl, hof, hm6, hb⟩; obtain ⟨A6, c6, rfl, hrp6, _⟩ := hof.form; have B := Lib.hid (B.out.trans (hb.mono B.out.size)); have K0 := Lib.hid (K0.out.below hb K0.out.lt); have KG := Lib.hid (KG.out.below hb KG.out.lt); have RW := Lib.hid (RW.out.keep hb); (try (have FS := Lib.hid (FS.out.keep hb))); (try (have R6 := Lib.hid (R6.out.keep hb))); have KJ := Lib.hid (show wj.cell? ⟨w.heap.size, 0, none⟩ = some (.slice Ai ni ci) ∧ wj.cell? ⟨w.heap.size, 1, none⟩ = some (.int .i64 caret) ∧ wj.cell? ⟨w.heap.size, 2, none⟩ = some (.string pend) ∧ wj.cell? ⟨w.heap.size, 3, none⟩ = some (.int .i64 mode) ∧ wj.cell? ⟨w.heap.size, 4, none⟩ = some (.bool conv) ∧ wj.cell? ⟨w.heap.size, 5, none⟩ = some (.slice Ab nb cb) ∧ wj.cell? ⟨w.heap.size, 6, none⟩ = some (.slice Af nf cf) ∧ wj.cell? ⟨w.heap.size, 7, none⟩ = some (.slice At nt ct) ∧ wj.cell? ⟨w.heap.size, 8, none⟩ = some (.int .i64 focus) ∧ wj.cell? ⟨w.heap.size, 9, none⟩ = some (.string prev) ∧ wj.cell? ⟨w.heap.size, 10, none⟩ = some (.string commit) ∧ wj.cell? ⟨g, 0, none⟩ = some (.slice zAi zni zci) ∧ wj.cell? ⟨g, 1, none⟩ = some (.int .i64 zcaret) ∧ wj.cell? ⟨g, 2, none⟩ = some (.string zpend) ∧ wj.cell? ⟨g, 3, none⟩ = some (.int .i64 zmode) ∧ wj.cell? ⟨g, 4, none⟩ = some (.bool zconv) ∧ wj.cell? ⟨g, 5, none⟩ = some (.slice zAb znb zcb) ∧ wj.cell? ⟨g, 6, none⟩ = some (.slice zAf znf zcf) ∧ wj.cell? ⟨g, 7, none⟩ = some (.slice zAt znt zct) ∧ wj.cell? ⟨g, 8, none⟩ = some (.int .i64 zfocus) ∧ wj.cell? ⟨g, 9, none⟩ = some (.string zprev) ∧ wj.cell? ⟨g, 10, none⟩ = some (.string zcommit) from ⟨K0.out.cell 0, K0.out.cell 1, K0.out.cell 2, K0.out.cell 3, K0.out.cell 4, K0.out.cell 5, K0.out.cell 6, K0.out.cell 7, K0.out.cell 8, K0.out.cell 9, K0.out.cell 10, KG.out.cell 0, KG.out.cell 1, KG.out.cell 2, KG.out.cell 3, KG.out.cell 4, KG.out.cell 5, KG.out.cell 6, KG.out.cell 7, KG.out.cell 8, KG.out.cell 9, KG.out.cell 10⟩); clear hb; have R6 := Lib.hid hrp6; have M6 := Lib.hid hm6; clear hof hrp6 hm6) | (go_at_call 17; (with_reducible refine (sameAll_any _ _ _ _ _ _ rs6 rs5 _ R6.out RW.out.rp (M6.out.trans M5.out.symm) (by have h3 := congrArg List.length M6.out; rw [List.length_map, HLN.out] at h3; omega)).mono ?_); rintro e wk ⟨rfl, hb⟩; have B := Lib.hid (B.out.trans (hb.mono B.out.size)); have K0 := Lib.hid (K0.out.below hb K0.out.lt); have KG := Lib.hid (KG.out.below hb KG.out.lt); have RW := Lib.hid (RW.out.keep hb); (try (have FS := Lib.hid (FS.out.keep hb))); (try (have R6 := Lib.hid (R6.out.keep hb))); have KJ := Lib.hid (show wk.cell? ⟨w.heap.size, 0, none⟩ = some (.slice Ai ni ci) ∧ wk.cell? ⟨w.heap.size, 1, none⟩ = some (.int .i64 caret) ∧ wk.cell? ⟨w.heap.size, 2, none⟩ = some (.string pend) ∧ wk.cell? ⟨w.heap.size, 3, none⟩ = some (.int .i64 mode) ∧ wk.cell? ⟨w.heap.size, 4, none⟩ = some (.bool conv) ∧ wk.cell? ⟨w.heap.size, 5, none⟩ = some (.slice Ab nb cb) ∧ wk.cell? ⟨w.heap.size, 6, none⟩ = some (.slice Af nf cf) ∧ wk.cell? ⟨w.heap.size, 7, none⟩ = some (.slice At nt ct) ∧ wk.cell? ⟨w.heap.size, 8, none⟩ = some (.int .i64 focus) ∧ wk.cell? ⟨w.heap.size, 9, none⟩ = some (.string prev) ∧ wk.cell? ⟨w.heap.size, 10, none⟩ = some (.string commit) ∧ wk.cell? ⟨g, 0, none⟩ = some (.slice zAi zni zci) ∧ wk.cell? ⟨g, 1, none⟩ = some (.int .i64 zcaret) ∧ wk.cell? ⟨g, 2, none⟩ = some (.string zpend) ∧ wk.cell? ⟨g, 3, none⟩ = some (.int .i64 zmode) ∧ wk.cell? ⟨g, 4, none⟩ = some (.bool zconv) ∧ wk.cell? ⟨g, 5, none⟩ = some (.slice zAb znb zcb) ∧ wk.cell? ⟨g, 6, none⟩ = some (.slice zAf znf zcf) ∧ wk.cell? ⟨g, 7, none⟩ = some (.slice zAt znt zct) ∧ wk.cell? ⟨g, 8, none⟩ = some (.int .i64 zfocus) ∧ wk.cell? ⟨g, 9, none⟩ = some (.string zprev) ∧ wk.cell? ⟨g, 10, none⟩ = some (.string zcommit) from ⟨K0.out.cell 0, K0.out.cell 1, K0.out.cell 2, K0.out.cell 3, K0.out.cell 4, K0.out.cell 5, K0.out.cell 6, K0.out.cell 7, K0.out.cell 8, K0.out.cell 9, K0.out.cell 10, KG.out.cell 0, KG.out.cell 1, KG.out.cell 2, KG.out.cell 3, KG.out.cell 4, KG.out.cell 5, KG.out.cell 6, KG.out.cell 7, KG.out.cell 8, KG.out.cell 9, KG.out.cell 10⟩); clear hb) | (go_at_call 11; (with_reducible refine (HGS.out _ B.out).mono ?_); rintro e wh ⟨rx, rfl, hfr, hb⟩; have B := Lib.hid (B.out.trans (hb.mono B.out.size)); have K0 := Lib.hid (K0.out.below hb K0.out.lt); have KG := Lib.hid (KG.out.below hb KG.out.lt); have RW := Lib.hid (RW.out.keep hb); (try (have FS := Lib.hid (FS.out.keep hb))); (try (have R6 := Lib.hid (R6.out.keep hb))); have KJ := Lib.hid (show wh.cell? ⟨w.heap.size, 0, none⟩ = some (.slice Ai ni ci) ∧ wh.cell? ⟨w.heap.size, 1, none⟩ = some (.int .i64 caret) ∧ wh.cell? ⟨w.heap.size, 2, none⟩ = some (.string pend) ∧ wh.cell? ⟨w.heap.size, 3, none⟩ = some (.int .i64 mode) ∧ wh.cell? ⟨w.heap.size, 4, none⟩ = some (.bool conv) ∧ wh.cell? ⟨w.heap.size, 5, none⟩ = some (.slice Ab nb cb) ∧ wh.cell? ⟨w.heap.size, 6, none⟩ = some (.slice Af nf cf) ∧ wh.cell? ⟨w.heap.size, 7, none⟩ = some (.slice At nt ct) ∧ wh.cell? ⟨w.heap.size, 8, none⟩ = some (.int .i64 focus) ∧ wh.cell? ⟨w.heap.size, 9, none⟩ = some (.string prev) ∧ wh.cell? ⟨w.heap.size, 10, none⟩ = some (.string commit) ∧ wh.cell? ⟨g, 0, none⟩ = some (.slice zAi zni zci) ∧ wh.cell? ⟨g, 1, none⟩ = some (.int .i64 zcaret) ∧ wh.cell? ⟨g, 2, none⟩ = some (.string zpend) ∧ wh.cell? ⟨g, 3, none⟩ = some (.int .i64 zmode) ∧ wh.cell? ⟨g, 4, none⟩ = some (.bool zconv) ∧ wh.cell? ⟨g, 5, none⟩ = some (.slice zAb znb zcb) ∧ wh.cell? ⟨g, 6, none⟩ = some (.slice zAf znf zcf) ∧ wh.cell? ⟨g, 7, none⟩ = some (.slice zAt znt zct) ∧ wh.cell? ⟨g, 8, none⟩ = some (.int .i64 zfocus) ∧ wh.cell? ⟨g, 9, none⟩ = some (.string zprev) ∧ wh.cell? ⟨g, 10, none⟩ = some (.string zcommit) from ⟨K0.out.cell 0, K0.out.cell 1, K0.out.cell 2, K0.out.cell 3, K0.out.cell 4, K0.out.cell 5, K0.out.cell 6, K0.out.cell 7, K0.out.cell 8, K0.out.cell 9, K0.out.cell 10, KG.out.cell 0, KG.out.cell 1, KG.out.cell 2, KG.out.cell 3, KG.out.cell 4, KG.out.cell 5, KG.out.cell 6, KG.out.cell 7, KG.out.cell 8, KG.out.cell 9, KG.out.cell 10⟩); clear hb; have FS := Lib.hid hfr.inn; clear hfr) | (go_at_call 19; (with_reducible refine (same_l rx ⟨zAi, zni, zci, zcaret, zpend, zmode, zconv, zAb, znb, zcb, zAf, znf, zcf, zAt, znt, zct, zfocus, zprev, zcommit⟩ q _ FS.out RW.out.sp).mono ?_); rintro e wi ⟨rfl, hb⟩; have B := Lib.hid (B.out.trans (hb.mono B.out.size)); have K0 := Lib.hid (K0.out.below hb K0.out.lt); have KG := Lib.hid (KG.out.below hb KG.out.lt); have RW := Lib.hid (RW.out.keep hb); (try (have FS := Lib.hid (FS.out.keep hb))); (try (have R6 := Lib.hid (R6.out.keep hb))); have KJ := Lib.hid (show wi.cell? ⟨w.heap.size, 0, none⟩ = some (.slice Ai ni ci) ∧ wi.cell? ⟨w.heap.size, 1, none⟩ = some (.int .i64 caret) ∧ wi.cell? ⟨w.heap.size, 2, none⟩ = some (.string pend) ∧ wi.cell? ⟨w.heap.size, 3, none⟩ = some (.int .i64 mode) ∧ wi.cell? ⟨w.heap.size, 4, none⟩ = some (.bool conv) ∧ wi.cell? ⟨w.heap.size, 5, none⟩ = some (.slice Ab nb cb) ∧ wi.cell? ⟨w.heap.size, 6, none⟩ = some (.slice Af nf cf) ∧ wi.cell? ⟨w.heap.size, 7, none⟩ = some (.slice At nt ct) ∧ wi.cell? ⟨w.heap.size, 8, none⟩ = some (.int .i64 focus) ∧ wi.cell? ⟨w.heap.size, 9, none⟩ = some (.string prev) ∧ wi.cell? ⟨w.heap.size, 10, none⟩ = some (.string commit) ∧ wi.cell? ⟨g, 0, none⟩ = some (.slice zAi zni zci) ∧ wi.cell? ⟨g, 1, none⟩ = some (.int .i64 zcaret) ∧ wi.cell? ⟨g, 2, none⟩ = some (.string zpend) ∧ wi.cell? ⟨g, 3, none⟩ = some (.int .i64 zmode) ∧ wi.cell? ⟨g, 4, none⟩ = some (.bool zconv) ∧ wi.cell? ⟨g, 5, none⟩ = some (.slice zAb znb zcb) ∧ wi.cell? ⟨g, 6, none⟩ = some (.slice zAf znf zcf) ∧ wi.cell? ⟨g, 7, none⟩ = some (.slice zAt znt zct) ∧ wi.cell? ⟨g, 8, none⟩ = some (.int .i64 zfocus) ∧ wi.cell? ⟨g, 9, none⟩ = some (.string zprev) ∧ wi.cell? ⟨g, 10, none⟩ = some (.string zcommit) from ⟨K0.out.cell 0, K0.out.cell 1, K0.out.cell 2, K0.out.cell 3, K0.out.cell 4, K0.out.cell 5, K0.out.cell 6, K0.out.cell 7, K0.out.cell 8, K0.out.cell 9, K0.out.cell 10, KG.out.cell 0, KG.out.cell 1, KG.out.cell 2, KG.out.cell 3, KG.out.cell 4, KG.out.cell 5, KG.out.cell 6, KG.out.cell 7, KG.out.cell 8, KG.out.cell 9, KG.out.cell 10⟩); clear hb) | (go_at_call 13; (with_reducible refine (HW.out _ B.out).mono ?_); rintro e wl ⟨rfl, hb⟩; have B := Lib.hid (B.out.trans (hb.mono B.out.size)); have K0 := Lib.hid (K0.out.below hb K0.out.lt); have KG := Lib.hid (KG.out.below hb KG.out.lt); have RW := Lib.hid (RW.out.keep hb); (try (have FS := Lib.hid (FS.out.keep hb))); (try (have R6 := Lib.hid (R6.out.keep hb))); have KJ := Lib.hid (show wl.cell? ⟨w.heap.size, 0, none⟩ = some (.slice Ai ni ci) ∧ wl.cell? ⟨w.heap.size, 1, none⟩ = some (.int .i64 caret) ∧ wl.cell? ⟨w.heap.size, 2, none⟩ = some (.string pend) ∧ wl.cell? ⟨w.heap.size, 3, none⟩ = some (.int .i64 mode) ∧ wl.cell? ⟨w.heap.size, 4, none⟩ = some (.bool conv) ∧ wl.cell? ⟨w.heap.size, 5, none⟩ = some (.slice Ab nb cb) ∧ wl.cell? ⟨w.heap.size, 6, none⟩ = some (.slice Af nf cf) ∧ wl.cell? ⟨w.heap.size, 7, none⟩ = some (.slice At nt ct) ∧ wl.cell? ⟨w.heap.size, 8, none⟩ = some (.int .i64 focus) ∧ wl.cell? ⟨w.heap.size, 9, none⟩ = some (.string prev) ∧ wl.cell? ⟨w.heap.size, 10, none⟩ = some (.string commit) ∧ wl.cell? ⟨g, 0, none⟩ = some (.slice zAi zni zci) ∧ wl.cell? ⟨g, 1, none⟩ = some (.int .i64 zcaret) ∧ wl.cell? ⟨g, 2, none⟩ = some (.string zpend) ∧ wl.cell? ⟨g, 3, none⟩ = some (.int .i64 zmode) ∧ wl.cell? ⟨g, 4, none⟩ = some (.bool zconv) ∧ wl.cell? ⟨g, 5, none⟩ = some (.slice zAb znb zcb) ∧ wl.cell? ⟨g, 6, none⟩ = some (.slice zAf znf zcf) ∧ wl.cell? ⟨g, 7, none⟩ = some (.slice zAt znt zct) ∧ wl.cell? ⟨g, 8, none⟩ = some (.int .i64 zfocus) ∧ wl.cell? ⟨g, 9, none⟩ = some (.string zprev) ∧ wl.cell? ⟨g, 10, none⟩ = some (.string zcommit) from ⟨K0.out.cell 0, K0.out.cell 1, K0.out.cell 2, K0.out.cell 3, K0.out.cell 4, K0.out.cell 5, K0.out.cell 6, K0.out.cell 7, K0.out.cell 8, K0.out.cell 9, K0.out.cell 10, KG.out.cell 0, KG.out.cell 1, KG.out.cell 2, KG.out.cell 3, KG.out.cell 4, KG.out.cell 5, KG.out.cell 6, KG.out.cell 7, KG.out.cell 8, KG.out.cell 9, KG.out.cell 10⟩); clear hb))
        all_goals
          go_wp2_with fail
          go_ret
          exact ⟨rfl, B.out⟩
  · clear hs hq hm
    unfold Sp.cells
    go_enter Tryd.func4, Tryd.ntmps4
    go_wp2_with fail
    with_reducible refine (works_any _ (HT.out.keep ((Below.refl w.heap.size w).alloc (Nat.le_refl _) _))).mono ?_
    rintro e w1 ⟨rfl, hb1⟩
    go_wp2_with fail
    go_ret
    exact ⟨rfl, ((Below.refl w.heap.size w).alloc (Nat.le_refl _) _).trans (hb1.mono (by simp))⟩
end Go.Proofs.YtebjfigjfhghcaaDoor.Und
