/-
  The law UndoPops. Conditions: the steps can be read, their lengths are bounded; the tables lie. (Printed by gen/undlaws2.py.)
-/
import Derived.Test.YtebjfigjfhghcaaDoorUndAll
import Derived.Test.YtebjfigjfhghcaaDoorUndWorks
import Derived.Test.YtebjfigjfhghcaaDoorUndLit
import Derived.Test.YtebjfigjfhghcaaDoorUndMid
import Derived.Test.YtebjfigjfhghcaaDoorUndRef2
import Derived.Deep.RegionHeld3
import Derived.Deep.DeepCutAuto
namespace Go.Proofs.YtebjfigjfhghcaaDoor.Und
open Go.RowKit Wd Utf

/-- steps and a step, to be read -/
def QQ (w : World) (A : Option Addr) (n : Nat) (rs : List (Sp × Stp)) (r : Sp) (q : Stp) : Prop := RP w A n rs ∧ SpIn w r q
theorem QQ.keep {w w' : World} {A : Option Addr} {n : Nat} {rs : List (Sp × Stp)} {r : Sp} {q : Stp} (h : QQ w A n rs r q) (hb : Below w.heap.size w w') : QQ w' A n rs r q := ⟨h.1.keep hb, h.2.keep hb⟩
theorem QQ.rp {w : World} {A : Option Addr} {n : Nat} {rs : List (Sp × Stp)} {r : Sp} {q : Stp} (h : QQ w A n rs r q) : RP w A n rs := h.1
theorem QQ.sp {w : World} {A : Option Addr} {n : Nat} {rs : List (Sp × Stp)} {r : Sp} {q : Stp} (h : QQ w A n rs r q) : SpIn w r q := h.2
set_option maxRecDepth 100000 in
set_option maxHeartbeats 16000000 in
theorem pops_any (A : Option Addr) (n c : Nat) (ps : List (Sp × Stp)) (w : World) (hT : Tabs w) (hs : RP w A n ps) (hm : n ≤ 1048576) (hc : n ≤ c) :
    Calls Tryd.prog 5 #[.slice A n c] w fun e w' => e = .returned (.bool true) ∧ Below w.heap.size w w' := by
  have HT := Lib.hid hT
  by_cases h40 : n ≤ 40
  · have HAL := Lib.hid (fun (W : World) (hW : Below w.heap.size w W) => all_any A n c ps W (hs.keep hW) hm)
    have HPO := Lib.hid (fun (W : World) (hW : Below w.heap.size w W) => pop_any A n c ps W (hT.keep hW) (hs.keep hW) hm hc)
    have HW := Lib.hid (fun (W : World) (hW : Below w.heap.size w W) => works_any W (hT.keep hW))
    have HLN : Hid ((ps.map (·.2)).length = n) := Lib.hid (by rw [List.length_map, hs.len])
    have HYL : Hid ((popV (ps.map (·.2))).1.length ≤ n) := Lib.hid (by
      rw [← HLN.out]
      unfold popV
      split
      · exact Nat.zero_le _
      · split
        · rw [List.length_dropLast]; exact Nat.sub_le _ _
        · exact Nat.zero_le _)
    clear hT hs hc
    go_enter Tryd.func5, Tryd.ntmps5
    go_wp2_with fail
    with_reducible refine (HAL.out w (Below.refl _ _)).mono ?_
    rintro e w1 ⟨v1, rs1, rfl, hof, hm1, hb⟩
    obtain ⟨A1, c1, rfl, hrp1, hc1⟩ := hof.form
    have hl1 : rs1.length = n := by have := congrArg List.length hm1; rw [List.length_map, HLN.out] at this; exact this
    rw [hl1] at hrp1 hc1 ⊢
    have R1 := Lib.hid hrp1
    have HPR := Lib.hid (fun (W : World) (hW : Below w1.heap.size w1 W) => popR_any A1 n c1 rs1 W (hrp1.keep hW) hm hc1)
    have B1 := Lib.hid hb
    rw [hm1] at HPR
    generalize (ps.map (·.2)) = LL at HPO HPR HYL hm1 HLN HAL
    have M1 := Lib.hid hm1
    generalize popV LL = y at HPO HPR HYL
    obtain ⟨Y, xq, b⟩ := y
    simp only at HPO HPR HYL
    clear hof hm1 hb hrp1 hl1 hc1
    go_wp2_with fail
    with_reducible refine (HPO.out _ B1.out).mono ?_
    rintro e w2 ⟨v2, r2, rfl, rs2, hpl2, hmap2, hown2, hb⟩
    obtain ⟨A2, c2, rfl, hrp2, _⟩ := hpl2.form
    obtain ⟨lo, hlo⟩ : ∃ lo, w1.heap.size = lo := ⟨_, rfl⟩
    obtain ⟨hi, hhi⟩ : ∃ hi, w2.heap.size = hi := ⟨_, rfl⟩
    have PS := Lib.hid (show ∀ p ∈ r2 :: rs2.map (·.1), Sob w2 lo hi p from by
      intro p hp
      rw [← hlo]
      rcases List.mem_cons.1 hp with rfl | hp
      · exact Sob.of_own hown2 (Nat.le_of_eq hhi)
      · obtain ⟨x, hx, rfl⟩ := List.mem_map.1 hp
        exact Sob.of_own (hpl2.els x hx) (Nat.le_of_eq hhi))
    have HLO := Lib.hid hlo
    have HHI := Lib.hid hhi
    clear hlo hhi
    have P2 := Lib.hid hpl2
    have M2 := Lib.hid hmap2
    have D2 := Lib.hid (show QQ w2 A2 rs2.length rs2 r2 xq from And.intro hrp2 hown2.inn)
    have BX := Lib.hid hb
    have B := Lib.hid (B1.out.trans (hb.mono B1.out.size))
    have H2 : Hid (rs2.length ≤ 1048576) := Lib.hid (by have h := congrArg List.length hmap2; rw [List.length_map] at h; have := HYL.out; omega)
    clear hb hpl2 hmap2 hown2 hrp2 HPO
    obtain ⟨xAi, xni, xci, xcaret, xpend, xmode, xconv, xAb, xnb, xcb, xAf, xnf, xcf, xAt, xnt, xct, xfocus, xprev, xcommit⟩ := r2
    unfold Sp.cells
    simp only
    generalize hj : rs2.length = j2 at P2 D2 H2 ⊢
    have HJ := Lib.hid hj
    clear hj
    go_upto_region 5 with fail
    have BA := Lib.hid (((Below.refl _ w2).alloc (Nat.le_refl _) (.cells #[.slice A2 j2 c2] 46)).alloc (by simp) (.cells #[.slice xAi xni xci, .int .i64 xcaret, .string xpend, .int .i64 xmode, .bool xconv, .slice xAb xnb xcb, .slice xAf xnf xcf, .slice xAt xnt xct, .int .i64 xfocus, .string xprev, .string xcommit] 31))
    have K4 : Hid (Blk ((w2.alloc (.cells #[.slice A2 j2 c2] 46)).alloc (.cells #[.slice xAi xni xci, .int .i64 xcaret, .string xpend, .int .i64 xmode, .bool xconv, .slice xAb xnb xcb, .slice xAf xnf xcf, .slice xAt xnt xct, .int .i64 xfocus, .string xprev, .string xcommit] 31)) w2.heap.size 46 #[.slice A2 j2 c2]) := Lib.hid ((Blk.new w2 _ _).alloc _)
    have K5 : Hid (Blk ((w2.alloc (.cells #[.slice A2 j2 c2] 46)).alloc (.cells #[.slice xAi xni xci, .int .i64 xcaret, .string xpend, .int .i64 xmode, .bool xconv, .slice xAb xnb xcb, .slice xAf xnf xcf, .slice xAt xnt xct, .int .i64 xfocus, .string xprev, .string xcommit] 31)) (w2.heap.size + 1) 31 #[.slice xAi xni xci, .int .i64 xcaret, .string xpend, .int .i64 xmode, .bool xconv, .slice xAb xnb xcb, .slice xAf xnf xcf, .slice xAt xnt xct, .int .i64 xfocus, .string xprev, .string xcommit]) := Lib.hid (by have h := Blk.new (w2.alloc (.cells #[.slice A2 j2 c2] 46)) 31 #[.slice xAi xni xci, .int .i64 xcaret, .string xpend, .int .i64 xmode, .bool xconv, .slice xAb xnb xcb, .slice xAf xnf xcf, .slice xAt xnt xct, .int .i64 xfocus, .string xprev, .string xcommit]; rwa [show (w2.alloc (.cells #[.slice A2 j2 c2] 46)).heap.size = w2.heap.size + 1 by simp] at h)
    have D2 := Lib.hid (D2.out.keep BA.out)
    have P2 := Lib.hid (P2.out.keep BA.out)
    have PS := Lib.hid (show ∀ p ∈ (⟨xAi, xni, xci, xcaret, xpend, xmode, xconv, xAb, xnb, xcb, xAf, xnf, xcf, xAt, xnt, xct, xfocus, xprev, xcommit⟩ : Sp) :: rs2.map (·.1), Sob ((w2.alloc (.cells #[.slice A2 j2 c2] 46)).alloc (.cells #[.slice xAi xni xci, .int .i64 xcaret, .string xpend, .int .i64 xmode, .bool xconv, .slice xAb xnb xcb, .slice xAf xnf xcf, .slice xAt xnt xct, .int .i64 xfocus, .string xprev, .string xcommit] 31)) lo hi p from fun p hp => (PS.out p hp).keep BA.out)
    have BX := Lib.hid (BX.out.trans (BA.out.mono BX.out.size))
    have B := Lib.hid (B.out.trans (BA.out.mono B.out.size))
    clear BA
    generalize ((w2.alloc (.cells #[.slice A2 j2 c2] 46)).alloc (.cells #[.slice xAi xni xci, .int .i64 xcaret, .string xpend, .int .i64 xmode, .bool xconv, .slice xAb xnb xcb, .slice xAf xnf xcf, .slice xAt xnt xct, .int .i64 xfocus, .string xprev, .string xcommit] 31)) = W3 at D2 P2 PS BX B K4 K5 ⊢
    go_wp2_with fail
    with_reducible refine (HPR.out _ BX.out).mono ?_
    rintro e w4 ⟨v4, r4, rfl, ⟨A4, m4, c4, rs4, rfl, hrp4, hmap4⟩, hin4, hb⟩
    have D4 := Lib.hid (show QQ w4 A4 m4 rs4 r4 xq from And.intro hrp4 hin4)
    have M4 := Lib.hid hmap4
    have D2 := Lib.hid (D2.out.keep hb)
    have P2 := Lib.hid (P2.out.keep hb)
    have PS := Lib.hid (fun p hp => (PS.out p hp).keep hb)
    have K4 := Lib.hid (K4.out.below hb K4.out.lt)
    have K5 := Lib.hid (K5.out.below hb K5.out.lt)
    have BX := Lib.hid (BX.out.trans (hb.mono BX.out.size))
    have B := Lib.hid (B.out.trans (hb.mono B.out.size))
    clear hb hrp4 hmap4 hin4 HPR
    obtain ⟨zAi, zni, zci, zcaret, zpend, zmode, zconv, zAb, znb, zcb, zAf, znf, zcf, zAt, znt, zct, zfocus, zprev, zcommit⟩ := r4
    unfold Sp.cells
    simp only
    go_upto_region 6 with fail
    have BA := Lib.hid ((Below.refl _ w4).alloc (Nat.le_refl _) (.cells #[.slice zAi zni zci, .int .i64 zcaret, .string zpend, .int .i64 zmode, .bool zconv, .slice zAb znb zcb, .slice zAf znf zcf, .slice zAt znt zct, .int .i64 zfocus, .string zprev, .string zcommit] 39))
    have K8 : Hid (Blk (w4.alloc (.cells #[.slice zAi zni zci, .int .i64 zcaret, .string zpend, .int .i64 zmode, .bool zconv, .slice zAb znb zcb, .slice zAf znf zcf, .slice zAt znt zct, .int .i64 zfocus, .string zprev, .string zcommit] 39)) w4.heap.size 39 #[.slice zAi zni zci, .int .i64 zcaret, .string zpend, .int .i64 zmode, .bool zconv, .slice zAb znb zcb, .slice zAf znf zcf, .slice zAt znt zct, .int .i64 zfocus, .string zprev, .string zcommit]) := Lib.hid (Blk.new w4 _ _)
    have D4 := Lib.hid (D4.out.keep BA.out)
    have D2 := Lib.hid (D2.out.keep BA.out)
    have P2 := Lib.hid (P2.out.keep BA.out)
    have PS := Lib.hid (fun p hp => (PS.out p hp).keep BA.out)
    have K4 := Lib.hid (K4.out.below BA.out K4.out.lt)
    have K5 := Lib.hid (K5.out.below BA.out K5.out.lt)
    have BX := Lib.hid (BX.out.trans (BA.out.mono BX.out.size))
    have B := Lib.hid (B.out.trans (BA.out.mono B.out.size))
    clear BA
    generalize (w4.alloc (.cells #[.slice zAi zni zci, .int .i64 zcaret, .string zpend, .int .i64 zmode, .bool zconv, .slice zAb znb zcb, .slice zAf znf zcf, .slice zAt znt zct, .int .i64 zfocus, .string zprev, .string zcommit] 39)) = W5 at D2 D4 P2 PS BX B K4 K5 K8 ⊢
    have hbb : (b != b) = false := by simp
    go_cut [47] (fun s47 wx => s47 = .bool false ∧ Below W5.heap.size W5 wx)
    case first =>
      have BX := Lib.hid ((Below.refl W5.heap.size W5).drew)
      have B := Lib.hid B.out.drew
      have K4 := Lib.hid (K4.out.drew)
      have K5 := Lib.hid (K5.out.drew)
      have K8 := Lib.hid (K8.out.drew)
      have D4 := Lib.hid (D4.out.keep (Below.refl _ _).drew)
      have D2 := Lib.hid (D2.out.keep (Below.refl _ _).drew)
      have KD := Lib.hid (show W5.drew.cell? ⟨w2.heap.size, 0, none⟩ = some (.slice A2 j2 c2) ∧ W5.drew.cell? ⟨(w2.heap.size + 1), 0, none⟩ = some (.slice xAi xni xci) ∧ W5.drew.cell? ⟨(w2.heap.size + 1), 1, none⟩ = some (.int .i64 xcaret) ∧ W5.drew.cell? ⟨(w2.heap.size + 1), 2, none⟩ = some (.string xpend) ∧ W5.drew.cell? ⟨(w2.heap.size + 1), 3, none⟩ = some (.int .i64 xmode) ∧ W5.drew.cell? ⟨(w2.heap.size + 1), 4, none⟩ = some (.bool xconv) ∧ W5.drew.cell? ⟨(w2.heap.size + 1), 5, none⟩ = some (.slice xAb xnb xcb) ∧ W5.drew.cell? ⟨(w2.heap.size + 1), 6, none⟩ = some (.slice xAf xnf xcf) ∧ W5.drew.cell? ⟨(w2.heap.size + 1), 7, none⟩ = some (.slice xAt xnt xct) ∧ W5.drew.cell? ⟨(w2.heap.size + 1), 8, none⟩ = some (.int .i64 xfocus) ∧ W5.drew.cell? ⟨(w2.heap.size + 1), 9, none⟩ = some (.string xprev) ∧ W5.drew.cell? ⟨(w2.heap.size + 1), 10, none⟩ = some (.string xcommit) ∧ W5.drew.cell? ⟨w4.heap.size, 0, none⟩ = some (.slice zAi zni zci) ∧ W5.drew.cell? ⟨w4.heap.size, 1, none⟩ = some (.int .i64 zcaret) ∧ W5.drew.cell? ⟨w4.heap.size, 2, none⟩ = some (.string zpend) ∧ W5.drew.cell? ⟨w4.heap.size, 3, none⟩ = some (.int .i64 zmode) ∧ W5.drew.cell? ⟨w4.heap.size, 4, none⟩ = some (.bool zconv) ∧ W5.drew.cell? ⟨w4.heap.size, 5, none⟩ = some (.slice zAb znb zcb) ∧ W5.drew.cell? ⟨w4.heap.size, 6, none⟩ = some (.slice zAf znf zcf) ∧ W5.drew.cell? ⟨w4.heap.size, 7, none⟩ = some (.slice zAt znt zct) ∧ W5.drew.cell? ⟨w4.heap.size, 8, none⟩ = some (.int .i64 zfocus) ∧ W5.drew.cell? ⟨w4.heap.size, 9, none⟩ = some (.string zprev) ∧ W5.drew.cell? ⟨w4.heap.size, 10, none⟩ = some (.string zcommit) from ⟨K4.out.cell 0, K5.out.cell 0, K5.out.cell 1, K5.out.cell 2, K5.out.cell 3, K5.out.cell 4, K5.out.cell 5, K5.out.cell 6, K5.out.cell 7, K5.out.cell 8, K5.out.cell 9, K5.out.cell 10, K8.out.cell 0, K8.out.cell 1, K8.out.cell 2, K8.out.cell 3, K8.out.cell 4, K8.out.cell 5, K8.out.cell 6, K8.out.cell 7, K8.out.cell 8, K8.out.cell 9, K8.out.cell 10⟩)
      go_region_held3 (fun w' => w'.cell? ⟨w2.heap.size, 0, none⟩ = some (.slice A2 j2 c2) ∧ w'.cell? ⟨(w2.heap.size + 1), 0, none⟩ = some (.slice xAi xni xci) ∧ w'.cell? ⟨(w2.heap.size + 1), 1, none⟩ = some (.int .i64 xcaret) ∧ w'.cell? ⟨(w2.heap.size + 1), 2, none⟩ = some (.string xpend) ∧ w'.cell? ⟨(w2.heap.size + 1), 3, none⟩ = some (.int .i64 xmode) ∧ w'.cell? ⟨(w2.heap.size + 1), 4, none⟩ = some (.bool xconv) ∧ w'.cell? ⟨(w2.heap.size + 1), 5, none⟩ = some (.slice xAb xnb xcb) ∧ w'.cell? ⟨(w2.heap.size + 1), 6, none⟩ = some (.slice xAf xnf xcf) ∧ w'.cell? ⟨(w2.heap.size + 1), 7, none⟩ = some (.slice xAt xnt xct) ∧ w'.cell? ⟨(w2.heap.size + 1), 8, none⟩ = some (.int .i64 xfocus) ∧ w'.cell? ⟨(w2.heap.size + 1), 9, none⟩ = some (.string xprev) ∧ w'.cell? ⟨(w2.heap.size + 1), 10, none⟩ = some (.string xcommit) ∧ w'.cell? ⟨w4.heap.size, 0, none⟩ = some (.slice zAi zni zci) ∧ w'.cell? ⟨w4.heap.size, 1, none⟩ = some (.int .i64 zcaret) ∧ w'.cell? ⟨w4.heap.size, 2, none⟩ = some (.string zpend) ∧ w'.cell? ⟨w4.heap.size, 3, none⟩ = some (.int .i64 zmode) ∧ w'.cell? ⟨w4.heap.size, 4, none⟩ = some (.bool zconv) ∧ w'.cell? ⟨w4.heap.size, 5, none⟩ = some (.slice zAb znb zcb) ∧ w'.cell? ⟨w4.heap.size, 6, none⟩ = some (.slice zAf znf zcf) ∧ w'.cell? ⟨w4.heap.size, 7, none⟩ = some (.slice zAt znt zct) ∧ w'.cell? ⟨w4.heap.size, 8, none⟩ = some (.int .i64 zfocus) ∧ w'.cell? ⟨w4.heap.size, 9, none⟩ = some (.string zprev) ∧ w'.cell? ⟨w4.heap.size, 10, none⟩ = some (.string zcommit)) (first | with_reducible exact KD.out | with_reducible exact KJ.out | go_keep) (first | (go_at_call 16; (with_reducible refine (all_any A2 j2 c2 rs2 _ D2.out.rp H2.out).mono ?_); rintro e wj ⟨v6, rs6, rfl, hof, hm6, hb⟩; obtain ⟨A6, c6, rfl, hrp6, _⟩ := hof.form; have B := Lib.hid (B.out.trans (hb.mono B.out.size)); have BX := Lib.hid (BX.out.trans (hb.mono BX.out.size)); have K4 := Lib.hid (K4.out.below hb K4.out.lt); have K5 := Lib.hid (K5.out.below hb K5.out.lt); have K8 := Lib.hid (K8.out.below hb K8.out.lt); have D4 := Lib.hid (D4.out.keep hb); have D2 := Lib.hid (D2.out.keep hb); (try (have FX := Lib.hid (FX.out.keep hb))); (try (have R6 := Lib.hid (R6.out.keep hb))); have KJ := Lib.hid (show wj.cell? ⟨w2.heap.size, 0, none⟩ = some (.slice A2 j2 c2) ∧ wj.cell? ⟨(w2.heap.size + 1), 0, none⟩ = some (.slice xAi xni xci) ∧ wj.cell? ⟨(w2.heap.size + 1), 1, none⟩ = some (.int .i64 xcaret) ∧ wj.cell? ⟨(w2.heap.size + 1), 2, none⟩ = some (.string xpend) ∧ wj.cell? ⟨(w2.heap.size + 1), 3, none⟩ = some (.int .i64 xmode) ∧ wj.cell? ⟨(w2.heap.size + 1), 4, none⟩ = some (.bool xconv) ∧ wj.cell? ⟨(w2.heap.size + 1), 5, none⟩ = some (.slice xAb xnb xcb) ∧ wj.cell? ⟨(w2.heap.size + 1), 6, none⟩ = some (.slice xAf xnf xcf) ∧ wj.cell? ⟨(w2.heap.size + 1), 7, none⟩ = some (.slice xAt xnt xct) ∧ wj.cell? ⟨(w2.heap.size + 1), 8, none⟩ = some (.int .i64 xfocus) ∧ wj.cell? ⟨(w2.heap.size + 1), 9, none⟩ = some (.string xprev) ∧ wj.cell? ⟨(w2.heap.size + 1), 10, none⟩ = some (.string xcommit) ∧ wj.cell? ⟨w4.heap.size, 0, none⟩ = some (.slice zAi zni zci) ∧ wj.cell? ⟨w4.heap.size, 1, none⟩ = some (.int .i64 zcaret) ∧ wj.cell? ⟨w4.heap.size, 2, none⟩ = some (.string zpend) ∧ wj.cell? ⟨w4.heap.size, 3, none⟩ = some (.int .i64 zmode) ∧ wj.cell? ⟨w4.heap.size, 4, none⟩ = some (.bool zconv) ∧ wj.cell? ⟨w4.heap.size, 5, none⟩ = some (.slice zAb znb zcb) ∧ wj.cell? ⟨w4.heap.size, 6, none⟩ = some (.slice zAf znf zcf) ∧ wj.cell? ⟨w4.heap.size, 7, none⟩ = some (.slice zAt znt zct) ∧ wj.cell? ⟨w4.heap.size, 8, none⟩ = some (.int .i64 zfocus) ∧ wj.cell? ⟨w4.heap.size, 9, none⟩ = some (.string zprev) ∧ wj.cell? ⟨w4.heap.size, 10, none⟩ = some (.string zcommit) from ⟨K4.out.cell 0, K5.out.cell 0, K5.out.cell 1, K5.out.cell 2, K5.out.cell 3, K5.out.cell 4, K5.out.cell 5, K5.out.cell 6, K5.out.cell 7, K5.out.cell 8, K5.out.cell 9, K5.out.cell 10, K8.out.cell 0, K8.out.cell 1, K8.out.cell 2, K8.out.cell 3, K8.out.cell 4, K8.out.cell 5, K8.out.cell 6, K8.out.cell 7, K8.out.cell 8, K8.out.cell 9, K8.out.cell 10⟩); clear hb; have R6 := Lib.hid hrp6; have M6 := Lib.hid (hm6.trans M2.out); clear hof hrp6 hm6) | (go_at_call 17; (with_reducible refine (sameAll_any _ _ _ _ _ _ rs6 rs4 _ R6.out D4.out.rp (M6.out.trans M4.out.symm) (by have h3 := congrArg List.length (M6.out.trans M2.out.symm); rw [List.length_map, List.length_map] at h3; have := H2.out; have := HJ.out; omega)).mono ?_); rintro e wk ⟨rfl, hb⟩; have B := Lib.hid (B.out.trans (hb.mono B.out.size)); have BX := Lib.hid (BX.out.trans (hb.mono BX.out.size)); have K4 := Lib.hid (K4.out.below hb K4.out.lt); have K5 := Lib.hid (K5.out.below hb K5.out.lt); have K8 := Lib.hid (K8.out.below hb K8.out.lt); have D4 := Lib.hid (D4.out.keep hb); have D2 := Lib.hid (D2.out.keep hb); (try (have FX := Lib.hid (FX.out.keep hb))); (try (have R6 := Lib.hid (R6.out.keep hb))); have KJ := Lib.hid (show wk.cell? ⟨w2.heap.size, 0, none⟩ = some (.slice A2 j2 c2) ∧ wk.cell? ⟨(w2.heap.size + 1), 0, none⟩ = some (.slice xAi xni xci) ∧ wk.cell? ⟨(w2.heap.size + 1), 1, none⟩ = some (.int .i64 xcaret) ∧ wk.cell? ⟨(w2.heap.size + 1), 2, none⟩ = some (.string xpend) ∧ wk.cell? ⟨(w2.heap.size + 1), 3, none⟩ = some (.int .i64 xmode) ∧ wk.cell? ⟨(w2.heap.size + 1), 4, none⟩ = some (.bool xconv) ∧ wk.cell? ⟨(w2.heap.size + 1), 5, none⟩ = some (.slice xAb xnb xcb) ∧ wk.cell? ⟨(w2.heap.size + 1), 6, none⟩ = some (.slice xAf xnf xcf) ∧ wk.cell? ⟨(w2.heap.size + 1), 7, none⟩ = some (.slice xAt xnt xct) ∧ wk.cell? ⟨(w2.heap.size + 1), 8, none⟩ = some (.int .i64 xfocus) ∧ wk.cell? ⟨(w2.heap.size + 1), 9, none⟩ = some (.string xprev) ∧ wk.cell? ⟨(w2.heap.size + 1), 10, none⟩ = some (.string xcommit) ∧ wk.cell? ⟨w4.heap.size, 0, none⟩ = some (.slice zAi zni zci) ∧ wk.cell? ⟨w4.heap.size, 1, none⟩ = some (.int .i64 zcaret) ∧ wk.cell? ⟨w4.heap.size, 2, none⟩ = some (.string zpend) ∧ wk.cell? ⟨w4.heap.size, 3, none⟩ = some (.int .i64 zmode) ∧ wk.cell? ⟨w4.heap.size, 4, none⟩ = some (.bool zconv) ∧ wk.cell? ⟨w4.heap.size, 5, none⟩ = some (.slice zAb znb zcb) ∧ wk.cell? ⟨w4.heap.size, 6, none⟩ = some (.slice zAf znf zcf) ∧ wk.cell? ⟨w4.heap.size, 7, none⟩ = some (.slice zAt znt zct) ∧ wk.cell? ⟨w4.heap.size, 8, none⟩ = some (.int .i64 zfocus) ∧ wk.cell? ⟨w4.heap.size, 9, none⟩ = some (.string zprev) ∧ wk.cell? ⟨w4.heap.size, 10, none⟩ = some (.string zcommit) from ⟨K4.out.cell 0, K5.out.cell 0, K5.out.cell 1, K5.out.cell 2, K5.out.cell 3, K5.out.cell 4, K5.out.cell 5, K5.out.cell 6, K5.out.cell 7, K5.out.cell 8, K5.out.cell 9, K5.out.cell 10, K8.out.cell 0, K8.out.cell 1, K8.out.cell 2, K8.out.cell 3, K8.out.cell 4, K8.out.cell 5, K8.out.cell 6, K8.out.cell 7, K8.out.cell 8, K8.out.cell 9, K8.out.cell 10⟩); clear hb) | (go_at_call 11; (with_reducible refine (given40_l ⟨xAi, xni, xci, xcaret, xpend, xmode, xconv, xAb, xnb, xcb, xAf, xnf, xcf, xAt, xnt, xct, xfocus, xprev, xcommit⟩ xq _ D2.out.sp).mono ?_); rintro e wh ⟨rx, rfl, hfr, hb⟩; have B := Lib.hid (B.out.trans (hb.mono B.out.size)); have BX := Lib.hid (BX.out.trans (hb.mono BX.out.size)); have K4 := Lib.hid (K4.out.below hb K4.out.lt); have K5 := Lib.hid (K5.out.below hb K5.out.lt); have K8 := Lib.hid (K8.out.below hb K8.out.lt); have D4 := Lib.hid (D4.out.keep hb); have D2 := Lib.hid (D2.out.keep hb); (try (have FX := Lib.hid (FX.out.keep hb))); (try (have R6 := Lib.hid (R6.out.keep hb))); have KJ := Lib.hid (show wh.cell? ⟨w2.heap.size, 0, none⟩ = some (.slice A2 j2 c2) ∧ wh.cell? ⟨(w2.heap.size + 1), 0, none⟩ = some (.slice xAi xni xci) ∧ wh.cell? ⟨(w2.heap.size + 1), 1, none⟩ = some (.int .i64 xcaret) ∧ wh.cell? ⟨(w2.heap.size + 1), 2, none⟩ = some (.string xpend) ∧ wh.cell? ⟨(w2.heap.size + 1), 3, none⟩ = some (.int .i64 xmode) ∧ wh.cell? ⟨(w2.heap.size + 1), 4, none⟩ = some (.bool xconv) ∧ wh.cell? ⟨(w2.heap.size + 1), 5, none⟩ = some (.slice xAb xnb xcb) ∧ wh.cell? ⟨(w2.heap.size + 1), 6, none⟩ = some (.slice xAf xnf xcf) ∧ wh.cell? ⟨(w2.heap.size + 1), 7, none⟩ = some (.slice xAt xnt xct) ∧ wh.cell? ⟨(w2.heap.size + 1), 8, none⟩ = some (.int .i64 xfocus) ∧ wh.cell? ⟨(w2.heap.size + 1), 9, none⟩ = some (.string xprev) ∧ wh.cell? ⟨(w2.heap.size + 1), 10, none⟩ = some (.string xcommit) ∧ wh.cell? ⟨w4.heap.size, 0, none⟩ = some (.slice zAi zni zci) ∧ wh.cell? ⟨w4.heap.size, 1, none⟩ = some (.int .i64 zcaret) ∧ wh.cell? ⟨w4.heap.size, 2, none⟩ = some (.string zpend) ∧ wh.cell? ⟨w4.heap.size, 3, none⟩ = some (.int .i64 zmode) ∧ wh.cell? ⟨w4.heap.size, 4, none⟩ = some (.bool zconv) ∧ wh.cell? ⟨w4.heap.size, 5, none⟩ = some (.slice zAb znb zcb) ∧ wh.cell? ⟨w4.heap.size, 6, none⟩ = some (.slice zAf znf zcf) ∧ wh.cell? ⟨w4.heap.size, 7, none⟩ = some (.slice zAt znt zct) ∧ wh.cell? ⟨w4.heap.size, 8, none⟩ = some (.int .i64 zfocus) ∧ wh.cell? ⟨w4.heap.size, 9, none⟩ = some (.string zprev) ∧ wh.cell? ⟨w4.heap.size, 10, none⟩ = some (.string zcommit) from ⟨K4.out.cell 0, K5.out.cell 0, K5.out.cell 1, K5.out.cell 2, K5.out.cell 3, K5.out.cell 4, K5.out.cell 5, K5.out.cell 6, K5.out.cell 7, K5.out.cell 8, K5.out.cell 9, K5.out.cell 10, K8.out.cell 0, K8.out.cell 1, K8.out.cell 2, K8.out.cell 3, K8.out.cell 4, K8.out.cell 5, K8.out.cell 6, K8.out.cell 7, K8.out.cell 8, K8.out.cell 9, K8.out.cell 10⟩); clear hb; have FX := Lib.hid hfr.inn; clear hfr) | (go_at_call 19; (with_reducible refine (same_l rx ⟨zAi, zni, zci, zcaret, zpend, zmode, zconv, zAb, znb, zcb, zAf, znf, zcf, zAt, znt, zct, zfocus, zprev, zcommit⟩ xq _ FX.out D4.out.sp).mono ?_); rintro e wi ⟨rfl, hb⟩; have B := Lib.hid (B.out.trans (hb.mono B.out.size)); have BX := Lib.hid (BX.out.trans (hb.mono BX.out.size)); have K4 := Lib.hid (K4.out.below hb K4.out.lt); have K5 := Lib.hid (K5.out.below hb K5.out.lt); have K8 := Lib.hid (K8.out.below hb K8.out.lt); have D4 := Lib.hid (D4.out.keep hb); have D2 := Lib.hid (D2.out.keep hb); (try (have FX := Lib.hid (FX.out.keep hb))); (try (have R6 := Lib.hid (R6.out.keep hb))); have KJ := Lib.hid (show wi.cell? ⟨w2.heap.size, 0, none⟩ = some (.slice A2 j2 c2) ∧ wi.cell? ⟨(w2.heap.size + 1), 0, none⟩ = some (.slice xAi xni xci) ∧ wi.cell? ⟨(w2.heap.size + 1), 1, none⟩ = some (.int .i64 xcaret) ∧ wi.cell? ⟨(w2.heap.size + 1), 2, none⟩ = some (.string xpend) ∧ wi.cell? ⟨(w2.heap.size + 1), 3, none⟩ = some (.int .i64 xmode) ∧ wi.cell? ⟨(w2.heap.size + 1), 4, none⟩ = some (.bool xconv) ∧ wi.cell? ⟨(w2.heap.size + 1), 5, none⟩ = some (.slice xAb xnb xcb) ∧ wi.cell? ⟨(w2.heap.size + 1), 6, none⟩ = some (.slice xAf xnf xcf) ∧ wi.cell? ⟨(w2.heap.size + 1), 7, none⟩ = some (.slice xAt xnt xct) ∧ wi.cell? ⟨(w2.heap.size + 1), 8, none⟩ = some (.int .i64 xfocus) ∧ wi.cell? ⟨(w2.heap.size + 1), 9, none⟩ = some (.string xprev) ∧ wi.cell? ⟨(w2.heap.size + 1), 10, none⟩ = some (.string xcommit) ∧ wi.cell? ⟨w4.heap.size, 0, none⟩ = some (.slice zAi zni zci) ∧ wi.cell? ⟨w4.heap.size, 1, none⟩ = some (.int .i64 zcaret) ∧ wi.cell? ⟨w4.heap.size, 2, none⟩ = some (.string zpend) ∧ wi.cell? ⟨w4.heap.size, 3, none⟩ = some (.int .i64 zmode) ∧ wi.cell? ⟨w4.heap.size, 4, none⟩ = some (.bool zconv) ∧ wi.cell? ⟨w4.heap.size, 5, none⟩ = some (.slice zAb znb zcb) ∧ wi.cell? ⟨w4.heap.size, 6, none⟩ = some (.slice zAf znf zcf) ∧ wi.cell? ⟨w4.heap.size, 7, none⟩ = some (.slice zAt znt zct) ∧ wi.cell? ⟨w4.heap.size, 8, none⟩ = some (.int .i64 zfocus) ∧ wi.cell? ⟨w4.heap.size, 9, none⟩ = some (.string zprev) ∧ wi.cell? ⟨w4.heap.size, 10, none⟩ = some (.string zcommit) from ⟨K4.out.cell 0, K5.out.cell 0, K5.out.cell 1, K5.out.cell 2, K5.out.cell 3, K5.out.cell 4, K5.out.cell 5, K5.out.cell 6, K5.out.cell 7, K5.out.cell 8, K5.out.cell 9, K5.out.cell 10, K8.out.cell 0, K8.out.cell 1, K8.out.cell 2, K8.out.cell 3, K8.out.cell 4, K8.out.cell 5, K8.out.cell 6, K8.out.cell 7, K8.out.cell 8, K8.out.cell 9, K8.out.cell 10⟩); clear hb))
      all_goals
        go_wp2_with fail
        go_meet
        exact ⟨rfl, BX.out⟩
    obtain ⟨rfl, hb⟩ := hcut
    rename World => wx
    have D2 := Lib.hid (D2.out.keep hb)
    have P2 := Lib.hid (P2.out.keep hb)
    have PS := Lib.hid (fun p hp => (PS.out p hp).keep hb)
    have K4 := Lib.hid (K4.out.below hb K4.out.lt)
    have K5 := Lib.hid (K5.out.below hb K5.out.lt)
    have BX := Lib.hid (BX.out.trans (hb.mono BX.out.size))
    have B := Lib.hid (B.out.trans (hb.mono B.out.size))
    clear hb D4 M4 K8 hbb
    have hle : hi ≤ wx.heap.size := by have := K4.out.lt; have := HHI.out; omega
    have hlx : lo ≤ wx.heap.size := by have := BX.out.size; have := HLO.out; omega
    have HS0 := Lib.hid (spoil_any lo hi ((⟨xAi, xni, xci, xcaret, xpend, xmode, xconv, xAb, xnb, xcb, xAf, xnf, xcf, xAt, xnt, xct, xfocus, xprev, xcommit⟩ : Sp) :: rs2.map (·.1)) ⟨xAi, xni, xci, xcaret, xpend, xmode, xconv, xAb, xnb, xcb, xAf, xnf, xcf, xAt, xnt, xct, xfocus, xprev, xcommit⟩ (List.mem_cons_self) wx PS.out hle)
    unfold Sp.cells at HS0
    simp only at HS0
    have k0 : wx.cell? ⟨(w2.heap.size + 1), 0, none⟩ = some (.slice xAi xni xci) := K5.out.cell 0
    have k1 : wx.cell? ⟨(w2.heap.size + 1), 1, none⟩ = some (.int .i64 xcaret) := K5.out.cell 1
    have k2 : wx.cell? ⟨(w2.heap.size + 1), 2, none⟩ = some (.string xpend) := K5.out.cell 2
    have k3 : wx.cell? ⟨(w2.heap.size + 1), 3, none⟩ = some (.int .i64 xmode) := K5.out.cell 3
    have k4 : wx.cell? ⟨(w2.heap.size + 1), 4, none⟩ = some (.bool xconv) := K5.out.cell 4
    have k5 : wx.cell? ⟨(w2.heap.size + 1), 5, none⟩ = some (.slice xAb xnb xcb) := K5.out.cell 5
    have k6 : wx.cell? ⟨(w2.heap.size + 1), 6, none⟩ = some (.slice xAf xnf xcf) := K5.out.cell 6
    have k7 : wx.cell? ⟨(w2.heap.size + 1), 7, none⟩ = some (.slice xAt xnt xct) := K5.out.cell 7
    have k8 : wx.cell? ⟨(w2.heap.size + 1), 8, none⟩ = some (.int .i64 xfocus) := K5.out.cell 8
    have k9 : wx.cell? ⟨(w2.heap.size + 1), 9, none⟩ = some (.string xprev) := K5.out.cell 9
    have k10 : wx.cell? ⟨(w2.heap.size + 1), 10, none⟩ = some (.string xcommit) := K5.out.cell 10
    go_wp2_with fail
    with_reducible refine (HS0.out).mono ?_
    rintro e w7 ⟨rfl, hP7, hM7⟩
    have PS := Lib.hid hP7
    have MM := Lib.hid hM7
    clear hP7 hM7 k0 k1 k2 k3 k4 k5 k6 k7 k8 k9 k10 HS0
    go_wp2_with fail
    go_loopw [10] (fun i wr => ∃ k : Nat, k ≤ j2 ∧ i = .int .i64 (k : Int) ∧ (∀ p ∈ (⟨xAi, xni, xci, xcaret, xpend, xmode, xconv, xAb, xnb, xcb, xAf, xnf, xcf, xAt, xnt, xct, xfocus, xprev, xcommit⟩ : Sp) :: rs2.map (·.1), Sob wr lo hi p) ∧ Mid lo hi wx wr) (fun i _ => j2 - (intOf i).toNat)
    case atStart => exact ⟨0, Nat.zero_le _, rfl, PS.out, MM.out⟩
    case round =>
      obtain ⟨k, hk, rfl, h1, h2⟩ := hrel
      clear PS MM
      rename World => wr
      have PS := Lib.hid h1
      have MM := Lib.hid h2
      have hsz := h2.size
      clear h1 h2
      have p0 : wr.cell? ⟨w2.heap.size, 0, none⟩ = some (.slice A2 j2 c2) := (Blk.mid K4.out MM.out (Nat.le_of_eq HHI.out.symm)).cell 0
      have hjb := H2.out
      by_cases hlt : k < j2
      · obtain ⟨ad, ⟨rk, qk⟩, rfl, hp, hcur, hcw⟩ := P2.out.at_ hlt
        obtain ⟨c0, c1', c2', c3', c4', c5', c6', c7', c8', c9', c10'⟩ := hcw wr (MM.out.step _ hcur)
        have HS := Lib.hid (spoil_any lo hi ((⟨xAi, xni, xci, xcaret, xpend, xmode, xconv, xAb, xnb, xcb, xAf, xnf, xcf, xAt, xnt, xct, xfocus, xprev, xcommit⟩ : Sp) :: rs2.map (·.1)) rk (List.mem_cons_of_mem _ (List.mem_map.2 ⟨_, List.mem_of_getElem? hp, rfl⟩)) wr PS.out (Nat.le_trans hle hsz))
        clear hp hcur hcw
        obtain ⟨yAi, yni, yci, ycaret, ypend, ymode, yconv, yAb, ynb, ycb, yAf, ynf, ycf, yAt, ynt, yct, yfocus, yprev, ycommit⟩ := rk
        unfold Sp.cells at HS
        simp only at HS c0 c1' c2' c3' c4' c5' c6' c7' c8' c9' c10'
        go_wp2_with fail
        with_reducible refine (HS.out).mono ?_
        rintro e wn ⟨rfl, hPn, hMn⟩
        have PN := Lib.hid hPn
        have MN := Lib.hid (MM.out.trans hMn)
        clear hPn hMn
        go_wp2_with fail
        go_roundw
        case rel => exact ⟨k + 1, by omega, by go_num, PN.out, MN.out⟩
        case measure => simp [intOf]; omega
      · have hkn : k = j2 := by omega
        subst k
        have BL := MM.out.below hlx
        have B2 := Lib.hid (B.out.trans (BL.mono (by rw [← HLO.out]; exact B1.out.size)))
        have R1 := Lib.hid (R1.out.keep (BX.out.trans (by rw [HLO.out]; exact BL)))
        clear PS MM BL
        go_wp2_with fail
        with_reducible refine (HAL.out _ B2.out).mono ?_
        rintro e w8 ⟨v8, rs8, rfl, hof, hm8, hb⟩
        obtain ⟨A8, c8, rfl, hrp8, _⟩ := hof.form
        have R1 := Lib.hid (R1.out.keep hb)
        have B2 := Lib.hid (B2.out.trans (hb.mono B2.out.size))
        have R8 := Lib.hid hrp8
        have hm8' := hm8.trans M1.out.symm
        have hl8 : rs8.length ≤ 1048576 := by have h := congrArg List.length hm8'; rw [List.length_map, List.length_map, R1.out.len] at h; omega
        clear hof hm8 hb hrp8
        go_wp2_with fail
        with_reducible refine (sameAll_any _ _ _ _ _ _ rs8 rs1 _ R8.out R1.out hm8' hl8).mono ?_
        rintro e w9 ⟨rfl, hb⟩
        have B2 := Lib.hid (B2.out.trans (hb.mono B2.out.size))
        clear hb
        go_wp2_with fail
        with_reducible refine (HW.out _ B2.out).mono ?_
        rintro e wz ⟨rfl, hb⟩
        have B2 := Lib.hid (B2.out.trans (hb.mono B2.out.size))
        go_wp2_with fail
        go_ret
        exact ⟨rfl, B2.out⟩
  · clear hs hm hc
    go_enter Tryd.func5, Tryd.ntmps5
    go_wp2_with fail
    with_reducible refine (works_any _ (HT.out.keep (Below.refl _ _))).mono ?_
    rintro e w1 ⟨rfl, hb1⟩
    go_wp2_with fail
    go_ret
    exact ⟨rfl, hb1⟩
end Go.Proofs.YtebjfigjfhghcaaDoor.Und
