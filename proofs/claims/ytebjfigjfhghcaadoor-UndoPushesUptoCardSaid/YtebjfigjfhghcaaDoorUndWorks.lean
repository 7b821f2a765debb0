/-
  The contract of works of package henkanlaw40. Conditions: the tables lie.
-/
import Derived.Test.YtebjfigjfhghcaaDoorUndToday
import Derived.Test.YtebjfigjfhghcaaDoorUndPush
import Derived.Test.YtebjfigjfhghcaaDoorUndApply
namespace Go.Proofs.YtebjfigjfhghcaaDoor.Und
open Go.RowKit Wd Utf

theorem today_push : pushV (([] : List Stp) ++ [todayQ]) = [todayQ] := by rw [List.nil_append, pushV_ok (by simp [today_ok])]; rfl
theorem today_all : (([] : List Stp) ++ [todayQ]).all okB = true := by simp [today_ok]
theorem today_pop : popV [todayQ] = ([], todayQ, true) := by unfold popV; simp [today_ok]
theorem today_apply1 : applyS ⟨#[230, 152, 142, 230, 151, 165, 227, 129, 175, 228, 187, 138, 230, 151, 165]⟩ todayQ = (⟨#[230, 152, 142, 230, 151, 165, 227, 129, 175]⟩, true) := by kernel_rfl
theorem today_apply2 : applyS ⟨#[228, 187, 138, 230, 151, 165, 227, 129, 175]⟩ todayQ = (⟨#[]⟩, false) := by kernel_rfl
theorem map_one {rs : List (Sp × Stp)} {q : Stp} (h : rs.map (·.2) = [q]) : ∃ r, rs = [(r, q)] := by
  cases rs with
  | nil => cases h
  | cons p l =>
    cases l with
    | nil => simp at h; exact ⟨p.1, by rw [← h]⟩
    | cons a b => simp at h
set_option maxRecDepth 100000 in
set_option maxHeartbeats 8000000 in
theorem works_any (w : World) (hT : Tabs w) :
    Calls Tryd.prog 13 #[] w fun e w' => e = .returned (.bool true) ∧ Below w.heap.size w w' := by
  have HT := Lib.hid hT
  clear hT
  go_enter Tryd.func13, Tryd.ntmps13
  go_wp2_with fail
  with_reducible refine (today_any _).mono ?_
  rintro e w1 ⟨r, rfl, hin, hb1⟩
  have HIN := Lib.hid hin
  have B1 := Lib.hid hb1
  clear hin hb1
  go_wp2_with fail
  with_reducible refine (push_any none 0 0 [] r todayQ _ (HT.out.keep B1.out) (RP.nil _ _) HIN.out (Nat.zero_le _)).mono ?_
  rintro e w2 ⟨v, rs, rfl, hpl, hmap, hb2⟩
  simp only [List.map_nil] at hmap
  rw [today_push] at hmap
  rw [show (([] : List (Sp × Stp)).map (fun x => x.2) ++ [todayQ]).all okB = true from today_all]
  obtain ⟨r1, rfl⟩ := map_one hmap
  obtain ⟨A2, c2, rfl, hrp, hc2⟩ := hpl.form
  have RP2 : Hid (RP w2 A2 1 [(r1, todayQ)]) := Lib.hid hrp
  have hc2 : 1 ≤ c2 := hc2
  have B2 := Lib.hid (B1.out.trans (hb2.mono B1.out.size))
  clear hpl hb2 hmap hrp
  rw [errI_t]
  go_wp2_with fail
  have BA := Lib.hid ((Below.refl w2.heap.size w2).alloc (Nat.le_refl _) (.cells #[.slice A2 1 c2] 46))
  with_reducible refine (pop_any A2 1 c2 [(r1, todayQ)] _ ((HT.out.keep B2.out).keep BA.out) (RP2.out.keep BA.out) (by omega) hc2).mono ?_
  rintro e w3 ⟨v3, r3, rfl, rs3, hpl3, hmap3, hown3, hb3⟩
  simp only [List.map_cons, List.map_nil] at hmap3 hown3
  rw [today_pop] at hmap3 hown3
  rw [show (popV (([(r1, todayQ)] : List (Sp × Stp)).map (fun x => x.2))).2.2 = true by rw [List.map_cons, List.map_nil, today_pop]]
  have hr3 : rs3 = [] := by simpa using hmap3
  subst hr3
  obtain ⟨A3, c3, rfl, _, _⟩ := hpl3.form
  have HIN3 := Lib.hid hown3.inn
  have B3 := Lib.hid (B2.out.trans ((BA.out.trans (hb3.mono BA.out.size)).mono B2.out.size))
  clear hpl3 hb3 hmap3 hown3 BA HIN B1 B2 RP2
  obtain ⟨Ai, ni, ci, caret, pend, mode, conv, Ab, nb, cb, Af, nf, cf, At, nt, ct, focus, prev, commit⟩ := r3
  have hcm : (⟨#[228, 187, 138, 230, 151, 165]⟩ : ByteArray) = commit := HIN3.out.commit
  have HA := Lib.hid (fun (t : ByteArray) (ht : t.size ≤ 9223372036854775807) (W : World) (hW : Below w3.heap.size w3 W) => apply_any t _ todayQ W ((HT.out.keep B3.out).keep hW) (HIN3.out.keep hW) ht)
  unfold Sp.cells at HA
  unfold Sp.cells
  simp only at HA
  subst hcm
  go_wp2_with fail
  have B4 : Hid (Below w3.heap.size w3 ((w3.alloc (.cells #[.slice A3 0 c3] 46)).alloc (.cells #[.slice Ai ni ci, .int .i64 caret, .string pend, .int .i64 mode, .bool conv, .slice Ab nb cb, .slice Af nf cf, .slice At nt ct, .int .i64 focus, .string prev, .string ⟨#[228, 187, 138, 230, 151, 165]⟩] 31))) := Lib.hid (((Below.refl _ _).alloc (Nat.le_refl _) _).alloc (by simp) _)
  have KP : Hid (Blk ((w3.alloc (.cells #[.slice A3 0 c3] 46)).alloc (.cells #[.slice Ai ni ci, .int .i64 caret, .string pend, .int .i64 mode, .bool conv, .slice Ab nb cb, .slice Af nf cf, .slice At nt ct, .int .i64 focus, .string prev, .string ⟨#[228, 187, 138, 230, 151, 165]⟩] 31)) w3.heap.size 46 #[.slice A3 0 c3]) := Lib.hid ((Blk.new w3 _ _).alloc _)
  have KS : Hid (Blk ((w3.alloc (.cells #[.slice A3 0 c3] 46)).alloc (.cells #[.slice Ai ni ci, .int .i64 caret, .string pend, .int .i64 mode, .bool conv, .slice Ab nb cb, .slice Af nf cf, .slice At nt ct, .int .i64 focus, .string prev, .string ⟨#[228, 187, 138, 230, 151, 165]⟩] 31)) (w3.heap.size + 1) 31 #[.slice Ai ni ci, .int .i64 caret, .string pend, .int .i64 mode, .bool conv, .slice Ab nb cb, .slice Af nf cf, .slice At nt ct, .int .i64 focus, .string prev, .string ⟨#[228, 187, 138, 230, 151, 165]⟩]) := Lib.hid (by have h := Blk.new (w3.alloc (.cells #[.slice A3 0 c3] 46)) 31 #[.slice Ai ni ci, .int .i64 caret, .string pend, .int .i64 mode, .bool conv, .slice Ab nb cb, .slice Af nf cf, .slice At nt ct, .int .i64 focus, .string prev, .string ⟨#[228, 187, 138, 230, 151, 165]⟩]; rwa [show (w3.alloc (.cells #[.slice A3 0 c3] 46)).heap.size = w3.heap.size + 1 by simp] at h)
  with_reducible refine (HA.out _ (by decide) _ B4.out).mono ?_
  rintro e w5 ⟨rfl, hb5⟩
  rw [today_apply1]
  have KP := Lib.hid (KP.out.below hb5 KP.out.lt)
  have KS := Lib.hid (KS.out.below hb5 KS.out.lt)
  have B5 := Lib.hid (B4.out.trans (hb5.mono B4.out.size))
  clear B4 hb5
  have k0 : w5.cell? ⟨w3.heap.size + 1, 0, none⟩ = some (.slice Ai ni ci) := KS.out.cell 0
  have k1 : w5.cell? ⟨w3.heap.size + 1, 1, none⟩ = some (.int .i64 caret) := KS.out.cell 1
  have k2 : w5.cell? ⟨w3.heap.size + 1, 2, none⟩ = some (.string pend) := KS.out.cell 2
  have k3 : w5.cell? ⟨w3.heap.size + 1, 3, none⟩ = some (.int .i64 mode) := KS.out.cell 3
  have k4 : w5.cell? ⟨w3.heap.size + 1, 4, none⟩ = some (.bool conv) := KS.out.cell 4
  have k5 : w5.cell? ⟨w3.heap.size + 1, 5, none⟩ = some (.slice Ab nb cb) := KS.out.cell 5
  have k6 : w5.cell? ⟨w3.heap.size + 1, 6, none⟩ = some (.slice Af nf cf) := KS.out.cell 6
  have k7 : w5.cell? ⟨w3.heap.size + 1, 7, none⟩ = some (.slice At nt ct) := KS.out.cell 7
  have k8 : w5.cell? ⟨w3.heap.size + 1, 8, none⟩ = some (.int .i64 focus) := KS.out.cell 8
  have k9 : w5.cell? ⟨w3.heap.size + 1, 9, none⟩ = some (.string prev) := KS.out.cell 9
  have k10 : w5.cell? ⟨w3.heap.size + 1, 10, none⟩ = some (.string ⟨#[228, 187, 138, 230, 151, 165]⟩) := KS.out.cell 10
  go_wp2_with fail
  with_reducible refine (HA.out _ (by decide) _ B5.out).mono ?_
  rintro e w6 ⟨rfl, hb6⟩
  rw [today_apply2]
  have KP := Lib.hid (KP.out.below hb6 KP.out.lt)
  have KS := Lib.hid (KS.out.below hb6 KS.out.lt)
  have B6 := Lib.hid (B5.out.trans (hb6.mono B5.out.size))
  clear B5 hb6 k0 k1 k2 k3 k4 k5 k6 k7 k8 k9 k10
  have p0 : w6.cell? ⟨w3.heap.size, 0, none⟩ = some (.slice A3 0 c3) := KP.out.cell 0
  have k10 : w6.cell? ⟨w3.heap.size + 1, 10, none⟩ = some (.string ⟨#[228, 187, 138, 230, 151, 165]⟩) := KS.out.cell 10
  go_wp2_with fail
  go_ret
  exact ⟨rfl, B3.out.trans (B6.out.mono B3.out.size)⟩
end Go.Proofs.YtebjfigjfhghcaaDoor.Und
