/-
  The contract of 'works' of package henkanlaw01: the chapter's examples hold. Conditions: the two tables of unicode/utf8 lie as their initialisers lay them. (Printed by gen/utfworks.py.)
-/
import Derived.Test.YtcnedljblljhoaaDoorUtfTextR
namespace Go.Proofs.YtcnedljblljhoaaDoor.Utf
open Go.RowKit Wd

set_option maxRecDepth 100000 in
set_option maxHeartbeats 4000000 in
theorem works_any (w : World) (hT : Tabs w) : Calls Tryd.prog 17 #[] w fun e w' => e = .returned (.bool true) ∧ Below w.heap.size w w' := by
  have T0 := Lib.hid hT
  clear hT
  go_enter Tryd.func17, Tryd.ntmps17
  go_wp2_with fail
  refine (runes_any ⟨#[227, 129, 130, 33]⟩ _ (by decide) T0.out).mono ?_
  rintro e w1 ⟨hb1, he⟩
  have Tb_1 := Lib.hid (T0.out.keep hb1)
  clear T0
  have B_1 := Lib.hid hb1
  clear hb1
  rw [show runes (⟨#[227, 129, 130, 33]⟩ : ByteArray).data.toList = some [12354, 33] by decide] at he
  obtain ⟨v, rfl, ho⟩ := he
  obtain ⟨A1, c1, rfl, hri, _⟩ := own_ints ho
  rw [show ([12354, 33] : List Nat).length = 2 from rfl] at hri
  rw [show ([12354, 33] : List Nat).length = 2 from rfl]
  have L := Lib.hid hri
  clear ho hri
  go_wp2_with fail
  refine (cut_any ⟨#[227, 129, 130, 33]⟩ 1 2 _ (by decide) Tb_1.out).mono ?_
  rintro e w2 ⟨hb2, he⟩
  have Tb_2 := Lib.hid (Tb_1.out.keep hb2)
  clear Tb_1
  have L_2 := Lib.hid (L.out.keep hb2)
  clear L
  have B_2 := Lib.hid (B_1.out.trans (hb2.mono B_1.out.size))
  clear B_1
  clear hb2
  rw [show cutOf (⟨#[227, 129, 130, 33]⟩ : ByteArray).data.toList 1 2 = some [33] by decide] at he
  have he' : e = .returned (.tuple #[.string ⟨#[33]⟩, .bool true]) := he
  subst he'
  clear he
  go_wp2_with fail
  refine (count_any ⟨#[227, 129, 130, 33]⟩ _ (by decide) Tb_2.out).mono ?_
  rintro e w3 ⟨rfl, hb3⟩
  have Tb_3 := Lib.hid (Tb_2.out.keep hb3)
  clear Tb_2
  have L_3 := Lib.hid (L_2.out.keep hb3)
  clear L_2
  have B_3 := Lib.hid (B_2.out.trans (hb3.mono B_2.out.size))
  clear B_2
  clear hb3
  rw [show cnt (⟨#[227, 129, 130, 33]⟩ : ByteArray).data.toList = 2 by decide]
  go_wp2_with fail
  refine (same_any A1 _ 2 c1 2 2 [12354, 33] [12354, 33] _ (L_3.out.alloc _) (ri_lit .i32 _ _ _ _ 2 _ [12354, 33] (by simp) rfl rfl) (by decide)).mono ?_
  rintro e w4 ⟨rfl, hb4⟩
  replace hb4 := below_alloc1 hb4
  clear L_3
  have Tb_4 := Lib.hid (Tb_3.out.keep hb4)
  clear Tb_3
  have B_4 := Lib.hid (B_3.out.trans (hb4.mono B_3.out.size))
  clear B_3
  clear hb4
  rw [decide_eq_true (show ([12354, 33] : List Int) = [12354, 33] from rfl)]
  go_wp2_with fail
  refine (text_any _ 4 4 [12354, 55296, -1, 33] _ (ri_lit .i32 _ _ _ _ 4 _ [12354, 55296, -1, 33] (by simp) rfl rfl) (by decide) (by decide)).mono ?_
  rintro e w5 ⟨rfl, hb5⟩
  replace hb5 := below_alloc1 hb5
  have Tb_5 := Lib.hid (Tb_4.out.keep hb5)
  clear Tb_4
  have B_5 := Lib.hid (B_4.out.trans (hb5.mono B_4.out.size))
  clear B_4
  clear hb5
  rw [show txt (chars [12354, 55296, -1, 33]) = [227, 129, 130, 33] by decide]
  go_wp2_with fail
  refine (valid_any ⟨#[192, 128]⟩ _ (by decide) Tb_5.out).mono ?_
  rintro e w6 ⟨rfl, hb6⟩
  have Tb_6 := Lib.hid (Tb_5.out.keep hb6)
  clear Tb_5
  have B_6 := Lib.hid (B_5.out.trans (hb6.mono B_5.out.size))
  clear B_5
  clear hb6
  rw [show (runes (⟨#[192, 128]⟩ : ByteArray).data.toList).isSome = false by decide]
  go_wp2_with fail
  refine (count_any ⟨#[227, 129]⟩ _ (by decide) Tb_6.out).mono ?_
  rintro e w7 ⟨rfl, hb7⟩
  have Tb_7 := Lib.hid (Tb_6.out.keep hb7)
  clear Tb_6
  have B_7 := Lib.hid (B_6.out.trans (hb7.mono B_6.out.size))
  clear B_6
  clear hb7
  rw [show cnt (⟨#[227, 129]⟩ : ByteArray).data.toList = -1 by decide]
  go_wp2_with fail
  go_ret
  exact ⟨rfl, B_7.out⟩
end Go.Proofs.YtcnedljblljhoaaDoor.Utf
