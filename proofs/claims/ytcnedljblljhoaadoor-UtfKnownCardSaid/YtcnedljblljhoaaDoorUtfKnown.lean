/-
  The walk of UtfKnown: the examples of the chapter hold. Conditions: the two tables of unicode/utf8 lie as their initialisers lay them. (Printed by gen/utfworks.py.)
-/
import Derived.Test.YtcnedljblljhoaaDoorUtfWorks
namespace Go.Proofs.YtcnedljblljhoaaDoor.Utf
open Go.RowKit Wd

set_option maxRecDepth 100000 in
set_option maxHeartbeats 4000000 in
theorem known_any (w : World) (hT : Tabs w) : Calls Tryd.prog 10 #[] w fun e w' => e = .returned (.bool true) ∧ Below w.heap.size w w' := by
  have T0 := Lib.hid hT
  clear hT
  go_enter Tryd.func10, Tryd.ntmps10
  go_wp2_with fail
  refine (cut_any ⟨#[]⟩ 0 0 _ (by decide) T0.out).mono ?_
  rintro e w1 ⟨hb1, he⟩
  have Tb_1 := Lib.hid (T0.out.keep hb1)
  clear T0
  have B_1 := Lib.hid hb1
  clear hb1
  rw [show cutOf (⟨#[]⟩ : ByteArray).data.toList 0 0 = some [] by decide] at he
  have he' : e = .returned (.tuple #[.string ⟨#[]⟩, .bool true]) := he
  subst he'
  clear he
  go_wp2_with fail
  refine (cut_any ⟨#[]⟩ 0 1 _ (by decide) Tb_1.out).mono ?_
  rintro e w2 ⟨hb2, he⟩
  have Tb_2 := Lib.hid (Tb_1.out.keep hb2)
  clear Tb_1
  have B_2 := Lib.hid (B_1.out.trans (hb2.mono B_1.out.size))
  clear B_1
  clear hb2
  rw [show cutOf (⟨#[]⟩ : ByteArray).data.toList 0 1 = none by decide] at he
  have he' : e = .returned (.tuple #[.string ⟨#[]⟩, .bool false]) := he
  subst he'
  clear he
  go_wp2_with fail
  refine (cut_any ⟨#[128]⟩ 0 0 _ (by decide) Tb_2.out).mono ?_
  rintro e w3 ⟨hb3, he⟩
  have Tb_3 := Lib.hid (Tb_2.out.keep hb3)
  clear Tb_2
  have B_3 := Lib.hid (B_2.out.trans (hb3.mono B_2.out.size))
  clear B_2
  clear hb3
  rw [show cutOf (⟨#[128]⟩ : ByteArray).data.toList 0 0 = none by decide] at he
  have he' : e = .returned (.tuple #[.string ⟨#[]⟩, .bool false]) := he
  subst he'
  clear he
  go_wp2_with fail
  refine (cut_any ⟨#[227, 129, 130, 33]⟩ 2 3 _ (by decide) Tb_3.out).mono ?_
  rintro e w4 ⟨hb4, he⟩
  have Tb_4 := Lib.hid (Tb_3.out.keep hb4)
  clear Tb_3
  have B_4 := Lib.hid (B_3.out.trans (hb4.mono B_3.out.size))
  clear B_3
  clear hb4
  rw [show cutOf (⟨#[227, 129, 130, 33]⟩ : ByteArray).data.toList 2 3 = none by decide] at he
  have he' : e = .returned (.tuple #[.string ⟨#[]⟩, .bool false]) := he
  subst he'
  clear he
  go_wp2_with fail
  refine (valid_any ⟨#[]⟩ _ (by decide) Tb_4.out).mono ?_
  rintro e w5 ⟨rfl, hb5⟩
  have Tb_5 := Lib.hid (Tb_4.out.keep hb5)
  clear Tb_4
  have B_5 := Lib.hid (B_4.out.trans (hb5.mono B_4.out.size))
  clear B_4
  clear hb5
  rw [show (runes (⟨#[]⟩ : ByteArray).data.toList).isSome = true by decide]
  go_wp2_with fail
  refine (valid_any ⟨#[127]⟩ _ (by decide) Tb_5.out).mono ?_
  rintro e w6 ⟨rfl, hb6⟩
  have Tb_6 := Lib.hid (Tb_5.out.keep hb6)
  clear Tb_5
  have B_6 := Lib.hid (B_5.out.trans (hb6.mono B_5.out.size))
  clear B_5
  clear hb6
  rw [show (runes (⟨#[127]⟩ : ByteArray).data.toList).isSome = true by decide]
  go_wp2_with fail
  refine (valid_any ⟨#[128]⟩ _ (by decide) Tb_6.out).mono ?_
  rintro e w7 ⟨rfl, hb7⟩
  have Tb_7 := Lib.hid (Tb_6.out.keep hb7)
  clear Tb_6
  have B_7 := Lib.hid (B_6.out.trans (hb7.mono B_6.out.size))
  clear B_6
  clear hb7
  rw [show (runes (⟨#[128]⟩ : ByteArray).data.toList).isSome = false by decide]
  go_wp2_with fail
  refine (valid_any ⟨#[193, 191]⟩ _ (by decide) Tb_7.out).mono ?_
  rintro e w8 ⟨rfl, hb8⟩
  have Tb_8 := Lib.hid (Tb_7.out.keep hb8)
  clear Tb_7
  have B_8 := Lib.hid (B_7.out.trans (hb8.mono B_7.out.size))
  clear B_7
  clear hb8
  rw [show (runes (⟨#[193, 191]⟩ : ByteArray).data.toList).isSome = false by decide]
  go_wp2_with fail
  refine (valid_any ⟨#[244, 143, 191, 191]⟩ _ (by decide) Tb_8.out).mono ?_
  rintro e w9 ⟨rfl, hb9⟩
  have Tb_9 := Lib.hid (Tb_8.out.keep hb9)
  clear Tb_8
  have B_9 := Lib.hid (B_8.out.trans (hb9.mono B_8.out.size))
  clear B_8
  clear hb9
  rw [show (runes (⟨#[244, 143, 191, 191]⟩ : ByteArray).data.toList).isSome = true by decide]
  go_wp2_with fail
  refine (valid_any ⟨#[244, 144, 128, 128]⟩ _ (by decide) Tb_9.out).mono ?_
  rintro e w10 ⟨rfl, hb10⟩
  have Tb_10 := Lib.hid (Tb_9.out.keep hb10)
  clear Tb_9
  have B_10 := Lib.hid (B_9.out.trans (hb10.mono B_9.out.size))
  clear B_9
  clear hb10
  rw [show (runes (⟨#[244, 144, 128, 128]⟩ : ByteArray).data.toList).isSome = false by decide]
  go_wp2_with fail
  refine (valid_any ⟨#[237, 160, 128]⟩ _ (by decide) Tb_10.out).mono ?_
  rintro e w11 ⟨rfl, hb11⟩
  have Tb_11 := Lib.hid (Tb_10.out.keep hb11)
  clear Tb_10
  have B_11 := Lib.hid (B_10.out.trans (hb11.mono B_10.out.size))
  clear B_10
  clear hb11
  rw [show (runes (⟨#[237, 160, 128]⟩ : ByteArray).data.toList).isSome = false by decide]
  go_wp2_with fail
  refine (count_any ⟨#[97, 204, 129]⟩ _ (by decide) Tb_11.out).mono ?_
  rintro e w12 ⟨rfl, hb12⟩
  have Tb_12 := Lib.hid (Tb_11.out.keep hb12)
  clear Tb_11
  have B_12 := Lib.hid (B_11.out.trans (hb12.mono B_11.out.size))
  clear B_11
  clear hb12
  rw [show cnt (⟨#[97, 204, 129]⟩ : ByteArray).data.toList = 2 by decide]
  go_wp2_with fail
  refine (works_any _ Tb_12.out).mono ?_
  rintro e w13 ⟨rfl, hb13⟩
  have Tb_13 := Lib.hid (Tb_12.out.keep hb13)
  clear Tb_12
  have B_13 := Lib.hid (B_12.out.trans (hb13.mono B_12.out.size))
  clear B_12
  clear hb13
  go_wp2_with fail
  go_ret
  exact ⟨rfl, B_13.out⟩
end Go.Proofs.YtcnedljblljhoaaDoor.Utf
