/-
  The walk of CodingKnown: the examples of the chapter hold. Conditions: none. (Printed by gen/codlaws.py.)
-/
import Derived.Test.YtpcojppadeagiaaCodWorks
namespace Go.Proofs.Ytpcojppadeagiaa.Cod
open Go.RowKit Wd

set_option maxRecDepth 100000 in
set_option maxHeartbeats 4000000 in
theorem known_any (w : World) : Calls Try.prog 6 #[] w fun e w' => e = .returned (.bool true) ∧ Below w.heap.size w w' := by
  obtain ⟨i0, hi, hz0, hz1, hz2⟩ := info_parts Try.infoU8
  have HI := Lib.hid hi
  clear hi
  go_enter Try.func6, Try.ntmps6
  have N_0 := Lib.hid (sb_lit w (#[.int .u8 255, .int .u8 255, .int .u8 255, .int .u8 255, .int .u8 255, .int .u8 255, .int .u8 255, .int .u8 255, .int .u8 255, .int .u8 2]) 5 (0, 0) 10 _ [255, 255, 255, 255, 255, 255, 255, 255, 255, 2] rfl rfl rfl)
  have B_0 : Hid (Below w.heap.size w (w.alloc (.cells (#[.int .u8 255, .int .u8 255, .int .u8 255, .int .u8 255, .int .u8 255, .int .u8 255, .int .u8 255, .int .u8 255, .int .u8 255, .int .u8 2]) 5 (0, 0)))) := Lib.hid ((Below.refl _ _).alloc (Nat.le_refl _) _)
  go_wp2_with fail
  refine (uint_any _ 2 2 0 [128, 0] _ (sb_lit _ _ _ _ 2 _ [128, 0] (by simp) rfl rfl).rb (by decide) (by decide)).mono ?_
  rintro e w1 ⟨hb1, he⟩
  replace hb1 := below_alloc1 hb1
  have N_1 := Lib.hid (N_0.out.keep hb1)
  clear N_0
  have B_1 := Lib.hid (B_0.out.trans (hb1.mono B_0.out.size))
  clear B_0
  clear hb1
  have he' : e = .returned (.tuple #[.int .u64 0, .int .i64 0, .bool false]) := he
  subst he'
  clear he
  go_wp2_with fail
  refine (uint_any _ 1 1 0 [128] _ (sb_lit _ _ _ _ 1 _ [128] (by simp) rfl rfl).rb (by decide) (by decide)).mono ?_
  rintro e w2 ⟨hb2, he⟩
  replace hb2 := below_alloc1 hb2
  have N_2 := Lib.hid (N_1.out.keep hb2)
  clear N_1
  have B_2 := Lib.hid (B_1.out.trans (hb2.mono B_1.out.size))
  clear B_1
  clear hb2
  have he' : e = .returned (.tuple #[.int .u64 0, .int .i64 0, .bool false]) := he
  subst he'
  clear he
  go_wp2_with fail
  refine (uint_any _ 10 10 0 [255, 255, 255, 255, 255, 255, 255, 255, 255, 2] _ N_2.out.rb (by decide) (by decide)).mono ?_
  rintro e w3 ⟨hb3, he⟩
  have N_3 := Lib.hid (N_2.out.keep hb3)
  clear N_2
  have B_3 := Lib.hid (B_2.out.trans (hb3.mono B_2.out.size))
  clear B_2
  clear hb3
  have he' : e = .returned (.tuple #[.int .u64 0, .int .i64 0, .bool false]) := he
  subst he'
  clear he
  have hR9 := Lib.hid (show Reads w3 w3.heap.size 1 (some ⟨w.heap.size, 0, none⟩) 9 (bs [255, 255, 255, 255, 255, 255, 255, 255, 255]) from Reads.upto (k := 9) N_3.out.rb (by decide))
  clear N_3
  go_wp2_with (at_builtin; refine wpList_append_rdy _ rfl (.tmp 37) (.tmp 38) _ rfl w3.heap.size 5 i0 _ 1 Try.underlying22 HI.out hz0 hz1 hz2 rfl _ 9 (bs [255, 255, 255, 255, 255, 255, 255, 255, 255]) rfl (Or.inr ⟨_, rfl, (fun h => by cases h), (Reads.alloc hR9.out (Nat.le_refl _) _).more (by simp)⟩) _ _ 1 1 [.int .u8 1] rfl (Reads.lit _ _ _ _ _ _ rfl rfl) (by intro u hu; simp at hu; subst hu; rfl) (by decide) (by decide) (by decide) (by simp) ?_; intro v9 w9 hown9 hbe9)
  have hb9 : Below w3.heap.size w3 w9 := ((Below.refl _ _).alloc (Nat.le_refl _) _).trans (hbe9 _ (Nat.le_refl _))
  have B_9 := Lib.hid (B_3.out.trans (hb9.mono B_3.out.size))
  obtain ⟨A9, c9, rfl, hs9⟩ := own_sb (l := [255, 255, 255, 255, 255, 255, 255, 255, 255, 1]) hown9
  have S_9 := Lib.hid hs9
  clear hb9 hbe9 hown9 hs9 B_3
  go_wp2_with fail
  refine (uint_any A9 10 c9 0 [255, 255, 255, 255, 255, 255, 255, 255, 255, 1] _ S_9.out.rb (by decide) (by decide)).mono ?_
  rintro e w10 ⟨hb10, he⟩
  clear S_9
  have B_10 := Lib.hid (B_9.out.trans (hb10.mono B_9.out.size))
  clear B_9
  clear hb10
  have he' : e = .returned (.tuple #[.int .u64 18446744073709551615, .int .i64 10, .bool true]) := he
  subst he'
  clear he
  go_wp2_with fail
  refine (putSorted_any none _ 0 0 2 2 [] [⟨#[98]⟩, ⟨#[97]⟩] _ (sb_nil _) (rs_lit _ _ _ _ 2 _ [⟨#[98]⟩, ⟨#[97]⟩] (by simp) rfl rfl) (by decide) (by decide)).mono ?_
  rintro e w11 ⟨hb11, hsp⟩
  replace hb11 := below_alloc1 hb11
  have B_11 := Lib.hid (B_10.out.trans (hb11.mono B_10.out.size))
  clear B_10
  clear hb11
  have he : e = .returned (.tuple #[.slice none 0 0, .bool false]) := by
    rcases hsp with ⟨_, h⟩ | ⟨h, _⟩
    · exact h
    · exact absurd h (by decide)
  subst he
  clear hsp
  go_wp2_with fail
  refine (putUint_any none 0 0 [] 300 _ (sb_nil _) (by decide) (by decide)).mono ?_
  rintro e w12 ⟨b, rfl, hown, hb12⟩
  have B_12 := Lib.hid (B_11.out.trans (hb12.mono B_11.out.size))
  clear B_11
  clear hb12
  obtain ⟨Ab, cb, rfl, hsb⟩ := own_sb (l := [172, 2]) hown
  have S_p := Lib.hid hsb
  clear hown hsb
  go_wp2_with fail
  refine (sameBytes_any Ab _ 2 cb 2 2 [172, 2] [172, 2] _ (S_p.out.alloc _).rb (sb_lit _ _ _ _ 2 _ [172, 2] (by simp) rfl rfl).rb).mono ?_
  rintro e w' ⟨rfl, rfl⟩
  clear S_p
  go_wp2_with fail
  refine (putUint_any none 0 0 [] 127 _ (sb_nil _) (by decide) (by decide)).mono ?_
  rintro e w13 ⟨b, rfl, hown, hb13⟩
  replace hb13 := below_alloc1 hb13
  have B_13 := Lib.hid (B_12.out.trans (hb13.mono B_12.out.size))
  clear B_12
  clear hb13
  obtain ⟨Ab, cb, rfl, hsb⟩ := own_sb (l := [127]) hown
  have S_p := Lib.hid hsb
  clear hown hsb
  go_wp2_with fail
  refine (sameBytes_any Ab _ 1 cb 1 1 [127] [127] _ (S_p.out.alloc _).rb (sb_lit _ _ _ _ 1 _ [127] (by simp) rfl rfl).rb).mono ?_
  rintro e w' ⟨rfl, rfl⟩
  clear S_p
  go_wp2_with fail
  refine (putInt_any none 0 0 [] (-64) _ (sb_nil _) (by decide) (by decide) (by decide)).mono ?_
  rintro e w14 ⟨b, rfl, hown, hb14⟩
  replace hb14 := below_alloc1 hb14
  have B_14 := Lib.hid (B_13.out.trans (hb14.mono B_13.out.size))
  clear B_13
  clear hb14
  obtain ⟨Ab, cb, rfl, hsb⟩ := own_sb (l := [127]) hown
  have S_p := Lib.hid hsb
  clear hown hsb
  go_wp2_with fail
  refine (sameBytes_any Ab _ 1 cb 1 1 [127] [127] _ (S_p.out.alloc _).rb (sb_lit _ _ _ _ 1 _ [127] (by simp) rfl rfl).rb).mono ?_
  rintro e w' ⟨rfl, rfl⟩
  clear S_p
  go_wp2_with fail
  refine (putInt_any none 0 0 [] 1 _ (sb_nil _) (by decide) (by decide) (by decide)).mono ?_
  rintro e w15 ⟨b, rfl, hown, hb15⟩
  replace hb15 := below_alloc1 hb15
  have B_15 := Lib.hid (B_14.out.trans (hb15.mono B_14.out.size))
  clear B_14
  clear hb15
  obtain ⟨Ab, cb, rfl, hsb⟩ := own_sb (l := [2]) hown
  have S_p := Lib.hid hsb
  clear hown hsb
  go_wp2_with fail
  refine (sameBytes_any Ab _ 1 cb 1 1 [2] [2] _ (S_p.out.alloc _).rb (sb_lit _ _ _ _ 1 _ [2] (by simp) rfl rfl).rb).mono ?_
  rintro e w' ⟨rfl, rfl⟩
  clear S_p
  go_wp2_with fail
  refine (putText_any none 0 0 [] ⟨#[97, 98]⟩ _ (sb_nil _) (by decide)).mono ?_
  rintro e w16 ⟨b, rfl, hown, hb16⟩
  replace hb16 := below_alloc1 hb16
  have B_16 := Lib.hid (B_15.out.trans (hb16.mono B_15.out.size))
  clear B_15
  clear hb16
  obtain ⟨Ab, cb, rfl, hsb⟩ := own_sb (l := [2, 97, 98]) hown
  have S_p := Lib.hid hsb
  clear hown hsb
  go_wp2_with fail
  refine (sameBytes_any Ab _ 3 cb 3 3 [2, 97, 98] [2, 97, 98] _ (S_p.out.alloc _).rb (sb_lit _ _ _ _ 3 _ [2, 97, 98] (by simp) rfl rfl).rb).mono ?_
  rintro e w' ⟨rfl, rfl⟩
  clear S_p
  go_wp2_with fail
  refine (putList_any none _ 0 0 2 2 [] [⟨#[97]⟩, ⟨#[97, 98]⟩] _ (sb_nil _) (rs_lit _ _ _ _ 2 _ [⟨#[97]⟩, ⟨#[97, 98]⟩] (by simp) rfl rfl) (by decide) (by decide)).mono ?_
  rintro e w17 ⟨b, rfl, hown, hb17⟩
  replace hb17 := below_alloc1 hb17
  replace hb17 := below_alloc1 hb17
  have B_17 := Lib.hid (B_16.out.trans (hb17.mono B_16.out.size))
  clear B_16
  clear hb17
  obtain ⟨Ab, cb, rfl, hsb⟩ := own_sb (n := 6) (l := [2, 1, 97, 2, 97, 98]) hown
  have S_p := Lib.hid hsb
  clear hown hsb
  go_wp2_with fail
  refine (sameBytes_any Ab _ 6 cb 6 6 [2, 1, 97, 2, 97, 98] [2, 1, 97, 2, 97, 98] _ (S_p.out.alloc _).rb (sb_lit _ _ _ _ 6 _ [2, 1, 97, 2, 97, 98] (by simp) rfl rfl).rb).mono ?_
  rintro e w' ⟨rfl, rfl⟩
  clear S_p
  go_wp2_with fail
  refine (works_any _).mono ?_
  rintro e w18 ⟨rfl, hb18⟩
  replace hb18 := below_alloc1 hb18
  have B_18 := Lib.hid (B_17.out.trans (hb18.mono B_17.out.size))
  clear B_17
  clear hb18
  go_wp2_with fail
  go_ret
  exact ⟨rfl, B_18.out⟩
end Go.Proofs.Ytpcojppadeagiaa.Cod
