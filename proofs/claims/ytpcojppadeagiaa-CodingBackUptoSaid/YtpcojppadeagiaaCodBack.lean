/-
  The walk of CodingBack: what was written is read again, whatever stands before and after it. Conditions: the bytes and strings fit a slice together. (Printed by gen/codback.py.)
-/
import Derived.Test.YtpcojppadeagiaaCodWorks
namespace Go.Proofs.Ytpcojppadeagiaa.Cod
open Go.RowKit Wd

set_option maxRecDepth 100000 in
set_option maxHeartbeats 4000000 in
theorem back_any (A Al Ac : Option Addr) (n c m cl k ck : Nat) (l lc : List UInt8) (ss : List ByteArray) (u : Nat) (v : Int) (w : World) (hs : SB w A n c l) (hr : RS w Al m ss) (hc : SB w Ac k ck lc) (hu : u < 2 ^ 64) (h1 : -9223372036854775808 ≤ v) (h2 : v ≤ 9223372036854775807)
    (hn : n ≤ 10000000) (hm : m ≤ 10000000) (hk : k ≤ 10000000) (hroom : room ss ≤ 100000000) (hsz : ∀ s ∈ ss, s.size ≤ 140737488355328) :
    Calls Try.prog 7 #[.slice A n c, .int .u64 (u : Int), .int .i64 v, .slice Al m cl, .slice Ac k ck] w fun e w' => e = .returned (.bool true) ∧ Below w.heap.size w w' := by
  have T0 := Lib.hid hs
  have R0 := Lib.hid hr
  have C0 := Lib.hid hc
  have HU := Lib.hid hu
  have HL := Lib.hid hs.rb.len
  have HM := Lib.hid hr.len
  have HSZ := Lib.hid hsz
  have pl1 := put_len u
  have pl2 := put_len (zig v)
  clear hs hr hc hu hsz
  go_enter Try.func7, Try.ntmps7
  go_wp2_with fail
  refine (putUint_any A n c l u _ T0.out HU.out (by omega)).mono ?_
  rintro e w1 ⟨b1, rfl, ho1, hb1⟩
  have T_1 := Lib.hid (T0.out.keep hb1)
  clear T0
  have R_1 := Lib.hid (R0.out.keep hb1)
  clear R0
  have C_1 := Lib.hid (C0.out.keep hb1)
  clear C0
  have B_1 := Lib.hid hb1
  clear hb1
  obtain ⟨A1, c1, rfl, hs1⟩ := own_sb ho1
  generalize hX1 : l ++ put u = X1 at hs1 ho1
  generalize hx1 : n + (put u).length = x1 at hs1 ho1 ⊢
  have HX1 := Lib.hid hX1
  have Hx1 := Lib.hid hx1
  have S1 := Lib.hid hs1
  have hl1 : x1 ≤ n + 10 := by omega
  have XL1 := Lib.hid hs1.rb.len
  clear hX1 hx1 hs1 ho1
  go_wp2_with fail
  refine (putInt_any A1 x1 c1 X1 v _ S1.out h1 h2 (by omega)).mono ?_
  rintro e w2 ⟨b2, rfl, ho2, hb2⟩
  have T_2 := Lib.hid (T_1.out.keep hb2)
  clear T_1
  have R_2 := Lib.hid (R_1.out.keep hb2)
  clear R_1
  have C_2 := Lib.hid (C_1.out.keep hb2)
  clear C_1
  have S1_2 := Lib.hid (S1.out.keep hb2)
  clear S1
  have B_2 := Lib.hid (B_1.out.trans (hb2.mono B_1.out.size))
  clear B_1
  clear hb2
  obtain ⟨A2, c2, rfl, hs2⟩ := own_sb ho2
  generalize hX2 : X1 ++ put (zig v) = X2 at hs2 ho2
  generalize hx2 : x1 + (put (zig v)).length = x2 at hs2 ho2 ⊢
  have HX2 := Lib.hid hX2
  have Hx2 := Lib.hid hx2
  have S2 := Lib.hid hs2
  have hl2 : x2 ≤ n + 20 := by omega
  have XL2 := Lib.hid hs2.rb.len
  clear hX2 hx2 hs2 ho2
  go_wp2_with fail
  refine (putList_any A2 Al x2 c2 m cl X2 ss _ S2.out R_2.out (by omega) (by omega)).mono ?_
  rintro e w3 ⟨b3, rfl, hob3, hb3⟩
  have T_3 := Lib.hid (T_2.out.keep hb3)
  clear T_2
  have R_3 := Lib.hid (R_2.out.keep hb3)
  clear R_2
  have C_3 := Lib.hid (C_2.out.keep hb3)
  clear C_2
  have S1_3 := Lib.hid (S1_2.out.keep hb3)
  clear S1_2
  have S2_3 := Lib.hid (S2.out.keep hb3)
  clear S2
  have B_3 := Lib.hid (B_2.out.trans (hb3.mono B_2.out.size))
  clear B_2
  clear hb3
  have ho3 : w3.ownsRow _ 5 1 b3 (X2 ++ putL (by_ ss)).length (bs (X2 ++ putL (by_ ss))) := hob3
  clear hob3
  have hbnd : (X2 ++ putL (by_ ss)).length ≤ n + 40 + room ss := by
    have h := bodyL_len ss
    have h2 := put_len (by_ ss).length
    have h3 := XL2.out
    unfold putL
    rw [List.length_append, List.length_append, h3]
    omega
  obtain ⟨A3, c3, rfl, hs3⟩ := own_sb ho3
  have hX3' : ∃ X3, X3 = X2 ++ putL (by_ ss) := ⟨_, rfl⟩
  obtain ⟨X3, hX3⟩ := hX3'
  rw [← hX3] at hs3 hbnd ⊢
  generalize hx3 : X3.length = x3 at hs3 hbnd ⊢
  have HX3 := Lib.hid hX3
  have Hx3 := Lib.hid hx3
  have S3 := Lib.hid hs3
  clear hX3 hx3 hs3 ho3
  go_wp2_with fail
  refine (after_any A3 Ac x3 c3 k ck X3 lc _ S3.out.rb C_3.out.rb (by omega)).mono ?_
  rintro e w4 ⟨b4, rfl, ho4, hb4⟩
  clear S1_3
  clear S2_3
  have T_4 := Lib.hid (T_3.out.keep hb4)
  clear T_3
  have R_4 := Lib.hid (R_3.out.keep hb4)
  clear R_3
  have C_4 := Lib.hid (C_3.out.keep hb4)
  clear C_3
  have S3_4 := Lib.hid (S3.out.keep hb4)
  clear S3
  have B_4 := Lib.hid (B_3.out.trans (hb4.mono B_3.out.size))
  clear B_3
  clear hb4
  obtain ⟨A4, c4, rfl, hs4⟩ := own_sb ho4
  generalize hX4 : X3 ++ lc = X4 at hs4
  generalize hx4 : x3 + k = x4 at hs4 ⊢
  have hl4 : x4 ≤ 140737488355328 := by omega
  have hxx4 : x2 ≤ x3 ∧ x1 ≤ x2 ∧ n ≤ x1 := by
    refine ⟨?_, by have := Hx2.out; omega, by have := Hx1.out; omega⟩
    rw [← Hx3.out, HX3.out, List.length_append, XL2.out]
    omega
  have hu4 : uintOf X4 (n : Int) = some (u, (put u).length) := by
    unfold uintOf
    rw [if_neg (by omega)]
    have e : X4.drop (n : Int).toNat = put u ++ (put (zig v) ++ (putL (by_ ss) ++ lc)) := by
      rw [← hX4, HX3.out, ← HX2.out, ← HX1.out]
      simp only [List.append_assoc]
      exact List.drop_left' HL.out
    rw [e]
    exact rd_put u _ HU.out
  have hi4 : uintOf X4 (x1 : Int) = some (zig v, (put (zig v)).length) := by
    unfold uintOf
    rw [if_neg (by omega)]
    have e : X4.drop (x1 : Int).toNat = put (zig v) ++ (putL (by_ ss) ++ lc) := by
      rw [← hX4, HX3.out, ← HX2.out]
      simp only [List.append_assoc]
      exact List.drop_left' XL1.out
    rw [e]
    exact rd_put _ _ (zig_lt v h1 h2)
  have hd4 : X4.drop x2 = putL (by_ ss) ++ lc := by
    rw [← hX4, HX3.out, List.append_assoc]
    exact List.drop_left' XL2.out
  have HU4 := Lib.hid hu4
  have HI4 := Lib.hid hi4
  have HD4 := Lib.hid hd4
  have S4 := Lib.hid hs4
  clear hX4 hx4 hs4 ho4 hu4 hi4 hd4
  go_wp2_with fail
  refine (uint_any A4 x4 c4 (n : Int) X4 _ S4.out.rb hl4 (by omega)).mono ?_
  rintro e w5 ⟨hb5, he⟩
  have T_5 := Lib.hid (T_4.out.keep hb5)
  clear T_4
  have R_5 := Lib.hid (R_4.out.keep hb5)
  clear R_4
  have C_5 := Lib.hid (C_4.out.keep hb5)
  clear C_4
  have S3_5 := Lib.hid (S3_4.out.keep hb5)
  clear S3_4
  have S4_5 := Lib.hid (S4.out.keep hb5)
  clear S4
  have B_5 := Lib.hid (B_4.out.trans (hb5.mono B_4.out.size))
  clear B_4
  clear hb5
  rw [HU4.out] at he
  have he' : e = .returned (.tuple #[.int .u64 (u : Int), .int .i64 (x1 : Int), .bool true]) := by rw [he, ← Hx1.out]; rfl
  subst he'
  clear he
  go_wp2_with fail
  refine (int_any A4 x4 c4 (x1 : Int) X4 _ S4_5.out.rb hl4 (by omega)).mono ?_
  rintro e w6 ⟨hb6, he⟩
  have T_6 := Lib.hid (T_5.out.keep hb6)
  clear T_5
  have R_6 := Lib.hid (R_5.out.keep hb6)
  clear R_5
  have C_6 := Lib.hid (C_5.out.keep hb6)
  clear C_5
  have S3_6 := Lib.hid (S3_5.out.keep hb6)
  clear S3_5
  have S4_6 := Lib.hid (S4_5.out.keep hb6)
  clear S4_5
  have B_6 := Lib.hid (B_5.out.trans (hb6.mono B_5.out.size))
  clear B_5
  clear hb6
  rw [HI4.out] at he
  have he' : e = .returned (.tuple #[.int .i64 v, .int .i64 (x2 : Int), .bool true]) := by rw [he, ← Hx2.out, zag_zig]; rfl
  subst he'
  clear he
  go_wp2_with fail
  refine (list_any A4 x4 c4 x2 X4 lc ss _ S4_6.out hl4 HD4.out (by have := HM.out; omega) HSZ.out).mono ?_
  rintro e w7 ⟨Av, cv, he, hrs, hb7⟩
  clear S4_6
  have T_7 := Lib.hid (T_6.out.keep hb7)
  clear T_6
  have R_7 := Lib.hid (R_6.out.keep hb7)
  clear R_6
  have C_7 := Lib.hid (C_6.out.keep hb7)
  clear C_6
  have S3_7 := Lib.hid (S3_6.out.keep hb7)
  clear S3_6
  have B_7 := Lib.hid (B_6.out.trans (hb7.mono B_6.out.size))
  clear B_6
  clear hb7
  have he' : e = .returned (.tuple #[.slice Av m cv, .int .i64 (x3 : Int), .bool true]) := by
    rw [he, HM.out, ← Hx3.out, HX3.out, List.length_append, XL2.out]
  subst he'
  rw [HM.out] at hrs
  have V := Lib.hid hrs
  clear he hrs
  go_wp2_with fail
  refine (sameTexts_any Av Al m cv m cl ss ss _ V.out R_7.out (by omega)).mono ?_
  rintro e w8 ⟨rfl, hb8⟩
  clear V
  clear S3_7
  have T_8 := Lib.hid (T_7.out.keep hb8)
  clear T_7
  have R_8 := Lib.hid (R_7.out.keep hb8)
  clear R_7
  have C_8 := Lib.hid (C_7.out.keep hb8)
  clear C_7
  have B_8 := Lib.hid (B_7.out.trans (hb8.mono B_7.out.size))
  clear B_7
  clear hb8
  rw [decide_eq_true (show ss = ss from rfl)]
  go_wp2_with fail
  refine (putSorted_any A Al n c m cl l ss _ T_8.out R_8.out (by omega) (by omega)).mono ?_
  rintro e w9 ⟨hb9, hsp⟩
  have T_9 := Lib.hid (T_8.out.keep hb9)
  clear T_8
  have R_9 := Lib.hid (R_8.out.keep hb9)
  clear R_8
  have C_9 := Lib.hid (C_8.out.keep hb9)
  clear C_8
  have B_9 := Lib.hid (B_8.out.trans (hb9.mono B_8.out.size))
  clear B_8
  clear hb9
  rcases hsp with ⟨_, rfl⟩ | ⟨hasc, b9, rfl, ho9⟩
  · skip
    go_wp2_with fail
    refine (works_any _).mono ?_
    rintro e w10 ⟨rfl, hb10⟩
    have T_10 := Lib.hid (T_9.out.keep hb10)
    clear T_9
    have R_10 := Lib.hid (R_9.out.keep hb10)
    clear R_9
    have C_10 := Lib.hid (C_9.out.keep hb10)
    clear C_9
    have B_10 := Lib.hid (B_9.out.trans (hb10.mono B_9.out.size))
    clear B_9
    clear hb10
    go_wp2_with fail
    go_ret
    exact ⟨rfl, B_10.out⟩
  · skip
    have ho9' : w9.ownsRow _ 5 1 b9 (l ++ putS (by_ ss)).length (bs (l ++ putS (by_ ss))) := ho9
    have hbnd9 : (l ++ putS (by_ ss)).length ≤ n + 40 + room ss := by
      have h := bodyS_len [] ss
      have h2 := put_len (by_ ss).length
      have h3 := HL.out
      unfold putS
      rw [List.length_append, List.length_append, h3]
      omega
    obtain ⟨A9, c9, rfl, hs9⟩ := own_sb ho9'
    obtain ⟨X9, hX9⟩ : ∃ X9, X9 = l ++ putS (by_ ss) := ⟨_, rfl⟩
    rw [← hX9] at hs9 hbnd9 ⊢
    generalize hx9 : X9.length = x9 at hs9 hbnd9 ⊢
    have HX9 := Lib.hid hX9
    have Hx9 := Lib.hid hx9
    have S9 := Lib.hid hs9
    have HAsc := Lib.hid hasc
    clear hX9 hx9 hs9 ho9 ho9' hasc
    go_wp2_with fail
    refine (after_any A9 Ac x9 c9 k ck X9 lc _ S9.out.rb C_9.out.rb (by omega)).mono ?_
    rintro e w10 ⟨b10, rfl, ho10, hb10⟩
    clear C_9
    clear T_9
    have R_10 := Lib.hid (R_9.out.keep hb10)
    clear R_9
    have S9_10 := Lib.hid (S9.out.keep hb10)
    clear S9
    have B_10 := Lib.hid (B_9.out.trans (hb10.mono B_9.out.size))
    clear B_9
    clear hb10
    obtain ⟨A10, c10, rfl, hs10⟩ := own_sb ho10
    generalize hX10 : X9 ++ lc = X10 at hs10
    generalize hx10 : x9 + k = x10 at hs10 ⊢
    have hl10 : x10 ≤ 140737488355328 := by omega
    have hd10 : X10.drop n = putS (by_ ss) ++ lc := by
      rw [← hX10, HX9.out, List.append_assoc]
      exact List.drop_left' HL.out
    have HD10 := Lib.hid hd10
    have S10 := Lib.hid hs10
    clear hX10 hx10 hs10 ho10 hd10
    go_wp2_with fail
    refine (sorted_any A10 x10 c10 n X10 lc ss _ S10.out hl10 HD10.out HAsc.out (by have := HM.out; omega) HSZ.out).mono ?_
    rintro e w11 ⟨Av2, cv2, he, hrs, hb11⟩
    clear S10
    have R_11 := Lib.hid (R_10.out.keep hb11)
    clear R_10
    have S9_11 := Lib.hid (S9_10.out.keep hb11)
    clear S9_10
    have B_11 := Lib.hid (B_10.out.trans (hb11.mono B_10.out.size))
    clear B_10
    clear hb11
    have he' : e = .returned (.tuple #[.slice Av2 m cv2, .int .i64 (x9 : Int), .bool true]) := by
      rw [he, HM.out, ← Hx9.out, HX9.out, List.length_append, HL.out]
    subst he'
    rw [HM.out] at hrs
    have V2 := Lib.hid hrs
    clear he hrs
    go_wp2_with fail
    refine (sameTexts_any Av2 Al m cv2 m cl ss ss _ V2.out R_11.out (by omega)).mono ?_
    rintro e w12 ⟨rfl, hb12⟩
    have R_12 := Lib.hid (R_11.out.keep hb12)
    clear R_11
    have S9_12 := Lib.hid (S9_11.out.keep hb12)
    clear S9_11
    have V2_12 := Lib.hid (V2.out.keep hb12)
    clear V2
    have B_12 := Lib.hid (B_11.out.trans (hb12.mono B_11.out.size))
    clear B_11
    clear hb12
    rw [decide_eq_true (show ss = ss from rfl)]
    go_wp2_with fail
    refine (works_any _).mono ?_
    rintro e w13 ⟨rfl, hb13⟩
    clear V2_12
    clear R_12
    clear S9_12
    have B_13 := Lib.hid (B_12.out.trans (hb13.mono B_12.out.size))
    clear B_12
    clear hb13
    go_wp2_with fail
    go_ret
    exact ⟨rfl, B_13.out⟩
end Go.Proofs.Ytpcojppadeagiaa.Cod
