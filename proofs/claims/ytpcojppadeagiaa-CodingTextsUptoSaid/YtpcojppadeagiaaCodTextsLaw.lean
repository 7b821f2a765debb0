/-
  The walk of CodingTexts: strings and lists are written by the program as by the reference. Conditions: the bytes and strings fit a slice together. (Printed by gen/codtexts.py.)
-/
import Derived.Test.YtpcojppadeagiaaCodRefS
namespace Go.Proofs.Ytpcojppadeagiaa.Cod
open Go.RowKit Wd

set_option maxRecDepth 100000 in
set_option maxHeartbeats 4000000 in
theorem texts_any (A Al : Option Addr) (n c m cl : Nat) (l : List UInt8) (ss : List ByteArray) (w : World) (hs : SB w A n c l) (hr : RS w Al m ss)
    (hn : n ≤ 10000000) (hm : m ≤ 10000000) (hroom : room ss ≤ 100000000) :
    Calls Try.prog 5 #[.slice A n c, .slice Al m cl] w fun e w' => e = .returned (.bool true) ∧ Below w.heap.size w w' := by
  have T0 := Lib.hid hs
  have R0 := Lib.hid hr
  have HL := Lib.hid hs.rb.len
  have HM := Lib.hid hr.len
  clear hs hr
  obtain ⟨s0, hs0⟩ : ∃ s0, s0 = ss.getD 0 ByteArray.empty := ⟨_, rfl⟩
  have hsz : s0.size ≤ room ss := by
    rw [hs0]
    by_cases h0 : 0 < ss.length
    · have h := room_take ss 0 h0
      omega
    · simp [List.getD, show ss = [] from List.length_eq_zero_iff.1 (by omega)]
  rcases hA : asc (by_ ss) with _ | _
  all_goals have HA := Lib.hid hA
  all_goals clear hA
  all_goals by_cases hm0 : m = 0
  all_goals first
    | (have hm0' : (m : Int) ≤ 0 := by omega
       obtain rfl : s0 = ⟨#[]⟩ := by
         rw [hs0, show ss = [] from List.length_eq_zero_iff.1 (by have := HM.out; omega)]; rfl
       clear hs0 hm0
       go_enter Try.func5, Try.ntmps5
       go_wp2_with fail
       generalize (⟨#[]⟩ : ByteArray) = s0 at hsz ⊢)
    | (have hm0' : (0 : Int) < (m : Int) := by omega
       obtain ⟨ad, rfl, _, hc0⟩ := R0.out.at_ (show 0 < m by omega)
       rw [← hs0, show ad.add 0 = ad by simp [Addr.add]] at hc0
       clear hs0 hm0
       go_enter Try.func5, Try.ntmps5
       go_wp2_with fail
       clear hc0
       generalize some ad = Al at R0 ⊢)
  · skip
    refine (putSorted_any A Al n c m cl l ss _ T0.out R0.out (by omega) (by omega)).mono ?_
    rintro e w1 ⟨hb1, hsp⟩
    have T_1 := Lib.hid (T0.out.keep hb1)
    clear T0
    have R_1 := Lib.hid (R0.out.keep hb1)
    clear R0
    have B_1 := Lib.hid hb1
    clear hb1
    obtain ⟨_, rfl⟩ := hsp.resolve_right (fun h => by have h1 := h.1; rw [HA.out] at h1; cases h1)
    clear hsp
    go_wp2_with fail
    refine (sortedR_any Al m cl ss _ R_1.out (by omega) (by omega)).mono ?_
    rintro e w2 ⟨hb2, hsp⟩
    have T_2 := Lib.hid (T_1.out.keep hb2)
    clear T_1
    have R_2 := Lib.hid (R_1.out.keep hb2)
    clear R_1
    have B_2 := Lib.hid (B_1.out.trans (hb2.mono B_1.out.size))
    clear B_1
    clear hb2
    obtain ⟨_, rfl⟩ := hsp.resolve_right (fun h => by have h1 := h.1; rw [HA.out] at h1; cases h1)
    clear hsp
    go_wp2_with fail
    refine (putText_any A n c l s0 _ T_2.out (by omega)).mono ?_
    rintro e w3 ⟨b5, rfl, ho5, hb3⟩
    have T_3 := Lib.hid (T_2.out.keep hb3)
    clear T_2
    have R_3 := Lib.hid (R_2.out.keep hb3)
    clear R_2
    have B_3 := Lib.hid (B_2.out.trans (hb3.mono B_2.out.size))
    clear B_2
    clear hb3
    obtain ⟨A5, c5, rfl, hs5⟩ := own_sb ho5
    generalize hX5 : l ++ putT s0.data.toList = X5 at hs5
    generalize hx5 : n + (putT s0.data.toList).length = x5 at hs5 ⊢
    have HX5 := Lib.hid hX5
    have S5 := Lib.hid hs5
    clear hX5 hx5 hs5 ho5
    go_wp2_with fail
    refine (textR_any s0 _ (by omega)).mono ?_
    rintro e w4 ⟨b6, rfl, ho6, hb4⟩
    have T_4 := Lib.hid (T_3.out.keep hb4)
    clear T_3
    have R_4 := Lib.hid (R_3.out.keep hb4)
    clear R_3
    have S5_4 := Lib.hid (S5.out.keep hb4)
    clear S5
    have B_4 := Lib.hid (B_3.out.trans (hb4.mono B_3.out.size))
    clear B_3
    clear hb4
    obtain ⟨A6, c6, rfl, hs6⟩ := own_sb ho6
    have hl6 : (putT s0.data.toList).length ≤ s0.size + 10 := by have h := putT_len s0.data.toList; rw [ba_len] at h; exact h
    generalize hX6 : putT s0.data.toList = X6 at hs6 hl6 HX5 ⊢
    have S6 := Lib.hid hs6
    clear hX6 hs6 ho6
    go_wp2_with fail
    refine (after_any A A6 n c X6.length c6 l X6 _ T_4.out.rb S6.out.rb (by omega)).mono ?_
    rintro e w5 ⟨b7, rfl, ho7, hb5⟩
    clear S6
    have T_5 := Lib.hid (T_4.out.keep hb5)
    clear T_4
    have R_5 := Lib.hid (R_4.out.keep hb5)
    clear R_4
    have S5_5 := Lib.hid (S5_4.out.keep hb5)
    clear S5_4
    have B_5 := Lib.hid (B_4.out.trans (hb5.mono B_4.out.size))
    clear B_4
    clear hb5
    obtain ⟨A7, c7, rfl, hs7⟩ := own_sb ho7
    generalize hx7 : n + X6.length = x7 at hs7 ⊢
    have S7 := Lib.hid hs7
    clear hx7 hs7 ho7
    go_wp2_with fail
    refine (sameBytes_any A5 A7 x5 c5 x7 c7 _ _ _ S5_5.out.rb S7.out.rb).mono ?_
    rintro e w' ⟨rfl, rfl⟩
    rw [show (X5 == l ++ X6) = true by rw [HX5.out]; exact beq_self_eq_true _]
    clear S5_5
    clear S7
    go_wp2_with fail
    refine (putList_any A Al n c m cl l ss _ T_5.out R_5.out (by omega) (by omega)).mono ?_
    rintro e w6 ⟨b8, rfl, ho8, hb6⟩
    have T_6 := Lib.hid (T_5.out.keep hb6)
    clear T_5
    have R_6 := Lib.hid (R_5.out.keep hb6)
    clear R_5
    have B_6 := Lib.hid (B_5.out.trans (hb6.mono B_5.out.size))
    clear B_5
    clear hb6
    obtain ⟨A8, c8, rfl, hs8⟩ := OB.sb ho8
    generalize hX8 : l ++ putL (by_ ss) = X8 at hs8 ⊢
    have HX8 := Lib.hid hX8
    have S8 := Lib.hid hs8
    clear hX8 hs8 ho8
    go_wp2_with fail
    refine (listR_any Al m cl ss _ R_6.out (by omega) (by omega)).mono ?_
    rintro e w7 ⟨b9, rfl, ho9, hb7⟩
    have T_7 := Lib.hid (T_6.out.keep hb7)
    clear T_6
    have R_7 := Lib.hid (R_6.out.keep hb7)
    clear R_6
    have S8_7 := Lib.hid (S8.out.keep hb7)
    clear S8
    have B_7 := Lib.hid (B_6.out.trans (hb7.mono B_6.out.size))
    clear B_6
    clear hb7
    obtain ⟨A9, c9, rfl, hs9⟩ := OB.sb ho9
    have hl9 : (putL (by_ ss)).length ≤ 10 + room ss := by
      have h := bodyL_len ss
      have h2 := put_len (by_ ss).length
      unfold putL
      rw [List.length_append]
      omega
    generalize hX9 : putL (by_ ss) = X9 at hs9 HX8 hl9 ⊢
    have S9 := Lib.hid hs9
    clear hX9 hs9 ho9
    go_wp2_with fail
    refine (after_any A A9 n c X9.length c9 l X9 _ T_7.out.rb S9.out.rb (by omega)).mono ?_
    rintro e w8 ⟨b10, rfl, ho10, hb8⟩
    clear S9
    clear R_7
    clear T_7
    have S8_8 := Lib.hid (S8_7.out.keep hb8)
    clear S8_7
    have B_8 := Lib.hid (B_7.out.trans (hb8.mono B_7.out.size))
    clear B_7
    clear hb8
    obtain ⟨A10, c10, rfl, hs10⟩ := own_sb ho10
    generalize hx10 : n + X9.length = x10 at hs10 ⊢
    have S10 := Lib.hid hs10
    clear hx10 hs10 ho10
    go_wp2_with fail
    refine (sameBytes_any A8 A10 X8.length c8 x10 c10 _ _ _ S8_8.out.rb S10.out.rb).mono ?_
    rintro e w' ⟨rfl, rfl⟩
    rw [show (X8 == l ++ X9) = true by rw [HX8.out]; exact beq_self_eq_true _]
    clear S8_8
    clear S10
    go_wp2_with fail
    refine (works_any _).mono ?_
    rintro e w9 ⟨rfl, hb9⟩
    have B_9 := Lib.hid (B_8.out.trans (hb9.mono B_8.out.size))
    clear B_8
    clear hb9
    go_wp2_with fail
    go_ret
    exact ⟨rfl, B_9.out⟩
  · skip
    refine (putSorted_any A Al n c m cl l ss _ T0.out R0.out (by omega) (by omega)).mono ?_
    rintro e w1 ⟨hb1, hsp⟩
    have T_1 := Lib.hid (T0.out.keep hb1)
    clear T0
    have R_1 := Lib.hid (R0.out.keep hb1)
    clear R0
    have B_1 := Lib.hid hb1
    clear hb1
    obtain ⟨_, rfl⟩ := hsp.resolve_right (fun h => by have h1 := h.1; rw [HA.out] at h1; cases h1)
    clear hsp
    go_wp2_with fail
    refine (sortedR_any Al m cl ss _ R_1.out (by omega) (by omega)).mono ?_
    rintro e w2 ⟨hb2, hsp⟩
    have T_2 := Lib.hid (T_1.out.keep hb2)
    clear T_1
    have R_2 := Lib.hid (R_1.out.keep hb2)
    clear R_1
    have B_2 := Lib.hid (B_1.out.trans (hb2.mono B_1.out.size))
    clear B_1
    clear hb2
    obtain ⟨_, rfl⟩ := hsp.resolve_right (fun h => by have h1 := h.1; rw [HA.out] at h1; cases h1)
    clear hsp
    go_wp2_with fail
    refine (putText_any A n c l s0 _ T_2.out (by omega)).mono ?_
    rintro e w3 ⟨b5, rfl, ho5, hb3⟩
    have T_3 := Lib.hid (T_2.out.keep hb3)
    clear T_2
    have R_3 := Lib.hid (R_2.out.keep hb3)
    clear R_2
    have B_3 := Lib.hid (B_2.out.trans (hb3.mono B_2.out.size))
    clear B_2
    clear hb3
    obtain ⟨A5, c5, rfl, hs5⟩ := own_sb ho5
    generalize hX5 : l ++ putT s0.data.toList = X5 at hs5
    generalize hx5 : n + (putT s0.data.toList).length = x5 at hs5 ⊢
    have HX5 := Lib.hid hX5
    have S5 := Lib.hid hs5
    clear hX5 hx5 hs5 ho5
    go_wp2_with fail
    refine (textR_any s0 _ (by omega)).mono ?_
    rintro e w4 ⟨b6, rfl, ho6, hb4⟩
    have T_4 := Lib.hid (T_3.out.keep hb4)
    clear T_3
    have R_4 := Lib.hid (R_3.out.keep hb4)
    clear R_3
    have S5_4 := Lib.hid (S5.out.keep hb4)
    clear S5
    have B_4 := Lib.hid (B_3.out.trans (hb4.mono B_3.out.size))
    clear B_3
    clear hb4
    obtain ⟨A6, c6, rfl, hs6⟩ := own_sb ho6
    have hl6 : (putT s0.data.toList).length ≤ s0.size + 10 := by have h := putT_len s0.data.toList; rw [ba_len] at h; exact h
    generalize hX6 : putT s0.data.toList = X6 at hs6 hl6 HX5 ⊢
    have S6 := Lib.hid hs6
    clear hX6 hs6 ho6
    go_wp2_with fail
    refine (after_any A A6 n c X6.length c6 l X6 _ T_4.out.rb S6.out.rb (by omega)).mono ?_
    rintro e w5 ⟨b7, rfl, ho7, hb5⟩
    clear S6
    have T_5 := Lib.hid (T_4.out.keep hb5)
    clear T_4
    have R_5 := Lib.hid (R_4.out.keep hb5)
    clear R_4
    have S5_5 := Lib.hid (S5_4.out.keep hb5)
    clear S5_4
    have B_5 := Lib.hid (B_4.out.trans (hb5.mono B_4.out.size))
    clear B_4
    clear hb5
    obtain ⟨A7, c7, rfl, hs7⟩ := own_sb ho7
    generalize hx7 : n + X6.length = x7 at hs7 ⊢
    have S7 := Lib.hid hs7
    clear hx7 hs7 ho7
    go_wp2_with fail
    refine (sameBytes_any A5 A7 x5 c5 x7 c7 _ _ _ S5_5.out.rb S7.out.rb).mono ?_
    rintro e w' ⟨rfl, rfl⟩
    rw [show (X5 == l ++ X6) = true by rw [HX5.out]; exact beq_self_eq_true _]
    clear S5_5
    clear S7
    go_wp2_with fail
    refine (putList_any A Al n c m cl l ss _ T_5.out R_5.out (by omega) (by omega)).mono ?_
    rintro e w6 ⟨b8, rfl, ho8, hb6⟩
    have T_6 := Lib.hid (T_5.out.keep hb6)
    clear T_5
    have R_6 := Lib.hid (R_5.out.keep hb6)
    clear R_5
    have B_6 := Lib.hid (B_5.out.trans (hb6.mono B_5.out.size))
    clear B_5
    clear hb6
    obtain ⟨A8, c8, rfl, hs8⟩ := OB.sb ho8
    generalize hX8 : l ++ putL (by_ ss) = X8 at hs8 ⊢
    have HX8 := Lib.hid hX8
    have S8 := Lib.hid hs8
    clear hX8 hs8 ho8
    go_wp2_with fail
    refine (listR_any Al m cl ss _ R_6.out (by omega) (by omega)).mono ?_
    rintro e w7 ⟨b9, rfl, ho9, hb7⟩
    have T_7 := Lib.hid (T_6.out.keep hb7)
    clear T_6
    have R_7 := Lib.hid (R_6.out.keep hb7)
    clear R_6
    have S8_7 := Lib.hid (S8.out.keep hb7)
    clear S8
    have B_7 := Lib.hid (B_6.out.trans (hb7.mono B_6.out.size))
    clear B_6
    clear hb7
    obtain ⟨A9, c9, rfl, hs9⟩ := OB.sb ho9
    have hl9 : (putL (by_ ss)).length ≤ 10 + room ss := by
      have h := bodyL_len ss
      have h2 := put_len (by_ ss).length
      unfold putL
      rw [List.length_append]
      omega
    generalize hX9 : putL (by_ ss) = X9 at hs9 HX8 hl9 ⊢
    have S9 := Lib.hid hs9
    clear hX9 hs9 ho9
    go_wp2_with fail
    refine (after_any A A9 n c X9.length c9 l X9 _ T_7.out.rb S9.out.rb (by omega)).mono ?_
    rintro e w8 ⟨b10, rfl, ho10, hb8⟩
    clear S9
    clear R_7
    clear T_7
    have S8_8 := Lib.hid (S8_7.out.keep hb8)
    clear S8_7
    have B_8 := Lib.hid (B_7.out.trans (hb8.mono B_7.out.size))
    clear B_7
    clear hb8
    obtain ⟨A10, c10, rfl, hs10⟩ := own_sb ho10
    generalize hx10 : n + X9.length = x10 at hs10 ⊢
    have S10 := Lib.hid hs10
    clear hx10 hs10 ho10
    go_wp2_with fail
    refine (sameBytes_any A8 A10 X8.length c8 x10 c10 _ _ _ S8_8.out.rb S10.out.rb).mono ?_
    rintro e w' ⟨rfl, rfl⟩
    rw [show (X8 == l ++ X9) = true by rw [HX8.out]; exact beq_self_eq_true _]
    clear S8_8
    clear S10
    go_wp2_with fail
    refine (works_any _).mono ?_
    rintro e w9 ⟨rfl, hb9⟩
    have B_9 := Lib.hid (B_8.out.trans (hb9.mono B_8.out.size))
    clear B_8
    clear hb9
    go_wp2_with fail
    go_ret
    exact ⟨rfl, B_9.out⟩
  · skip
    refine (putSorted_any A Al n c m cl l ss _ T0.out R0.out (by omega) (by omega)).mono ?_
    rintro e w1 ⟨hb1, hsp⟩
    have T_1 := Lib.hid (T0.out.keep hb1)
    clear T0
    have R_1 := Lib.hid (R0.out.keep hb1)
    clear R0
    have B_1 := Lib.hid hb1
    clear hb1
    obtain ⟨_, b1, rfl, ho1⟩ := hsp.resolve_left (fun h => by have h1 := h.1; rw [HA.out] at h1; cases h1)
    obtain ⟨A1, c1, rfl, hs1⟩ := OB.sb ho1
    generalize hX1 : l ++ putS (by_ ss) = X1 at hs1 ⊢
    have HX1 := Lib.hid hX1
    have S1 := Lib.hid hs1
    clear hX1 hs1 ho1 hsp
    go_wp2_with fail
    refine (sortedR_any Al m cl ss _ R_1.out (by omega) (by omega)).mono ?_
    rintro e w2 ⟨hb2, hsp⟩
    have T_2 := Lib.hid (T_1.out.keep hb2)
    clear T_1
    have R_2 := Lib.hid (R_1.out.keep hb2)
    clear R_1
    have S1_2 := Lib.hid (S1.out.keep hb2)
    clear S1
    have B_2 := Lib.hid (B_1.out.trans (hb2.mono B_1.out.size))
    clear B_1
    clear hb2
    obtain ⟨_, b2, rfl, ho2⟩ := hsp.resolve_left (fun h => by have h1 := h.1; rw [HA.out] at h1; cases h1)
    rw [List.nil_append] at ho2
    obtain ⟨A2, c2, rfl, hs2⟩ := OB.sb ho2
    have hl2 : (putS (by_ ss)).length ≤ 10 + room ss := by
      have h := bodyS_len [] ss
      have h2 := put_len (by_ ss).length
      unfold putS
      rw [List.length_append]
      omega
    generalize hX2 : putS (by_ ss) = X2 at hs2 HX1 hl2 ⊢
    have S2 := Lib.hid hs2
    clear hX2 hs2 ho2 hsp
    go_wp2_with fail
    refine (after_any A A2 n c X2.length c2 l X2 _ T_2.out.rb S2.out.rb (by omega)).mono ?_
    rintro e w3 ⟨b3, rfl, ho3, hb3⟩
    clear S2
    have T_3 := Lib.hid (T_2.out.keep hb3)
    clear T_2
    have R_3 := Lib.hid (R_2.out.keep hb3)
    clear R_2
    have S1_3 := Lib.hid (S1_2.out.keep hb3)
    clear S1_2
    have B_3 := Lib.hid (B_2.out.trans (hb3.mono B_2.out.size))
    clear B_2
    clear hb3
    obtain ⟨A3, c3, rfl, hs3⟩ := own_sb ho3
    generalize hx3 : n + X2.length = x3 at hs3 ⊢
    have S3 := Lib.hid hs3
    clear hx3 hs3 ho3
    go_wp2_with fail
    refine (sameBytes_any A1 A3 X1.length c1 x3 c3 _ _ _ S1_3.out.rb S3.out.rb).mono ?_
    rintro e w' ⟨rfl, rfl⟩
    rw [show (X1 == l ++ X2) = true by rw [HX1.out]; exact beq_self_eq_true _]
    clear S1_3
    clear S3
    go_wp2_with fail
    refine (putText_any A n c l s0 _ T_3.out (by omega)).mono ?_
    rintro e w4 ⟨b5, rfl, ho5, hb4⟩
    have T_4 := Lib.hid (T_3.out.keep hb4)
    clear T_3
    have R_4 := Lib.hid (R_3.out.keep hb4)
    clear R_3
    have B_4 := Lib.hid (B_3.out.trans (hb4.mono B_3.out.size))
    clear B_3
    clear hb4
    obtain ⟨A5, c5, rfl, hs5⟩ := own_sb ho5
    generalize hX5 : l ++ putT s0.data.toList = X5 at hs5
    generalize hx5 : n + (putT s0.data.toList).length = x5 at hs5 ⊢
    have HX5 := Lib.hid hX5
    have S5 := Lib.hid hs5
    clear hX5 hx5 hs5 ho5
    go_wp2_with fail
    refine (textR_any s0 _ (by omega)).mono ?_
    rintro e w5 ⟨b6, rfl, ho6, hb5⟩
    have T_5 := Lib.hid (T_4.out.keep hb5)
    clear T_4
    have R_5 := Lib.hid (R_4.out.keep hb5)
    clear R_4
    have S5_5 := Lib.hid (S5.out.keep hb5)
    clear S5
    have B_5 := Lib.hid (B_4.out.trans (hb5.mono B_4.out.size))
    clear B_4
    clear hb5
    obtain ⟨A6, c6, rfl, hs6⟩ := own_sb ho6
    have hl6 : (putT s0.data.toList).length ≤ s0.size + 10 := by have h := putT_len s0.data.toList; rw [ba_len] at h; exact h
    generalize hX6 : putT s0.data.toList = X6 at hs6 hl6 HX5 ⊢
    have S6 := Lib.hid hs6
    clear hX6 hs6 ho6
    go_wp2_with fail
    refine (after_any A A6 n c X6.length c6 l X6 _ T_5.out.rb S6.out.rb (by omega)).mono ?_
    rintro e w6 ⟨b7, rfl, ho7, hb6⟩
    clear S6
    have T_6 := Lib.hid (T_5.out.keep hb6)
    clear T_5
    have R_6 := Lib.hid (R_5.out.keep hb6)
    clear R_5
    have S5_6 := Lib.hid (S5_5.out.keep hb6)
    clear S5_5
    have B_6 := Lib.hid (B_5.out.trans (hb6.mono B_5.out.size))
    clear B_5
    clear hb6
    obtain ⟨A7, c7, rfl, hs7⟩ := own_sb ho7
    generalize hx7 : n + X6.length = x7 at hs7 ⊢
    have S7 := Lib.hid hs7
    clear hx7 hs7 ho7
    go_wp2_with fail
    refine (sameBytes_any A5 A7 x5 c5 x7 c7 _ _ _ S5_6.out.rb S7.out.rb).mono ?_
    rintro e w' ⟨rfl, rfl⟩
    rw [show (X5 == l ++ X6) = true by rw [HX5.out]; exact beq_self_eq_true _]
    clear S5_6
    clear S7
    go_wp2_with fail
    refine (putList_any A Al n c m cl l ss _ T_6.out R_6.out (by omega) (by omega)).mono ?_
    rintro e w7 ⟨b8, rfl, ho8, hb7⟩
    have T_7 := Lib.hid (T_6.out.keep hb7)
    clear T_6
    have R_7 := Lib.hid (R_6.out.keep hb7)
    clear R_6
    have B_7 := Lib.hid (B_6.out.trans (hb7.mono B_6.out.size))
    clear B_6
    clear hb7
    obtain ⟨A8, c8, rfl, hs8⟩ := OB.sb ho8
    generalize hX8 : l ++ putL (by_ ss) = X8 at hs8 ⊢
    have HX8 := Lib.hid hX8
    have S8 := Lib.hid hs8
    clear hX8 hs8 ho8
    go_wp2_with fail
    refine (listR_any Al m cl ss _ R_7.out (by omega) (by omega)).mono ?_
    rintro e w8 ⟨b9, rfl, ho9, hb8⟩
    have T_8 := Lib.hid (T_7.out.keep hb8)
    clear T_7
    have R_8 := Lib.hid (R_7.out.keep hb8)
    clear R_7
    have S8_8 := Lib.hid (S8.out.keep hb8)
    clear S8
    have B_8 := Lib.hid (B_7.out.trans (hb8.mono B_7.out.size))
    clear B_7
    clear hb8
    obtain ⟨A9, c9, rfl, hs9⟩ := OB.sb ho9
    have hl9 : (putL (by_ ss)).length ≤ 10 + room ss := by
      have h := bodyL_len ss
      have h2 := put_len (by_ ss).length
      unfold putL
      rw [List.length_append]
      omega
    generalize hX9 : putL (by_ ss) = X9 at hs9 HX8 hl9 ⊢
    have S9 := Lib.hid hs9
    clear hX9 hs9 ho9
    go_wp2_with fail
    refine (after_any A A9 n c X9.length c9 l X9 _ T_8.out.rb S9.out.rb (by omega)).mono ?_
    rintro e w9 ⟨b10, rfl, ho10, hb9⟩
    clear S9
    clear R_8
    clear T_8
    have S8_9 := Lib.hid (S8_8.out.keep hb9)
    clear S8_8
    have B_9 := Lib.hid (B_8.out.trans (hb9.mono B_8.out.size))
    clear B_8
    clear hb9
    obtain ⟨A10, c10, rfl, hs10⟩ := own_sb ho10
    generalize hx10 : n + X9.length = x10 at hs10 ⊢
    have S10 := Lib.hid hs10
    clear hx10 hs10 ho10
    go_wp2_with fail
    refine (sameBytes_any A8 A10 X8.length c8 x10 c10 _ _ _ S8_9.out.rb S10.out.rb).mono ?_
    rintro e w' ⟨rfl, rfl⟩
    rw [show (X8 == l ++ X9) = true by rw [HX8.out]; exact beq_self_eq_true _]
    clear S8_9
    clear S10
    go_wp2_with fail
    refine (works_any _).mono ?_
    rintro e w10 ⟨rfl, hb10⟩
    have B_10 := Lib.hid (B_9.out.trans (hb10.mono B_9.out.size))
    clear B_9
    clear hb10
    go_wp2_with fail
    go_ret
    exact ⟨rfl, B_10.out⟩
  · skip
    refine (putSorted_any A Al n c m cl l ss _ T0.out R0.out (by omega) (by omega)).mono ?_
    rintro e w1 ⟨hb1, hsp⟩
    have T_1 := Lib.hid (T0.out.keep hb1)
    clear T0
    have R_1 := Lib.hid (R0.out.keep hb1)
    clear R0
    have B_1 := Lib.hid hb1
    clear hb1
    obtain ⟨_, b1, rfl, ho1⟩ := hsp.resolve_left (fun h => by have h1 := h.1; rw [HA.out] at h1; cases h1)
    obtain ⟨A1, c1, rfl, hs1⟩ := OB.sb ho1
    generalize hX1 : l ++ putS (by_ ss) = X1 at hs1 ⊢
    have HX1 := Lib.hid hX1
    have S1 := Lib.hid hs1
    clear hX1 hs1 ho1 hsp
    go_wp2_with fail
    refine (sortedR_any Al m cl ss _ R_1.out (by omega) (by omega)).mono ?_
    rintro e w2 ⟨hb2, hsp⟩
    have T_2 := Lib.hid (T_1.out.keep hb2)
    clear T_1
    have R_2 := Lib.hid (R_1.out.keep hb2)
    clear R_1
    have S1_2 := Lib.hid (S1.out.keep hb2)
    clear S1
    have B_2 := Lib.hid (B_1.out.trans (hb2.mono B_1.out.size))
    clear B_1
    clear hb2
    obtain ⟨_, b2, rfl, ho2⟩ := hsp.resolve_left (fun h => by have h1 := h.1; rw [HA.out] at h1; cases h1)
    rw [List.nil_append] at ho2
    obtain ⟨A2, c2, rfl, hs2⟩ := OB.sb ho2
    have hl2 : (putS (by_ ss)).length ≤ 10 + room ss := by
      have h := bodyS_len [] ss
      have h2 := put_len (by_ ss).length
      unfold putS
      rw [List.length_append]
      omega
    generalize hX2 : putS (by_ ss) = X2 at hs2 HX1 hl2 ⊢
    have S2 := Lib.hid hs2
    clear hX2 hs2 ho2 hsp
    go_wp2_with fail
    refine (after_any A A2 n c X2.length c2 l X2 _ T_2.out.rb S2.out.rb (by omega)).mono ?_
    rintro e w3 ⟨b3, rfl, ho3, hb3⟩
    clear S2
    have T_3 := Lib.hid (T_2.out.keep hb3)
    clear T_2
    have R_3 := Lib.hid (R_2.out.keep hb3)
    clear R_2
    have S1_3 := Lib.hid (S1_2.out.keep hb3)
    clear S1_2
    have B_3 := Lib.hid (B_2.out.trans (hb3.mono B_2.out.size))
    clear B_2
    clear hb3
    obtain ⟨A3, c3, rfl, hs3⟩ := own_sb ho3
    generalize hx3 : n + X2.length = x3 at hs3 ⊢
    have S3 := Lib.hid hs3
    clear hx3 hs3 ho3
    go_wp2_with fail
    refine (sameBytes_any A1 A3 X1.length c1 x3 c3 _ _ _ S1_3.out.rb S3.out.rb).mono ?_
    rintro e w' ⟨rfl, rfl⟩
    rw [show (X1 == l ++ X2) = true by rw [HX1.out]; exact beq_self_eq_true _]
    clear S1_3
    clear S3
    go_wp2_with fail
    refine (putText_any A n c l s0 _ T_3.out (by omega)).mono ?_
    rintro e w4 ⟨b5, rfl, ho5, hb4⟩
    have T_4 := Lib.hid (T_3.out.keep hb4)
    clear T_3
    have R_4 := Lib.hid (R_3.out.keep hb4)
    clear R_3
    have B_4 := Lib.hid (B_3.out.trans (hb4.mono B_3.out.size))
    clear B_3
    clear hb4
    obtain ⟨A5, c5, rfl, hs5⟩ := own_sb ho5
    generalize hX5 : l ++ putT s0.data.toList = X5 at hs5
    generalize hx5 : n + (putT s0.data.toList).length = x5 at hs5 ⊢
    have HX5 := Lib.hid hX5
    have S5 := Lib.hid hs5
    clear hX5 hx5 hs5 ho5
    go_wp2_with fail
    refine (textR_any s0 _ (by omega)).mono ?_
    rintro e w5 ⟨b6, rfl, ho6, hb5⟩
    have T_5 := Lib.hid (T_4.out.keep hb5)
    clear T_4
    have R_5 := Lib.hid (R_4.out.keep hb5)
    clear R_4
    have S5_5 := Lib.hid (S5.out.keep hb5)
    clear S5
    have B_5 := Lib.hid (B_4.out.trans (hb5.mono B_4.out.size))
    clear B_4
    clear hb5
    obtain ⟨A6, c6, rfl, hs6⟩ := own_sb ho6
    have hl6 : (putT s0.data.toList).length ≤ s0.size + 10 := by have h := putT_len s0.data.toList; rw [ba_len] at h; exact h
    generalize hX6 : putT s0.data.toList = X6 at hs6 hl6 HX5 ⊢
    have S6 := Lib.hid hs6
    clear hX6 hs6 ho6
    go_wp2_with fail
    refine (after_any A A6 n c X6.length c6 l X6 _ T_5.out.rb S6.out.rb (by omega)).mono ?_
    rintro e w6 ⟨b7, rfl, ho7, hb6⟩
    clear S6
    have T_6 := Lib.hid (T_5.out.keep hb6)
    clear T_5
    have R_6 := Lib.hid (R_5.out.keep hb6)
    clear R_5
    have S5_6 := Lib.hid (S5_5.out.keep hb6)
    clear S5_5
    have B_6 := Lib.hid (B_5.out.trans (hb6.mono B_5.out.size))
    clear B_5
    clear hb6
    obtain ⟨A7, c7, rfl, hs7⟩ := own_sb ho7
    generalize hx7 : n + X6.length = x7 at hs7 ⊢
    have S7 := Lib.hid hs7
    clear hx7 hs7 ho7
    go_wp2_with fail
    refine (sameBytes_any A5 A7 x5 c5 x7 c7 _ _ _ S5_6.out.rb S7.out.rb).mono ?_
    rintro e w' ⟨rfl, rfl⟩
    rw [show (X5 == l ++ X6) = true by rw [HX5.out]; exact beq_self_eq_true _]
    clear S5_6
    clear S7
    go_wp2_with fail
    refine (putList_any A Al n c m cl l ss _ T_6.out R_6.out (by omega) (by omega)).mono ?_
    rintro e w7 ⟨b8, rfl, ho8, hb7⟩
    have T_7 := Lib.hid (T_6.out.keep hb7)
    clear T_6
    have R_7 := Lib.hid (R_6.out.keep hb7)
    clear R_6
    have B_7 := Lib.hid (B_6.out.trans (hb7.mono B_6.out.size))
    clear B_6
    clear hb7
    obtain ⟨A8, c8, rfl, hs8⟩ := OB.sb ho8
    generalize hX8 : l ++ putL (by_ ss) = X8 at hs8 ⊢
    have HX8 := Lib.hid hX8
    have S8 := Lib.hid hs8
    clear hX8 hs8 ho8
    go_wp2_with fail
    refine (listR_any Al m cl ss _ R_7.out (by omega) (by omega)).mono ?_
    rintro e w8 ⟨b9, rfl, ho9, hb8⟩
    have T_8 := Lib.hid (T_7.out.keep hb8)
    clear T_7
    have R_8 := Lib.hid (R_7.out.keep hb8)
    clear R_7
    have S8_8 := Lib.hid (S8.out.keep hb8)
    clear S8
    have B_8 := Lib.hid (B_7.out.trans (hb8.mono B_7.out.size))
    clear B_7
    clear hb8
    obtain ⟨A9, c9, rfl, hs9⟩ := OB.sb ho9
    have hl9 : (putL (by_ ss)).length ≤ 10 + room ss := by
      have h := bodyL_len ss
      have h2 := put_len (by_ ss).length
      unfold putL
      rw [List.length_append]
      omega
    generalize hX9 : putL (by_ ss) = X9 at hs9 HX8 hl9 ⊢
    have S9 := Lib.hid hs9
    clear hX9 hs9 ho9
    go_wp2_with fail
    refine (after_any A A9 n c X9.length c9 l X9 _ T_8.out.rb S9.out.rb (by omega)).mono ?_
    rintro e w9 ⟨b10, rfl, ho10, hb9⟩
    clear S9
    clear R_8
    clear T_8
    have S8_9 := Lib.hid (S8_8.out.keep hb9)
    clear S8_8
    have B_9 := Lib.hid (B_8.out.trans (hb9.mono B_8.out.size))
    clear B_8
    clear hb9
    obtain ⟨A10, c10, rfl, hs10⟩ := own_sb ho10
    generalize hx10 : n + X9.length = x10 at hs10 ⊢
    have S10 := Lib.hid hs10
    clear hx10 hs10 ho10
    go_wp2_with fail
    refine (sameBytes_any A8 A10 X8.length c8 x10 c10 _ _ _ S8_9.out.rb S10.out.rb).mono ?_
    rintro e w' ⟨rfl, rfl⟩
    rw [show (X8 == l ++ X9) = true by rw [HX8.out]; exact beq_self_eq_true _]
    clear S8_9
    clear S10
    go_wp2_with fail
    refine (works_any _).mono ?_
    rintro e w10 ⟨rfl, hb10⟩
    have B_10 := Lib.hid (B_9.out.trans (hb10.mono B_9.out.size))
    clear B_9
    clear hb10
    go_wp2_with fail
    go_ret
    exact ⟨rfl, B_10.out⟩
end Go.Proofs.Ytpcojppadeagiaa.Cod
