/-
  The walk of UtfPieces: a valid string that is cut at two indices consists of the three pieces. Conditions: the two tables of unicode/utf8 lie as their initialisers lay them. (Printed by gen/utfpieces.py.)
-/
import Derived.Test.YtcnedljblljhoaaDoorUtfWorks
import Derived.Laws.Concat
namespace Go.Proofs.YtcnedljblljhoaaDoor.Utf
open Go.RowKit Wd

theorem cnt_txt (cs : List Nat) (h : ∀ c ∈ cs, chr c) : cnt (txt cs) = (cs.length : Int) := by unfold cnt; rw [runes_txt cs h]
theorem cutOf_txt (cs : List Nat) (h : ∀ c ∈ cs, chr c) (f t : Nat) (h1 : f ≤ t) (h2 : t ≤ cs.length) : cutOf (txt cs) (f : Int) (t : Int) = some (txt ((cs.drop f).take (t - f))) := by
  unfold cutOf; rw [runes_txt cs h]
  simp only
  rw [if_neg (by omega)]; rfl
theorem wrapu (z : Int) : ∃ x : Nat, IntKind.u64.wrap z = (x : Int) ∧ x ≤ 18446744073709551615 := by
  refine ⟨(IntKind.u64.wrap z).toNat, ?_, ?_⟩
  · rw [IntKind.wrap_u64]; omega
  · rw [IntKind.wrap_u64]; omega

set_option maxRecDepth 100000 in
set_option maxHeartbeats 4000000 in
theorem pieces_any (s : ByteArray) (z1 z2 : Int) (w : World) (hT : Tabs w) (hs : s.size ≤ 140737488355328) :
    Calls Tryd.prog 8 #[.string s, .int .i64 z1, .int .i64 z2] w fun e w' => e = .returned (.bool true) ∧ Below w.heap.size w w' := by
  have T0 := Lib.hid hT
  have C1 := Lib.hid (count_any s w (by omega) hT)
  clear hT
  by_cases hbad : 3000 < s.size ∨ runes s.data.toList = none
  · unfold cnt at C1
    generalize hR : runes s.data.toList = R at C1 hbad
    clear hR
    obtain ⟨N, hN, C1'⟩ : ∃ N : Int, (3000 < s.size ∨ N < 0) ∧ Hid (Calls Tryd.prog 15 #[.string s] w fun e w' => e = .returned (.int .i64 N) ∧ Below w.heap.size w w') := ⟨_, by rcases hbad with h | h; exact .inl h; exact .inr (by rw [h]; decide), C1⟩
    clear C1 hbad
    rcases (show 3000 < s.size ∨ (s.size ≤ 3000 ∧ N < 0) by omega) with h | ⟨h, h'⟩
    · have hl : (3000 : Int) < (s.size : Int) := by omega
      clear hN
      go_enter Tryd.func8, Tryd.ntmps8
      go_wp2_with fail
      refine C1'.out.mono ?_
      rintro e w1 ⟨rfl, hb1⟩
      have T1 := Lib.hid (T0.out.keep hb1)
      have B1 := Lib.hid hb1
      clear hb1
      go_wp2_with fail
      refine (works_any _ T1.out).mono ?_
      rintro e w2 ⟨rfl, hb2⟩
      go_wp2_with fail
      go_ret
      exact ⟨rfl, B1.out.trans (hb2.mono B1.out.size)⟩
    · have hl : (s.size : Int) ≤ 3000 := by omega
      clear hN
      go_enter Tryd.func8, Tryd.ntmps8
      go_wp2_with fail
      refine C1'.out.mono ?_
      rintro e w1 ⟨rfl, hb1⟩
      have T1 := Lib.hid (T0.out.keep hb1)
      have B1 := Lib.hid hb1
      clear hb1
      go_wp2_with fail
      refine (works_any _ T1.out).mono ?_
      rintro e w2 ⟨rfl, hb2⟩
      go_wp2_with fail
      go_ret
      exact ⟨rfl, B1.out.trans (hb2.mono B1.out.size)⟩
  · obtain ⟨cs, hR⟩ : ∃ cs, runes s.data.toList = some cs := by
      rcases hr : runes s.data.toList with _ | cs
      · exact absurd (.inr hr) hbad
      · exact ⟨cs, rfl⟩
    have hl : (s.size : Int) ≤ 3000 := by omega
    obtain ⟨htx, hch⟩ := (runes_iff _ _).1 hR
    have hcl : cs.length ≤ s.size := by
      have := txt_many cs
      rw [← htx, Array.length_toList] at this
      exact this
    rw [htx, cnt_txt cs hch] at C1
    obtain ⟨x1, hx1, hb1⟩ := wrapu z1
    obtain ⟨x2, hx2, hb2⟩ := wrapu z2
    obtain ⟨i1, hi1⟩ : ∃ i1, i1 = x1 % (cs.length + 1) := ⟨_, rfl⟩
    obtain ⟨i2, hi2⟩ : ∃ i2, i2 = x2 % (cs.length + 1) := ⟨_, rfl⟩
    have hi1' : (x1 : Int) % ((cs.length : Int) + 1) = (i1 : Int) := by rw [hi1]; exact (Int.natCast_emod _ _).symm
    have hi2' : (x2 : Int) % ((cs.length : Int) + 1) = (i2 : Int) := by rw [hi2]; exact (Int.natCast_emod _ _).symm
    have l1 : i1 ≤ cs.length := by have := Nat.mod_lt x1 (show 0 < cs.length + 1 by omega); omega
    have l2 : i2 ≤ cs.length := by have := Nat.mod_lt x2 (show 0 < cs.length + 1 by omega); omega
    clear hi1 hi2 hbad hR
    have hparts : ∀ i k : Nat, i ≤ k → k ≤ cs.length → ∃ pa pb pc pab : ByteArray, Hid (∀ W, Tabs W → Calls Tryd.prog 20 #[.string s, .int .i64 0, .int .i64 (i : Int)] W (CutPost W (some pa.data.toList))) ∧
        Hid (∀ W, Tabs W → Calls Tryd.prog 20 #[.string s, .int .i64 (i : Int), .int .i64 (k : Int)] W (CutPost W (some pb.data.toList))) ∧
        Hid (∀ W, Tabs W → Calls Tryd.prog 20 #[.string s, .int .i64 (k : Int), .int .i64 (cs.length : Int)] W (CutPost W (some pc.data.toList))) ∧
        (∀ W : World, (Op.stringOp .add pa pb).run Tryd.prog W = .ok (.string pab) W) ∧ (∀ W : World, (Op.stringOp .add pab pc).run Tryd.prog W = .ok (.string s) W) ∧
        Hid (∀ W, Tabs W → Calls Tryd.prog 15 #[.string pa] W fun e w' => e = .returned (.int .i64 (i : Int)) ∧ Below W.heap.size W w') ∧
        Hid (∀ W, Tabs W → Calls Tryd.prog 15 #[.string pb] W fun e w' => e = .returned (.int .i64 ((k : Int) - (i : Int))) ∧ Below W.heap.size W w') := by
      intro i k hik hkn
      have hsub : ∀ f m c, c ∈ (cs.drop f).take m → chr c := fun f m c hc => hch c (List.mem_of_mem_drop (List.mem_of_mem_take hc))
      have hcut : ∀ f t : Nat, f ≤ t → t ≤ cs.length → cutOf s.data.toList (f : Int) (t : Int) = some (txt ((cs.drop f).take (t - f))) := fun f t ha hb => by rw [htx]; exact cutOf_txt cs hch f t ha hb
      have hs1 : ∀ f m, (txt ((cs.drop f).take m)).length ≤ 12000 := fun f m => by
        have h1 := txt_len ((cs.drop f).take m)
        have h2 : ((cs.drop f).take m).length ≤ cs.length := by rw [List.length_take, List.length_drop]; omega
        omega
      refine ⟨⟨(txt ((cs.drop 0).take (i - 0))).toArray⟩, ⟨(txt ((cs.drop i).take (k - i))).toArray⟩, ⟨(txt ((cs.drop k).take (cs.length - k))).toArray⟩, ⟨(txt ((cs.drop 0).take (i - 0)) ++ txt ((cs.drop i).take (k - i))).toArray⟩, ?_, ?_, ?_, ?_, ?_, ?_, ?_⟩
      · refine Lib.hid (fun W hW => ?_)
        have := cut_any s ((0 : Nat) : Int) (i : Int) W (by omega) hW
        rw [hcut 0 i (by omega) (by omega)] at this
        exact this
      · refine Lib.hid (fun W hW => ?_)
        have := cut_any s (i : Int) (k : Int) W (by omega) hW
        rw [hcut i k hik hkn] at this
        exact this
      · refine Lib.hid (fun W hW => ?_)
        have := cut_any s (k : Int) (cs.length : Int) W (by omega) hW
        rw [hcut k cs.length hkn (Nat.le_refl _)] at this
        exact this
      · intro W
        have e1 := hs1 0 (i - 0)
        have e2 := hs1 i (k - i)
        rw [run_string_add_sum _ _ _ (by show (txt _).toArray.size + (txt _).toArray.size ≤ _; rw [List.size_toArray, List.size_toArray]; omega), ByteArray.mk_append_mk]
      · intro W
        have e1 := hs1 0 (i - 0)
        have e2 := hs1 i (k - i)
        have e3 := hs1 k (cs.length - k)
        rw [run_string_add_sum _ _ _ (by show (txt _ ++ txt _).toArray.size + (txt _).toArray.size ≤ _; rw [List.size_toArray, List.size_toArray, List.length_append]; omega), ByteArray.mk_append_mk]
        congr 2
        have e : txt ((cs.drop 0).take (i - 0)) ++ txt ((cs.drop i).take (k - i)) ++ txt ((cs.drop k).take (cs.length - k)) = s.data.toList := by
          rw [htx, ← txt_append, ← txt_append]
          congr 1
          rw [List.drop_zero, Nat.sub_zero, ← List.take_add, show i + (k - i) = k by omega, List.take_of_length_le (l := cs.drop k) (by rw [List.length_drop]; omega), List.take_append_drop]
        rw [e]
      · refine Lib.hid (fun W hW => ?_)
        have e1 := hs1 0 (i - 0)
        have := count_any ⟨(txt ((cs.drop 0).take (i - 0))).toArray⟩ W (by show (txt _).toArray.size < _; rw [List.size_toArray]; omega) hW
        have e : cnt (⟨(txt ((cs.drop 0).take (i - 0))).toArray⟩ : ByteArray).data.toList = (i : Int) := by
          rw [show (⟨(txt ((cs.drop 0).take (i - 0))).toArray⟩ : ByteArray).data.toList = txt ((cs.drop 0).take (i - 0)) by simp, cnt_txt _ (hsub 0 (i - 0))]
          rw [List.length_take, List.length_drop]; omega
        rw [e] at this
        exact this
      · refine Lib.hid (fun W hW => ?_)
        have e1 := hs1 i (k - i)
        have := count_any ⟨(txt ((cs.drop i).take (k - i))).toArray⟩ W (by show (txt _).toArray.size < _; rw [List.size_toArray]; omega) hW
        have e : cnt (⟨(txt ((cs.drop i).take (k - i))).toArray⟩ : ByteArray).data.toList = (k : Int) - (i : Int) := by
          rw [show (⟨(txt ((cs.drop i).take (k - i))).toArray⟩ : ByteArray).data.toList = txt ((cs.drop i).take (k - i)) by simp, cnt_txt _ (hsub i (k - i))]
          rw [List.length_take, List.length_drop]; omega
        rw [e] at this
        exact this
    clear htx hch
    by_cases hsw : i2 < i1
    case' pos =>
      obtain ⟨pa, pb, pc, pab, P1, P2, P3, ha1, ha2, K1, K2⟩ := hparts i2 i1 (by omega) l1
      have hsw' : (i2 : Int) < (i1 : Int) := by omega
    case' neg =>
      obtain ⟨pa, pb, pc, pab, P1, P2, P3, ha1, ha2, K1, K2⟩ := hparts i1 i2 (by omega) l2
      have hsw' : (i1 : Int) ≤ (i2 : Int) := by omega
    all_goals
      clear hparts hsw
      go_enter Tryd.func8, Tryd.ntmps8
      go_wp2_with fail
      refine C1.out.mono ?_
      rintro e w1 ⟨rfl, hbw⟩
      have Tb_1 := Lib.hid (T0.out.keep hbw)
      have B_1 := Lib.hid hbw
      clear hbw
      go_wp2_with fail
      refine (P1.out _ Tb_1.out).mono ?_
      rintro e w2 ⟨hb2, he⟩
      have Tb_2 := Lib.hid (Tb_1.out.keep hb2)
      clear Tb_1
      have B_2 := Lib.hid (B_1.out.trans (hb2.mono B_1.out.size))
      clear B_1
      clear hb2
      have he' : e = .returned (.tuple #[.string pa, .bool true]) := he
      subst he'
      clear he
      go_wp2_with fail
      refine (P2.out _ Tb_2.out).mono ?_
      rintro e w3 ⟨hb3, he⟩
      have Tb_3 := Lib.hid (Tb_2.out.keep hb3)
      clear Tb_2
      have B_3 := Lib.hid (B_2.out.trans (hb3.mono B_2.out.size))
      clear B_2
      clear hb3
      have he' : e = .returned (.tuple #[.string pb, .bool true]) := he
      subst he'
      clear he
      go_wp2_with fail
      refine (P3.out _ Tb_3.out).mono ?_
      rintro e w4 ⟨hb4, he⟩
      have Tb_4 := Lib.hid (Tb_3.out.keep hb4)
      clear Tb_3
      have B_4 := Lib.hid (B_3.out.trans (hb4.mono B_3.out.size))
      clear B_3
      clear hb4
      have he' : e = .returned (.tuple #[.string pc, .bool true]) := he
      subst he'
      clear he
      go_wp2_with fail
      refine (K1.out _ Tb_4.out).mono ?_
      rintro e w5 ⟨rfl, hb5⟩
      have Tb_5 := Lib.hid (Tb_4.out.keep hb5)
      clear Tb_4
      have B_5 := Lib.hid (B_4.out.trans (hb5.mono B_4.out.size))
      clear B_4
      clear hb5
      go_wp2_with fail
      refine (K2.out _ Tb_5.out).mono ?_
      rintro e w6 ⟨rfl, hb6⟩
      have Tb_6 := Lib.hid (Tb_5.out.keep hb6)
      clear Tb_5
      have B_6 := Lib.hid (B_5.out.trans (hb6.mono B_5.out.size))
      clear B_5
      clear hb6
      go_wp2_with fail
      refine (works_any _ Tb_6.out).mono ?_
      rintro e w7 ⟨rfl, hb7⟩
      have Tb_7 := Lib.hid (Tb_6.out.keep hb7)
      clear Tb_6
      have B_7 := Lib.hid (B_6.out.trans (hb7.mono B_6.out.size))
      clear B_6
      clear hb7
      go_wp2_with fail
      go_ret
      exact ⟨rfl, B_7.out⟩
end Go.Proofs.YtcnedljblljhoaaDoor.Utf
