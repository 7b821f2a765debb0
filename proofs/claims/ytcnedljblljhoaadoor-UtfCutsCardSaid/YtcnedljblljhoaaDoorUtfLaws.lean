/-
  The walks of UtfReads, UtfWrites and UtfCuts: the program agrees with the reference. Conditions: the two tables of unicode/utf8 lie as their initialisers lay them. (Printed by gen/utflaws.py.)
-/
import Derived.Test.YtcnedljblljhoaaDoorUtfWorks
namespace Go.Proofs.YtcnedljblljhoaaDoor.Utf
open Go.RowKit Wd

set_option maxRecDepth 100000 in
set_option maxHeartbeats 4000000 in
theorem reads_any (s : ByteArray) (w : World) (hT : Tabs w) (hs : s.size ≤ 140737488355328) : Calls Tryd.prog 3 #[.string s] w fun e w' => e = .returned (.bool true) ∧ Below w.heap.size w w' := by
  have T0 := Lib.hid hT
  clear hT
  by_cases hlen : 3000 < s.size
  · have hl : (3000 : Int) < (s.size : Int) := by omega
    go_enter Tryd.func3, Tryd.ntmps3
    go_wp2_with fail
    go_ret
    exact ⟨rfl, Below.refl _ _⟩
  · have hl : (s.size : Int) ≤ 3000 := by omega
    have C1 := Lib.hid (fun W hT => runes_any s W (by omega) hT)
    have C2 := Lib.hid (fun W => runesR_any s W (by omega))
    have C3 := Lib.hid (fun W hT => valid_any s W (by omega) hT)
    have C4 := Lib.hid (fun W hT => count_any s W (by omega) hT)
    have C5 := Lib.hid (fun W => countR_any s W (by omega))
    unfold cnt at C4 C5
    generalize hR : runes s.data.toList = R at C1 C2 C3 C4 C5
    rcases R with _ | cs
    · clear hR
      go_enter Tryd.func3, Tryd.ntmps3
      go_wp2_with fail
      refine (C1.out _ T0.out).mono ?_
      rintro e w1 ⟨hb1, he⟩
      have Tb_1 := Lib.hid (T0.out.keep hb1)
      clear T0
      have B_1 := Lib.hid hb1
      clear hb1
      have he' : e = .returned (.tuple #[.slice none 0 0, .bool false]) := he
      subst he'
      clear he
      go_wp2_with fail
      refine (C2.out _).mono ?_
      rintro e w2 ⟨hb2, he⟩
      have Tb_2 := Lib.hid (Tb_1.out.keep hb2)
      clear Tb_1
      have B_2 := Lib.hid (B_1.out.trans (hb2.mono B_1.out.size))
      clear B_1
      clear hb2
      have he' : e = .returned (.tuple #[.slice none 0 0, .bool false]) := he
      subst he'
      clear he
      go_wp2_with fail
      refine (same_any none none 0 0 0 0 [] [] _ (RI.nil _ _) (RI.nil _ _) (by decide)).mono ?_
      rintro e w3 ⟨rfl, hb3⟩
      have Tb_3 := Lib.hid (Tb_2.out.keep hb3)
      clear Tb_2
      have B_3 := Lib.hid (B_2.out.trans (hb3.mono B_2.out.size))
      clear B_2
      clear hb3
      rw [decide_eq_true (show ([] : List Int) = [] from rfl)]
      go_wp2_with fail
      refine (C3.out _ Tb_3.out).mono ?_
      rintro e w4 ⟨rfl, hb4⟩
      have Tb_4 := Lib.hid (Tb_3.out.keep hb4)
      clear Tb_3
      have B_4 := Lib.hid (B_3.out.trans (hb4.mono B_3.out.size))
      clear B_3
      clear hb4
      go_wp2_with fail
      refine (C4.out _ Tb_4.out).mono ?_
      rintro e w5 ⟨rfl, hb5⟩
      have Tb_5 := Lib.hid (Tb_4.out.keep hb5)
      clear Tb_4
      have B_5 := Lib.hid (B_4.out.trans (hb5.mono B_4.out.size))
      clear B_4
      clear hb5
      go_wp2_with fail
      refine (C5.out _).mono ?_
      rintro e w6 ⟨rfl, hb6⟩
      have Tb_6 := Lib.hid (Tb_5.out.keep hb6)
      clear Tb_5
      have B_6 := Lib.hid (B_5.out.trans (hb6.mono B_5.out.size))
      clear B_5
      clear hb6
      go_wp2_with fail
      refine (works_any _ Tb_6.out).mono ?_
      rintro e w7 ⟨rfl, hb7⟩
      have Tb_7 := Lib.hid (Tb_6.out.keep hb7)
      clear Tb_6
      have B_7 := Lib.hid (B_6.out.trans (hb7.mono B_6.out.size))
      clear B_6
      clear hb7
      go_wp2_with fail
      go_ret
      exact ⟨rfl, B_7.out⟩
    · have hcl : cs.length ≤ s.size := by
        have := txt_many cs
        rw [← ((runes_iff _ _).1 hR).1, Array.length_toList] at this
        exact this
      clear hR
      go_enter Tryd.func3, Tryd.ntmps3
      go_wp2_with fail
      refine (C1.out _ T0.out).mono ?_
      rintro e w1 ⟨hb1, he⟩
      have Tb_1 := Lib.hid (T0.out.keep hb1)
      clear T0
      have B_1 := Lib.hid hb1
      clear hb1
      obtain ⟨v1, rfl, ho⟩ := he
      obtain ⟨A1, c1, rfl, hri, _⟩ := own_ints ho
      have L1 := Lib.hid hri
      clear ho hri
      go_wp2_with fail
      refine (C2.out _).mono ?_
      rintro e w2 ⟨hb2, he⟩
      have Tb_2 := Lib.hid (Tb_1.out.keep hb2)
      clear Tb_1
      have L1_2 := Lib.hid (L1.out.keep hb2)
      clear L1
      have B_2 := Lib.hid (B_1.out.trans (hb2.mono B_1.out.size))
      clear B_1
      clear hb2
      obtain ⟨v2, rfl, ho⟩ := he
      obtain ⟨A2, c2, rfl, hri, _⟩ := own_ints ho
      have L2 := Lib.hid hri
      clear ho hri
      go_wp2_with fail
      refine (same_any A1 A2 cs.length c1 cs.length c2 (zs cs) (zs cs) _ L1_2.out L2.out (by omega)).mono ?_
      rintro e w3 ⟨rfl, hb3⟩
      clear L1_2
      clear L2
      have Tb_3 := Lib.hid (Tb_2.out.keep hb3)
      clear Tb_2
      have B_3 := Lib.hid (B_2.out.trans (hb3.mono B_2.out.size))
      clear B_2
      clear hb3
      rw [decide_eq_true (show zs cs = zs cs from rfl)]
      go_wp2_with fail
      refine (C3.out _ Tb_3.out).mono ?_
      rintro e w4 ⟨rfl, hb4⟩
      have Tb_4 := Lib.hid (Tb_3.out.keep hb4)
      clear Tb_3
      have B_4 := Lib.hid (B_3.out.trans (hb4.mono B_3.out.size))
      clear B_3
      clear hb4
      go_wp2_with fail
      refine (C4.out _ Tb_4.out).mono ?_
      rintro e w5 ⟨rfl, hb5⟩
      have Tb_5 := Lib.hid (Tb_4.out.keep hb5)
      clear Tb_4
      have B_5 := Lib.hid (B_4.out.trans (hb5.mono B_4.out.size))
      clear B_4
      clear hb5
      go_wp2_with fail
      refine (C5.out _).mono ?_
      rintro e w6 ⟨rfl, hb6⟩
      have Tb_6 := Lib.hid (Tb_5.out.keep hb6)
      clear Tb_5
      have B_6 := Lib.hid (B_5.out.trans (hb6.mono B_5.out.size))
      clear B_5
      clear hb6
      go_wp2_with fail
      refine (works_any _ Tb_6.out).mono ?_
      rintro e w7 ⟨rfl, hb7⟩
      have Tb_7 := Lib.hid (Tb_6.out.keep hb7)
      clear Tb_6
      have B_7 := Lib.hid (B_6.out.trans (hb7.mono B_6.out.size))
      clear B_6
      clear hb7
      go_wp2_with fail
      go_ret
      exact ⟨rfl, B_7.out⟩

set_option maxRecDepth 100000 in
set_option maxHeartbeats 4000000 in
theorem cuts_any (s : ByteArray) (f t : Int) (w : World) (hT : Tabs w) (hs : s.size ≤ 140737488355328) : Calls Tryd.prog 5 #[.string s, .int .i64 f, .int .i64 t] w fun e w' => e = .returned (.bool true) ∧ Below w.heap.size w w' := by
  have T0 := Lib.hid hT
  clear hT
  by_cases hlen : 3000 < s.size
  · have hl : (3000 : Int) < (s.size : Int) := by omega
    go_enter Tryd.func5, Tryd.ntmps5
    go_wp2_with fail
    go_ret
    exact ⟨rfl, Below.refl _ _⟩
  · have hl : (s.size : Int) ≤ 3000 := by omega
    have C1 := Lib.hid (fun W hT => cut_any s f t W (by omega) hT)
    have C2 := Lib.hid (fun W => cutR_any s f t W (by omega))
    generalize cutOf s.data.toList f t = R at C1 C2
    rcases R with _ | l
    · go_enter Tryd.func5, Tryd.ntmps5
      go_wp2_with fail
      refine (C1.out _ T0.out).mono ?_
      rintro e w1 ⟨hb1, he⟩
      have Tb_1 := Lib.hid (T0.out.keep hb1)
      clear T0
      have B_1 := Lib.hid hb1
      clear hb1
      have he' : e = .returned (.tuple #[.string ⟨#[]⟩, .bool false]) := he
      subst he'
      clear he
      go_wp2_with fail
      refine (C2.out _).mono ?_
      rintro e w2 ⟨hb2, he⟩
      have Tb_2 := Lib.hid (Tb_1.out.keep hb2)
      clear Tb_1
      have B_2 := Lib.hid (B_1.out.trans (hb2.mono B_1.out.size))
      clear B_1
      clear hb2
      have he' : e = .returned (.tuple #[.string ⟨#[]⟩, .bool false]) := he
      subst he'
      clear he
      go_wp2_with fail
      refine (works_any _ Tb_2.out).mono ?_
      rintro e w3 ⟨rfl, hb3⟩
      have Tb_3 := Lib.hid (Tb_2.out.keep hb3)
      clear Tb_2
      have B_3 := Lib.hid (B_2.out.trans (hb3.mono B_2.out.size))
      clear B_2
      clear hb3
      go_wp2_with fail
      go_ret
      exact ⟨rfl, B_3.out⟩
    · go_enter Tryd.func5, Tryd.ntmps5
      go_wp2_with fail
      refine (C1.out _ T0.out).mono ?_
      rintro e w1 ⟨hb1, he⟩
      have Tb_1 := Lib.hid (T0.out.keep hb1)
      clear T0
      have B_1 := Lib.hid hb1
      clear hb1
      have he' : e = .returned (.tuple #[.string ⟨l.toArray⟩, .bool true]) := he
      subst he'
      clear he
      go_wp2_with fail
      refine (C2.out _).mono ?_
      rintro e w2 ⟨hb2, he⟩
      have Tb_2 := Lib.hid (Tb_1.out.keep hb2)
      clear Tb_1
      have B_2 := Lib.hid (B_1.out.trans (hb2.mono B_1.out.size))
      clear B_1
      clear hb2
      have he' : e = .returned (.tuple #[.string ⟨l.toArray⟩, .bool true]) := he
      subst he'
      clear he
      go_wp2_with fail
      refine (works_any _ Tb_2.out).mono ?_
      rintro e w3 ⟨rfl, hb3⟩
      have Tb_3 := Lib.hid (Tb_2.out.keep hb3)
      clear Tb_2
      have B_3 := Lib.hid (B_2.out.trans (hb3.mono B_2.out.size))
      clear B_2
      clear hb3
      go_wp2_with fail
      go_ret
      exact ⟨rfl, B_3.out⟩

set_option maxRecDepth 100000 in
set_option maxHeartbeats 4000000 in
theorem writes_any (A : Option Addr) (n c : Nat) (l : List Int) (w : World) (hT : Tabs w) (hr : RI .i32 w A n l) (hn : n ≤ 140737488355328) (h32 : ∀ z ∈ l, -2147483648 ≤ z ∧ z ≤ 2147483647) : Calls Tryd.prog 4 #[.slice A n c] w fun e w' => e = .returned (.bool true) ∧ Below w.heap.size w w' := by
  obtain ⟨i0, hi, hz0, hz1, hz2⟩ := info_parts Tryd.infoRune
  have HI := Lib.hid hi
  have T0 := Lib.hid hT
  have L0 := Lib.hid hr
  have H32 := Lib.hid h32
  clear hT hr hi h32
  by_cases hlen : 1000 < n
  · have hl : (1000 : Int) < (n : Int) := by omega
    go_enter Tryd.func4, Tryd.ntmps4
    go_wp2_with fail
    go_ret
    exact ⟨rfl, Below.refl _ _⟩
  · have hl : (n : Int) ≤ 1000 := by omega
    go_enter Tryd.func4, Tryd.ntmps4
    go_wp2_with (at_builtin; refine wpList_append_any _ rfl (.tmp 7) (.tmp 8) _ rfl w.heap.size 21 i0 _ 1 4 Tryd.underlying22 HI.out hz0 hz1 hz2 rfl (by decide) _ _ _ rfl (own_empty _ _) _ A n c (is .i32 l) rfl (RI.alloc L0.out _) (is_one _ _) (by unfold maxLen; omega) (by omega) (by simp) ?_; intro v1 w1 hown1 hg1 hat1; rw [List.nil_append, Nat.zero_add] at hown1; obtain ⟨A1, c1, rfl, hri1, _⟩ := own_ints hown1; have B_0 := Lib.hid (own_below ((Below.refl _ _).alloc (Nat.le_refl _) _) (Nat.le_refl _) (own_empty _ _) (Nat.le_refl _) hg1); have M1 := Lib.hid hri1; have L1 := Lib.hid (L0.out.keep B_0.out); have T1 := Lib.hid (T0.out.keep B_0.out); clear hown1 hri1 hg1 hat1)
    refine (text_any A1 n c1 l _ M1.out (by omega) H32.out).mono ?_
    rintro e w1 ⟨rfl, hb1⟩
    have Tb_1 := Lib.hid (T1.out.keep hb1)
    clear T1
    have L_1 := Lib.hid (L1.out.keep hb1)
    clear L1
    have M_1 := Lib.hid (M1.out.keep hb1)
    clear M1
    have B_1 := Lib.hid (B_0.out.trans (hb1.mono B_0.out.size))
    clear B_0
    clear hb1
    go_wp2_with fail
    refine (textR_any A n c l _ L_1.out (by omega)).mono ?_
    rintro e w2 ⟨rfl, hb2⟩
    have Tb_2 := Lib.hid (Tb_1.out.keep hb2)
    clear Tb_1
    have L_2 := Lib.hid (L_1.out.keep hb2)
    clear L_1
    have M_2 := Lib.hid (M_1.out.keep hb2)
    clear M_1
    have B_2 := Lib.hid (B_1.out.trans (hb2.mono B_1.out.size))
    clear B_1
    clear hb2
    go_wp2_with fail
    refine (same_any A1 A n c1 n c l l _ M_2.out L_2.out (by omega)).mono ?_
    rintro e w3 ⟨rfl, hb3⟩
    have Tb_3 := Lib.hid (Tb_2.out.keep hb3)
    clear Tb_2
    have L_3 := Lib.hid (L_2.out.keep hb3)
    clear L_2
    have M_3 := Lib.hid (M_2.out.keep hb3)
    clear M_2
    have B_3 := Lib.hid (B_2.out.trans (hb3.mono B_2.out.size))
    clear B_2
    clear hb3
    rw [decide_eq_true (show l = l from rfl)]
    go_wp2_with fail
    refine (works_any _ Tb_3.out).mono ?_
    rintro e w4 ⟨rfl, hb4⟩
    clear L_3
    clear M_3
    have Tb_4 := Lib.hid (Tb_3.out.keep hb4)
    clear Tb_3
    have B_4 := Lib.hid (B_3.out.trans (hb4.mono B_3.out.size))
    clear B_3
    clear hb4
    go_wp2_with fail
    go_ret
    exact ⟨rfl, B_4.out⟩
end Go.Proofs.YtcnedljblljhoaaDoor.Utf
