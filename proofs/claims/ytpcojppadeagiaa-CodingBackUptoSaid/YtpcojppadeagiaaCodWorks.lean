/-
  The contract of 'works' of package henkanlaw12: some codes of the chapter are right. Conditions: none.
-/
import Derived.Test.YtpcojppadeagiaaCodLists
import Derived.Test.YtpcojppadeagiaaCodTexts
namespace Go.Proofs.Ytpcojppadeagiaa.Cod
open Go.RowKit Wd

/-- the strings of the example -/
def exS : List ByteArray := [⟨#[97]⟩, ⟨#[97, 98]⟩, ⟨#[98]⟩]
theorem exS_asc : asc (by_ exS) = true := by decide
theorem exS_put : putS (by_ exS) = [3, 0, 1, 97, 1, 1, 98, 0, 1, 98] := by decide

set_option maxRecDepth 100000 in
set_option maxHeartbeats 1000000 in
theorem works_any (w : World) : Calls Try.prog 14 #[] w fun e w' => e = .returned (.bool true) ∧ Below w.heap.size w w' := by
  go_enter Try.func14, Try.ntmps14
  go_wp2_with fail
  have hs0 : SB ((w.alloc (Obj.cells #[.int .u8 9] 5)).alloc (Obj.cells #[.string ⟨#[97]⟩, .string ⟨#[97, 98]⟩, .string ⟨#[98]⟩] 9)) (some ⟨w.heap.size, 0, none⟩) 1 1 [9] :=
    (sb_lit w _ _ _ 1 _ [9] rfl rfl rfl).alloc _
  have hr0 : RS ((w.alloc (Obj.cells #[.int .u8 9] 5)).alloc (Obj.cells #[.string ⟨#[97]⟩, .string ⟨#[97, 98]⟩, .string ⟨#[98]⟩] 9)) (some ⟨w.heap.size + 1, 0, none⟩) 3 exS :=
    rs_lit _ _ _ _ 3 _ exS (by simp) rfl rfl
  refine (putSorted_any _ _ 1 1 3 3 [9] exS _ hs0 hr0 (by decide) (by decide)).mono ?_
  clear hs0 hr0
  rintro e w1 ⟨hb1, ⟨ha, _⟩ | ⟨_, b, rfl, hob⟩⟩
  · rw [exS_asc] at ha; cases ha
  have hb1' : Below w.heap.size w w1 := (((Below.refl _ _).alloc (Nat.le_refl _) _).alloc (by simp) _).trans (hb1.mono (by simp; omega))
  rw [exS_put] at hob
  obtain ⟨A1, c1, rfl, hs1⟩ := hob.sb
  have B1 := Lib.hid hb1'
  have S1 := Lib.hid hs1
  clear hb1 hb1' hob hs1
  go_wp2_with fail
  refine (sorted_any A1 _ c1 1 _ [] exS _ S1.out (by decide) (by rw [exS_put]; rfl) exS_asc (by decide) (by decide)).mono ?_
  rintro e w2 ⟨Av, cv, rfl, hrs, hb2⟩
  rw [show 1 + (putS (by_ exS)).length = 11 by rw [exS_put]; rfl, show exS.length = 3 from rfl]
  rw [show exS.length = 3 from rfl] at hrs
  have B2 := Lib.hid (B1.out.trans (hb2.mono B1.out.size))
  have S2 := Lib.hid (S1.out.keep hb2)
  have R2 := Lib.hid hrs
  clear hb2 hrs
  go_wp2_with fail
  refine (int_any _ 1 1 0 [1] _ (sb_lit w2 _ _ _ 1 _ [1] rfl rfl rfl).rb (by decide) (by decide)).mono ?_
  rintro e w3 ⟨hb3, he⟩
  have he' : e = .returned (.tuple #[.int .i64 (-1), .int .i64 1, .bool true]) := he
  subst he'
  have hb3' : Below w2.heap.size w2 w3 := ((Below.refl _ _).alloc (Nat.le_refl _) _).trans (hb3.mono (by simp))
  have B3 := Lib.hid (B2.out.trans (hb3'.mono B2.out.size))
  have S3 := Lib.hid (S2.out.keep hb3')
  have R3 := Lib.hid (R2.out.keep hb3')
  clear hb3 hb3' he
  go_wp2_with fail
  refine (sameBytes_any A1 _ 11 c1 11 11 _ [9, 3, 0, 1, 97, 1, 1, 98, 0, 1, 98] _ (S3.out.alloc _).rb (sb_lit w3 _ _ _ 11 _ [9, 3, 0, 1, 97, 1, 1, 98, 0, 1, 98] rfl rfl rfl).rb).mono ?_
  rintro e w' ⟨rfl, rfl⟩
  go_wp2_with fail
  refine (sameTexts_any Av _ 3 cv 3 3 exS exS _ (((R3.out).keep ((((Below.refl _ _).alloc (Nat.le_refl _) _).alloc (by simp) _)))) (rs_lit _ _ _ _ 3 _ exS (by simp) rfl rfl) (by decide)).mono ?_
  rintro e w4 ⟨rfl, hb4⟩
  rw [decide_eq_true (show exS = exS from rfl)]
  have B4 := Lib.hid ((B3.out.trans ((((Below.refl _ _).alloc (Nat.le_refl _) _).alloc (by simp) _).mono B3.out.size)).trans (hb4.mono (by have := B3.out.size; simp; omega)))
  clear hb4
  go_wp2_with fail
  go_ret
  exact ⟨rfl, B4.out⟩

set_option maxRecDepth 100000 in
set_option maxHeartbeats 1000000 in
theorem numbers_any (A : Option Addr) (n c : Nat) (l : List UInt8) (u : Nat) (v : Int) (w : World) (hs : SB w A n c l) (hu : u < 2 ^ 64) (h1 : -9223372036854775808 ≤ v) (h2 : v ≤ 9223372036854775807) (hn : n + 20 ≤ 140737488355328) :
    Calls Try.prog 3 #[.slice A n c, .int .u64 (u : Int), .int .i64 v] w fun e w' => e = .returned (.bool true) ∧ Below w.heap.size w w' := by
  have HS := Lib.hid hs
  have HU := Lib.hid hu
  clear hs hu
  have pl1 := put_len u
  have pl2 := put_len (zig v)
  go_enter Try.func3, Try.ntmps3
  go_wp2_with fail
  refine (putUint_any A n c l u w HS.out HU.out (by omega)).mono ?_
  rintro e w1 ⟨b1, rfl, ho1, hb1⟩
  obtain ⟨A1, c1, rfl, hs1⟩ := own_sb ho1
  have S1 := Lib.hid hs1
  have T1 := Lib.hid (HS.out.keep hb1)
  have B1 := Lib.hid hb1
  clear ho1 hs1 hb1
  generalize hm1 : n + (put u).length = m1 at S1 ⊢
  have M1 := Lib.hid hm1
  clear hm1
  go_wp2_with fail
  refine (uintR_any u _ HU.out).mono ?_
  rintro e w2 ⟨b2, rfl, ho2, hb2⟩
  obtain ⟨A2, c2, rfl, hs2⟩ := own_sb ho2
  have S2 := Lib.hid hs2
  have S1' := Lib.hid (S1.out.keep hb2)
  have T2 := Lib.hid (T1.out.keep hb2)
  have B2 := Lib.hid (B1.out.trans (hb2.mono B1.out.size))
  clear ho2 hs2 hb2 S1 T1 B1
  generalize hk1 : (put u).length = k1 at S2 pl1 ⊢
  clear hk1
  go_wp2_with fail
  refine (after_any A A2 n c k1 c2 l (put u) _ T2.out.rb S2.out.rb (by omega)).mono ?_
  rintro e w3 ⟨b3, rfl, ho3, hb3⟩
  obtain ⟨A3, c3, rfl, hs3⟩ := own_sb ho3
  have S3 := Lib.hid hs3
  have S1 := Lib.hid (S1'.out.keep hb3)
  have T3 := Lib.hid (T2.out.keep hb3)
  have B3 := Lib.hid (B2.out.trans (hb3.mono B2.out.size))
  clear ho3 hs3 hb3 S1' T2 B2 S2
  go_wp2_with fail
  refine (sameBytes_any A1 A3 m1 c1 (n + k1) c3 _ _ _ S1.out.rb S3.out.rb).mono ?_
  rintro e w' ⟨rfl, rfl⟩
  rw [show (l ++ put u == l ++ put u) = true from beq_self_eq_true _]
  clear S1 S3
  go_wp2_with fail
  refine (putInt_any A n c l v _ T3.out h1 h2 (by omega)).mono ?_
  rintro e w4 ⟨b4, rfl, ho4, hb4⟩
  obtain ⟨A4, c4, rfl, hs4⟩ := own_sb ho4
  have S4 := Lib.hid hs4
  have T4 := Lib.hid (T3.out.keep hb4)
  have B4 := Lib.hid (B3.out.trans (hb4.mono B3.out.size))
  clear ho4 hs4 hb4 T3 B3
  generalize hm4 : n + (put (zig v)).length = m4 at S4 ⊢
  clear hm4
  go_wp2_with fail
  refine (intR_any v _ h1 h2).mono ?_
  rintro e w5 ⟨b5, rfl, ho5, hb5⟩
  obtain ⟨A5, c5, rfl, hs5⟩ := own_sb ho5
  have S5 := Lib.hid hs5
  have S4' := Lib.hid (S4.out.keep hb5)
  have T5 := Lib.hid (T4.out.keep hb5)
  have B5 := Lib.hid (B4.out.trans (hb5.mono B4.out.size))
  clear ho5 hs5 hb5 S4 T4 B4
  generalize hk5 : (put (zig v)).length = k5 at S5 pl2 ⊢
  clear hk5
  go_wp2_with fail
  refine (after_any A A5 n c k5 c5 l (put (zig v)) _ T5.out.rb S5.out.rb (by omega)).mono ?_
  rintro e w6 ⟨b6, rfl, ho6, hb6⟩
  obtain ⟨A6, c6, rfl, hs6⟩ := own_sb ho6
  have S6 := Lib.hid hs6
  have S4 := Lib.hid (S4'.out.keep hb6)
  have B6 := Lib.hid (B5.out.trans (hb6.mono B5.out.size))
  clear ho6 hs6 hb6 S4' T5 B5 S5
  go_wp2_with fail
  refine (sameBytes_any A4 A6 m4 c4 (n + k5) c6 _ _ _ S4.out.rb S6.out.rb).mono ?_
  rintro e w' ⟨rfl, rfl⟩
  rw [show (l ++ put (zig v) == l ++ put (zig v)) = true from beq_self_eq_true _]
  clear S4 S6
  go_wp2_with fail
  refine (works_any _).mono ?_
  rintro e w7 ⟨rfl, hb7⟩
  go_wp2_with fail
  go_ret
  exact ⟨rfl, B6.out.trans (hb7.mono B6.out.size)⟩

set_option maxRecDepth 100000 in
set_option maxHeartbeats 1000000 in
theorem reads_any (A : Option Addr) (n c : Nat) (l : List UInt8) (at0 : Int) (w : World) (hs : SB w A n c l) (h2 : at0 ≤ 9223372036854775807) (hn : n ≤ 140737488355328) :
    Calls Try.prog 4 #[.slice A n c, .int .i64 at0] w fun e w' => e = .returned (.bool true) ∧ Below w.heap.size w w' := by
  have C1 := Lib.hid (fun (W : World) (h : SB W A n c l) => uint_any A n c at0 l W h.rb hn h2)
  have C2 := Lib.hid (fun (W : World) (h : SB W A n c l) => readUint_any A n c at0 l W h.rb hn h2)
  have C3 := Lib.hid (fun (W : World) (h : SB W A n c l) => int_any A n c at0 l W h.rb hn h2)
  have C4 := Lib.hid (fun (W : World) (h : SB W A n c l) => readInt_any A n c at0 l W h.rb hn h2)
  have C5 := Lib.hid (fun (W : World) (h : SB W A n c l) => text_fun_any A n c at0 l W h hn h2)
  have C6 := Lib.hid (fun (W : World) (h : SB W A n c l) => readText_any A n c at0 l W h hn h2)
  have HS := Lib.hid hs
  clear hs
  unfold UPost at C1 C2
  unfold UTPost at C5 C6
  generalize uintOf l at0 = R at C1 C2 C3 C4
  generalize textOf l at0 = RT at C5 C6
  rcases R with _ | ⟨v, k⟩ <;> rcases RT with _ | ⟨t, j⟩
  all_goals
    go_enter Try.func4, Try.ntmps4
    go_wp2_with fail
    refine (C1.out _ HS.out).mono ?_
    rintro e w1 ⟨hb1, he⟩
    simp only at he
    subst he
    have S1 := Lib.hid (HS.out.keep hb1)
    have B1 := Lib.hid hb1
    clear hb1 HS
    go_wp2_with fail
    refine (C2.out _ S1.out).mono ?_
    rintro e w2 ⟨hb2, he⟩
    simp only at he
    subst he
    have S2 := Lib.hid (S1.out.keep hb2)
    have B2 := Lib.hid (B1.out.trans (hb2.mono B1.out.size))
    clear hb2 B1 S1
    go_wp2_with fail
    refine (C3.out _ S2.out).mono ?_
    rintro e w3 ⟨hb3, he⟩
    simp only at he
    subst he
    have S3 := Lib.hid (S2.out.keep hb3)
    have B3 := Lib.hid (B2.out.trans (hb3.mono B2.out.size))
    clear hb3 B2 S2
    go_wp2_with fail
    refine (C4.out _ S3.out).mono ?_
    rintro e w4 ⟨hb4, he⟩
    simp only at he
    subst he
    have S4 := Lib.hid (S3.out.keep hb4)
    have B4 := Lib.hid (B3.out.trans (hb4.mono B3.out.size))
    clear hb4 B3 S3
    go_wp2_with fail
    refine (C5.out _ S4.out).mono ?_
    rintro e w5 ⟨hb5, he⟩
    simp only at he
    subst he
    have S5 := Lib.hid (S4.out.keep hb5)
    have B5 := Lib.hid (B4.out.trans (hb5.mono B4.out.size))
    clear hb5 B4 S4
    go_wp2_with fail
    refine (C6.out _ S5.out).mono ?_
    rintro e w6 ⟨hb6, he⟩
    simp only at he
    subst he
    have B6 := Lib.hid (B5.out.trans (hb6.mono B5.out.size))
    clear hb6 B5 S5
    go_wp2_with fail
    refine (works_any _).mono ?_
    rintro e w7 ⟨rfl, hb7⟩
    go_wp2_with fail
    go_ret
    exact ⟨rfl, B6.out.trans (hb7.mono B6.out.size)⟩
end Go.Proofs.Ytpcojppadeagiaa.Cod
