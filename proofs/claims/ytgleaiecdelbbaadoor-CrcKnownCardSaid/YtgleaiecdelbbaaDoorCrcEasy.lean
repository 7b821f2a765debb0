/-
  The walks of CrcJoins, CrcConcats, CrcEnds and CrcKnown: they return true for every input and leave old memory alone. Conditions: the table of four bits holds its numbers.
-/
import Derived.Test.YtgleaiecdelbbaaDoorCrcRefJoin
import Derived.Test.YtgleaiecdelbbaaDoorCrcWorks
import Derived.Test.YtgleaiecdelbbaaDoorCrcSums
namespace Go.Proofs.YtgleaiecdelbbaaDoor.Crc
open Go.RowKit Wd

set_option maxHeartbeats 400000 in
theorem joins_any (a b : BitVec 32) (n : Int) (w : World) (ht : Tab w) (h1 : -9223372036854775808 ≤ n) (h2 : n ≤ 9223372036854775807) :
    Calls Tryd.prog 4 #[.int .u32 (a.toNat : Int), .int .u32 (b.toNat : Int), .int .i64 n] w fun e w' => e = .returned (.bool true) ∧ Below w.heap.size w w' := by
  have HT := Lib.hid ht
  clear ht
  go_enter Tryd.func4, Tryd.ntmps4
  go_wp2_with fail
  refine (join_any _ _ _ _ h1 h2).mono ?_
  rintro e w' ⟨rfl, rfl⟩
  go_wp2_with fail
  refine (joinR_any _ _ _ _ h1 h2).mono ?_
  rintro e w1 ⟨rfl, hb1⟩
  have B1 := Lib.hid hb1
  clear hb1
  go_wp2_with fail
  refine (works_any _ (HT.out.keep' B1.out)).mono ?_
  rintro e w2 ⟨rfl, hb2⟩
  go_wp2_with fail
  go_ret
  exact ⟨rfl, B1.out.trans (hb2.mono B1.out.size)⟩

set_option maxHeartbeats 400000 in
theorem concats_small (A A2 : Option Addr) (n c n2 c2 : Nat) (l l2 : List UInt8) (w : World) (ht : Tab w) (hr : RB w A n l) (hr2 : RB w A2 n2 l2) (hn : n ≤ 1000) (hn2 : n2 ≤ 1000) :
    Calls Tryd.prog 5 #[.slice A n c, .slice A2 n2 c2] w fun e w' => e = .returned (.bool true) ∧ Below w.heap.size w w' := by
  obtain ⟨i0, hi, hz0, hz1, hz2⟩ := info_parts Tryd.infoU8
  have HI := Lib.hid hi
  have HT := Lib.hid ht
  have HR := Lib.hid hr
  have HR2 := Lib.hid hr2
  clear ht hr hi hr2
  go_enter Tryd.func5, Tryd.ntmps5
  go_wp2_with (first
    | (at_builtin
       refine wpList_append_any _ rfl (.tmp 15) (.tmp 16) _ rfl w.heap.size 5 i0 _ 1 1 Tryd.underlying22 HI.out hz0 hz1 hz2 rfl (by decide) _ _ _ rfl (own_empty _ _) _ A n c (bs l) rfl (Reads.alloc HR.out (Nat.le_refl _) _) (bs_one l) (by unfold maxLen; omega) (by omega) (by simp) ?_
       intro v1 w1 hown1 hg1 hat1
       have hown2 : w1.ownsRow w.heap.size 5 1 v1 n (bs l) := by simpa using hown1
       have O1 := Lib.hid hown2
       have B1 : Hid (Below w.heap.size w w1) := Lib.hid (own_below ((Below.refl _ _).alloc (Nat.le_refl _) _) (Nat.le_refl _) (own_empty _ _) (Nat.le_refl _) hg1)
       clear hown1 hown2 hg1 hat1)
    | (at_builtin
       refine wpList_append_any _ rfl (.tmp 17) (.tmp 18) _ rfl w.heap.size 5 i0 _ 1 1 Tryd.underlying22 HI.out hz0 hz1 hz2 rfl (by decide) _ _ _ rfl O1.out _ A2 n2 c2 (bs l2) rfl (HR2.out.keep B1.out) (bs_one l2) (by unfold maxLen; omega) (by omega) B1.out.size ?_
       intro v2 w2 hown2 hg2 hat2))
  have hb2 : Below w.heap.size w w2 := own_below B1.out (Nat.le_refl _) O1.out (Nat.le_refl _) hg2
  rw [← bs_append] at hown2
  obtain ⟨A3, c3, rfl, hr3, _⟩ := own_bytes hown2
  have R3 := Lib.hid hr3
  have R1 := Lib.hid (HR.out.keep hb2)
  have R2 := Lib.hid (HR2.out.keep hb2)
  have T2 := Lib.hid (HT.out.keep' hb2)
  have B2 := Lib.hid hb2
  clear hown2 hg2 hat2 hr3 hb2 O1 B1 HR HR2 HT
  go_wp2_with fail
  refine (sum_any _ _ _ (l ++ l2) _ T2.out R3.out (by omega)).mono ?_
  rintro e w' ⟨rfl, rfl⟩
  have e1 : add 0#32 (l ++ l2) = add (add 0#32 l) l2 := add_append _ _ _
  have e2 : join (add 0#32 l) (add 0#32 l2) n2 = add (add 0#32 l) l2 := by rw [add_join (add 0#32 l) l2, R2.out.len]
  rw [e1]
  have E2 := Lib.hid e2
  clear e1 e2
  generalize hT : add (add 0#32 l) l2 = T at E2
  have HTT := Lib.hid hT
  clear hT
  go_wp2_with fail
  refine (sum_any _ _ _ l _ T2.out R1.out (by omega)).mono ?_
  rintro e w' ⟨rfl, rfl⟩
  go_wp2_with fail
  refine (add_any _ _ _ _ l2 _ T2.out R2.out (by omega)).mono ?_
  rintro e w' ⟨rfl, rfl⟩
  rw [HTT.out]
  go_wp2_with fail
  refine (sum_any _ _ _ l _ T2.out R1.out (by omega)).mono ?_
  rintro e w' ⟨rfl, rfl⟩
  go_wp2_with fail
  refine (sum_any _ _ _ l2 _ T2.out R2.out (by omega)).mono ?_
  rintro e w' ⟨rfl, rfl⟩
  go_wp2_with fail
  refine (join_any _ _ _ _ (by omega) (by omega)).mono ?_
  rintro e w' ⟨rfl, rfl⟩
  rw [show ((n2 : Int)).toNat = n2 from rfl, E2.out]
  go_wp2_with fail
  refine (works_any _ T2.out).mono ?_
  rintro e w3 ⟨rfl, hb3⟩
  go_wp2_with fail
  go_ret
  exact ⟨rfl, B2.out.trans (hb3.mono B2.out.size)⟩

theorem concats_big (A A2 : Option Addr) (n c n2 c2 : Nat) (w : World) (hn : 1000 < n ∨ 1000 < n2) :
    Calls Tryd.prog 5 #[.slice A n c, .slice A2 n2 c2] w fun e w' => e = .returned (.bool true) ∧ Below w.heap.size w w' := by
  by_cases h : 1000 < n
  · clear hn
    go_enter Tryd.func5, Tryd.ntmps5
    go_wp2
    go_ret
    exact ⟨rfl, Below.refl _ _⟩
  · have h2 : 1000 < n2 := by omega
    clear hn
    go_enter Tryd.func5, Tryd.ntmps5
    go_wp2
    go_ret
    exact ⟨rfl, Below.refl _ _⟩

theorem concats_any (A A2 : Option Addr) (n c n2 c2 : Nat) (l l2 : List UInt8) (w : World) (ht : Tab w) (hr : RB w A n l) (hr2 : RB w A2 n2 l2) :
    Calls Tryd.prog 5 #[.slice A n c, .slice A2 n2 c2] w fun e w' => e = .returned (.bool true) ∧ Below w.heap.size w w' := by
  by_cases h : 1000 < n ∨ 1000 < n2
  · exact concats_big A A2 n c n2 c2 w h
  · exact concats_small A A2 n c n2 c2 l l2 w ht hr hr2 (by omega) (by omega)

theorem join_none (s : BitVec 32) (n : Int) (h : n ≤ 0) : join s 0#32 n.toNat = s := by
  rw [show n.toNat = 0 by omega, join_zero, BitVec.xor_zero]

set_option maxHeartbeats 400000 in
theorem ends_small (s : BitVec 32) (A : Option Addr) (n c : Nat) (l : List UInt8) (m : Int) (w : World) (ht : Tab w) (hr : RB w A n l) (hn : n ≤ 1000) (h1 : -9223372036854775808 ≤ m) (h2 : m ≤ 9223372036854775807) :
    Calls Tryd.prog 9 #[.int .u32 (s.toNat : Int), .slice A n c, .int .i64 m] w fun e w' => e = .returned (.bool true) ∧ Below w.heap.size w w' := by
  have HT := Lib.hid ht
  have HR := Lib.hid hr
  have HW := Lib.hid (show wrap64 (-m) = (-m + 9223372036854775808) % 18446744073709551616 - 9223372036854775808 from by simp only [wrap64])
  clear ht hr
  go_enter Tryd.func9, Tryd.ntmps9
  go_wp2_with fail
  refine (add_any _ _ _ _ [] _ HT.out Reads.none_ (by decide)).mono ?_
  rintro e w' ⟨rfl, rfl⟩
  rw [add_nil]
  go_wp2_with fail
  refine (join_any s 0#32 0 _ (by decide) (by decide)).mono ?_
  rintro e w' ⟨rfl, rfl⟩
  rw [join_none s 0 (by decide)]
  go_wp2_with fail
  refine (join_any 0#32 s m _ h1 h2).mono ?_
  rintro e w' ⟨rfl, rfl⟩
  rw [join_left]
  go_wp2_with fail
  all_goals
    refine (join_any s 0#32 _ _ ?_ ?_).mono ?_
    · have := HW.out; omega
    · have := HW.out; omega
    rintro e w' ⟨rfl, rfl⟩
    rw [join_none s _ (by have := HW.out; omega)]
    go_wp2_with fail
    refine (sum_any _ _ _ l _ HT.out HR.out (by omega)).mono ?_
    rintro e w' ⟨rfl, rfl⟩
    go_wp2_with fail
    refine (join_any 0#32 _ _ _ (by omega) (by omega)).mono ?_
    rintro e w' ⟨rfl, rfl⟩
    rw [join_left]
    go_wp2_with fail
    refine (add_any 0#32 _ _ _ l _ HT.out HR.out (by omega)).mono ?_
    rintro e w' ⟨rfl, rfl⟩
    go_wp2_with fail
    refine (works_any _ HT.out).mono ?_
    rintro e w3 ⟨rfl, hb3⟩
    go_wp2_with fail
    go_ret
    exact ⟨rfl, hb3⟩

theorem ends_big (x : Value) (A : Option Addr) (n c : Nat) (y : Value) (w : World) (hn : 1000 < n) :
    Calls Tryd.prog 9 #[x, .slice A n c, y] w fun e w' => e = .returned (.bool true) ∧ Below w.heap.size w w' := by
  go_enter Tryd.func9, Tryd.ntmps9
  go_wp2
  go_ret
  exact ⟨rfl, Below.refl _ _⟩

theorem ends_any (s : BitVec 32) (A : Option Addr) (n c : Nat) (l : List UInt8) (m : Int) (w : World) (ht : Tab w) (hr : RB w A n l) (h1 : -9223372036854775808 ≤ m) (h2 : m ≤ 9223372036854775807) :
    Calls Tryd.prog 9 #[.int .u32 (s.toNat : Int), .slice A n c, .int .i64 m] w fun e w' => e = .returned (.bool true) ∧ Below w.heap.size w w' := by
  rcases Nat.lt_or_ge 1000 n with h | h
  · exact ends_big _ A n c _ w h
  · exact ends_small s A n c l m w ht hr h h1 h2

set_option maxHeartbeats 400000 in
theorem known_any (w : World) (ht : Tab w) :
    Calls Tryd.prog 10 #[] w fun e w' => e = .returned (.bool true) ∧ Below w.heap.size w w' := by
  have HT := Lib.hid ht
  clear ht
  have kc := fun (w : World) (C : Array Value) (n c : Nat) => Lib.run_convert_bytes_const (P := Tryd.prog) w 22 5 C n c Tryd.underlying22 Tryd.underlying5
  go_enter Tryd.func10, Tryd.ntmps10
  go_wp2_with fail
  refine (sum_any _ _ _ [] _ HT.out Reads.none_ (by decide)).mono ?_
  rintro e w' ⟨rfl, rfl⟩
  rw [show ((add 0#32 []).toNat : Int) = 0 from by decide +kernel]
  go_wp2_with fail
  refine (sum_any _ _ _ [97] _ (HT.out.alloc _) (RB.lit _ _ _ _ _ _ rfl rfl) (by decide)).mono ?_
  rintro e w1 ⟨rfl, hw⟩
  have T1 : Hid (Tab w1 ∧ Below w.heap.size w w1) := Lib.hid (by rw [← hw]; exact ⟨HT.out.alloc _, (Below.refl _ _).alloc (Nat.le_refl _) _⟩)
  clear hw
  rw [show ((add 0#32 [97]).toNat : Int) = 3904355907 from by decide +kernel]
  go_wp2_with fail
  refine (sum_any _ _ _ [97, 98, 99] _ (T1.out.1.alloc _) (RB.lit _ _ _ _ _ _ rfl rfl) (by decide)).mono ?_
  rintro e w2 ⟨rfl, hw⟩
  have T2 : Hid (Tab w2 ∧ Below w.heap.size w w2) := Lib.hid (by rw [← hw]; exact ⟨T1.out.1.alloc _, T1.out.2.alloc T1.out.2.size _⟩)
  clear hw
  rw [show ((add 0#32 [97, 98, 99]).toNat : Int) = 891568578 from by decide +kernel]
  go_wp2_with fail
  refine (works_any _ T2.out.1).mono ?_
  rintro e w3 ⟨rfl, hb3⟩
  go_wp2_with fail
  go_ret
  exact ⟨rfl, T2.out.2.trans (hb3.mono T2.out.2.size)⟩
end Go.Proofs.YtgleaiecdelbbaaDoor.Crc
