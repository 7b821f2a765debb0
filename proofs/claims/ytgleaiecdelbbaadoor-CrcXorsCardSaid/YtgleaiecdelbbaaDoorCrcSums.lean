/-
  The walk of CrcSums: for every slice of bytes and every check sum it returns true and leaves old memory alone. Conditions: the table of four bits holds its numbers.
-/
import Derived.Test.YtgleaiecdelbbaaDoorCrcRef
import Derived.Test.YtgleaiecdelbbaaDoorCrcWorks
namespace Go.Proofs.YtgleaiecdelbbaaDoor.Crc
open Go.RowKit Wd
theorem Tryd.infoU8 : (Tryd.prog.info? 5).map (fun i => (i.zero, i.size, i.bytes)) = some (some (.int .u8 0), 1, 1) := by kernel_rfl
set_option maxHeartbeats 400000 in
theorem sums_small (A : Option Addr) (n c : Nat) (l : List UInt8) (s : BitVec 32) (w : World) (ht : Tab w) (hr : RB w A n l) (hn : n ≤ 2000) :
    Calls Tryd.prog 3 #[.slice A n c, .int .u32 (s.toNat : Int)] w fun e w' => e = .returned (.bool true) ∧ Below w.heap.size w w' := by
  obtain ⟨i0, hi, hz0, hz1, hz2⟩ := info_parts Tryd.infoU8
  have HI := Lib.hid hi
  have HT := Lib.hid ht
  have HR := Lib.hid hr
  clear ht hr hi
  go_enter Tryd.func3, Tryd.ntmps3
  go_wp2_with (at_builtin; refine wpList_append_any _ rfl (.tmp 9) (.tmp 10) _ rfl w.heap.size 5 i0 _ 1 1 Tryd.underlying22 HI.out hz0 hz1 hz2 rfl (by decide) _ _ _ rfl (own_empty _ _) _ A n c (bs l) rfl (Reads.alloc HR.out (Nat.le_refl _) _) (bs_one l) (by unfold maxLen; omega) (by omega) (by simp) ?_; intro v1 w1 hown1 hg1 hat1)
  have hown2 : w1.ownsRow w.heap.size 5 1 v1 n (bs l) := by simpa using hown1
  have hb1 : Below w.heap.size w w1 := own_below ((Below.refl _ _).alloc (Nat.le_refl _) _) (Nat.le_refl _) (own_empty _ _) (Nat.le_refl _) hg1
  obtain ⟨A1, c1, rfl, hr1, _⟩ := own_bytes hown2
  have R1 := Lib.hid hr1
  have R0 := Lib.hid (HR.out.keep hb1)
  have T1 := Lib.hid (HT.out.keep' hb1)
  have B1 := Lib.hid hb1
  clear hown1 hown2 hg1 hat1 hr1 hb1 HR HT
  have hs1 := R1.out.run_string (P := Tryd.prog) c1 22 5 9 Tryd.underlying22 Tryd.underlying5 Tryd.underlying9
  have hs0 := R0.out.run_string (P := Tryd.prog) c 22 5 9 Tryd.underlying22 Tryd.underlying5 Tryd.underlying9
  go_wp2_with fail
  refine (sum_any _ _ _ l _ T1.out R1.out (by omega)).mono ?_
  rintro e w' ⟨rfl, rfl⟩
  go_wp2_with fail
  refine (sumR_any _ _ _ l _ R0.out (by omega)).mono ?_
  rintro e w' ⟨rfl, rfl⟩
  go_wp2_with fail
  refine (add_any _ _ _ _ l _ T1.out R1.out (by omega)).mono ?_
  rintro e w' ⟨rfl, rfl⟩
  go_wp2_with fail
  refine (addR_any _ _ _ _ l _ R0.out (by omega)).mono ?_
  rintro e w' ⟨rfl, rfl⟩
  go_wp2_with fail
  refine (works_any _ T1.out).mono ?_
  rintro e w2 ⟨rfl, hb2⟩
  go_wp2_with fail
  go_ret
  exact ⟨rfl, B1.out.trans (hb2.mono B1.out.size)⟩

theorem sums_big (A : Option Addr) (n c : Nat) (x : Value) (w : World) (hn : 2000 < n) :
    Calls Tryd.prog 3 #[.slice A n c, x] w fun e w' => e = .returned (.bool true) ∧ Below w.heap.size w w' := by
  go_enter Tryd.func3, Tryd.ntmps3
  go_wp2
  go_ret
  exact ⟨rfl, Below.refl _ _⟩

theorem sums_any (A : Option Addr) (n c : Nat) (l : List UInt8) (s : BitVec 32) (w : World) (ht : Tab w) (hr : RB w A n l) :
    Calls Tryd.prog 3 #[.slice A n c, .int .u32 (s.toNat : Int)] w fun e w' => e = .returned (.bool true) ∧ Below w.heap.size w w' := by
  rcases Nat.lt_or_ge 2000 n with h | h
  · exact sums_big A n c _ w h
  · exact sums_small A n c l s w ht hr h
end Go.Proofs.YtgleaiecdelbbaaDoor.Crc
