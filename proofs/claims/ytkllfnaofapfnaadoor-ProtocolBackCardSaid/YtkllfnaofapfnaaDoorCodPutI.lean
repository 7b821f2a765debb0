/-
  The contracts of what package coding writes for signed numbers (PutInt) and of the reference's codes (Zigzag, Int). Conditions: the slice can be read; the bytes of the result fit a slice.
-/
import Derived.Test.YtkllfnaofapfnaaDoorCodPut
namespace Go.Proofs.YtkllfnaofapfnaaDoor.Cod
open Go.RowKit Wd

theorem zigzag_any (v : Int) (w : World) (h1 : -9223372036854775808 ≤ v) (h2 : v ≤ 9223372036854775807) :
    Calls Tryd.prog 71 #[.int .i64 v] w fun e w' => e = .returned (.int .u64 (zig v : Int)) ∧ w = w' := by
  by_cases h : 0 ≤ v
  · go_enter Tryd.func71, Tryd.ntmps71
    go_wp2_with fail
    go_ret
    exact ⟨ret_int (by unfold zig; rw [if_pos h]; omega), rfl⟩
  · go_enter Tryd.func71, Tryd.ntmps71
    go_wp2_with fail
    go_ret
    exact ⟨ret_int (by unfold zig; rw [if_neg (by omega)]; omega), rfl⟩

theorem intR_any (v : Int) (w : World) (h1 : -9223372036854775808 ≤ v) (h2 : v ≤ 9223372036854775807) :
    Calls Tryd.prog 53 #[.int .i64 v] w fun e w' => ∃ b, e = .returned b ∧ w'.ownsRow w.heap.size 5 1 b (put (zig v)).length (bs (put (zig v))) ∧ Below w.heap.size w w' := by
  have HZ := Lib.hid (zig_lt v h1 h2)
  go_enter Tryd.func53, Tryd.ntmps53
  go_wp2_with fail
  refine (zigzag_any v w h1 h2).mono ?_
  rintro e w' ⟨rfl, rfl⟩
  go_wp2_with fail
  refine (uintR_any _ _ HZ.out).mono ?_
  rintro e w1 ⟨b, rfl, hown, hb⟩
  go_wp2_with fail
  go_ret
  exact ⟨b, rfl, hown, hb⟩

theorem xor_ones (x : Nat) (h : x < 2 ^ 64) : x ^^^ (2 ^ 64 - 1) = 2 ^ 64 - (x + 1) := by
  apply Nat.eq_of_testBit_eq
  intro i
  rw [Nat.testBit_xor, Nat.testBit_two_pow_sub_one, Nat.testBit_two_pow_sub_succ h]
  by_cases hi : i < 64
  · simp [hi]
  · have : x.testBit i = false := Nat.testBit_lt_two_pow (Nat.lt_of_lt_of_le h (Nat.pow_le_pow_right (by decide) (by omega)))
    simp [hi, this]
theorem zig_pos (v : Int) (h : 0 ≤ v) (h2 : v ≤ 9223372036854775807) : bits .xor .u64 (v * 2) (v / 9223372036854775808) = (zig v : Int) := by
  have e : v / 9223372036854775808 = 0 := by omega
  rw [e, u64_xor _ _ (by omega) (by omega) (by omega) (by omega), Int.toNat_zero, Nat.xor_zero]
  unfold zig; rw [if_pos h]; omega
theorem zig_neg (v : Int) (h : v < 0) (h1 : -9223372036854775808 ≤ v) : bits .xor .u64 (IntKind.u64.wrap (IntKind.u64.wrap v * 2)) (IntKind.u64.wrap (v / 9223372036854775808)) = (zig v : Int) := by
  have e : v / 9223372036854775808 = -1 := by omega
  have e1 : IntKind.u64.wrap (-1) = 18446744073709551615 := by decide
  have e2 : IntKind.u64.wrap (IntKind.u64.wrap v * 2) = 2 * v + 18446744073709551616 := by rw [IntKind.wrap_u64, IntKind.wrap_u64]; omega
  have e3 := xor_ones (2 * v + 18446744073709551616).toNat (lt64i (by omega))
  rw [show (2 : Nat) ^ 64 - 1 = (18446744073709551615 : Int).toNat from by decide] at e3
  rw [e, e1, e2, u64_xor _ _ (by omega) (by omega) (by omega) (by omega), e3]
  have e4 : (2 : Nat) ^ 64 = 18446744073709551616 := by decide
  rw [e4]
  unfold zig; rw [if_neg (by omega)]; omega

theorem putInt_any (A : Option Addr) (n c : Nat) (l : List UInt8) (v : Int) (w : World) (hs : SB w A n c l) (h1 : -9223372036854775808 ≤ v) (h2 : v ≤ 9223372036854775807) (hn : n + 10 ≤ 140737488355328) :
    Calls Tryd.prog 42 #[.slice A n c, .int .i64 v] w fun e w' => ∃ b, e = .returned b ∧ w'.ownsRow w.heap.size 5 1 b (n + (put (zig v)).length) (bs (l ++ put (zig v))) ∧ Below w.heap.size w w' := by
  have HS := Lib.hid hs
  have HZ := Lib.hid (zig_lt v h1 h2)
  clear hs
  by_cases h : 0 ≤ v
  · go_enter Tryd.func42, Tryd.ntmps42
    go_wp2_with fail
    rw [zig_pos v h h2]
    refine (putUint_any _ _ _ _ _ _ HS.out HZ.out hn).mono ?_
    rintro e w1 ⟨b, rfl, hown, hb⟩
    go_wp2_with fail
    go_ret
    exact ⟨b, rfl, hown, hb⟩
  · go_enter Tryd.func42, Tryd.ntmps42
    go_wp2_with fail
    rw [zig_neg v (by omega) h1]
    refine (putUint_any _ _ _ _ _ _ HS.out HZ.out hn).mono ?_
    rintro e w1 ⟨b, rfl, hown, hb⟩
    go_wp2_with fail
    go_ret
    exact ⟨b, rfl, hown, hb⟩
end Go.Proofs.YtkllfnaofapfnaaDoor.Cod
