/-
  The contracts of what the reference reads as a signed number (ReadInt) and of the program's Int. Conditions: the bytes can be read.
-/
import Derived.Test.YtkllfnaofapfnaaDoorCodRef
import Derived.Test.YtkllfnaofapfnaaDoorCodPutI
namespace Go.Proofs.YtkllfnaofapfnaaDoor.Cod
open Go.RowKit Wd

/-- how the reading of a signed number ends -/
def IPost (w : World) (R : Option (Nat × Nat)) (at0 : Nat) (e : Ending) (w' : World) : Prop :=
  Below w.heap.size w w' ∧ match R with
  | none => e = .returned (.tuple #[.int .i64 0, .int .i64 0, .bool false])
  | some (v, k) => e = .returned (.tuple #[.int .i64 (zag v), .int .i64 ((at0 + k : Nat) : Int), .bool true])
theorem IPost.bad {w : World} {R : Option (Nat × Nat)} {at0 : Nat} {w' : World} (hR : R = none) (hb : Below w.heap.size w w') : IPost w R at0 (.returned (.tuple #[.int .i64 0, .int .i64 0, .bool false])) w' := by
  subst hR; exact ⟨hb, rfl⟩
theorem IPost.good {w : World} {R : Option (Nat × Nat)} {at0 v k : Nat} {z : Int} {w' : World} (hR : R = some (v, k)) (hz : z = zag v) (hb : Below w.heap.size w w') : IPost w R at0 (.returned (.tuple #[.int .i64 z, .int .i64 ((at0 + k : Nat) : Int), .bool true])) w' := by
  subst hR hz; exact ⟨hb, rfl⟩

set_option maxRecDepth 100000 in
set_option maxHeartbeats 1000000 in
theorem readInt_any (A : Option Addr) (n c : Nat) (at0 : Int) (l : List UInt8) (w : World) (hs : RB w A n l) (hn : n ≤ 140737488355328) (hat : at0 ≤ 9223372036854775807) :
    Calls Tryd.prog 72 #[.slice A n c, .int .i64 at0] w (IPost w (uintOf l at0) at0.toNat) := by
  have HC := Lib.hid (readUint_any A n c at0 l w hs hn hat)
  clear hs
  go_enter Tryd.func72, Tryd.ntmps72
  go_wp2_with fail
  refine HC.out.mono ?_
  intro e w1 hpost
  unfold UPost at hpost
  generalize hR : uintOf l at0 = R at hpost
  have HRR := Lib.hid hR
  clear hR HC
  rcases R with _ | ⟨v, k⟩
  · obtain ⟨hb, rfl⟩ := hpost
    go_wp2_with fail
    go_ret3
    exact IPost.bad HRR.out hb
  · obtain ⟨hb, rfl⟩ := hpost
    have hv := uintOf_lt HRR.out
    have hvb : v ≤ 18446744073709551615 := by have : (2 : Nat) ^ 64 = 18446744073709551616 := by decide
                                              omega
    clear hv
    obtain ⟨nx, hnx⟩ : ∃ nx : Nat, nx = at0.toNat + k := ⟨_, rfl⟩
    rw [← hnx]
    have NX := Lib.hid hnx
    clear hnx
    by_cases hodd : v % 2 = 1
    · have ht : ((v : Int) % 2 == 1) = true := by rw [beq_iff_eq]; omega
      have hz := Lib.hid (show zag v = -((v : Int) / 2) - 1 by unfold zag; rw [if_neg (by omega)]; omega)
      clear hodd
      go_wp2_with fail
      go_ret3
      rw [NX.out]
      exact IPost.good HRR.out (by rw [hz.out]) hb
    · have ht : ((v : Int) % 2 == 1) = false := by rw [beq_eq_false_iff_ne]; omega
      have hz := Lib.hid (show zag v = (v : Int) / 2 by unfold zag; rw [if_pos (by omega)]; omega)
      clear hodd
      go_wp2_with fail
      go_ret3
      rw [NX.out]
      exact IPost.good HRR.out (by rw [hz.out]) hb

theorem i64_flip (a : Nat) (ha : a < 9223372036854775808) : bits .xor .i64 (a : Int) (-1) = -(a : Int) - 1 := by
  have h := i64_not a ha
  have e : bits .xor .i64 (a : Int) (-1) = bits .xor .i64 (-1) (a : Int) := by
    show IntKind.i64.wrap ((BitVec.ofInt 64 (a : Int) ^^^ BitVec.ofInt 64 (-1)).toNat : Int) = IntKind.i64.wrap ((BitVec.ofInt 64 (-1) ^^^ BitVec.ofInt 64 (a : Int)).toNat : Int)
    rw [BitVec.xor_comm]
  rw [e, h]; omega
theorem i64_same (a : Nat) (ha : a < 9223372036854775808) : bits .xor .i64 (a : Int) 0 = (a : Int) := by
  show IntKind.i64.wrap ((BitVec.ofInt 64 (a : Int) ^^^ BitVec.ofInt 64 0).toNat : Int) = (a : Int)
  rw [show BitVec.ofInt 64 0 = 0#64 from rfl, BitVec.xor_zero, ofInt_u64 a (by omega), IntKind.wrap_i64]
  omega
theorem u64_low (v : Nat) (hv : v ≤ 18446744073709551615) : bits .and .u64 (v : Int) 1 = ((v % 2 : Nat) : Int) := by
  rw [show (1 : Int) = ((1 : Nat) : Int) from rfl, u64_and_nat _ _ (by omega) (by decide), Nat.and_one_is_mod]

set_option maxRecDepth 100000 in
set_option maxHeartbeats 1000000 in
theorem int_any (A : Option Addr) (n c : Nat) (at0 : Int) (l : List UInt8) (w : World) (hs : RB w A n l) (hn : n ≤ 140737488355328) (hat : at0 ≤ 9223372036854775807) :
    Calls Tryd.prog 64 #[.slice A n c, .int .i64 at0] w (IPost w (uintOf l at0) at0.toNat) := by
  have HC := Lib.hid (uint_any A n c at0 l w hs hn hat)
  clear hs
  go_enter Tryd.func64, Tryd.ntmps64
  go_wp2_with fail
  refine HC.out.mono ?_
  intro e w1 hpost
  unfold UPost at hpost
  generalize hR : uintOf l at0 = R at hpost
  have HRR := Lib.hid hR
  clear hR HC
  rcases R with _ | ⟨v, k⟩
  · obtain ⟨hb, rfl⟩ := hpost
    have hl0 : bits .and .u64 0 1 = 0 := by decide
    have hx0 : bits .xor .i64 0 0 = 0 := by decide
    go_wp2_with fail
    go_ret3
    exact IPost.bad HRR.out hb
  · obtain ⟨hb, rfl⟩ := hpost
    have hv := uintOf_lt HRR.out
    have hvb : v ≤ 18446744073709551615 := by have : (2 : Nat) ^ 64 = 18446744073709551616 := by decide
                                              omega
    clear hv
    obtain ⟨nx, hnx⟩ : ∃ nx : Nat, nx = at0.toNat + k := ⟨_, rfl⟩
    rw [← hnx]
    have NX := Lib.hid hnx
    clear hnx
    have hlow := u64_low v hvb
    obtain ⟨q, hq⟩ : ∃ q : Nat, q = v / 2 := ⟨_, rfl⟩
    have hhalf : (v : Int) / 2 = (q : Int) := by omega
    have hqb : q ≤ 9223372036854775807 := by omega
    have HQ := Lib.hid hq
    clear hq
    by_cases hodd : v % 2 = 1
    · rw [hodd] at hlow
      have hf := i64_flip q (by omega)
      have hz := Lib.hid (show zag v = -(q : Int) - 1 by unfold zag; rw [if_neg (by omega), HQ.out])
      clear hodd
      go_wp2_with fail
      go_ret3
      rw [NX.out]
      exact IPost.good HRR.out (by rw [hz.out]) hb
    · have h0 : v % 2 = 0 := by omega
      rw [h0] at hlow
      have hf := i64_same q (by omega)
      have hz := Lib.hid (show zag v = (q : Int) by unfold zag; rw [if_pos h0, HQ.out])
      clear hodd h0
      go_wp2_with fail
      go_ret3
      rw [NX.out]
      exact IPost.good HRR.out (by rw [hz.out]) hb
end Go.Proofs.YtkllfnaofapfnaaDoor.Cod
