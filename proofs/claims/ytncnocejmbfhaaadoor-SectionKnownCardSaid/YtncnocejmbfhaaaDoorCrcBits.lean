/-
  How the walk's integer operations on 32-bit words read over words of 32 bits. Conditions: none.
-/
import Derived.Test.YtncnocejmbfhaaaDoorCrcMath
import Derived.WalkKit
namespace Go.Proofs.YtncnocejmbfhaaaDoor.Crc
open Go

theorem b_lt (a : BitVec 32) : a.toNat < 4294967296 := a.isLt
theorem b_xor (a b : BitVec 32) : bits .xor .u32 (a.toNat : Int) (b.toNat : Int) = ((a ^^^ b).toNat : Int) := by
  rw [u32_xor_nat _ _ (b_lt a) (b_lt b), BitVec.toNat_xor]
theorem b_and (a b : BitVec 32) : bits .and .u32 (a.toNat : Int) (b.toNat : Int) = ((a &&& b).toNat : Int) := by
  rw [u32_and_nat _ _ (b_lt a) (b_lt b), BitVec.toNat_and]
theorem b_not (a : BitVec 32) : bits .xor .u32 4294967295 (a.toNat : Int) = ((~~~ a).toNat : Int) := by
  rw [not_eq_xor, BitVec.xor_comm, ← b_xor]; rfl
theorem b_not' (a : BitVec 32) : bits .xor .u32 (a.toNat : Int) 4294967295 = ((~~~ a).toNat : Int) := by
  rw [not_eq_xor, ← b_xor]; rfl
theorem b_notm (a : BitVec 32) : bits .xor .u32 IntKind.u32.max (a.toNat : Int) = ((~~~ a).toNat : Int) := b_not a
theorem b_shr (a : BitVec 32) (k : Nat) : ((a.toNat : Int) / ((2 ^ k : Nat) : Int)) = ((a >>> k).toNat : Int) := by
  rw [BitVec.toNat_ushiftRight, Nat.shiftRight_eq_div_pow]; exact (Int.natCast_ediv _ _).symm
theorem b_shr1 (a : BitVec 32) : (a.toNat : Int) / (2 : Int) = ((a >>> 1).toNat : Int) := b_shr a 1
theorem b_shr4 (a : BitVec 32) : (a.toNat : Int) / (16 : Int) = ((a >>> 4).toNat : Int) := b_shr a 4
theorem b_and15 (a : BitVec 32) : bits .and .u32 (a.toNat : Int) 15 = (((a &&& 15#32).toNat : Nat) : Int) := b_and a 15#32
theorem b_eq (a b : BitVec 32) : (((a.toNat : Int) == (b.toNat : Int))) = decide (a = b) := by
  rw [Bool.eq_iff_iff]; simp only [beq_iff_eq, decide_eq_true_eq]
  exact ⟨fun h => BitVec.eq_of_toNat_eq (by omega), fun h => by rw [h]⟩

theorem low_bit (a : BitVec 32) : (bits .and .u32 (a.toNat : Int) 1 == 1) = a.getLsbD 0 := by
  have h1 : bits .and .u32 (a.toNat : Int) 1 = ((a.toNat % 2 : Nat) : Int) := by
    have := b_and a 1#32
    rw [BitVec.toNat_and] at this
    refine this.trans ?_
    rw [show (1#32).toNat = 1 from rfl, Nat.and_one_is_mod]
  rw [h1, show a.getLsbD 0 = a.toNat.testBit 0 from rfl, Nat.testBit_zero, Bool.eq_iff_iff]
  simp only [beq_iff_eq, decide_eq_true_eq]; omega

theorem step_yes (b : BitVec 32) (h : (bits .and .u32 (b.toNat : Int) 1 == 1) = true) : bits .xor .u32 ((b.toNat : Int) / (2 : Int)) 3988292384 = ((step b).toNat : Int) := by
  rw [low_bit] at h
  unfold step
  rw [if_pos h, ← b_xor, b_shr1]; rfl
theorem step_no (b : BitVec 32) (h : (bits .and .u32 (b.toNat : Int) 1 == 1) = false) : (b.toNat : Int) / (2 : Int) = ((step b).toNat : Int) := by
  rw [low_bit] at h
  unfold step
  rw [if_neg (by rw [h]; simp), BitVec.xor_zero, b_shr1]

theorem and_pow (a : BitVec 32) (j : Nat) (hj : j < 32) : (bits .and .u32 (a.toNat : Int) ((2 ^ j : Nat) : Int) != 0) = a.getLsbD j := by
  have hp : 2 ^ j < 4294967296 := Nat.lt_of_lt_of_le (Nat.pow_lt_pow_right (by decide) hj) (by decide : 2 ^ 32 ≤ 4294967296)
  rw [u32_and_nat _ _ (b_lt a) hp, show a.getLsbD j = a.toNat.testBit j from rfl]
  have e : a.toNat &&& 2 ^ j = (a.toNat.testBit j).toNat * 2 ^ j := by
    apply Nat.eq_of_testBit_eq
    intro i
    rw [Nat.testBit_and, Nat.testBit_two_pow]
    cases h : a.toNat.testBit j
    · by_cases hi : j = i
      · subst hi; simp [h]
      · simp [hi]
    · rw [Bool.toNat_true, Nat.one_mul, Nat.testBit_two_pow]
      by_cases hi : j = i
      · subst hi; simp [h]
      · simp [hi]
  rw [e]
  cases a.toNat.testBit j
  · simp
  · have hpos : 0 < 2 ^ j := Nat.two_pow_pos j
    rw [Bool.toNat_true, Nat.one_mul, bne_iff_ne]
    generalize 2 ^ j = q at hpos
    omega

theorem wraps_i64 (n : Int) (h₀ : 0 ≤ n) (h₁ : n < 2 ^ 63) : IntKind.i64.wrap n = n := by rw [IntKind.wrap_i64]; omega
theorem i64_and1 (m : Int) (h0 : 0 ≤ m) (h1 : m ≤ 9223372036854775807) : bits .and .i64 m 1 = m % 2 := bits_mask .i64 63 (by decide) wraps_i64 1 (by decide) m h0 (by omega)

/-- what a round of 'times' keeps -/
def TRel (a b : BitVec 32) (b1 o1 i1 : Value) : Prop :=
  ∃ (k m : Nat) (b' o' : BitVec 32), k ≤ 32 ∧ b1 = .int .u32 (b'.toNat : Int) ∧ o1 = .int .u32 (o'.toNat : Int) ∧ i1 = .int .u32 (m : Int) ∧ m = 2 ^ k / 2 ∧ timesLoop k a b' o' = times a b

theorem TRel.start (a b : BitVec 32) : TRel a b (.int .u32 (b.toNat : Int)) (.int .u32 0) (.int .u32 2147483648) :=
  ⟨32, 2147483648, b, 0#32, by omega, rfl, rfl, rfl, by decide, rfl⟩

theorem half_pow (k m : Nat) (hm : m = 2 ^ k / 2) (h : ((m : Int) != 0) = true) : ∃ j, k = j + 1 ∧ m = 2 ^ j ∧ m / 2 = 2 ^ j / 2 := by
  cases k with
  | zero => simp at hm; subst hm; simp at h
  | succ j => refine ⟨j, rfl, ?_, ?_⟩ <;> rw [hm, Nat.pow_succ, Nat.mul_div_cancel _ (by decide)]

theorem TRel.next (a b b' o' : BitVec 32) (k m : Nat) (hk : k ≤ 32) (hm : m = 2 ^ k / 2) (hrel : timesLoop k a b' o' = times a b) (h : ((m : Int) != 0) = true) (X Y : Int)
    (hX : X = ((step b').toNat : Int)) (hY : Y = if (bits .and .u32 (a.toNat : Int) (m : Int) != 0) = true then ((o' ^^^ b').toNat : Int) else (o'.toNat : Int)) :
    TRel a b (.int .u32 X) (.int .u32 Y) (.int .u32 ((m : Int) / 2)) := by
  obtain ⟨j, rfl, hj, hh⟩ := half_pow k m hm h
  refine ⟨j, m / 2, step b', if a.getLsbD j = true then o' ^^^ b' else o', by omega, by rw [hX], ?_, by simp, hh, hrel⟩
  rw [hY, hj, and_pow a j (by omega)]
  cases a.getLsbD j <;> rfl

theorem TRel.stop (a b b' o' : BitVec 32) (k m : Nat) (hm : m = 2 ^ k / 2) (hrel : timesLoop k a b' o' = times a b) (h : ((m : Int) != 0) = false) : o' = times a b := by
  cases k with
  | zero => exact hrel
  | succ j =>
    have hpos : 0 < 2 ^ j := Nat.two_pow_pos j
    rw [Nat.pow_succ, Nat.mul_div_cancel _ (by decide)] at hm
    simp at h; omega

end Go.Proofs.YtncnocejmbfhaaaDoor.Crc
