/-
  The plain law of the check sums: a register is a word of 32 bits, one bit of input is one step, and the table of four bits, the product of polynomials and the reference's matrices all compute powers of that step. No program is in sight. Conditions: none.
-/
import GoSem.Claim
namespace Go.Proofs.YtncnocejmbfhaaaDoor.Crc

def poly : BitVec 32 := 0xEDB88320#32

/-- one zero bit of input: the register is multiplied by x -/
def step (r : BitVec 32) : BitVec 32 := (r >>> 1) ^^^ (if r.getLsbD 0 = true then poly else 0#32)

def stepN : Nat → BitVec 32 → BitVec 32
  | 0, r => r
  | n + 1, r => stepN n (step r)

theorem xor_swap4 (a b c d : BitVec 32) : (a ^^^ b) ^^^ (c ^^^ d) = (a ^^^ c) ^^^ (b ^^^ d) := by ac_rfl

theorem step_xor (a b : BitVec 32) : step (a ^^^ b) = step a ^^^ step b := by
  have hif : ∀ x y : Bool, (if (x ^^ y) = true then poly else 0#32) = (if x = true then poly else 0#32) ^^^ (if y = true then poly else 0#32) := by
    intro x y; cases x <;> cases y <;> simp
  unfold step
  rw [BitVec.ushiftRight_xor_distrib, BitVec.getLsbD_xor, hif, xor_swap4]

theorem step_zero : step 0#32 = 0#32 := by decide

theorem stepN_xor (n : Nat) (a b : BitVec 32) : stepN n (a ^^^ b) = stepN n a ^^^ stepN n b := by
  induction n generalizing a b with
  | zero => rfl
  | succ n ih => simp only [stepN]; rw [step_xor, ih]

theorem stepN_zero (n : Nat) : stepN n 0#32 = 0#32 := by
  induction n with
  | zero => rfl
  | succ n ih => simp only [stepN]; rw [step_zero, ih]

theorem stepN_add (m n : Nat) (r : BitVec 32) : stepN (m + n) r = stepN n (stepN m r) := by
  induction m generalizing r with
  | zero => simp [stepN]
  | succ m ih => rw [Nat.succ_add]; simp only [stepN]; rw [ih]

theorem stepN_succ' (n : Nat) (r : BitVec 32) : stepN (n + 1) r = step (stepN n r) := by
  rw [stepN_add n 1]; rfl

theorem step_inj (r : BitVec 32) (h : step r = 0#32) : r = 0#32 := by
  unfold step at h
  by_cases hb : r.getLsbD 0 = true
  · rw [if_pos hb] at h
    have h31 : ((r >>> 1) ^^^ poly).getLsbD 31 = false := by rw [h]; rfl
    rw [BitVec.getLsbD_xor, BitVec.getLsbD_ushiftRight, BitVec.getLsbD_of_ge r (1 + 31) (by omega)] at h31
    exact absurd h31 (by decide)
  · rw [if_neg hb, BitVec.xor_zero] at h
    apply BitVec.eq_of_getLsbD_eq
    intro i hi
    rw [BitVec.getLsbD_zero]
    cases i with
    | zero => simpa using hb
    | succ i =>
      have : (r >>> 1).getLsbD i = false := by rw [h]; exact BitVec.getLsbD_zero
      rw [BitVec.getLsbD_ushiftRight] at this
      rw [Nat.add_comm]; exact this

theorem stepN_inj (n : Nat) (r : BitVec 32) (h : stepN n r = 0#32) : r = 0#32 := by
  induction n generalizing r with
  | zero => exact h
  | succ n ih => exact step_inj r (ih _ h)

/-- the program's table -/
def tab : List Nat := [0x00000000, 0x1DB71064, 0x3B6E20C8, 0x26D930AC, 0x76DC4190, 0x6B6B51F4, 0x4DB26158, 0x5005713C,
  0xEDB88320, 0xF00F9344, 0xD6D6A3E8, 0xCB61B38C, 0x9B64C2B0, 0x86D3D2D4, 0xA00AE278, 0xBDBDF21C]

theorem tab_nibble : ∀ n : Fin 16, stepN 4 (BitVec.ofNat 32 n.val) = BitVec.ofNat 32 (tab.getD n.val 0) := by decide +kernel

theorem step_even (r : BitVec 32) (h : r.getLsbD 0 = false) : step r = r >>> 1 := by
  unfold step; rw [h]; simp

theorem low15 (r : BitVec 32) (i : Nat) : (r &&& 15#32).getLsbD i = (decide (i < 4) && r.getLsbD i) := by
  rw [BitVec.getLsbD_and]
  have : (15#32).getLsbD i = decide (i < 4) := by
    rw [show (15#32) = BitVec.ofNat 32 (2 ^ 4 - 1) by decide, BitVec.getLsbD_ofNat, Nat.testBit_two_pow_sub_one]
    by_cases h : i < 4
    · simp [h]; omega
    · simp [h]
  rw [this, Bool.and_comm]

theorem nib_split (r : BitVec 32) : r = ((r >>> 4) <<< 4) ^^^ (r &&& 15#32) := by
  apply BitVec.eq_of_getLsbD_eq
  intro i hi
  rw [BitVec.getLsbD_xor, low15, BitVec.getLsbD_shiftLeft, BitVec.getLsbD_ushiftRight]
  by_cases h : i < 4
  · simp [h]
  · simp [h, hi, show 4 + (i - 4) = i by omega]

theorem stepN4_shl (r : BitVec 32) : stepN 4 ((r >>> 4) <<< 4) = r >>> 4 := by
  have hbit : ∀ k, k ≤ 3 → (((r >>> 4) <<< 4) >>> k).getLsbD 0 = false := by
    intro k hk
    rw [BitVec.getLsbD_ushiftRight, BitVec.getLsbD_shiftLeft]
    simp; try omega
  have e0 : ((r >>> 4) <<< 4).getLsbD 0 = false := hbit 0 (by omega)
  have e1 := hbit 1 (by omega)
  have e2 := hbit 2 (by omega)
  have e3 := hbit 3 (by omega)
  have s0 : step ((r >>> 4) <<< 4) = ((r >>> 4) <<< 4) >>> 1 := step_even _ e0
  have s1 : step (((r >>> 4) <<< 4) >>> 1) = ((r >>> 4) <<< 4) >>> 2 := (step_even _ e1).trans (BitVec.shiftRight_add _ 1 1).symm
  have s2 : step (((r >>> 4) <<< 4) >>> 2) = ((r >>> 4) <<< 4) >>> 3 := (step_even _ e2).trans (BitVec.shiftRight_add _ 2 1).symm
  have s3 : step (((r >>> 4) <<< 4) >>> 3) = ((r >>> 4) <<< 4) >>> 4 := (step_even _ e3).trans (BitVec.shiftRight_add _ 3 1).symm
  simp only [stepN]
  rw [s0, s1, s2, s3]
  apply BitVec.eq_of_getLsbD_eq
  intro i hi
  rw [BitVec.getLsbD_ushiftRight, BitVec.getLsbD_ushiftRight, BitVec.getLsbD_shiftLeft, BitVec.getLsbD_ushiftRight]
  by_cases h : i < 28
  · simp; try omega
  · have : r.getLsbD (4 + i) = false := BitVec.getLsbD_of_ge r _ (by omega)
    simp [this]; try omega

/-- four steps at once, by the table -/
theorem nibble (r : BitVec 32) : stepN 4 r = (r >>> 4) ^^^ BitVec.ofNat 32 (tab.getD (r &&& 15#32).toNat 0) := by
  have hlt : (r &&& 15#32).toNat < 16 := by
    rw [BitVec.toNat_and]
    exact Nat.lt_of_le_of_lt Nat.and_le_right (by decide)
  have e : r &&& 15#32 = BitVec.ofNat 32 (r &&& 15#32).toNat := by simp
  have := tab_nibble ⟨(r &&& 15#32).toNat, hlt⟩
  conv => lhs; rw [nib_split r, stepN_xor, stepN4_shl, e, this]

/-- a register after a byte -/
def byte (r : BitVec 32) (c : UInt8) : BitVec 32 := stepN 8 (r ^^^ BitVec.ofNat 32 c.toNat)
/-- a register after bytes -/
def run (r : BitVec 32) (l : List UInt8) : BitVec 32 := l.foldl byte r
/-- Add of the chapter -/
def add (s : BitVec 32) (l : List UInt8) : BitVec 32 := ~~~ run (~~~ s) l

theorem byte_nibbles (r : BitVec 32) (c : UInt8) : byte r c = stepN 4 (stepN 4 (r ^^^ BitVec.ofNat 32 c.toNat)) := by
  unfold byte; exact stepN_add 4 4 _

theorem run_append (r : BitVec 32) (a b : List UInt8) : run r (a ++ b) = run (run r a) b := by simp [run]
theorem run_snoc (r : BitVec 32) (a : List UInt8) (c : UInt8) : run r (a ++ [c]) = byte (run r a) c := by simp [run]

theorem byte_lin (r s : BitVec 32) (c : UInt8) : byte (r ^^^ s) c = stepN 8 r ^^^ byte s c := by
  unfold byte; rw [BitVec.xor_assoc, stepN_xor]

theorem run_lin (r s : BitVec 32) (l : List UInt8) : run (r ^^^ s) l = stepN (8 * l.length) r ^^^ run s l := by
  induction l generalizing r s with
  | nil => rfl
  | cons c l ih =>
    simp only [run, List.foldl_cons, List.length_cons]
    rw [byte_lin]
    have := ih (stepN 8 r) (byte s c)
    unfold run at this
    rw [this, ← stepN_add, show 8 + 8 * l.length = 8 * (l.length + 1) by omega]

/-- Join of the chapter -/
def join (a b : BitVec 32) (n : Nat) : BitVec 32 := stepN (8 * n) a ^^^ b

theorem not_eq_xor (a : BitVec 32) : ~~~ a = a ^^^ BitVec.allOnes 32 := (BitVec.xor_allOnes).symm
theorem add_append (s : BitVec 32) (a b : List UInt8) : add s (a ++ b) = add (add s a) b := by
  unfold add; rw [BitVec.not_not, run_append]
theorem add_nil (s : BitVec 32) : add s [] = s := by simp [add, run]
theorem add_join (s : BitVec 32) (b : List UInt8) : add s b = join s (add 0#32 b) b.length := by
  unfold add join
  rw [not_eq_xor s, run_lin, not_eq_xor 0#32, BitVec.zero_xor, not_eq_xor, not_eq_xor, BitVec.xor_assoc]
theorem join_assoc (a b c : BitVec 32) (i k : Nat) : join (join a b i) c k = join a (join b c k) (i + k) := by
  unfold join; rw [stepN_xor, ← stepN_add, show 8 * i + 8 * k = 8 * (i + k) by omega, BitVec.xor_assoc]
theorem join_zero (a b : BitVec 32) : join a b 0 = a ^^^ b := rfl
theorem join_left (b : BitVec 32) (n : Nat) : join 0#32 b n = b := by unfold join; rw [stepN_zero, BitVec.zero_xor]

/-- the product of polynomials, as the program's loop computes it: k bits are still to come -/
def timesLoop : Nat → BitVec 32 → BitVec 32 → BitVec 32 → BitVec 32
  | 0, _, _, out => out
  | k + 1, a, b, out => timesLoop k a (step b) (if a.getLsbD k = true then out ^^^ b else out)
def times (a b : BitVec 32) : BitVec 32 := timesLoop 32 a b 0#32

theorem timesLoop_out (k : Nat) (a b o o' : BitVec 32) : timesLoop k a b (o ^^^ o') = o ^^^ timesLoop k a b o' := by
  induction k generalizing b o o' with
  | zero => rfl
  | succ k ih =>
    simp only [timesLoop]
    by_cases h : a.getLsbD k = true
    · rw [if_pos h, if_pos h, BitVec.xor_assoc, ih]
    · rw [if_neg h, if_neg h, ih]
theorem timesLoop_step (k : Nat) (a b o : BitVec 32) : timesLoop k a (step b) (step o) = step (timesLoop k a b o) := by
  induction k generalizing b o with
  | zero => rfl
  | succ k ih =>
    simp only [timesLoop]
    by_cases h : a.getLsbD k = true
    · rw [if_pos h, if_pos h, ← step_xor, ih]
    · rw [if_neg h, if_neg h, ih]
theorem times_step (a b : BitVec 32) : times a (step b) = step (times a b) := by
  unfold times
  have := timesLoop_step 32 a b 0#32
  rw [step_zero] at this
  exact this
theorem times_stepN (n : Nat) (a b : BitVec 32) : times a (stepN n b) = stepN n (times a b) := by
  induction n generalizing b with
  | zero => rfl
  | succ n ih => simp only [stepN]; rw [ih, times_step]

def one : BitVec 32 := 0x80000000#32

theorem timesLoop_one (a : BitVec 32) : ∀ k : Nat, k ≤ 32 → timesLoop k a (stepN (32 - k) one) 0#32 = BitVec.ofNat 32 (a.toNat % 2 ^ k) := by
  intro k
  induction k with
  | zero => intro _; simp [timesLoop, Nat.mod_one]
  | succ k ih =>
    intro hk
    simp only [timesLoop]
    have hone : stepN (32 - (k + 1)) one = BitVec.twoPow 32 k := by
      have : ∀ j : Fin 32, stepN (31 - j.val) one = BitVec.twoPow 32 j.val := by decide +kernel
      have h := this ⟨k, by omega⟩
      rw [show 32 - (k + 1) = 31 - k by omega]; exact h
    have hs : step (stepN (32 - (k + 1)) one) = stepN (32 - k) one := by
      rw [← stepN_succ', show 32 - (k + 1) + 1 = 32 - k by omega]
    have hmod : a.toNat % 2 ^ (k + 1) = a.toNat % 2 ^ k + 2 ^ k * (a.getLsbD k).toNat := by
      rw [Nat.mod_pow_succ, show a.getLsbD k = a.toNat.testBit k from rfl, Nat.testBit_eq_decide_div_mod_eq]
      have := Nat.mod_two_eq_zero_or_one (a.toNat / 2 ^ k)
      rcases this with h | h <;> simp [h]
    rw [hs]
    by_cases h : a.getLsbD k = true
    · rw [if_pos h, BitVec.zero_xor]
      have := timesLoop_out k a (stepN (32 - k) one) (stepN (32 - (k + 1)) one) 0#32
      rw [BitVec.xor_zero] at this
      rw [this, ih (by omega), hone, hmod, h]
      apply BitVec.eq_of_toNat_eq
      have hlt : a.toNat % 2 ^ k < 2 ^ k := Nat.mod_lt _ (Nat.two_pow_pos k)
      have hk2 : 2 ^ k ≤ 2 ^ 31 := Nat.pow_le_pow_right (by decide) (by omega)
      have h31 : (2 : Nat) ^ 31 = 2147483648 := by decide
      have h32 : (2 : Nat) ^ 32 = 4294967296 := by decide
      rw [BitVec.toNat_xor, BitVec.toNat_twoPow, BitVec.toNat_ofNat, BitVec.toNat_ofNat]
      simp only [Bool.toNat_true, Nat.mul_one]
      rw [Nat.mod_eq_of_lt (by omega : 2 ^ k < 2 ^ 32), Nat.mod_eq_of_lt (by omega : a.toNat % 2 ^ k < 2 ^ 32), Nat.mod_eq_of_lt (by omega : a.toNat % 2 ^ k + 2 ^ k < 2 ^ 32)]
      rw [Nat.add_comm (a.toNat % 2 ^ k)]
      apply Nat.eq_of_testBit_eq
      intro i
      rw [Nat.testBit_xor]
      by_cases hi : i < k
      · rw [Nat.testBit_two_pow_add_gt hi]; rw [Nat.testBit_two_pow_of_ne (by omega)]; simp
      · by_cases hi2 : i = k
        · subst hi2; rw [Nat.testBit_two_pow_add_eq, Nat.testBit_two_pow_self, Nat.testBit_lt_two_pow hlt]; rfl
        · have hp : 2 ^ (k + 1) ≤ 2 ^ i := Nat.pow_le_pow_right (by decide) (by omega)
          have hps : 2 ^ (k + 1) = 2 * 2 ^ k := by rw [Nat.pow_succ]; omega
          rw [Nat.testBit_two_pow_of_ne (by omega), Nat.testBit_lt_two_pow (by omega), Nat.testBit_lt_two_pow (by omega)]; rfl
    · rw [if_neg h, ih (by omega), hmod]
      have : a.getLsbD k = false := by simpa using h
      rw [this]; simp

theorem times_one (a : BitVec 32) : times a one = a := by
  have := timesLoop_one a 32 (by omega)
  unfold times
  rw [show stepN (32 - 32) one = one from rfl] at this
  rw [this, Nat.mod_eq_of_lt a.isLt]; simp

/-- the power of x that the program multiplies by -/
theorem times_pow (a : BitVec 32) (n : Nat) : times a (stepN n one) = stepN n a := by rw [times_stepN, times_one]
theorem times_square (n : Nat) : times (stepN n one) (stepN n one) = stepN (2 * n) one := by
  rw [times_pow, ← stepN_add, show n + n = 2 * n by omega]
theorem start_power : stepN 8 one = BitVec.ofNat 32 8388608 := by decide +kernel

/-- the reference's 'apply', after i of the 32 bits -/
def apSum (m : Nat → BitVec 32) (r : BitVec 32) : Nat → BitVec 32
  | 0 => 0#32
  | i + 1 => if r.getLsbD i = true then apSum m r i ^^^ m i else apSum m r i

/-- an effect as a matrix: what it makes of each bit -/
def col (k : Nat) (i : Nat) : BitVec 32 := stepN k (BitVec.twoPow 32 i)

theorem ofNat_mod_succ (r : BitVec 32) (i : Nat) : BitVec.ofNat 32 (r.toNat % 2 ^ (i + 1)) = if r.getLsbD i = true then BitVec.ofNat 32 (r.toNat % 2 ^ i) ^^^ BitVec.twoPow 32 i else BitVec.ofNat 32 (r.toNat % 2 ^ i) := by
  apply BitVec.eq_of_getLsbD_eq
  intro j hj
  by_cases h : r.getLsbD i = true
  · rw [if_pos h, BitVec.getLsbD_xor, BitVec.getLsbD_ofNat, BitVec.getLsbD_ofNat, BitVec.getLsbD_twoPow, Nat.testBit_mod_two_pow, Nat.testBit_mod_two_pow]
    by_cases e : i = j
    · subst e
      have h' : r.toNat.testBit i = true := h
      simp [h', hj]
    · by_cases h1 : j < i
      · simp [h1, e, show j < i + 1 by omega]
      · simp [h1, e, show ¬ j < i + 1 by omega]
  · rw [if_neg h, BitVec.getLsbD_ofNat, BitVec.getLsbD_ofNat, Nat.testBit_mod_two_pow, Nat.testBit_mod_two_pow]
    by_cases e : i = j
    · subst e
      have h' : r.toNat.testBit i = false := by
        have : ¬ r.toNat.testBit i = true := h
        simpa using this
      simp [h']
    · by_cases h1 : j < i
      · simp [h1, show j < i + 1 by omega]
      · simp [h1, show ¬ j < i + 1 by omega]

theorem apSum_col (k : Nat) (r : BitVec 32) (i : Nat) (hi : i ≤ 32) : apSum (col k) r i = stepN k (BitVec.ofNat 32 (r.toNat % 2 ^ i)) := by
  induction i with
  | zero => simp [apSum, Nat.mod_one, stepN_zero]
  | succ i ih =>
    simp only [apSum]
    rw [ofNat_mod_succ r i, ih (by omega)]
    by_cases h : r.getLsbD i = true
    · rw [if_pos h, if_pos h, stepN_xor]; rfl
    · rw [if_neg h, if_neg h]
/-- the matrix of an effect, applied, is the effect -/
theorem apply_col (k : Nat) (r : BitVec 32) : apSum (col k) r 32 = stepN k r := by
  rw [apSum_col k r 32 (by omega), Nat.mod_eq_of_lt r.isLt]; simp
theorem twice_col (k i : Nat) : apSum (col k) (col k i) 32 = col (2 * k) i := by
  rw [apply_col]; unfold col; rw [← stepN_add, show k + k = 2 * k by omega]

/-- a bit of bytes is changed -/
def flip (l : List UInt8) (p : Nat) : List UInt8 := l.set (p / 8) (l.getD (p / 8) 0 ^^^ UInt8.ofNat (2 ^ (p % 8)))
/-- the bits of a burst, the first i of them -/
def eff (l : List UInt8) (at0 bits i : Nat) : Bool := bits.testBit i && decide ((at0 + i) / 8 < l.length)
def burst (l : List UInt8) (at0 bits : Nat) : Nat → List UInt8
  | 0 => l
  | i + 1 => if eff l at0 bits i = true then flip (burst l at0 bits i) (at0 + i) else burst l at0 bits i
def effs (l : List UInt8) (at0 bits : Nat) : Nat → BitVec 32
  | 0 => 0#32
  | i + 1 => if eff l at0 bits i = true then effs l at0 bits i ^^^ BitVec.twoPow 32 i else effs l at0 bits i

theorem flip_length (l : List UInt8) (p : Nat) : (flip l p).length = l.length := by simp [flip]
theorem burst_length (l : List UInt8) (at0 bits i : Nat) : (burst l at0 bits i).length = l.length := by
  induction i with
  | zero => rfl
  | succ i ih => simp only [burst]; by_cases h : eff l at0 bits i = true <;> simp [h, flip_length, ih]

theorem twoPow_one : ∀ j : Fin 32, stepN j.val (BitVec.twoPow 32 j.val) = 1#32 := by decide +kernel
theorem byte_flip (r : BitVec 32) (x : UInt8) (j : Nat) (hj : j < 8) : byte r (x ^^^ UInt8.ofNat (2 ^ j)) = byte r x ^^^ stepN 8 (BitVec.twoPow 32 j) := by
  unfold byte
  rw [← stepN_xor, BitVec.xor_assoc]
  congr 2
  apply BitVec.eq_of_toNat_eq
  have hp : 2 ^ j < 256 := Nat.lt_of_lt_of_le (Nat.pow_lt_pow_right (by decide) hj) (by decide : 2 ^ 8 ≤ 256)
  have hx : x.toNat < 256 := x.toNat_lt
  have hxor : x.toNat ^^^ 2 ^ j < 2 ^ 8 := Nat.xor_lt_two_pow hx hp
  rw [BitVec.toNat_xor, BitVec.toNat_twoPow, BitVec.toNat_ofNat, BitVec.toNat_ofNat, UInt8.toNat_xor, UInt8.toNat_ofNat']
  rw [Nat.mod_eq_of_lt (show 2 ^ j < 2 ^ 8 from hp), Nat.mod_eq_of_lt (show 2 ^ j < 2 ^ 32 by omega), Nat.mod_eq_of_lt (show x.toNat < 2 ^ 32 by omega), Nat.mod_eq_of_lt (show x.toNat ^^^ 2 ^ j < 2 ^ 32 by omega)]

theorem run_flip (r : BitVec 32) (l : List UInt8) (p : Nat) (hp : p / 8 < l.length) : run r (flip l p) = run r l ^^^ stepN (8 * l.length - p) 1#32 := by
  have hl : l = l.take (p / 8) ++ l.getD (p / 8) 0 :: l.drop (p / 8 + 1) := by
    have hg : l.getD (p / 8) 0 = l[p / 8] := by simp [List.getD, hp]
    rw [hg, List.getElem_cons_drop, List.take_append_drop]
  have hf : flip l p = l.take (p / 8) ++ (l.getD (p / 8) 0 ^^^ UInt8.ofNat (2 ^ (p % 8))) :: l.drop (p / 8 + 1) := by
    unfold flip; rw [List.set_eq_take_append_cons_drop, if_pos hp]
  have hlen : (l.drop (p / 8 + 1)).length = l.length - (p / 8 + 1) := List.length_drop
  have hcons : ∀ (s : BitVec 32) (c : UInt8) (t : List UInt8), run s (c :: t) = run (byte s c) t := fun s c t => rfl
  rw [hf]
  conv => rhs; rw [hl]
  rw [run_append, run_append, hcons, hcons, byte_flip _ _ _ (Nat.mod_lt _ (by decide)), BitVec.xor_comm (byte _ _), run_lin, BitVec.xor_comm]
  congr 1
  rw [← stepN_add, hlen, ← twoPow_one ⟨p % 8, by omega⟩, ← stepN_add]
  congr 1
  simp only [List.length_append, List.length_cons, List.length_take, hlen]
  omega

theorem run_burst (r : BitVec 32) (l : List UInt8) (at0 bits i : Nat) (hi : i ≤ 32) : run r (burst l at0 bits i) = run r l ^^^ stepN (8 * l.length - at0) (effs l at0 bits i) := by
  induction i with
  | zero => simp [burst, effs, stepN_zero]
  | succ i ih =>
    simp only [burst, effs]
    by_cases h : eff l at0 bits i = true
    · rw [if_pos h, if_pos h]
      have hlt : (at0 + i) / 8 < l.length := by simp [eff] at h; exact h.2
      rw [run_flip _ _ _ (by rw [burst_length]; exact hlt), ih (by omega), stepN_xor, BitVec.xor_assoc, burst_length]
      congr 2
      rw [← twoPow_one ⟨i, by omega⟩, ← stepN_add]
      congr 1
      show i + (8 * l.length - (at0 + i)) = 8 * l.length - at0
      omega
    · rw [if_neg h, if_neg h, ih (by omega)]

theorem effs_bit (l : List UInt8) (at0 bits i j : Nat) (hi : i ≤ 32) : (effs l at0 bits i).getLsbD j = (decide (j < i) && eff l at0 bits j) := by
  induction i with
  | zero => simp [effs]
  | succ i ih =>
    simp only [effs]
    by_cases h : eff l at0 bits i = true
    · rw [if_pos h, BitVec.getLsbD_xor, ih (by omega), BitVec.getLsbD_twoPow]
      by_cases e : i = j
      · subst e; simp [h]; omega
      · by_cases h1 : j < i
        · simp [h1, e, show j < i + 1 by omega]
        · simp [h1, e, show ¬ j < i + 1 by omega]
    · rw [if_neg h, ih (by omega)]
      by_cases e : i = j
      · subst e; simp [h]
      · by_cases h1 : j < i
        · simp [h1, show j < i + 1 by omega]
        · simp [h1, show ¬ j < i + 1 by omega]

theorem burst_none (l : List UInt8) (at0 bits i : Nat) (h : ∀ j, j < i → eff l at0 bits j = false) : burst l at0 bits i = l := by
  induction i with
  | zero => rfl
  | succ i ih => simp only [burst]; rw [if_neg (by rw [h i (by omega)]; simp), ih fun j hj => h j (by omega)]

/-- changes within 32 consecutive bits are detected -/
theorem burst_detected (s : BitVec 32) (l : List UInt8) (at0 bits : Nat) : add s l = add s (burst l at0 bits 32) ↔ l = burst l at0 bits 32 := by
  constructor
  · intro h
    unfold add at h
    have h1 : run (~~~ s) l = run (~~~ s) (burst l at0 bits 32) := by
      have := congrArg (fun x => ~~~ x) h
      simpa using this
    rw [run_burst _ _ _ _ _ (Nat.le_refl _)] at h1
    have h2 : stepN (8 * l.length - at0) (effs l at0 bits 32) = 0#32 := by
      have := congrArg (fun x => run (~~~ s) l ^^^ x) h1
      simp only [← BitVec.xor_assoc, BitVec.xor_self, BitVec.zero_xor] at this
      exact this.symm
    have h3 := stepN_inj _ _ h2
    refine (burst_none _ _ _ _ fun j hj => ?_).symm
    have := effs_bit l at0 bits 32 j (Nat.le_refl _)
    rw [h3, BitVec.getLsbD_zero] at this
    simpa [hj] using this.symm
  · intro h; exact congrArg _ h

/-- the exclusive or of three sequences of one length -/
def xor3 (a b c : List UInt8) : List UInt8 := (a.zip (b.zip c)).map fun x => x.1 ^^^ x.2.1 ^^^ x.2.2

theorem byte_xor3 (r s t : BitVec 32) (x y z : UInt8) : byte (r ^^^ s ^^^ t) (x ^^^ y ^^^ z) = byte r x ^^^ byte s y ^^^ byte t z := by
  unfold byte
  rw [← stepN_xor, ← stepN_xor]
  congr 1
  have : BitVec.ofNat 32 (x ^^^ y ^^^ z).toNat = BitVec.ofNat 32 x.toNat ^^^ BitVec.ofNat 32 y.toNat ^^^ BitVec.ofNat 32 z.toNat := by
    rw [UInt8.toNat_xor, UInt8.toNat_xor, BitVec.ofNat_xor, BitVec.ofNat_xor]
  rw [this]
  ac_rfl

theorem run_xor3 (a b c : List UInt8) (r s t : BitVec 32) (h1 : a.length = b.length) (h2 : a.length = c.length) : run (r ^^^ s ^^^ t) (xor3 a b c) = run r a ^^^ run s b ^^^ run t c := by
  induction a generalizing b c r s t with
  | nil =>
    obtain rfl : b = [] := List.length_eq_zero_iff.1 h1.symm
    obtain rfl : c = [] := List.length_eq_zero_iff.1 h2.symm
    rfl
  | cons x a ih =>
    match b, c, h1, h2 with
    | y :: b, z :: c, h1, h2 =>
      have := ih b c (byte r x) (byte s y) (byte t z) (by simpa using h1) (by simpa using h2)
      rw [← byte_xor3] at this
      exact this

theorem add_xor3 (a b c : List UInt8) (h1 : a.length = b.length) (h2 : a.length = c.length) : add 0#32 (xor3 a b c) = add 0#32 a ^^^ add 0#32 b ^^^ add 0#32 c := by
  unfold add
  have h := run_xor3 a b c (~~~ 0#32) (~~~ 0#32) (~~~ 0#32) h1 h2
  rw [BitVec.xor_self, BitVec.zero_xor] at h
  rw [h, not_eq_xor (_ ^^^ _ ^^^ _), not_eq_xor (run _ a), not_eq_xor (run _ b), not_eq_xor (run _ c)]
  generalize run (~~~ 0#32) a = x
  generalize run (~~~ 0#32) b = y
  generalize run (~~~ 0#32) c = z
  have e : (x ^^^ BitVec.allOnes 32) ^^^ (y ^^^ BitVec.allOnes 32) = x ^^^ y := by
    rw [xor_swap4, BitVec.xor_self, BitVec.xor_zero]
  rw [e, BitVec.xor_assoc]

end Go.Proofs.YtncnocejmbfhaaaDoor.Crc
