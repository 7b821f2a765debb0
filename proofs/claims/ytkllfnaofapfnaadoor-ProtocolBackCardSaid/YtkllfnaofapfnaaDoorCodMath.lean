/-
  The plain law of the codes of numbers: what is written, what is read, and that exactly what was written is read. No program is in sight. Conditions: none.
-/
import GoSem.Claim
namespace Go.Proofs.YtkllfnaofapfnaaDoor.Cod

/-- the code of a number, with room for f digits more -/
def putF : Nat → Nat → List UInt8
  | 0, v => [UInt8.ofNat v]
  | f + 1, v => if v < 128 then [UInt8.ofNat v] else UInt8.ofNat (v % 128 + 128) :: putF f (v / 128)
/-- the code of a number below 2^64 -/
def put (v : Nat) : List UInt8 := putF 9 v

/-- reading a number: i digits have been read, their sum is acc -/
def rdI : Nat → Nat → List UInt8 → Option (Nat × Nat)
  | _, _, [] => none
  | i, acc, c :: r =>
    if i = 9 ∧ 1 < c.toNat ∨ 0 < i ∧ c.toNat = 0 then none
    else if c.toNat < 128 then some (acc + c.toNat % 128 * 2 ^ (7 * i), 1)
    else (rdI (i + 1) (acc + c.toNat % 128 * 2 ^ (7 * i)) r).map fun x => (x.1, x.2 + 1)
/-- the number whose code bytes begin with, and how many bytes that has -/
def rd (l : List UInt8) : Option (Nat × Nat) := rdI 0 0 l

theorem putF_pos (f v : Nat) : 0 < (putF f v).length := by
  cases f with
  | zero => simp [putF]
  | succ f => simp only [putF]; split <;> simp
theorem putF_len (f v : Nat) : (putF f v).length ≤ f + 1 := by
  induction f generalizing v with
  | zero => simp [putF]
  | succ f ih => simp only [putF]; split <;> simp; have := ih (v / 128); omega
theorem put_pos (v : Nat) : 0 < (put v).length := putF_pos 9 v
theorem put_len (v : Nat) : (put v).length ≤ 10 := putF_len 9 v

theorem toNat_small (v : Nat) (h : v < 256) : (UInt8.ofNat v).toNat = v := by
  rw [UInt8.toNat_ofNat']; omega

theorem pow7 (i : Nat) : 2 ^ (7 * (i + 1)) = 128 * 2 ^ (7 * i) := by
  rw [show 7 * (i + 1) = 7 * i + 7 by omega, Nat.pow_add, Nat.mul_comm]

/-- what was written is read again -/
theorem rdI_put (f : Nat) : ∀ (i acc d : Nat) (r : List UInt8), i + f = 9 → d < 2 ^ (64 - 7 * i) → (0 < i → 0 < d) →
    rdI i acc (putF f d ++ r) = some (acc + d * 2 ^ (7 * i), (putF f d).length) := by
  induction f with
  | zero =>
    intro i acc d r hi hd hp
    obtain rfl : i = 9 := by omega
    have hd2 : d < 2 := by simpa using hd
    have hd1 : 0 < d := hp (by omega)
    obtain rfl : d = 1 := by omega
    simp [putF, rdI]
  | succ f ih =>
    intro i acc d r hi hd hp
    have hi9 : i ≠ 9 := by omega
    simp only [putF]
    by_cases h : d < 128
    · rw [if_pos h]
      have ht := toNat_small d (by omega)
      have hm : d % 128 = d := by omega
      simp only [List.cons_append, List.nil_append, rdI, ht, hm]
      rw [if_neg (fun x => x.elim (fun a => hi9 a.1) (fun a => by have := hp a.1; have := a.2; omega)), if_pos h]
      simp
    · rw [if_neg h]
      have ht := toNat_small (d % 128 + 128) (by omega)
      have hm : (d % 128 + 128) % 128 = d % 128 := by omega
      simp only [List.cons_append, rdI, ht, hm]
      rw [if_neg (fun x => x.elim (fun a => hi9 a.1) (fun a => by have := a.2; omega)), if_neg (by omega)]
      have hp7 : (2 : Nat) ^ 7 = 128 := by decide
      have hq : d / 128 < 2 ^ (64 - 7 * (i + 1)) := by
        have e : 64 - 7 * i = (64 - 7 * (i + 1)) + 7 := by omega
        rw [e, Nat.pow_add, hp7] at hd
        omega
      rw [ih (i + 1) _ (d / 128) r (by omega) hq (fun _ => by omega)]
      simp only [Option.map_some, List.length_cons, Option.some.injEq, Prod.mk.injEq, and_true]
      rw [pow7, Nat.add_assoc]
      congr 1
      rw [← Nat.mul_assoc, ← Nat.add_mul]
      congr 1
      omega

theorem rd_put (v : Nat) (r : List UInt8) (h : v < 2 ^ 64) : rd (put v ++ r) = some (v, (put v).length) := by
  unfold rd put
  rw [rdI_put 9 0 0 v r (by omega) (by simpa using h) (by omega)]
  simp

/-- exactly what was written is read -/
theorem rdI_sound (f : Nat) : ∀ (i acc : Nat) (l : List UInt8) (v k : Nat), i + f = 9 → rdI i acc l = some (v, k) →
    ∃ d, v = acc + d * 2 ^ (7 * i) ∧ k ≤ l.length ∧ l.take k = putF f d ∧ d < 2 ^ (64 - 7 * i) ∧ (0 < i → 0 < d) := by
  induction f with
  | zero =>
    intro i acc l v k hi h
    obtain rfl : i = 9 := by omega
    match l with
    | [] => simp [rdI] at h
    | c :: r =>
      have hc8 : c.toNat < 256 := c.toNat_lt
      simp only [rdI] at h
      split at h
      · cases h
      · rename_i hn
        have hn1 : ¬ 1 < c.toNat := fun h => hn (.inl ⟨trivial, h⟩)
        have hn0 : c.toNat ≠ 0 := fun h => hn (.inr ⟨by decide, h⟩)
        have hc1 : c.toNat = 1 := by omega
        rw [if_pos (by omega)] at h
        simp only [Option.some.injEq, Prod.mk.injEq] at h
        obtain ⟨rfl, rfl⟩ := h
        have hc : c = 1 := UInt8.toNat_inj.1 (by rw [hc1]; rfl)
        subst hc
        exact ⟨1, rfl, by simp, rfl, by decide, fun _ => by omega⟩
  | succ f ih =>
    intro i acc l v k hi h
    match l with
    | [] => simp [rdI] at h
    | c :: r =>
      have hc8 : c.toNat < 256 := c.toNat_lt
      simp only [rdI] at h
      split at h
      · cases h
      · rename_i hn
        have hp7 : (2 : Nat) ^ 7 = 128 := by decide
        split at h
        · rename_i hc
          simp only [Option.some.injEq, Prod.mk.injEq] at h
          obtain ⟨rfl, rfl⟩ := h
          have h128 : 128 ≤ 2 ^ (64 - 7 * i) := by
            rw [← hp7]; exact Nat.pow_le_pow_right (by decide) (by omega)
          refine ⟨c.toNat, by rw [Nat.mod_eq_of_lt hc], by simp, ?_, by omega, fun _ => by omega⟩
          simp only [putF]
          rw [if_pos hc]
          simp
        · rename_i hc
          match hr : rdI (i + 1) (acc + c.toNat % 128 * 2 ^ (7 * i)) r with
          | none => rw [hr] at h; simp at h
          | some (v', k') =>
            rw [hr] at h
            simp only [Option.map_some, Option.some.injEq, Prod.mk.injEq] at h
            obtain ⟨rfl, rfl⟩ := h
            obtain ⟨d, hv, hk, htk, hd, hd0⟩ := ih (i + 1) _ r v' k' (by omega) hr
            have hd0' : 0 < d := hd0 (by omega)
            refine ⟨c.toNat % 128 + 128 * d, ?_, by simp; omega, ?_, ?_, fun _ => by omega⟩
            · rw [hv, pow7, Nat.add_assoc]
              congr 1
              rw [← Nat.mul_assoc, ← Nat.add_mul]
              congr 1
              omega
            · simp only [putF]
              rw [if_neg (by omega), List.take_succ_cons, htk]
              have e1 : (c.toNat % 128 + 128 * d) % 128 + 128 = c.toNat := by omega
              have e2 : (c.toNat % 128 + 128 * d) / 128 = d := by omega
              rw [e1, e2]
              simp
            · have e : 64 - 7 * i = (64 - 7 * (i + 1)) + 7 := by omega
              rw [e, Nat.pow_add, hp7]
              omega

theorem rd_sound (l : List UInt8) (v k : Nat) (h : rd l = some (v, k)) : v < 2 ^ 64 ∧ k ≤ l.length ∧ l.take k = put v ∧ k = (put v).length := by
  obtain ⟨d, hv, hk, ht, hd, _⟩ := rdI_sound 9 0 0 l v k (by omega) h
  simp at hv hd
  subst hv
  refine ⟨hd, hk, ht, ?_⟩
  have := congrArg List.length ht
  rw [List.length_take] at this
  unfold put; omega

theorem rd_of_take (l : List UInt8) (v : Nat) (hv : v < 2 ^ 64) (h : l.take (put v).length = put v) : rd l = some (v, (put v).length) := by
  have e : l = put v ++ l.drop (put v).length := by conv => lhs; rw [← List.take_append_drop (put v).length l, h]
  rw [e]
  exact rd_put v _ hv

/-- the digits' sum, as the reference adds them up -/
def dsum : List UInt8 → Nat
  | [] => 0
  | c :: r => c.toNat % 128 + 128 * dsum r
theorem dsum_snoc (l : List UInt8) (c : UInt8) : dsum (l ++ [c]) = dsum l + 128 ^ l.length * (c.toNat % 128) := by
  induction l with
  | nil => simp [dsum]
  | cons x l ih =>
    simp only [List.cons_append, dsum, ih, List.length_cons, Nat.pow_succ]
    rw [Nat.mul_add, Nat.add_assoc, Nat.mul_comm (128 ^ l.length) 128, Nat.mul_assoc]
theorem dsum_put (f : Nat) : ∀ v, v < 128 ^ (f + 1) → dsum (putF f v) = v := by
  induction f with
  | zero =>
    intro v h
    simp only [putF, dsum]
    have : v < 128 := by simpa using h
    rw [toNat_small v (by omega)]; omega
  | succ f ih =>
    intro v h
    simp only [putF]
    split
    · simp only [dsum]; rw [toNat_small v (by omega)]; omega
    · simp only [dsum]
      rw [toNat_small _ (by omega), ih (v / 128) (by rw [Nat.pow_succ] at h; omega)]; omega
theorem put_shape (f : Nat) : ∀ v, v < 128 ^ (f + 1) → (∀ j, j + 1 < (putF f v).length → 128 ≤ ((putF f v).getD j 0).toNat) ∧ ((putF f v).getD ((putF f v).length - 1) 0).toNat < 128 := by
  induction f with
  | zero =>
    intro v h
    have : v < 128 := by simpa using h
    refine ⟨fun j hj => by simp [putF] at hj, ?_⟩
    simp only [putF, List.length_singleton]
    show (UInt8.ofNat v).toNat < 128
    rw [toNat_small v (by omega)]; exact this
  | succ f ih =>
    intro v h
    simp only [putF]
    split
    · rename_i hv
      refine ⟨fun j hj => by simp at hj, ?_⟩
      show (UInt8.ofNat v).toNat < 128
      rw [toNat_small v (by omega)]; exact hv
    · obtain ⟨h1, h2⟩ := ih (v / 128) (by rw [Nat.pow_succ] at h; omega)
      have hp := putF_pos f (v / 128)
      refine ⟨fun j hj => ?_, ?_⟩
      · cases j with
        | zero =>
          show 128 ≤ (UInt8.ofNat (v % 128 + 128)).toNat
          rw [toNat_small _ (by omega)]; omega
        | succ j =>
          have := h1 j (by simpa using hj)
          simpa [List.getD] using this
      · rw [List.length_cons, show (putF f (v / 128)).length + 1 - 1 = ((putF f (v / 128)).length - 1) + 1 by omega]
        simpa [List.getD] using h2

theorem pow64 : (2 : Nat) ^ 64 ≤ 128 ^ 10 := by decide

/-- the reference's answer where the first digit below 128 stands at i -/
theorem ref_found (l : List UInt8) (i : Nat) (hall : ∀ j, j < i → 128 ≤ (l.getD j 0).toNat) (hlast : (l.getD i 0).toNat < 128) :
    rd l = if (put (dsum (l.take (i + 1)) % 2 ^ 64)).length = i + 1 ∧ l.take (i + 1) = put (dsum (l.take (i + 1)) % 2 ^ 64) then some (dsum (l.take (i + 1)) % 2 ^ 64, i + 1) else none := by
  have hmod : dsum (l.take (i + 1)) % 2 ^ 64 < 2 ^ 64 := Nat.mod_lt _ (Nat.two_pow_pos 64)
  split
  · rename_i h
    have := rd_of_take l _ hmod (by rw [h.1]; exact h.2)
    rw [this, h.1]
  · rename_i h
    match hr : rd l with
    | none => rfl
    | some (v, k) =>
      exfalso
      obtain ⟨hv, hk, htk, hkl⟩ := rd_sound l v k hr
      obtain ⟨hs1, hs2⟩ := put_shape 9 v (Nat.lt_of_lt_of_le hv pow64)
      have hs1' : ∀ j, j + 1 < (put v).length → 128 ≤ ((put v).getD j 0).toNat := hs1
      have hs2' : ((put v).getD ((put v).length - 1) 0).toNat < 128 := hs2
      have hpos := put_pos v
      have hget : ∀ j, j < k → (put v).getD j 0 = l.getD j 0 := by
        intro j hj
        rw [← htk]
        simp [List.getD, hj]
      have hki : k = i + 1 := by
        rcases Nat.lt_trichotomy (k - 1) i with h1 | h1 | h1
        · have := hall (k - 1) h1
          rw [← hget (k - 1) (by omega), hkl] at this
          omega
        · omega
        · have := hs1' i (by omega)
          rw [hget i (by omega)] at this
          omega
      have hsum : dsum (l.take (i + 1)) = v := by
        rw [← hki, htk]; exact dsum_put 9 v (Nat.lt_of_lt_of_le hv pow64)
      rw [hsum, Nat.mod_eq_of_lt hv] at h
      exact h ⟨by omega, by rw [← hki]; exact htk⟩
/-- the reference's answer where no digit below 128 is met -/
theorem ref_none (l : List UInt8) (i : Nat) (hall : ∀ j, j < i → 128 ≤ (l.getD j 0).toNat) (hi : i = 10 ∨ i = l.length) : rd l = none := by
  match hr : rd l with
  | none => rfl
  | some (v, k) =>
    exfalso
    obtain ⟨hv, hk, htk, hkl⟩ := rd_sound l v k hr
    obtain ⟨_, hs2⟩ := put_shape 9 v (Nat.lt_of_lt_of_le hv pow64)
    have hs2' : ((put v).getD ((put v).length - 1) 0).toNat < 128 := hs2
    have hpos := put_pos v
    have hle := put_len v
    have := hall (k - 1) (by omega)
    have hget : (put v).getD (k - 1) 0 = l.getD (k - 1) 0 := by
      rw [← htk]
      simp [List.getD, show k - 1 < k by omega]
    rw [← hget, hkl] at this
    omega

/-- signed numbers -/
def zig (v : Int) : Nat := if 0 ≤ v then (2 * v).toNat else (2 * (-(v + 1)) + 1).toNat
def zag (u : Nat) : Int := if u % 2 = 0 then ((u / 2 : Nat) : Int) else -((u / 2 : Nat) : Int) - 1
theorem zag_zig (v : Int) : zag (zig v) = v := by
  unfold zag zig
  split <;> split <;> omega
theorem zig_lt (v : Int) (h1 : -9223372036854775808 ≤ v) (h2 : v ≤ 9223372036854775807) : zig v < 2 ^ 64 := by
  have e : (2 : Nat) ^ 64 = 18446744073709551616 := by decide
  unfold zig; rw [e]; split <;> omega

/-- strings -/
def putT (s : List UInt8) : List UInt8 := put s.length ++ s
def rdT (l : List UInt8) : Option (List UInt8 × Nat) :=
  match rd l with
  | none => none
  | some (n, k) => if n ≤ l.length - k then some ((l.drop k).take n, k + n) else none
theorem rdT_put (s r : List UInt8) (h : s.length < 2 ^ 64) : rdT (putT s ++ r) = some (s, (putT s).length) := by
  unfold rdT putT
  rw [List.append_assoc, rd_put _ _ h]
  simp

end Go.Proofs.YtkllfnaofapfnaaDoor.Cod
