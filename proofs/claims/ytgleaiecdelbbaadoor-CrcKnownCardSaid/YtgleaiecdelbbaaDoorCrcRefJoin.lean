/-
  The contracts of the reference's joining (henkanref13): one, apply, twice and Join; the lists of 32 words that they make are the matrices of the plain law. Conditions: none.
-/
import Derived.Test.YtgleaiecdelbbaaDoorCrcRef
namespace Go.Proofs.YtgleaiecdelbbaaDoor.Crc
open Go.RowKit Wd

theorem Tryd.infoU32 : (Tryd.prog.info? 23).map (fun i => (i.zero, i.size, i.bytes)) = some (some (.int .u32 0), 1, 4) := by kernel_rfl

/-- the first k columns of an effect's matrix, as cells -/
def cols (m k : Nat) : List Value := (List.range k).map fun i => Value.int .u32 ((col m i).toNat : Int)
theorem cols_length (m k : Nat) : (cols m k).length = k := by simp [cols]
theorem cols_succ (m k : Nat) : cols m (k + 1) = cols m k ++ [Value.int .u32 ((col m k).toNat : Int)] := by simp [cols, List.range_succ]
theorem cols_at (m k i : Nat) (h : i < k) : (cols m k)[i]? = some (Value.int .u32 ((col m i).toNat : Int)) := by simp [cols, h]

theorem shr_bit (r : BitVec 32) (k : Nat) : (((r.toNat : Int) / 2 ^ k).tmod 2 == 1) = r.getLsbD k := by
  have e : (r.toNat : Int) / 2 ^ k = ((r.toNat / 2 ^ k : Nat) : Int) := by rw [Int.natCast_ediv, Int.natCast_pow]; rfl
  rw [e, Int.tmod_eq_emod_of_nonneg (Int.natCast_nonneg _), show r.getLsbD k = r.toNat.testBit k from rfl, Nat.testBit_eq_decide_div_mod_eq, Bool.eq_iff_iff]
  simp only [beq_iff_eq, decide_eq_true_eq]; omega
theorem two_pow (k : Nat) : (2 : Int) ^ k % 4294967296 = ((BitVec.twoPow 32 k).toNat : Int) := by
  rw [BitVec.toNat_twoPow, Int.natCast_emod, Int.natCast_pow, Int.natCast_pow]; rfl

set_option maxHeartbeats 400000 in
theorem apply_ref (A : Option Addr) (c m : Nat) (r : BitVec 32) (w : World) (hr : Reads w w.heap.size 1 A 32 (cols m 32)) :
    Calls Tryd.prog 22 #[.slice A 32 c, .int .u32 (r.toNat : Int)] w fun e w' => e = .returned (.int .u32 ((stepN m r).toNat : Int)) ∧ w = w' := by
  have HR := Lib.hid hr
  clear hr
  go_enter Tryd.func22, Tryd.ntmps22
  go_wp2
  go_loop [5, 6] (fun o i => ∃ k : Nat, k ≤ 32 ∧ i = .int .i64 k ∧ o = .int .u32 ((apSum (col m) r k).toNat : Int)) (fun _ i => 32 - (intOf i).toNat)
  case atStart => exact ⟨0, by omega, rfl, rfl⟩
  case round =>
    obtain ⟨k, hk, rfl, rfl⟩ := hrel
    by_cases hlt : k < 32
    · obtain ⟨ad, u, rfl, _, hx, hcell⟩ := HR.out.at_ hlt
      rw [cols_at m 32 k hlt] at hx
      injection hx with hx
      subst hx
      have hb := shr_bit r k
      have hnext : apSum (col m) r (k + 1) = if r.getLsbD k = true then apSum (col m) r k ^^^ col m k else apSum (col m) r k := rfl
      have hx := b_xor (apSum (col m) r k) (col m k)
      generalize apSum (col m) r k = S at hnext hx
      have HN := Lib.hid hnext
      have HB := Lib.hid hb
      clear hnext hb
      go_wp2
      · go_round
        case rel => exact ⟨k + 1, by omega, by go_num, by rw [HN.out, if_pos (by rw [← HB.out]; assumption), BitVec.toNat_xor]⟩
        case measure => simp [intOf]; omega
      · go_round
        case rel => exact ⟨k + 1, by omega, by go_num, by rw [HN.out, if_neg (by rw [← HB.out, Bool.not_eq_true]; assumption)]⟩
        case measure => simp [intOf]; omega
    · obtain rfl : k = 32 := by omega
      rw [apply_col]
      go_wp2
      go_ret
      exact ⟨rfl, rfl⟩

set_option maxHeartbeats 400000 in
theorem one_ref (w : World) :
    Calls Tryd.prog 21 #[] w fun e w' => ∃ A c, e = .returned (.slice A 32 c) ∧ Reads w' w'.heap.size 1 A 32 (cols 8 32) ∧ Below w.heap.size w w' := by
  obtain ⟨i0, hi, hz0, hz1, hz2⟩ := info_parts Tryd.infoU32
  have HI := Lib.hid hi
  go_enter Tryd.func21, Tryd.ntmps21
  go_wp2
  go_loopw [1, 2] (fun v i wr => ∃ k : Nat, k ≤ 32 ∧ i = .int .i64 k ∧ wr.ownsRow w.heap.size 23 1 v k (cols 8 k) ∧ Below w.heap.size w wr) (fun _ i _ => 32 - (intOf i).toNat)
  case atStart => exact ⟨0, by omega, rfl, World.ownsRow_nil _ _ _ _, Below.refl _ _⟩
  case round =>
    obtain ⟨k, hk, rfl, hown, hbel⟩ := hrel
    by_cases hlt : k < 32
    · go_wp2_with fail
      rw [two_pow]
      refine (step_ref _ _).mono ?_
      rintro e w' ⟨rfl, rfl⟩
      rw [show stepN 8 (BitVec.twoPow 32 k) = col 8 k from rfl]
      generalize hcol : col 8 k = cl
      have HC := Lib.hid hcol
      clear hcol
      go_wp2_with (at_builtin; refine wpList_append_any _ rfl (.tmp 7) (.tmp 12) _ rfl w.heap.size 23 i0 _ 1 4 Tryd.underlying45 HI.out hz0 hz1 hz2 rfl (by decide) _ _ _ rfl (hown.alloc _) _ _ _ _ _ rfl (Reads.lit _ _ _ _ _ [.int .u32 (cl.toNat : Int)] rfl rfl) (by intro u hu; simp at hu; subst hu; rfl) (by unfold maxLen; omega) (by omega) (by have := hbel.size; simp; omega) ?_; intro v' w1 hown' hg hat)
      have hb1 := own_below (hbel.alloc hbel.size _) (Nat.le_refl _) (hown.alloc _) (Nat.le_refl _) hg
      have ho1 : w1.ownsRow w.heap.size 23 1 v' (k + 1) (cols 8 (k + 1)) := by rw [cols_succ, HC.out]; exact hown'
      clear hown' hg hat hown hbel
      go_wp2_with fail
      go_roundw
      case rel => exact ⟨k + 1, by omega, by go_num, ho1, hb1⟩
      case measure => simp [intOf]; omega
    · obtain rfl : k = 32 := by omega
      obtain ⟨g, cap, rfl, _, _⟩ := hown.form (by omega)
      go_wp2
      go_ret
      exact ⟨_, _, rfl, Reads.of_own hown, hbel⟩

set_option maxHeartbeats 400000 in
theorem twice_ref (A : Option Addr) (c m : Nat) (w : World) (hr : Reads w w.heap.size 1 A 32 (cols m 32)) :
    Calls Tryd.prog 23 #[.slice A 32 c] w fun e w' => ∃ A' c', e = .returned (.slice A' 32 c') ∧ Reads w' w'.heap.size 1 A' 32 (cols (2 * m) 32) ∧ Below w.heap.size w w' := by
  have HR := Lib.hid hr
  clear hr
  obtain ⟨i0, hi, hz0, hz1, hz2⟩ := info_parts Tryd.infoU32
  have HI := Lib.hid hi
  go_enter Tryd.func23, Tryd.ntmps23
  go_wp2
  go_loopw [3, 4] (fun v i wr => ∃ k : Nat, k ≤ 32 ∧ i = .int .i64 k ∧ wr.ownsRow w.heap.size 23 1 v k (cols (2 * m) k) ∧ Below w.heap.size w wr) (fun _ i _ => 32 - (intOf i).toNat)
  case atStart => exact ⟨0, by omega, rfl, World.ownsRow_nil _ _ _ _, Below.refl _ _⟩
  case round =>
    obtain ⟨k, hk, rfl, hown, hbel⟩ := hrel
    by_cases hlt : k < 32
    · have hrw : Reads wr wr.heap.size 1 A 32 (cols m 32) := (HR.out.below hbel).more hbel.size
      have HW := Lib.hid hrw
      obtain ⟨ad, u, rfl, _, hx, hcell⟩ := hrw.at_ hlt
      rw [cols_at m 32 k hlt] at hx
      injection hx with hx
      subst hx
      clear hrw
      go_wp2_with fail
      refine (apply_ref _ _ m _ _ HW.out).mono ?_
      rintro e w' ⟨rfl, rfl⟩
      have htw : stepN m (col m k) = col (2 * m) k := by rw [← apply_col, twice_col]
      rw [htw]
      clear htw
      generalize hcol : col (2 * m) k = cl
      have HC := Lib.hid hcol
      clear hcol hcell
      go_wp2_with (at_builtin; refine wpList_append_any _ rfl (.tmp 9) (.tmp 16) _ rfl w.heap.size 23 i0 _ 1 4 Tryd.underlying45 HI.out hz0 hz1 hz2 rfl (by decide) _ _ _ rfl (hown.alloc _) _ _ _ _ _ rfl (Reads.lit _ _ _ _ _ [.int .u32 (cl.toNat : Int)] rfl rfl) (by intro u hu; simp at hu; subst hu; rfl) (by unfold maxLen; omega) (by omega) (by have := hbel.size; simp; omega) ?_; intro v' w1 hown' hg hat)
      have hb1 := own_below (hbel.alloc hbel.size _) (Nat.le_refl _) (hown.alloc _) (Nat.le_refl _) hg
      have ho1 : w1.ownsRow w.heap.size 23 1 v' (k + 1) (cols (2 * m) (k + 1)) := by rw [cols_succ, HC.out]; exact hown'
      clear hown' hg hat hown hbel
      go_wp2_with fail
      go_roundw
      case rel => exact ⟨k + 1, by omega, by go_num, ho1, hb1⟩
      case measure => simp [intOf]; omega
    · obtain rfl : k = 32 := by omega
      obtain ⟨g, cap, rfl, _, _⟩ := hown.form (by omega)
      go_wp2
      go_ret
      exact ⟨_, _, rfl, Reads.of_own hown, hbel⟩

/-- what a round of the reference's 'Join' keeps -/
def RRel (w : World) (a : BitVec 32) (n : Int) (a1 n1 m1 : Value) (wr : World) : Prop :=
  ∃ (a' : BitVec 32) (m : Int) (A : Option Addr) (c j : Nat), a1 = .int .u32 (a'.toNat : Int) ∧ n1 = .int .i64 m ∧ m1 = .slice A 32 c ∧ (m ≤ n ∨ m ≤ 0) ∧ Reads wr wr.heap.size 1 A 32 (cols (8 * j) 32) ∧ Below w.heap.size w wr ∧
    stepN (8 * (j * m.toNat)) a' = stepN (8 * n.toNat) a

theorem half_odd (a a' : BitVec 32) (n m : Int) (j : Nat) (hm : 0 < m) (hodd : m % 2 = 1) (hrel : stepN (8 * (j * m.toNat)) a' = stepN (8 * n.toNat) a) :
    stepN (8 * (2 * j * (m / 2).toNat)) (stepN (8 * j) a') = stepN (8 * n.toNat) a := by
  rw [← stepN_add, ← hrel]
  congr 1
  obtain ⟨q, hq⟩ : ∃ q : Nat, m = 2 * q + 1 := ⟨(m / 2).toNat, by omega⟩
  rw [hq, show ((2 * (q : Int) + 1) / 2).toNat = q by omega, show ((2 * (q : Int) + 1)).toNat = 2 * q + 1 by omega]
  rw [Nat.mul_add, Nat.mul_one, Nat.mul_comm 2 j, Nat.mul_assoc j 2 q]; omega
theorem half_even (a a' : BitVec 32) (n m : Int) (j : Nat) (hm : 0 < m) (heven : m % 2 = 0) (hrel : stepN (8 * (j * m.toNat)) a' = stepN (8 * n.toNat) a) :
    stepN (8 * (2 * j * (m / 2).toNat)) a' = stepN (8 * n.toNat) a := by
  rw [← hrel]
  congr 1
  obtain ⟨q, hq⟩ : ∃ q : Nat, m = 2 * q := ⟨(m / 2).toNat, by omega⟩
  rw [hq, show (2 * (q : Int) / 2).toNat = q by omega, show (2 * (q : Int)).toNat = 2 * q by omega, Nat.mul_comm 2 j, Nat.mul_assoc j 2 q]

set_option maxHeartbeats 400000 in
theorem joinR_any (a b : BitVec 32) (n : Int) (w : World) (h1 : -9223372036854775808 ≤ n) (h2 : n ≤ 9223372036854775807) :
    Calls Tryd.prog 17 #[.int .u32 (a.toNat : Int), .int .u32 (b.toNat : Int), .int .i64 n] w fun e w' => e = .returned (.int .u32 ((join a b n.toNat).toNat : Int)) ∧ Below w.heap.size w w' := by
  go_enter Tryd.func17, Tryd.ntmps17
  go_wp2_with fail
  refine (one_ref _).mono ?_
  rintro e w1 ⟨A, c, rfl, hr, hb⟩
  have HR := Lib.hid hr
  clear hr
  go_wp2_with fail
  go_loopw [0, 2, 7] (fun a1 n1 m1 wr => RRel w a n a1 n1 m1 wr) (fun _ i _ _ => (intOf i).toNat)
  case atStart => exact ⟨a, n, A, c, 1, rfl, rfl, rfl, .inl (Int.le_refl _), HR.out, hb, by rw [Nat.one_mul]⟩
  case round =>
    clear HR hb
    obtain ⟨a', m, A, c, j, rfl, rfl, rfl, hmn, hr, hb, hrel⟩ := hrel
    have H := Lib.hid hrel
    have HR := Lib.hid hr
    clear hrel hr
    by_cases hm : 0 < m
    · by_cases hodd : m % 2 = 1
      · have hb1 : (m % 2 == 1) = true := by simpa using hodd
        have O := Lib.hid hodd
        clear hodd
        go_wp2_with fail
        refine (apply_ref _ _ _ _ _ HR.out).mono ?_
        rintro e w' ⟨rfl, rfl⟩
        go_wp2_with fail
        refine (twice_ref _ _ _ _ HR.out).mono ?_
        rintro e w2 ⟨A2, c2, rfl, hr2, hb2⟩
        have R2 := Lib.hid hr2
        clear hr2
        have hbb := hb.trans (hb2.mono hb.size)
        go_wp2_with fail
        go_roundw
        case rel => exact ⟨_, m / 2, A2, c2, 2 * j, rfl, rfl, rfl, by omega, by rw [show 8 * (2 * j) = 2 * (8 * j) by omega]; exact R2.out, hbb, half_odd a a' n m j hm O.out H.out⟩
        case measure => simp [intOf]; omega
      · have hb1 : (m % 2 == 1) = false := by simpa using hodd
        have O := Lib.hid hodd
        clear hodd
        go_wp2_with fail
        refine (twice_ref _ _ _ _ HR.out).mono ?_
        rintro e w2 ⟨A2, c2, rfl, hr2, hb2⟩
        have R2 := Lib.hid hr2
        clear hr2
        have hbb := hb.trans (hb2.mono hb.size)
        go_wp2_with fail
        go_roundw
        case rel => exact ⟨_, m / 2, A2, c2, 2 * j, rfl, rfl, rfl, by omega, by rw [show 8 * (2 * j) = 2 * (8 * j) by omega]; exact R2.out, hbb, half_even a a' n m j hm (by have := O.out; omega) H.out⟩
        case measure => simp [intOf]; omega
    · have hz : stepN (8 * n.toNat) a = a' := by
        have := H.out
        rw [show m.toNat = 0 by omega, Nat.mul_zero, Nat.mul_zero] at this
        exact this.symm
      have Z := Lib.hid hz
      clear hz
      go_wp2_with fail
      go_ret
      refine ⟨?_, hb⟩
      unfold join
      rw [Z.out, ← b_xor]
      rfl

end Go.Proofs.YtgleaiecdelbbaaDoor.Crc
