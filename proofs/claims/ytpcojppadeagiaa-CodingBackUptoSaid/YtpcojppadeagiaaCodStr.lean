/-
  The contracts of what package coding does with strings: strings.Compare, and how many bytes two strings have in common at their beginnings (the program's and the reference's). Conditions: the strings' lengths fit an int.
-/
import Derived.Test.YtpcojppadeagiaaCodRef
import Derived.Lib.Bytealg
import Derived.Laws.Externs
namespace Go.Proofs.Ytpcojppadeagiaa.Cod
open Go.RowKit Wd

theorem run_cmp (a b : ByteArray) (w : World) : (callFunc 49 #[.string a, .string b]).run Try.prog w = .ok (.value (.int .i64 (Lib.compareBytes a.data.toList b.data.toList))) w := by
  rw [run_callFunc_extern (e := Extern.BytealgCompare.compare) Try.func49 (by kernel_rfl) (by kernel_rfl) (by kernel_rfl) (by kernel_rfl), Lib.run_compareString]
  rfl

theorem cmpString_any (a b : ByteArray) (w : World) :
    Calls Try.prog 46 #[.string a, .string b] w fun e w' => e = .returned (.int .i64 (Lib.compareBytes a.data.toList b.data.toList)) ∧ w = w' := by
  have h := fun w => run_cmp a b w
  go_enter Try.func46, Try.ntmps46
  go_wp2_with fail
  go_ret
  exact ⟨rfl, rfl⟩
theorem compare_any (a b : ByteArray) (w : World) :
    Calls Try.prog 38 #[.string a, .string b] w fun e w' => e = .returned (.int .i64 (Lib.compareBytes a.data.toList b.data.toList)) ∧ w = w' := by
  go_enter Try.func38, Try.ntmps38
  go_wp2_with fail
  refine (cmpString_any a b w).mono ?_
  rintro e w' ⟨rfl, rfl⟩
  go_wp2_with fail
  go_ret
  exact ⟨rfl, rfl⟩
/-- how many bytes two lists have in common at their beginnings -/
def commonL : List UInt8 → List UInt8 → Nat
  | a :: la, b :: lb => if a = b then commonL la lb + 1 else 0
  | _, _ => 0
theorem commonL_stop (a b : List UInt8) (k : Nat) (h1 : a.take k = b.take k) (ha : k ≤ a.length) (hb : k ≤ b.length) (hd : k = a.length ∨ k = b.length ∨ a.getD k 0 ≠ b.getD k 0) : commonL a b = k := by
  induction a generalizing b k with
  | nil =>
    have : k = 0 := by simpa using ha
    subst this
    cases b <;> rfl
  | cons x a ih =>
    match b, k with
    | [], k =>
      have : k = 0 := by simpa using hb
      subst this; rfl
    | y :: b, 0 =>
      simp only [commonL]
      rcases hd with hd | hd | hd
      · simp at hd
      · simp at hd
      · rw [if_neg (by simpa using hd)]
    | y :: b, k + 1 =>
      simp only [List.take_succ_cons, List.cons.injEq] at h1
      simp only [commonL]
      rw [if_pos h1.1, ih b k h1.2 (by simpa using ha) (by simpa using hb) (by simpa using hd)]
theorem take_both (a b : List UInt8) (k : Nat) (h1 : a.take k = b.take k) (ha : k < a.length) (hb : k < b.length) (he : a.getD k 0 = b.getD k 0) : a.take (k + 1) = b.take (k + 1) := by
  rw [List.take_succ_eq_append_getElem ha, List.take_succ_eq_append_getElem hb, h1]
  simp [List.getD, ha, hb] at he
  rw [he]
theorem ba_get (s : ByteArray) (k : Nat) (h : k < s.size) : s[k] = s.data.toList.getD k 0 := by
  have hk : k < s.data.size := h
  have e : s[k] = s.data[k]'hk := rfl
  have hk2 : k < s.data.toList.length := by rw [ba_len]; exact h
  rw [e]
  show s.data[k] = s.data.toList[k]?.getD 0
  rw [List.getElem?_eq_getElem hk2]
  rfl

set_option maxHeartbeats 1000000 in
theorem common_any (a b : ByteArray) (w : World) (ha : a.size ≤ 140737488355328) (hb : b.size ≤ 140737488355328) :
    Calls Try.prog 39 #[.string a, .string b] w fun e w' => e = .returned (.int .i64 (commonL a.data.toList b.data.toList : Int)) ∧ Below w.heap.size w w' := by
  go_enter Try.func39, Try.ntmps39
  go_wp2_with fail
  go_loopw [5] (fun i wr => ∃ k : Nat, k ≤ a.size ∧ k ≤ b.size ∧ i = .int .i64 k ∧ a.data.toList.take k = b.data.toList.take k ∧ Below w.heap.size w wr) (fun i _ => a.size - (intOf i).toNat)
  case atStart => exact ⟨0, Nat.zero_le _, Nat.zero_le _, rfl, by simp, Below.refl _ _⟩
  case round =>
    obtain ⟨k, hka, hkb, rfl, heq, hbel⟩ := hrel
    have HE := Lib.hid heq
    clear heq
    have la := ba_len a
    have lb := ba_len b
    have LA := Lib.hid la
    have LB := Lib.hid lb
    clear la lb
    by_cases hlt : k < a.size ∧ k < b.size
    · obtain ⟨h1, h2⟩ := hlt
      have g1 : (k : Int) < (a.size : Int) := by omega
      have g2 : (k : Int) < (b.size : Int) := by omega
      have g0 : (0 : Int) ≤ (k : Int) := by omega
      have gm : (k : Int) < min (a.size : Int) (b.size : Int) := by omega
      by_cases hs : b.size < a.size
      all_goals
        by_cases hxy : a[k] = b[k]
        · have ht : (((a[k]'h1).toNat : Int) == ((b[k]'h2).toNat : Int)) = true := by rw [hxy]; simp
          have hn := Lib.hid (take_both _ _ k HE.out (by have := LA.out; omega) (by have := LB.out; omega) (by rw [← ba_get a k h1, ← ba_get b k h2, hxy]))
          clear hxy
          go_wp2_with fail
          go_quiet (fail)
          go_wp2_with fail
          go_roundw
          case rel => exact ⟨k + 1, by omega, by omega, by go_num, hn.out, below_drewN hbel _⟩
          case measure => simp [intOf]; omega
        · have ht : (((a[k]'h1).toNat : Int) == ((b[k]'h2).toNat : Int)) = false := by
            rw [beq_eq_false_iff_ne]; intro h; exact hxy (UInt8.toNat_inj.1 (by omega))
          have hn := Lib.hid (commonL_stop _ _ k HE.out (by have := LA.out; omega) (by have := LB.out; omega) (.inr (.inr (by rw [← ba_get a k h1, ← ba_get b k h2]; exact hxy))))
          clear hxy
          go_wp2_with fail
          go_quiet (fail)
          go_wp2_with fail
          go_ret
          exact ⟨by rw [hn.out]; rfl, below_drewN hbel _⟩
    · have hn := Lib.hid (commonL_stop _ _ k HE.out (by have := LA.out; omega) (by have := LB.out; omega) (by have := LA.out; have := LB.out; omega))
      by_cases hs : b.size < a.size
      · have hd : decide (k < b.size) = false := by simp; omega
        have hge : b.size ≤ k := by omega
        go_wp2_with fail
        go_quiet (fail)
        go_wp2_with fail
        go_ret
        exact ⟨by rw [hn.out]; rfl, below_drewN hbel _⟩
      · have hd : decide (k < a.size) = false := by simp; omega
        have hge : a.size ≤ k := by omega
        go_wp2_with fail
        go_quiet (fail)
        go_wp2_with fail
        go_ret
        exact ⟨by rw [hn.out]; rfl, below_drewN hbel _⟩
end Go.Proofs.Ytpcojppadeagiaa.Cod
