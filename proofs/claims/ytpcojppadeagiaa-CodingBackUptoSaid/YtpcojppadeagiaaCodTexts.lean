/-
  The contract of SameTexts: it tells whether two slices of strings are equal. Conditions: the slices can be read.
-/
import Derived.Test.YtpcojppadeagiaaCodStr
namespace Go.Proofs.Ytpcojppadeagiaa.Cod
open Go.RowKit Wd

theorem take_bothS (a b : List ByteArray) (k : Nat) (h1 : a.take k = b.take k) (ha : k < a.length) (hb : k < b.length) (he : a.getD k ByteArray.empty = b.getD k ByteArray.empty) : a.take (k + 1) = b.take (k + 1) := by
  rw [List.take_succ_eq_append_getElem ha, List.take_succ_eq_append_getElem hb, h1]
  simp [List.getD, ha, hb] at he
  rw [he]

theorem ba_ext {x y : ByteArray} (h : x.data.toList = y.data.toList) : x = y := by
  obtain ⟨⟨x⟩⟩ := x
  obtain ⟨⟨y⟩⟩ := y
  simp at h
  rw [h]
theorem str_ne {x y : ByteArray} (h : ¬ x = y) : (x.toList == y.toList) = false := by
  rw [beq_eq_false_iff_ne, ByteArray.toList_eq, ByteArray.toList_eq]
  intro e
  exact h (ba_ext e)

theorem sameTexts_len (A A2 : Option Addr) (n c n2 c2 : Nat) (w : World) (hne : n ≠ n2) :
    Calls Try.prog 28 #[.slice A n c, .slice A2 n2 c2] w fun e w' => e = .returned (.bool false) ∧ w = w' := by
  have h : ((n : Int) != (n2 : Int)) = true := by rw [bne_iff_ne]; omega
  go_enter Try.func28, Try.ntmps28
  go_wp2_with fail
  go_ret
  exact ⟨rfl, rfl⟩

set_option maxHeartbeats 1000000 in
theorem sameTexts_any (A A2 : Option Addr) (n c n2 c2 : Nat) (l l2 : List ByteArray) (w : World) (hr : RS w A n l) (hr2 : RS w A2 n2 l2) (hn : n ≤ 140737488355328) :
    Calls Try.prog 28 #[.slice A n c, .slice A2 n2 c2] w fun e w' => e = .returned (.bool (decide (l = l2))) ∧ Below w.heap.size w w' := by
  by_cases hne : n = n2
  · subst hne
    have HR := Lib.hid hr
    have HR2 := Lib.hid hr2
    clear hr hr2
    go_enter Try.func28, Try.ntmps28
    go_wp2_with fail
    go_loopw [5] (fun i wr => ∃ k : Nat, k ≤ n ∧ i = .int .i64 k ∧ l.take k = l2.take k ∧ Below w.heap.size w wr) (fun i _ => n - (intOf i).toNat)
    case atStart => exact ⟨0, Nat.zero_le _, rfl, by simp, Below.refl _ _⟩
    case round =>
      obtain ⟨k, hk, rfl, heq, hbel⟩ := hrel
      have HE := Lib.hid heq
      clear heq
      by_cases hlt : k < n
      · obtain ⟨ad, rfl, hb1, hc1⟩ := (HR.out.keep hbel).at_ hlt
        obtain ⟨ad2, rfl, hb2, hc2⟩ := (HR2.out.keep hbel).at_ hlt
        have g2 : (k : Int) < (n : Int) := by omega
        have g3 : (0 : Int) ≤ (k : Int) := by omega
        by_cases hxy : l.getD k ByteArray.empty = l2.getD k ByteArray.empty
        · have hn1 := Lib.hid (take_bothS l l2 k HE.out (by have := HR.out.len; omega) (by have := HR2.out.len; omega) hxy)
          rw [hxy] at hc1
          generalize l2.getD k ByteArray.empty = y at hc1 hc2 hxy
          clear hxy
          go_wp2_with fail
          go_quiet (fail)
          go_wp2_with fail
          go_roundw
          case rel => exact ⟨k + 1, by omega, by go_num, hn1.out, below_drewN hbel _⟩
          case measure => simp [intOf]; omega
        · have hd := Lib.hid (show ¬ l = l2 from fun h => hxy (by rw [h]))
          generalize l2.getD k ByteArray.empty = y at hc2 hxy
          generalize l.getD k ByteArray.empty = x at hc1 hxy
          have hne := str_ne hxy
          clear hxy
          go_wp2_with fail
          go_quiet (fail)
          go_wp2_with fail
          go_ret
          exact ⟨by rw [decide_eq_false hd.out]; rfl, below_drewN hbel _⟩
      · obtain rfl : k = n := by omega
        have hfin : l = l2 := by
          have h := HE.out
          rwa [List.take_of_length_le (by have := HR.out.len; omega), List.take_of_length_le (by have := HR2.out.len; omega)] at h
        have HF := Lib.hid hfin
        clear hfin
        go_wp2_with fail
        go_ret
        exact ⟨by rw [decide_eq_true HF.out]; rfl, hbel⟩
  · refine (sameTexts_len A A2 n c n2 c2 w hne).mono ?_
    rintro e w' ⟨rfl, rfl⟩
    refine ⟨?_, Below.refl _ _⟩
    rw [decide_eq_false]
    intro h
    apply hne
    rw [← hr.len, ← hr2.len, h]
end Go.Proofs.Ytpcojppadeagiaa.Cod
