/-
  The contracts of the reference's reading (henkanref01: Character, length, Next, Runes, Valid, Count). Conditions: the string's length is within the form's reach.
-/
import Derived.Test.YtebjfigjfhghcaaDoorUtfTabs0
import Derived.BigQuiet
import Derived.Deep.QuietTactic
import Derived.WalkSpells
namespace Go.Proofs.YtebjfigjfhghcaaDoor.Utf
open Go.RowKit Wd

theorem character_any (z : Int) (w : World) : Calls Tryd.prog 66 #[.int .i32 z] w fun e w' => e = .returned (.bool (Lib.validRune z)) ∧ w = w' := by
  have e1 : ∀ b : Bool, Lib.validRune z = b → Ending.returned (.bool b) = .returned (.bool (Lib.validRune z)) := fun b h => by rw [h]
  have E1 := Lib.hid e1
  clear e1
  by_cases h1 : 0 ≤ z
  · by_cases h2 : z ≤ 1114111
    · by_cases h3 : z < 55296
      · go_enter Tryd.func66, Tryd.ntmps66
        go_wp2_with fail
        go_ret
        exact ⟨E1.out true (by unfold Lib.validRune; rw [decide_eq_true_eq]; omega), rfl⟩
      · by_cases h4 : 57343 < z
        · go_enter Tryd.func66, Tryd.ntmps66
          go_wp2_with fail
          go_ret
          exact ⟨E1.out true (by unfold Lib.validRune; rw [decide_eq_true_eq]; omega), rfl⟩
        · go_enter Tryd.func66, Tryd.ntmps66
          go_wp2_with fail
          go_ret
          exact ⟨E1.out false (by unfold Lib.validRune; rw [decide_eq_false_iff_not]; omega), rfl⟩
    · go_enter Tryd.func66, Tryd.ntmps66
      go_wp2_with fail
      go_ret
      exact ⟨E1.out false (by unfold Lib.validRune; rw [decide_eq_false_iff_not]; omega), rfl⟩
  · go_enter Tryd.func66, Tryd.ntmps66
    go_wp2_with fail
    go_ret
    exact ⟨E1.out false (by unfold Lib.validRune; rw [decide_eq_false_iff_not]; omega), rfl⟩

/-- how many bytes a code has that begins with a byte, and the bits of the character in this byte -/
def lenOf (b : Nat) : Nat := if b < 128 then 1 else if b < 192 then 0 else if b < 224 then 2 else if b < 240 then 3 else if b < 248 then 4 else 0
def baseOf (b : Nat) : Nat := if b < 128 then b else if b < 192 then 0 else if b < 224 then b - 192 else if b < 240 then b - 224 else if b < 248 then b - 240 else 0

set_option maxRecDepth 100000 in
theorem length_any (b : Nat) (w : World) (hb : b < 256) : Calls Tryd.prog 65 #[.int .u8 (b : Int)] w fun e w' => e = .returned (.tuple #[.int .i64 (lenOf b : Int), .int .i32 (baseOf b : Int)]) ∧ w = w' := by
  have E1 : Hid (∀ (n : Nat) (c : Int), lenOf b = n → (baseOf b : Int) = c → Ending.returned (.tuple #[.int .i64 (n : Int), .int .i32 c]) = .returned (.tuple #[.int .i64 (lenOf b : Int), .int .i32 (baseOf b : Int)])) := Lib.hid (fun n c h1 h2 => by rw [h1, h2])
  by_cases h1 : b < 128
  · go_enter Tryd.func65, Tryd.ntmps65
    go_wp2_with fail
    go_ret2
    exact ⟨E1.out 1 _ (by unfold lenOf; rw [if_pos h1]) (by unfold baseOf; rw [if_pos h1]), rfl⟩
  by_cases h2 : b < 192
  · go_enter Tryd.func65, Tryd.ntmps65
    go_wp2_with fail
    go_ret2
    exact ⟨E1.out 0 _ (by unfold lenOf; rw [if_neg h1, if_pos h2]) (by unfold baseOf; rw [if_neg h1, if_pos h2]; rfl), rfl⟩
  by_cases h3 : b < 224
  · go_enter Tryd.func65, Tryd.ntmps65
    go_wp2_with fail
    go_ret2
    exact ⟨E1.out 2 _ (by unfold lenOf; rw [if_neg h1, if_neg h2, if_pos h3]) (by unfold baseOf; rw [if_neg h1, if_neg h2, if_pos h3]; omega), rfl⟩
  by_cases h4 : b < 240
  · go_enter Tryd.func65, Tryd.ntmps65
    go_wp2_with fail
    go_ret2
    exact ⟨E1.out 3 _ (by unfold lenOf; rw [if_neg h1, if_neg h2, if_neg h3, if_pos h4]) (by unfold baseOf; rw [if_neg h1, if_neg h2, if_neg h3, if_pos h4]; omega), rfl⟩
  by_cases h5 : b < 248
  · go_enter Tryd.func65, Tryd.ntmps65
    go_wp2_with fail
    go_ret2
    exact ⟨E1.out 4 _ (by unfold lenOf; rw [if_neg h1, if_neg h2, if_neg h3, if_neg h4, if_pos h5]) (by unfold baseOf; rw [if_neg h1, if_neg h2, if_neg h3, if_neg h4, if_pos h5]; omega), rfl⟩
  · go_enter Tryd.func65, Tryd.ntmps65
    go_wp2_with fail
    go_ret2
    exact ⟨E1.out 0 _ (by unfold lenOf; rw [if_neg h1, if_neg h2, if_neg h3, if_neg h4, if_neg h5]) (by unfold baseOf; rw [if_neg h1, if_neg h2, if_neg h3, if_neg h4, if_neg h5]; rfl), rfl⟩

/-- the bits of the first j bytes -/
def accF (D : List UInt8) : Nat → Nat
  | 0 => 0
  | 1 => baseOf (bt D 0)
  | j + 2 => 64 * accF D (j + 1) + (bt D (j + 1) - 128)
def least (n : Nat) : Nat := if n = 2 then 128 else if n = 3 then 2048 else if n = 4 then 65536 else 0

open Classical in
theorem nx_ref (D : List UInt8) (hD : D ≠ []) : nx D = if lenOf (bt D 0) = 0 ∨ D.length < lenOf (bt D 0) ∨ ¬ (∀ i, 1 ≤ i → i < lenOf (bt D 0) → cont D i) ∨ accF D (lenOf (bt D 0)) < least (lenOf (bt D 0)) ∨ ¬ chr (accF D (lenOf (bt D 0))) then none else some (accF D (lenOf (bt D 0)), lenOf (bt D 0)) := by
  have hpos : 0 < D.length := List.length_pos_iff.2 hD
  have h0 := bt_lt D 0
  unfold nx
  rw [if_neg hD]
  by_cases a1 : bt D 0 < 128
  · have e : lenOf (bt D 0) = 1 := by unfold lenOf; rw [if_pos a1]
    have e2 : accF D 1 = bt D 0 := by show baseOf _ = _; unfold baseOf; rw [if_pos a1]
    rw [if_pos a1, e, e2, if_neg]
    intro h
    rcases h with h | h | h | h | h
    · omega
    · omega
    · exact h (fun i h1 h2 => by omega)
    · simp [least] at h
    · exact h (by unfold chr; omega)
  rw [if_neg a1]
  by_cases a2 : bt D 0 < 192
  · have e : lenOf (bt D 0) = 0 := by unfold lenOf; rw [if_neg a1, if_pos a2]
    rw [if_neg (by omega), if_neg (by omega), if_neg (by omega), if_pos (.inl e)]
  by_cases a3 : bt D 0 < 224
  · have e : lenOf (bt D 0) = 2 := by unfold lenOf; rw [if_neg a1, if_neg a2, if_pos a3]
    have e2 : cont D 1 → accF D 2 = c2 D := by
      intro hc; unfold cont at hc
      show 64 * baseOf _ + (bt D 1 - 128) = _; unfold baseOf c2; rw [if_neg a1, if_neg a2, if_pos a3]; omega
    rw [if_pos (by omega), e]
    by_cases hc : cont D 1
    · rw [e2 hc]
      have hl := cont_lt hc
      have hch : chr (c2 D) := by unfold cont at hc; unfold chr c2; omega
      by_cases hm : 128 ≤ c2 D
      · rw [if_pos ⟨hc, hm⟩, if_neg]
        intro h
        rcases h with h | h | h | h | h
        · omega
        · omega
        · exact h (fun i h1 h2 => by obtain rfl : i = 1 := by omega
                                     exact hc)
        · simp [least] at h; omega
        · exact h hch
      · rw [if_neg (fun h => hm h.2), if_pos (.inr (.inr (.inr (.inl (by simp [least]; omega)))))]
    · rw [if_neg (fun h => hc h.1), if_pos (.inr (.inr (.inl (fun h => hc (h 1 (by omega) (by omega))))))]
  by_cases a4 : bt D 0 < 240
  · have e : lenOf (bt D 0) = 3 := by unfold lenOf; rw [if_neg a1, if_neg a2, if_neg a3, if_pos a4]
    have e2 : cont D 1 → cont D 2 → accF D 3 = c3 D := by
      intro hc hd; unfold cont at hc hd
      show 64 * (64 * baseOf _ + (bt D 1 - 128)) + (bt D 2 - 128) = _; unfold baseOf c3; rw [if_neg a1, if_neg a2, if_neg a3, if_pos a4]; omega
    rw [if_neg (by omega), if_pos (by omega), e]
    by_cases hc : cont D 1 ∧ cont D 2
    · rw [e2 hc.1 hc.2]
      have hl := cont_lt hc.2
      by_cases hm : 2048 ≤ c3 D ∧ chr (c3 D)
      · rw [if_pos ⟨hc.1, hc.2, hm⟩, if_neg]
        intro h
        rcases h with h | h | h | h | h
        · omega
        · omega
        · exact h (fun i h1 h2 => by rcases (show i = 1 ∨ i = 2 by omega) with rfl | rfl
                                     · exact hc.1
                                     · exact hc.2)
        · simp [least] at h; omega
        · exact h hm.2
      · rw [if_neg (fun h => hm h.2.2)]
        by_cases hm1 : 2048 ≤ c3 D
        · rw [if_pos (.inr (.inr (.inr (.inr (fun h => hm ⟨hm1, h⟩)))))]
        · rw [if_pos (.inr (.inr (.inr (.inl (by simp [least]; omega)))))]
    · rw [if_neg (fun h => hc ⟨h.1, h.2.1⟩), if_pos (.inr (.inr (.inl (fun h => hc ⟨h 1 (by omega) (by omega), h 2 (by omega) (by omega)⟩))))]
  by_cases a5 : bt D 0 < 248
  · have e : lenOf (bt D 0) = 4 := by unfold lenOf; rw [if_neg a1, if_neg a2, if_neg a3, if_neg a4, if_pos a5]
    have e2 : cont D 1 → cont D 2 → cont D 3 → accF D 4 = c4 D := by
      intro hc hd he; unfold cont at hc hd he
      show 64 * (64 * (64 * baseOf _ + (bt D 1 - 128)) + (bt D 2 - 128)) + (bt D 3 - 128) = _; unfold baseOf c4; rw [if_neg a1, if_neg a2, if_neg a3, if_neg a4, if_pos a5]; omega
    rw [if_neg (by omega), if_neg (by omega), if_pos (by omega), e]
    by_cases hc : cont D 1 ∧ cont D 2 ∧ cont D 3
    · rw [e2 hc.1 hc.2.1 hc.2.2]
      have hl := cont_lt hc.2.2
      by_cases hm : 65536 ≤ c4 D ∧ chr (c4 D)
      · rw [if_pos ⟨hc.1, hc.2.1, hc.2.2, hm⟩, if_neg]
        intro h
        rcases h with h | h | h | h | h
        · omega
        · omega
        · exact h (fun i h1 h2 => by rcases (show i = 1 ∨ i = 2 ∨ i = 3 by omega) with rfl | rfl | rfl
                                     · exact hc.1
                                     · exact hc.2.1
                                     · exact hc.2.2)
        · simp [least] at h; omega
        · exact h hm.2
      · rw [if_neg (fun h => hm h.2.2.2)]
        by_cases hm1 : 65536 ≤ c4 D
        · rw [if_pos (.inr (.inr (.inr (.inr (fun h => hm ⟨hm1, h⟩)))))]
        · rw [if_pos (.inr (.inr (.inr (.inl (by simp [least]; omega)))))]
    · rw [if_neg (fun h => hc ⟨h.1, h.2.1, h.2.2.1⟩), if_pos (.inr (.inr (.inl (fun h => hc ⟨h 1 (by omega) (by omega), h 2 (by omega) (by omega), h 3 (by omega) (by omega)⟩))))]
  · have e : lenOf (bt D 0) = 0 := by unfold lenOf; rw [if_neg a1, if_neg a2, if_neg a3, if_neg a4, if_neg a5]
    rw [if_neg (by omega), if_neg (by omega), if_neg (by omega), if_pos (.inl e)]

theorem len_cases (b : Nat) : lenOf b = 0 ∨ (lenOf b = 1 ∧ baseOf b < 128) ∨ (lenOf b = 2 ∧ baseOf b < 32) ∨ (lenOf b = 3 ∧ baseOf b < 16) ∨ (lenOf b = 4 ∧ baseOf b < 8) := by
  unfold lenOf baseOf
  by_cases a1 : b < 128
  · simp [a1]
  by_cases a2 : b < 192
  · simp [a1, a2]
  by_cases a3 : b < 224
  · simp [a1, a2, a3]; omega
  by_cases a4 : b < 240
  · simp [a1, a2, a3, a4]; omega
  by_cases a5 : b < 248
  · simp [a1, a2, a3, a4, a5]; omega
  · simp [a1, a2, a3, a4, a5]
/-- the bits stay small -/
theorem acc_small (D : List UInt8) (j : Nat) (h1 : 1 ≤ j) (hj : j < lenOf (bt D 0)) : accF D j ≤ 40000 := by
  have b1 := bt_lt D 1
  have b2 := bt_lt D 2
  rcases len_cases (bt D 0) with h | ⟨h, hb⟩ | ⟨h, hb⟩ | ⟨h, hb⟩ | ⟨h, hb⟩
  · omega
  · omega
  · obtain rfl : j = 1 := by omega
    show baseOf _ ≤ _; omega
  · rcases (show j = 1 ∨ j = 2 by omega) with rfl | rfl
    · show baseOf _ ≤ _; omega
    · show 64 * baseOf _ + (bt D 1 - 128) ≤ _; omega
  · rcases (show j = 1 ∨ j = 2 ∨ j = 3 by omega) with rfl | rfl | rfl
    · show baseOf _ ≤ _; omega
    · show 64 * baseOf _ + (bt D 1 - 128) ≤ _; omega
    · show 64 * (64 * baseOf _ + (bt D 1 - 128)) + (bt D 2 - 128) ≤ _; omega
theorem acc_le (D : List UInt8) (j : Nat) (h1 : 1 ≤ j) (hj : j ≤ lenOf (bt D 0)) : accF D j ≤ 2600000 := by
  have b3 := bt_lt D (j - 1)
  match j, h1 with
  | 1, _ =>
    rcases len_cases (bt D 0) with h | ⟨h, hb⟩ | ⟨h, hb⟩ | ⟨h, hb⟩ | ⟨h, hb⟩ <;> (show baseOf _ ≤ _; omega)
  | j + 2, _ =>
    have := acc_small D (j + 1) (by omega) (by omega)
    have e : j + 2 - 1 = j + 1 := by omega
    rw [e] at b3
    show 64 * accF D (j + 1) + (bt D (j + 1) - 128) ≤ _
    omega
end Go.Proofs.YtebjfigjfhghcaaDoor.Utf
