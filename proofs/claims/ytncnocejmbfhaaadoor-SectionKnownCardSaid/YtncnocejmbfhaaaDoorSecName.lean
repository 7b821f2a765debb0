/-
  The contracts of what tells whether a string can be the name of a part: isName of package section, with strings.ContainsFunc, and the reference's named. Conditions: the string's length is within the form's reach.
-/
import Derived.Test.YtncnocejmbfhaaaDoorSecWords
import Derived.Laws.RangeString
import Derived.Laws.RangeAny
namespace Go.Proofs.YtncnocejmbfhaaaDoor.Sec
open Go.RowKit Wd

/-- a letter -/
def letB (c : UInt8) : Bool := decide (97 ≤ c.toNat ∧ c.toNat ≤ 122)
/-- all letters -/
def letsB (s : ByteArray) : Bool := s.data.toList.all letB
theorem nameB_eq (s : ByteArray) : nameB s = (decide (1 ≤ s.size ∧ s.size ≤ 16) && letsB s) := rfl

theorem is_let (z : Int) (w : World) : Calls Tryd.prog 48 #[.int .i32 z] w fun e w' => e = .returned (.bool (!decide (97 ≤ z ∧ z ≤ 122))) ∧ w = w' := by
  by_cases h1 : z < 97
  · rw [show (decide (97 ≤ z ∧ z ≤ 122)) = false from decide_eq_false (by omega)]
    go_enter Tryd.func48, Tryd.ntmps48
    go_wp2_with fail
    go_ret
    exact ⟨rfl, rfl⟩
  · by_cases h2 : 122 < z
    · rw [show (decide (97 ≤ z ∧ z ≤ 122)) = false from decide_eq_false (by omega)]
      go_enter Tryd.func48, Tryd.ntmps48
      go_wp2_with fail
      go_ret
      exact ⟨rfl, rfl⟩
    · rw [show (decide (97 ≤ z ∧ z ≤ 122)) = true from decide_eq_true (by omega)]
      go_enter Tryd.func48, Tryd.ntmps48
      go_wp2_with fail
      go_ret
      exact ⟨rfl, rfl⟩

/-- the first k bytes are letters -/
def Lets (s : ByteArray) (k : Nat) : Prop := ∀ j (h : j < s.size), j < k → letB s[j] = true
theorem Lets.all {s : ByteArray} (h : Lets s s.size) : letsB s = true := by
  unfold letsB
  rw [List.all_eq_true]
  intro c hc
  obtain ⟨j, hj, rfl⟩ := List.getElem_of_mem hc
  exact h j (by simpa using hj) (by simpa using hj)
theorem lets_not {s : ByteArray} {k : Nat} (hk : k < s.size) (h : letB s[k] = false) : letsB s = false := by
  unfold letsB
  rw [List.all_eq_false]
  refine ⟨s[k], ?_, by simp [h]⟩
  exact List.getElem_mem (l := s.data.toList) (n := k) (by simpa using hk)
def IRel (s : ByteArray) (w : World) (wr : World) : Prop := ∃ k : Nat, k ≤ s.size ∧ wr = w.iter s k ∧ Lets s k
/-- how the search ends -/
def IdxPost (s : ByteArray) (w : World) (e : Ending) (w' : World) : Prop := Below w.heap.size w w' ∧ ∃ z : Int, e = .returned (.int .i64 z) ∧ (decide (0 ≤ z)) = !letsB s

set_option maxRecDepth 100000 in
set_option maxHeartbeats 1000000 in
theorem indexFunc_let (s : ByteArray) (w : World) (_hs : s.size ≤ 140737488355328) :
    Calls Tryd.prog 60 #[.string s, .func (.func 48) #[] #[], .bool true] w (IdxPost s w) := by
  go_enter Tryd.func60, Tryd.ntmps60
  go_wp2_with fail
  go_loopw [6] (fun _ wr => IRel s w wr) (fun _ wr => s.size - wr.iterPos w.heap.size)
  case atStart => exact ⟨0, Nat.zero_le _, rfl, fun j h hj => absurd hj (by omega)⟩
  case round =>
    obtain ⟨k, hk, rfl, hl⟩ := hrel
    have HL := Lib.hid hl
    clear hl
    by_cases hlt : k < s.size
    · have hnx : ∀ ty, (Instr.next (.pointer (some ⟨w.heap.size, 0, none⟩)) true ty).run Tryd.prog (w.iter s k) = _ := fun ty => run_next_any w s k ty hlt
      by_cases ha : (s[k]'hlt).toNat < 128
      · have hd := decode_ascii s k hlt ha
        rw [hd] at hnx
        simp only at hnx
        clear hd
        rcases hb : letB s[k] with _ | _
        · have HN := Lib.hid (lets_not hlt hb)
          have hz : decide (97 ≤ ((s[k].toNat : Nat) : Int) ∧ ((s[k].toNat : Nat) : Int) ≤ 122) = false := by
            unfold letB at hb; rw [decide_eq_false_iff_not] at hb ⊢; omega
          have HZ := Lib.hid hz
          clear hb hz
          generalize s[k].toNat = x at hnx HZ ha
          go_wp2_with fail
          refine (is_let (x : Int) _).mono ?_
          rintro e w' ⟨rfl, rfl⟩
          rw [HZ.out]
          go_wp2_with fail
          go_ret
          exact ⟨(Below.refl _ _).alloc (Nat.le_refl _) _, k, rfl, by rw [HN.out]; exact decide_eq_true (by omega)⟩
        · have HN := Lib.hid (show Lets s (k + 1) from fun j h hj => by
            rcases Nat.lt_or_ge j k with h' | h'
            · exact HL.out j h h'
            · obtain rfl : j = k := by omega
              exact hb)
          have hz : decide (97 ≤ ((s[k].toNat : Nat) : Int) ∧ ((s[k].toNat : Nat) : Int) ≤ 122) = true := by
            unfold letB at hb; rw [decide_eq_true_eq] at hb ⊢; omega
          have HZ := Lib.hid hz
          clear hb hz
          generalize s[k].toNat = x at hnx HZ ha
          go_wp2_with fail
          refine (is_let (x : Int) _).mono ?_
          rintro e w' ⟨rfl, rfl⟩
          rw [HZ.out]
          go_wp2_with fail
          go_roundw
          case rel => exact ⟨k + 1, by omega, rfl, HN.out⟩
          case measure => simp; omega
      · have hd := decode_high s k hlt (by omega)
        have hm := decode_le s k
        have hb : letB s[k] = false := by unfold letB; exact decide_eq_false (by omega)
        have HN := Lib.hid (lets_not hlt hb)
        clear hb ha
        generalize Utf8.decode s k = D at hnx hd hm
        obtain ⟨r, q⟩ := D
        simp only at hnx hd hm
        have HZ := Lib.hid (show decide (97 ≤ (r : Int) ∧ (r : Int) ≤ 122) = false from decide_eq_false (by omega))
        go_wp2_with fail
        refine (is_let (r : Int) _).mono ?_
        rintro e w' ⟨rfl, rfl⟩
        rw [HZ.out]
        go_wp2_with fail
        go_ret
        exact ⟨(Below.refl _ _).alloc (Nat.le_refl _) _, k, rfl, by rw [HN.out]; exact decide_eq_true (by omega)⟩
    · obtain rfl : k = s.size := by omega
      have hnx : ∀ ty, (Instr.next (.pointer (some ⟨w.heap.size, 0, none⟩)) true ty).run Tryd.prog (w.iter s s.size) = _ := fun ty => run_next_end w s s.size ty hlt
      have HN := Lib.hid HL.out.all
      go_wp2_with fail
      go_ret
      exact ⟨(Below.refl _ _).alloc (Nat.le_refl _) _, -1, rfl, by rw [HN.out]; rfl⟩

theorem contains_let (s : ByteArray) (w : World) (hs : s.size ≤ 140737488355328) :
    Calls Tryd.prog 47 #[.string s, .func (.func 48) #[] #[]] w fun e w' => e = .returned (.bool (!letsB s)) ∧ Below w.heap.size w w' := by
  have HI : Calls Tryd.prog 57 #[.string s, .func (.func 48) #[] #[]] w (IdxPost s w) := by
    go_enter Tryd.func57, Tryd.ntmps57
    go_wp2_with fail
    refine (indexFunc_let s w hs).mono ?_
    rintro e w1 ⟨hb, z, rfl, hz⟩
    have HZ := Lib.hid hz
    clear hz
    go_wp2_with fail
    go_ret
    exact ⟨hb, z, rfl, HZ.out⟩
  have H := Lib.hid HI
  clear HI
  go_enter Tryd.func47, Tryd.ntmps47
  go_wp2_with fail
  refine H.out.mono ?_
  rintro e w1 ⟨hb, z, rfl, hz⟩
  have HZ := Lib.hid hz
  clear hz
  go_wp2_with fail
  go_ret
  exact ⟨by rw [← HZ.out]; rfl, hb⟩

theorem isName_any (s : ByteArray) (w : World) (hs : s.size ≤ 140737488355328) :
    Calls Tryd.prog 36 #[.string s] w fun e w' => e = .returned (.bool (nameB s)) ∧ Below w.heap.size w w' := by
  rw [nameB_eq]
  have HC := Lib.hid (contains_let s w hs)
  generalize letsB s = L at HC ⊢
  by_cases h1 : 1 ≤ s.size
  · by_cases h2 : s.size ≤ 16
    · rw [show decide (1 ≤ s.size ∧ s.size ≤ 16) = true from decide_eq_true ⟨h1, h2⟩]
      go_enter Tryd.func36, Tryd.ntmps36
      go_wp2_with fail
      refine HC.out.mono ?_
      rintro e w1 ⟨rfl, hb⟩
      go_wp2_with fail
      go_ret
      exact ⟨by simp, hb⟩
    · rw [show decide (1 ≤ s.size ∧ s.size ≤ 16) = false from decide_eq_false (by omega)]
      have hd : decide (s.size ≤ 16) = false := decide_eq_false h2
      go_enter Tryd.func36, Tryd.ntmps36
      go_wp2_with fail
      go_ret
      exact ⟨by simp, Below.refl _ _⟩
  · rw [show decide (1 ≤ s.size ∧ s.size ≤ 16) = false from decide_eq_false (by omega)]
    go_enter Tryd.func36, Tryd.ntmps36
    go_wp2_with fail
    go_ret
    exact ⟨by simp, Below.refl _ _⟩
end Go.Proofs.YtncnocejmbfhaaaDoor.Sec
