/-
  The contracts of within of package compose (with slices.ContainsFunc and slices.IndexFunc at its closure) and of bytes of package henkanref08. Conditions: the strings' lengths are within the form's reach.
-/
import Derived.Test.YtebjfigjfhghcaaDoorUndWords
import Derived.Lib.ConvBytes
namespace Go.Proofs.YtebjfigjfhghcaaDoor.Und
open Go.RowKit Wd Utf

theorem byte_at (s : ByteArray) (k : Nat) (h : k < s.size) : s.data.toList.getD k 0 = s[k] := by
  have hl : k < s.data.toList.length := by rw [Array.length_toList]; exact h
  rw [List.getD, List.getElem?_eq_getElem hl, Option.getD_some]
  rfl
/-- '[]byte(s)' -/
theorem conv_bytes (w : World) (s : ByteArray) : ∃ W c, (convert 9 100 (.string s)).run Tryd.prog w = .ok (.slice (some ⟨w.heap.size, 0, none⟩) s.size c) W ∧ Below w.heap.size w W ∧ RB W (some ⟨w.heap.size, 0, none⟩) s.size s.data.toList ∧ s.size ≤ c := by
  have hsz : s.data.toList.length = s.size := by rw [Array.length_toList]; rfl
  refine ⟨Lib.bytesWorld w 5 s, grownCap w s.size 0 5, ?_, ⟨rfl, rfl, rfl, by rw [Lib.bytesWorld_size]; omega, fun k hk => Lib.bytesWorld_at_old w _ _ k hk⟩, ⟨?_, fun _ => ⟨_, rfl, by rw [Lib.bytesWorld_size]; simp, fun j u hj => ?_⟩⟩, grownCap_ge _ _ _ _⟩
  · exact Lib.run_convert_string_bytes w _ _ 5 s Tryd.underlying9 Tryd.underlying100 Tryd.underlying5
  · rw [bs_length]; omega
  · have hlt : j < s.data.toList.length := by
      rcases Nat.lt_or_ge j s.data.toList.length with h' | h'
      · exact h'
      · rw [List.getElem?_eq_none (by rw [bs_length]; exact h')] at hj; cases hj
    have ha : (⟨w.heap.size, 0, none⟩ : Addr).add j = ⟨w.heap.size, j, none⟩ := by
      unfold Addr.add; by_cases h : j = 0 <;> simp [h]
    rw [ha, Lib.bytesWorld_cell w 5 s j (by omega), ← hj, bs_at s.data.toList j hlt, byte_at s j (by omega)]
    rfl
theorem outB_cases (low : Nat) (c : UInt8) : outB low c = (decide (c.toNat < low) || decide (126 < c.toNat)) := rfl
theorem out_any (low : Nat) (c : UInt8) (p : Addr) (w : World) (hp : w.cell? p = some (.int .u8 (low : Int))) :
    Calls Tryd.prog 55 #[.int .u8 (c.toNat : Int), .pointer (some p)] w fun e w' => e = .returned (.bool (outB low c)) ∧ w = w' := by
  unfold outB
  have hc := c.toNat_lt
  generalize c.toNat = x at hc ⊢
  by_cases h1 : x < low
  · rw [decide_eq_true h1]
    go_enter Tryd.func55, Tryd.ntmps55
    go_wp2_with fail
    go_ret
    exact ⟨by simp, rfl⟩
  · rw [decide_eq_false h1]
    have h1' : low ≤ x := by omega
    by_cases h2 : 126 < x
    · rw [decide_eq_true h2]
      have h2' : (126 : Int) < (x : Int) := by omega
      go_enter Tryd.func55, Tryd.ntmps55
      go_wp2_with fail
      go_ret
      exact ⟨by simp, rfl⟩
    · rw [decide_eq_false h2]
      have h2' : (x : Int) ≤ 126 := by omega
      go_enter Tryd.func55, Tryd.ntmps55
      go_wp2_with fail
      go_ret
      exact ⟨by simp <;> omega, rfl⟩
theorem any_snoc {l : List UInt8} {k : Nat} (f : UInt8 → Bool) (h : k < l.length) (h1 : (l.take k).any f = false) (h2 : f (l.getD k 0) = false) : (l.take (k + 1)).any f = false := by
  rw [List.take_succ_eq_append_getElem h, List.any_append, h1]
  simpa [List.getD, h] using h2
theorem any_hit {l : List UInt8} {k : Nat} (f : UInt8 → Bool) (h : k < l.length) (h2 : f (l.getD k 0) = true) : l.any f = true := by
  rw [List.any_eq_true]
  exact ⟨l.getD k 0, by rw [List.getD, List.getElem?_eq_getElem h, Option.getD_some]; exact List.getElem_mem _, h2⟩
/-- how IndexFunc ends -/
def IPost (l : List UInt8) (low : Nat) (w : World) (e : Ending) (w' : World) : Prop := ∃ z : Int, e = .returned (.int .i64 z) ∧ decide (0 ≤ z) = l.any (outB low) ∧ w = w'
set_option maxRecDepth 100000 in
set_option maxHeartbeats 2000000 in
theorem index_any (A : Option Addr) (n c low : Nat) (l : List UInt8) (p : Addr) (w : World) (hs : RB w A n l) (hp : w.cell? p = some (.int .u8 (low : Int))) (hn : n ≤ 140737488355328) :
    Calls Tryd.prog 62 #[.slice A n c, .func (.func 55) #[] #[.pointer (some p)]] w (IPost l low w) := by
  have HS := Lib.hid hs
  have hll := hs.len
  have HC := Lib.hid (fun (x : UInt8) => out_any low x p w hp)
  clear hs hp
  go_enter Tryd.func62, Tryd.ntmps62
  go_wp2_with fail
  go_loop [8] (fun i => ∃ k : Nat, k ≤ n ∧ i = .int .i64 (k : Int) ∧ (l.take k).any (outB low) = false) (fun i => n - (intOf i).toNat)
  case atStart => exact ⟨0, Nat.zero_le _, rfl, rfl⟩
  case round =>
    obtain ⟨k, hk, rfl, hall⟩ := hrel
    have HA := Lib.hid hall
    clear hall
    by_cases hlt : k < n
    · obtain ⟨ad, rfl, _, hc⟩ := HS.out.at_ hlt
      have HX := Lib.hid (HC.out (l.getD k 0))
      generalize hx : l.getD k 0 = x at hc HX
      have HXX := Lib.hid hx
      clear hx
      rcases hb : outB low x with _ | _
      · have HB := Lib.hid hb
        rw [hb] at HX
        clear hb
        go_wp2_with fail
        refine HX.out.mono ?_
        rintro e wq ⟨rfl, rfl⟩
        go_wp2_with fail
        go_round
        case rel => exact ⟨k + 1, by omega, by go_num, any_snoc _ (by omega) HA.out (by rw [HXX.out]; exact HB.out)⟩
        case measure => simp [intOf]; omega
      · have HB := Lib.hid hb
        rw [hb] at HX
        clear hb
        go_wp2_with fail
        refine HX.out.mono ?_
        rintro e wq ⟨rfl, rfl⟩
        go_wp2_with fail
        go_ret
        exact ⟨(k : Int), rfl, by rw [any_hit (k := k) (outB low) (by omega) (by rw [HXX.out]; exact HB.out)]; simp, rfl⟩
    · have hkn : k = n := by omega
      subst k
      have HL : Hid (l.any (outB low) = false) := Lib.hid (by have := HA.out; rwa [List.take_of_length_le (by omega)] at this)
      go_wp2_with fail
      go_ret
      exact ⟨-1, rfl, by rw [HL.out]; rfl, rfl⟩
theorem contains_any (A : Option Addr) (n c low : Nat) (l : List UInt8) (p : Addr) (w : World) (hs : RB w A n l) (hp : w.cell? p = some (.int .u8 (low : Int))) (hn : n ≤ 140737488355328) :
    Calls Tryd.prog 54 #[.slice A n c, .func (.func 55) #[] #[.pointer (some p)]] w fun e w' => e = .returned (.bool (l.any (outB low))) ∧ w = w' := by
  have HI := Lib.hid (index_any A n c low l p w hs hp hn)
  clear hs hp
  go_enter Tryd.func54, Tryd.ntmps54
  go_wp2_with fail
  refine HI.out.mono ?_
  rintro e wq ⟨z, rfl, hz, rfl⟩
  have HZ := Lib.hid hz
  clear hz
  go_wp2_with fail
  go_ret
  exact ⟨by rw [← HZ.out]; rfl, rfl⟩
set_option maxHeartbeats 1000000 in
theorem within_any (s : ByteArray) (low : Nat) (w : World) (hs : s.size ≤ 140737488355328) :
    Calls Tryd.prog 43 #[.string s, .int .u8 (low : Int)] w fun e w' => e = .returned (.bool (inB s low)) ∧ Below w.heap.size w w' := by
  obtain ⟨W, c, hcv, hb, hr, _⟩ := conv_bytes (w.alloc (.cells #[.int .u8 (low : Int)] 5)) s
  have hp : W.cell? ⟨w.heap.size, 0, none⟩ = some (.int .u8 (low : Int)) := by
    rw [hb.cell (p := ⟨w.heap.size, 0, none⟩) (by simp)]
    exact cell_new w _ _ _ 0
  have hz : (w.alloc (.cells #[.int .u8 (low : Int)] 5)).heap.size = w.heap.size + 1 := by simp
  rw [hz] at hcv hr
  have HC := Lib.hid (contains_any _ s.size c low s.data.toList ⟨w.heap.size, 0, none⟩ W hr hp hs)
  have B := Lib.hid (((Below.refl w.heap.size w).alloc (Nat.le_refl _) (.cells #[.int .u8 (low : Int)] 5)).trans (hb.mono (by simp)))
  unfold inB
  clear hb hr hp hz
  generalize (s.data.toList.any (outB low)) = R at HC ⊢
  go_enter Tryd.func43, Tryd.ntmps43
  go_wp2_with fail
  refine HC.out.mono ?_
  rintro e wq ⟨rfl, rfl⟩
  go_wp2_with fail
  go_ret
  exact ⟨rfl, B.out⟩
set_option maxRecDepth 100000 in
set_option maxHeartbeats 2000000 in
theorem bytesR_any (s : ByteArray) (low : Nat) (w : World) (hs : s.size ≤ 140737488355328) :
    Calls Tryd.prog 38 #[.string s, .int .u8 (low : Int)] w fun e w' => e = .returned (.bool (inB s low)) ∧ w = w' := by
  have hl : s.data.toList.length = s.size := by rw [Array.length_toList]; rfl
  go_enter Tryd.func38, Tryd.ntmps38
  go_wp2_with fail
  go_loop [5] (fun i => ∃ k : Nat, k ≤ s.size ∧ i = .int .i64 (k : Int) ∧ (s.data.toList.take k).any (outB low) = false) (fun i => s.size - (intOf i).toNat)
  case atStart => exact ⟨0, Nat.zero_le _, rfl, rfl⟩
  case round =>
    obtain ⟨k, hk, rfl, hall⟩ := hrel
    have HA := Lib.hid hall
    clear hall
    by_cases hlt : k < s.size
    · have hx := byte_at s k hlt
      have hxb := (s[k]).toNat_lt
      have HX := Lib.hid hx
      clear hx
      rcases hb : outB low s[k] with _ | _
      · have HB := Lib.hid hb
        unfold outB at hb
        rw [Bool.or_eq_false_iff, decide_eq_false_iff_not, decide_eq_false_iff_not] at hb
        have h1 : (low : Int) ≤ ((s[k]).toNat : Int) := by have := hb.1; omega
        have h2 : ((s[k]).toNat : Int) ≤ 126 := by have := hb.2; omega
        clear hb
        go_wp2_with fail
        go_round
        case rel => exact ⟨k + 1, by omega, by go_num, any_snoc _ (by omega) HA.out (by rw [HX.out]; exact HB.out)⟩
        case measure => simp [intOf]; omega
      · have HV : Hid (inB s low = false) := Lib.hid (by unfold inB; rw [any_hit (k := k) (outB low) (by omega) (by rw [HX.out]; exact hb)]; rfl)
        unfold outB at hb
        rw [Bool.or_eq_true, decide_eq_true_eq, decide_eq_true_eq] at hb
        by_cases h1 : (s[k]).toNat < low
        · have h1' : ((s[k]).toNat : Int) < (low : Int) := by omega
          clear hb
          go_wp2_with fail
          go_ret
          exact ⟨by rw [HV.out]; rfl, rfl⟩
        · have h1' : (low : Int) ≤ ((s[k]).toNat : Int) := by omega
          have h2' : (126 : Int) < ((s[k]).toNat : Int) := by omega
          clear hb
          go_wp2_with fail
          go_ret
          exact ⟨by rw [HV.out]; rfl, rfl⟩
    · have hkn : k = s.size := by omega
      subst k
      have HV : Hid (inB s low = true) := Lib.hid (by unfold inB; have := HA.out; rw [List.take_of_length_le (by omega)] at this; rw [this]; rfl)
      go_wp2_with fail
      go_ret
      exact ⟨by rw [HV.out]; rfl, rfl⟩
end Go.Proofs.YtebjfigjfhghcaaDoor.Und
