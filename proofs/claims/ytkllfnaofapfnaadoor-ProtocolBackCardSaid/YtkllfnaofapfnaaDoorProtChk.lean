/-
  The contracts of the checker of package protocol: demand, text, first; and of isNumber and hasSession. Conditions: the map is the call's own.
-/
import Derived.Test.YtkllfnaofapfnaaDoorBMap
import Derived.Test.YtkllfnaofapfnaaDoorUtfValid
import Derived.Test.YtkllfnaofapfnaaDoorCodRead
import Derived.Test.YtkllfnaofapfnaaDoorProtMath
namespace Go.Proofs.YtkllfnaofapfnaaDoor.Prot
open Go.RowKit Wd Utf

/-- keys of the checker -/
def ek (z : Int) : Lit := .int .i64 z
theorem ek_inj (x y : Int) (h : ek x = ek y) : x = y := by unfold ek at h; injection h
/-- the checker's map: which errors were noted -/
def CM (w : World) (b n : Nat) (S : Int → Bool) : Prop := BM Tryd.prog w 28 4 ek b n S
theorem keyedE : Go.Maps.Keyed Tryd.prog 28 := Go.Maps.int_keyed Tryd.underlying28
theorem keyE (z : Int) (h1 : -9223372036854775808 ≤ z) (h2 : z ≤ 9223372036854775807) : keyOf Tryd.prog 28 (.int .i64 z) = some (ek z) :=
  Go.Maps.keyOf_int_mk Tryd.underlying28 (WalkArith.wf_i64 ⟨h1, h2⟩)
theorem zeroB (w : World) : (zeroValue 4).run Tryd.prog w = .ok (.bool false) w := by kernel_rfl

/-- one error more, if something is not true -/
def noted (S : Int → Bool) (e : Int) (is : Bool) : Int → Bool := fun z => (decide (z = e) && !is) || S z

theorem demand_any (b n : Nat) (S : Int → Bool) (e : Int) (is : Bool) (w : World) (h : CM w b n S) (hn : n ≤ 1000000000) (h1 : -9223372036854775808 ≤ e) (h2 : e ≤ 9223372036854775807) :
    Calls Tryd.prog 57 #[.map (some b), .int .i64 e, .bool is] w fun en w' => en = .returned (.tuple #[]) ∧ CM w' b (n + 1) (noted S e is) ∧ Upd b w w' := by
  rcases is with _ | _
  · obtain ⟨w2, hrun, hbm, hg⟩ := BM.put h keyedE Tryd.underlying95 Tryd.underlying4 (by unfold maxLen; omega) ek_inj (keyE e h1 h2) trivial
    have HB := Lib.hid hbm
    have HG := Lib.hid hg
    clear hbm hg h
    go_enter Tryd.func57, Tryd.ntmps57
    go_wp2_with fail
    go_end0
    refine ⟨rfl, ?_, HG.out⟩
    have e : noted S e false = fun y => decide (y = e) || S y := by funext y; simp [noted]
    rw [e]; exact HB.out
  · have HB := Lib.hid h
    clear h
    go_enter Tryd.func57, Tryd.ntmps57
    go_wp2_with fail
    go_end0
    refine ⟨rfl, ?_, Upd.refl _ _⟩
    have e : noted S e true = S := by funext y; simp [noted]
    rw [e]
    obtain ⟨D, d1, d2, d3⟩ := HB.out
    exact ⟨D, d1.mono (by omega), d2, d3⟩

theorem number_is (z : Int) (w : World) : Calls Tryd.prog 58 #[.int .i64 z] w fun e w' => e = .returned (.bool (numB z)) ∧ w = w' := by
  by_cases h1 : 0 ≤ z
  · by_cases h2 : z ≤ 2147483647
    · rw [show numB z = true from decide_eq_true ⟨h1, h2⟩]
      go_enter Tryd.func58, Tryd.ntmps58
      go_wp2_with fail
      go_ret
      exact ⟨rfl, rfl⟩
    · rw [show numB z = false from decide_eq_false (fun h => h2 h.2)]
      go_enter Tryd.func58, Tryd.ntmps58
      go_wp2_with fail
      go_ret
      exact ⟨rfl, rfl⟩
  · rw [show numB z = false from decide_eq_false (fun h => h1 h.1)]
    go_enter Tryd.func58, Tryd.ntmps58
    go_wp2_with fail
    go_ret
    exact ⟨rfl, rfl⟩
theorem session_has (z : Int) (w : World) : Calls Tryd.prog 36 #[.int .i64 z] w fun e w' => e = .returned (.bool (hasS z)) ∧ w = w' := by
  by_cases h2 : z = 2
  · subst h2
    go_enter Tryd.func36, Tryd.ntmps36
    go_wp2_with fail
    go_ret
    exact ⟨rfl, rfl⟩
  by_cases h3 : z = 3
  · subst h3
    go_enter Tryd.func36, Tryd.ntmps36
    go_wp2_with fail
    go_ret
    exact ⟨rfl, rfl⟩
  by_cases h4 : z = 4
  · subst h4
    go_enter Tryd.func36, Tryd.ntmps36
    go_wp2_with fail
    go_ret
    exact ⟨rfl, rfl⟩
  by_cases h5 : z = 5
  · subst h5
    go_enter Tryd.func36, Tryd.ntmps36
    go_wp2_with fail
    go_ret
    exact ⟨rfl, rfl⟩
  by_cases h9 : z = 9
  · subst h9
    go_enter Tryd.func36, Tryd.ntmps36
    go_wp2_with fail
    go_ret
    exact ⟨rfl, rfl⟩
  · have e : hasS z = false := by unfold hasS; rw [decide_eq_false_iff_not]; omega
    rw [e]
    have b2 : (z == 2) = false := by rw [beq_eq_false_iff_ne]; exact h2
    have b3 : (z == 3) = false := by rw [beq_eq_false_iff_ne]; exact h3
    have b4 : (z == 4) = false := by rw [beq_eq_false_iff_ne]; exact h4
    have b5 : (z == 5) = false := by rw [beq_eq_false_iff_ne]; exact h5
    have b9 : (z == 9) = false := by rw [beq_eq_false_iff_ne]; exact h9
    go_enter Tryd.func36, Tryd.ntmps36
    go_wp2_with fail
    go_ret
    exact ⟨rfl, rfl⟩

/-- what 'text' notes -/
def notedT (S : Int → Bool) (s : ByteArray) : Int → Bool := noted (noted S 10 (runes s.data.toList).isSome) 2 (decide (s.size ≤ 4096))
theorem tabs_upd {b : Nat} {w0 w w' : World} (h : Tabs w0) (hb : Below w0.heap.size w0 w) (hu : Upd b w w') (hw : w0.heap.size ≤ b) : Tabs w' := h.keep (hb.trans (hu.below (B := w0.heap.size) hb.size hw))

set_option maxRecDepth 100000 in
theorem textC_any (b n : Nat) (S : Int → Bool) (s : ByteArray) (w : World) (h : CM w b n S) (hT : Tabs w) (hn : n ≤ 1000000) (hs : s.size ≤ 140737488355328) :
    Calls Tryd.prog 59 #[.map (some b), .string s] w fun en w' => en = .returned (.tuple #[]) ∧ CM w' b (n + 2) (notedT S s) ∧ ∃ wm, Below w.heap.size w wm ∧ Upd b wm w' := by
  have HC := Lib.hid (valid_any s w (by omega) hT)
  have HB := Lib.hid h
  clear hT h
  unfold notedT
  generalize (runes s.data.toList).isSome = V at HC ⊢
  generalize hL' : decide (s.size ≤ 4096) = L
  have HL := Lib.hid hL'
  clear hL'
  go_enter Tryd.func59, Tryd.ntmps59
  go_wp2_with fail
  refine HC.out.mono ?_
  rintro e w1 ⟨rfl, hb1⟩
  have HB1 := Lib.hid (BM.keep HB.out hb1)
  have B1 := Lib.hid hb1
  clear hb1
  go_wp2_with fail
  refine (demand_any b n S 10 V _ HB1.out (by omega) (by decide) (by decide)).mono ?_
  rintro e w2 ⟨rfl, hb2, hu2⟩
  have HB2 := Lib.hid hb2
  have U2 := Lib.hid hu2
  clear hb2 hu2
  have hL := HL.out.symm
  clear HL
  by_cases hlen : s.size ≤ 4096
  · have hl : (s.size : Int) ≤ 4096 := by omega
    obtain rfl : L = true := by rw [hL]; exact decide_eq_true hlen
    clear hL
    go_wp2_with fail
    refine (demand_any b (n + 1) _ 2 true _ HB2.out (by omega) (by decide) (by decide)).mono ?_
    rintro e w3 ⟨rfl, hb3, hu3⟩
    have HB3 := Lib.hid hb3
    have U3 := Lib.hid hu3
    clear hb3 hu3
    go_wp2_with fail
    go_end0
    exact ⟨rfl, HB3.out, _, B1.out, U2.out.trans U3.out⟩
  · have hl : (4096 : Int) < (s.size : Int) := by omega
    have hd1 : decide ((s.size : Int) ≤ 4096) = false := decide_eq_false (by omega)
    have hd2 : decide (s.size ≤ 4096) = false := decide_eq_false (by omega)
    obtain rfl : L = false := by rw [hL]; exact decide_eq_false hlen
    clear hL
    go_wp2_with fail
    refine (demand_any b (n + 1) _ 2 false _ HB2.out (by omega) (by decide) (by decide)).mono ?_
    rintro e w3 ⟨rfl, hb3, hu3⟩
    have HB3 := Lib.hid hb3
    have U3 := Lib.hid hu3
    clear hb3 hu3
    go_wp2_with fail
    go_end0
    exact ⟨rfl, HB3.out, _, B1.out, U2.out.trans U3.out⟩

/-- the errors in the order in which they are asked -/
def askAt (k : Nat) : Int := if k = 0 then 1 else if k = 1 then 6 else if k = 2 then 10 else 2
def firstOf (S : Int → Bool) : Int := if S 1 then 1 else if S 6 then 6 else if S 10 then 10 else if S 2 then 2 else 0
theorem ask_cell (w : World) (k : Nat) (hk : k < 4) : (w.alloc (.cells #[.int .i64 1, .int .i64 6, .int .i64 10, .int .i64 2] 28)).cell? ⟨w.heap.size, k, none⟩ = some (.int .i64 (askAt k)) := by
  rw [cell_new]
  rcases (show k = 0 ∨ k = 1 ∨ k = 2 ∨ k = 3 by omega) with rfl | rfl | rfl | rfl <;> rfl
theorem first_found (S : Int → Bool) (k : Nat) (hk : k < 4) (h : ∀ j, j < k → S (askAt j) = false) (hs : S (askAt k) = true) : firstOf S = askAt k := by
  have h0 : 0 < k → S 1 = false := fun x => h 0 x
  have h1 : 1 < k → S 6 = false := fun x => h 1 x
  have h2 : 2 < k → S 10 = false := fun x => h 2 x
  unfold firstOf
  rcases (show k = 0 ∨ k = 1 ∨ k = 2 ∨ k = 3 by omega) with rfl | rfl | rfl | rfl
  · have hs' : S 1 = true := hs
    rw [hs']; rfl
  · have hs' : S 6 = true := hs
    rw [h0 (by omega), hs']; rfl
  · have hs' : S 10 = true := hs
    rw [h0 (by omega), h1 (by omega), hs']; rfl
  · have hs' : S 2 = true := hs
    rw [h0 (by omega), h1 (by omega), h2 (by omega), hs']; rfl
theorem first_none (S : Int → Bool) (h : ∀ j, j < 4 → S (askAt j) = false) : firstOf S = 0 := by
  have h0 : S 1 = false := h 0 (by omega)
  have h1 : S 6 = false := h 1 (by omega)
  have h2 : S 10 = false := h 2 (by omega)
  have h3 : S 2 = false := h 3 (by omega)
  unfold firstOf
  rw [h0, h1, h2, h3]; rfl
theorem ask_range (k : Nat) : 1 ≤ askAt k ∧ askAt k ≤ 10 := by
  unfold askAt
  split
  · omega
  · split
    · omega
    · split <;> omega

set_option maxHeartbeats 1000000 in
theorem first_any (b n : Nat) (S : Int → Bool) (w : World) (h : CM w b n S) :
    Calls Tryd.prog 60 #[.map (some b)] w fun en w' => en = .returned (.int .i64 (firstOf S)) ∧ Below w.heap.size w w' := by
  have HB := Lib.hid h
  clear h
  go_enter Tryd.func60, Tryd.ntmps60
  go_wp2_with fail
  go_loop [7] (fun i => ∃ k : Nat, k ≤ 4 ∧ i = .int .i64 (k : Int) ∧ ∀ j, j < k → S (askAt j) = false) (fun i => 4 - (intOf i).toNat)
  case atStart => exact ⟨0, by omega, rfl, fun j hj => by omega⟩
  case round =>
    obtain ⟨k, hk, rfl, hall⟩ := hrel
    have HA := Lib.hid hall
    clear hall
    by_cases hlt : k < 4
    · have hcell := ask_cell w k hlt
      have hr := ask_range k
      have hlk := BM.look (HB.out.alloc (.cells #[.int .i64 1, .int .i64 6, .int .i64 10, .int .i64 2] 28)) keyedE Tryd.underlying95 Tryd.underlying4 (zeroB _) (keyE (askAt k) (by omega) (by omega))
      have g1 : (k : Int) < 4 := by omega
      rcases hs : S (askAt k) with _ | _
      · have HN := Lib.hid (show ∀ j, j < k + 1 → S (askAt j) = false from fun j hj => by
          rcases Nat.lt_or_ge j k with h | h
          · exact HA.out j h
          · obtain rfl : j = k := by omega
            exact hs)
        rw [hs] at hlk
        clear hs
        generalize askAt k = z at hcell hlk hr
        go_wp2_with fail
        go_round
        case rel => exact ⟨k + 1, by omega, by go_num, HN.out⟩
        case measure => simp [intOf]; omega
      · have HF := Lib.hid (first_found S k hlt HA.out hs)
        rw [hs] at hlk
        clear hs
        generalize askAt k = z at hcell hlk hr HF
        go_wp2_with fail
        go_ret
        exact ⟨by rw [HF.out]; rfl, (Below.refl _ _).alloc (Nat.le_refl _) _⟩
    · obtain rfl : k = 4 := by omega
      have HF := Lib.hid (first_none S HA.out)
      go_wp2_with fail
      go_ret
      exact ⟨by rw [HF.out]; rfl, (Below.refl _ _).alloc (Nat.le_refl _) _⟩
end Go.Proofs.YtkllfnaofapfnaaDoor.Prot
