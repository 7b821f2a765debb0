/-
  The contracts of the reference's Next, Runes and Count (henkanref01). Conditions: the string's length is within the form's reach.
-/
import Derived.Test.YtebjfigjfhghcaaDoorUtfRef
namespace Go.Proofs.YtebjfigjfhghcaaDoor.Utf
open Go.RowKit Wd

theorem ba_get (s : ByteArray) (k : Nat) (h : k < s.size) : s[k] = s.data.toList.getD k 0 := by
  have hk2 : k < s.data.toList.length := by rw [Array.length_toList]; exact h
  show s.data[k]'h = s.data.toList[k]?.getD 0
  rw [List.getElem?_eq_getElem hk2]
  rfl
theorem bt_drop (s : ByteArray) (at0 i : Nat) (h : at0 + i < s.size) : bt (s.data.toList.drop at0) i = (s[at0 + i]'h).toNat := by
  unfold bt
  rw [ba_get s _ h]
  simp [List.getD, List.getElem?_drop]

/-- how Next ends -/
def NextPost (w : World) (R : Option (Nat × Nat)) (e : Ending) (w' : World) : Prop :=
  Below w.heap.size w w' ∧ match R with
  | none => e = .returned (.tuple #[.int .i32 0, .int .i64 0])
  | some (c, n) => e = .returned (.tuple #[.int .i32 (c : Int), .int .i64 (n : Int)])
theorem NextPost.bad {w w' : World} {R : Option (Nat × Nat)} (hR : R = none) (hb : Below w.heap.size w w') : NextPost w R (.returned (.tuple #[.int .i32 0, .int .i64 0])) w' := by subst hR; exact ⟨hb, rfl⟩
theorem NextPost.good {w w' : World} {R : Option (Nat × Nat)} {c n : Nat} (hR : R = some (c, n)) (hb : Below w.heap.size w w') : NextPost w R (.returned (.tuple #[.int .i32 (c : Int), .int .i64 (n : Int)])) w' := by subst hR; exact ⟨hb, rfl⟩

theorem least_cell (w : World) (n : Nat) (h1 : 1 ≤ n) (h4 : n ≤ 4) : (w.alloc (.cells #[.int .i32 0, .int .i32 0, .int .i32 128, .int .i32 2048, .int .i32 65536] 21)).cell? ⟨w.heap.size, n, none⟩ = some (.int .i32 (least n : Int)) := by
  rw [cell_new]
  rcases (show n = 1 ∨ n = 2 ∨ n = 3 ∨ n = 4 by omega) with rfl | rfl | rfl | rfl <;> rfl

set_option maxRecDepth 100000 in
set_option maxHeartbeats 2000000 in
theorem next_any (s : ByteArray) (at0 : Nat) (w : World) (hat : at0 < s.size) (hs : s.size ≤ 140737488355328) :
    Calls Tryd.prog 61 #[.string s, .int .i64 (at0 : Int)] w (NextPost w (nx (s.data.toList.drop at0))) := by
  have hl : s.data.toList.length = s.size := by rw [Array.length_toList]; rfl
  generalize hD : s.data.toList.drop at0 = D
  have hDl : D.length = s.size - at0 := by rw [← hD, List.length_drop, hl]
  have hne : D ≠ [] := by intro h; rw [h] at hDl; simp at hDl; omega
  have hbt : ∀ i, (h : at0 + i < s.size) → bt D i = (s[at0 + i]'h).toNat := fun i h => by rw [← hD]; exact bt_drop s at0 i h
  have hb0 : (s[at0]'hat).toNat = bt D 0 := (hbt 0 hat).symm
  have hnx := nx_ref D hne
  have HBT := Lib.hid hbt
  have HNX := Lib.hid hnx
  have HDL := Lib.hid hDl
  have h256 := bt_lt D 0
  have hcase : lenOf (bt D 0) ≤ 4 := by rcases len_cases (bt D 0) with h | ⟨h, _⟩ | ⟨h, _⟩ | ⟨h, _⟩ | ⟨h, _⟩ <;> omega
  have hacc : ∀ j, 1 ≤ j → j < lenOf (bt D 0) → accF D j ≤ 40000 := fun j h1 h2 => acc_small D j h1 h2
  have hacl : ∀ j, 1 ≤ j → j ≤ lenOf (bt D 0) → accF D j ≤ 2600000 := fun j h1 h2 => acc_le D j h1 h2
  have HAC := Lib.hid hacc
  have HAL := Lib.hid hacl
  have C1 := Lib.hid (fun W => length_any (bt D 0) W h256)
  have e1 : accF D 1 = baseOf (bt D 0) := rfl
  rw [← e1] at C1
  clear hl hD hDl hne hbt hnx hacc hacl e1
  generalize lenOf (bt D 0) = n at *
  have j0 : (0 : Int) ≤ (at0 : Int) := by omega
  have j1 : (at0 : Int) < (s.size : Int) := by omega
  by_cases hn : n = 0 ∨ s.size - at0 < n
  · have HR := Lib.hid (show nx D = none by rw [HNX.out, if_pos (by rcases hn with h | h; exact .inl h; exact .inr (.inl (by rw [HDL.out]; exact h)))])
    by_cases h0 : n = 0
    all_goals
      first
        | (have t0 : ((n : Int) == 0) = true := by rw [beq_iff_eq]; omega)
        | (have t0 : ((n : Int) == 0) = false := by rw [beq_eq_false_iff_ne]; omega
           have t1 : (s.size : Int) - (at0 : Int) < (n : Int) := by omega)
      clear h0 hn HNX HAC HAL
      go_enter Tryd.func61, Tryd.ntmps61
      go_wp2_with fail
      refine (C1.out _).mono ?_
      rintro e w' ⟨rfl, rfl⟩
      go_wp2_with fail
      go_ret2
      exact NextPost.bad HR.out (Below.refl _ _)
  · have t0 : ((n : Int) == 0) = false := by rw [beq_eq_false_iff_ne]; omega
    have t1 : (n : Int) ≤ (s.size : Int) - (at0 : Int) := by omega
    have hn1 : 1 ≤ n := by omega
    have hn2 : at0 + n ≤ s.size := by omega
    clear hn
    go_enter Tryd.func61, Tryd.ntmps61
    go_wp2_with fail
    refine (C1.out _).mono ?_
    rintro e w' ⟨rfl, rfl⟩
    clear C1 hb0
    go_wp2_with fail
    go_loop [7, 8] (fun c1 i1 => ∃ j : Nat, 1 ≤ j ∧ j ≤ n ∧ i1 = .int .i64 (j : Int) ∧ c1 = .int .i32 (accF D j : Int) ∧ ∀ i, 1 ≤ i → i < j → cont D i) (fun _ i => n - (intOf i).toNat)
    case atStart => exact ⟨1, Nat.le_refl _, hn1, rfl, rfl, fun i h1 h2 => by omega⟩
    case round =>
      obtain ⟨j, hj1, hjn, rfl, rfl, hall⟩ := hrel
      have HALL := Lib.hid hall
      clear hall
      by_cases hlt : j < n
      · have hin : at0 + j < s.size := by omega
        have hx := HBT.out j hin
        have ha := HAC.out j hj1 hlt
        have i1 : (at0 : Int) + (j : Int) < (s.size : Int) := by omega
        have i0 : (0 : Int) ≤ (at0 : Int) + (j : Int) := by omega
        have hx8 := bt_lt D j
        by_cases hc : cont D j
        · have hstep : accF D (j + 1) = 64 * accF D j + (bt D j - 128) := by
            obtain ⟨i, rfl⟩ : ∃ i, j = i + 1 := ⟨j - 1, by omega⟩
            rfl
          have hall2 : ∀ i, 1 ≤ i → i < j + 1 → cont D i := fun i h1 h2 => by
            rcases Nat.lt_or_ge i j with h | h
            · exact HALL.out i h1 h
            · obtain rfl : i = j := by omega
              exact hc
          have HST := Lib.hid hstep
          have HA2 := Lib.hid hall2
          unfold cont at hc
          have t3 : (128 : Int) ≤ ((s[at0 + j]'hin).toNat : Int) := by omega
          have t4 : ((s[at0 + j]'hin).toNat : Int) ≤ 191 := by omega
          have HX := Lib.hid hx
          have hc1 := hc.1
          clear hstep hall2 hx hc
          generalize accF D j = a at ha HST ⊢
          go_wp2_with fail
          go_round
          case rel => exact ⟨j + 1, by omega, by omega, by go_num, by rw [HST.out, HX.out]; congr 1; omega, HA2.out⟩
          case measure => simp [intOf]; omega
        · have HR := Lib.hid (show nx D = none by rw [HNX.out, if_pos (.inr (.inr (.inl (fun h => hc (h j hj1 hlt)))))])
          have hor : bt D j < 128 ∨ 191 < bt D j := by unfold cont at hc; omega
          rw [hx] at hor
          clear hc hx
          generalize accF D j = a at ha ⊢
          rcases hor with hor | hor
          · have t3 : ((s[at0 + j]'hin).toNat : Int) < 128 := by omega
            clear hor
            go_wp2_with fail
            go_ret2
            exact NextPost.bad HR.out (Below.refl _ _)
          · have t3 : (128 : Int) ≤ ((s[at0 + j]'hin).toNat : Int) := by omega
            have t4 : (191 : Int) < ((s[at0 + j]'hin).toNat : Int) := by omega
            clear hor
            go_wp2_with fail
            go_ret2
            exact NextPost.bad HR.out (Below.refl _ _)
      · obtain rfl : j = n := by omega
        have ha := HAL.out j hj1 (Nat.le_refl _)
        have hcell := least_cell w j hn1 hcase
        have hin : (j : Int) < 5 := by omega
        by_cases hm : accF D j < least j
        · have HR := Lib.hid (show nx D = none by rw [HNX.out, if_pos (.inr (.inr (.inr (.inl hm))))])
          generalize accF D j = a at ha hm ⊢
          generalize least j = m at hm hcell
          have t5 : (a : Int) < (m : Int) := by omega
          go_wp2_with fail
          go_ret2
          exact NextPost.bad HR.out ((Below.refl _ _).alloc (Nat.le_refl _) _)
        · have CC := Lib.hid (fun W => character_any (accF D j : Int) W)
          by_cases hch : chr (accF D j)
          · have HR := Lib.hid (show nx D = some (accF D j, j) by
              rw [HNX.out, if_neg]
              intro h
              rcases h with h | h | h | h | h
              · omega
              · rw [HDL.out] at h; omega
              · exact h HALL.out
              · exact hm h
              · exact h hch)
            rw [(validRune_chr _).2 ⟨by omega, by simpa using hch⟩] at CC
            clear hch
            generalize accF D j = a at ha hm CC HR ⊢
            generalize least j = m at hm hcell
            have t5 : (m : Int) ≤ (a : Int) := by omega
            go_wp2_with fail
            refine (CC.out _).mono ?_
            rintro e w' ⟨rfl, rfl⟩
            go_wp2_with fail
            go_ret2
            exact NextPost.good HR.out ((Below.refl _ _).alloc (Nat.le_refl _) _)
          · have HR := Lib.hid (show nx D = none by rw [HNX.out, if_pos (.inr (.inr (.inr (.inr hch))))])
            have hv : Lib.validRune (accF D j : Int) = false := by
              rw [Bool.eq_false_iff]; intro h; exact hch (by simpa using ((validRune_chr _).1 h).2)
            rw [hv] at CC
            clear hch hv
            generalize accF D j = a at ha hm CC ⊢
            generalize least j = m at hm hcell
            have t5 : (m : Int) ≤ (a : Int) := by omega
            go_wp2_with fail
            refine (CC.out _).mono ?_
            rintro e w' ⟨rfl, rfl⟩
            go_wp2_with fail
            go_ret2
            exact NextPost.bad HR.out ((Below.refl _ _).alloc (Nat.le_refl _) _)

theorem RunesPost.bad {w w' : World} {R : Option (List Nat)} (hR : R = none) (hb : Below w.heap.size w w') : RunesPost w R (.returned (.tuple #[.slice none 0 0, .bool false])) w' := by subst hR; exact ⟨hb, rfl⟩
theorem RunesPost.good {w w' : World} {R : Option (List Nat)} {cs : List Nat} {v : Value} (hR : R = some cs) (ho : w'.ownsRow w.heap.size 21 1 v cs.length (is .i32 (zs cs))) (hb : Below w.heap.size w w') : RunesPost w R (.returned (.tuple #[v, .bool true])) w' := by subst hR; exact ⟨hb, v, rfl, ho⟩

/-- what a round of the reference's Runes keeps -/
def RRel (w : World) (l : List UInt8) (R : Option (List Nat)) (o1 p1 : Value) (wr : World) : Prop :=
  ∃ (ds : List Nat) (pos : Nat), pos ≤ l.length ∧ ds.length ≤ pos ∧ p1 = .int .i64 (pos : Int) ∧ wr.ownsRow w.heap.size 21 1 o1 ds.length (is .i32 (zs ds)) ∧ Below w.heap.size w wr ∧ R = (runes (l.drop pos)).map (ds ++ ·)

set_option maxRecDepth 100000 in
set_option maxHeartbeats 1000000 in
theorem runesR_any (s : ByteArray) (w : World) (hs : s.size ≤ 30000000000000) :
    Calls Tryd.prog 52 #[.string s] w (RunesPost w (runes s.data.toList)) := by
  obtain ⟨i0, hi, hz0, hz1, hz2⟩ := info_parts Tryd.infoRune
  have HI := Lib.hid hi
  have hl : s.data.toList.length = s.size := by rw [Array.length_toList]; rfl
  have HL := Lib.hid hl
  clear hi hl
  generalize hR : runes s.data.toList = R
  have HR := Lib.hid hR
  clear hR
  go_enter Tryd.func52, Tryd.ntmps52
  go_wp2_with fail
  go_loopw [4, 5] (fun o1 p1 wr => RRel w s.data.toList R o1 p1 wr) (fun _ p _ => s.size - (intOf p).toNat)
  case atStart => exact ⟨[], 0, Nat.zero_le _, Nat.zero_le _, rfl, World.ownsRow_nil _ _ _ _, Below.refl _ _, by rw [← HR.out]; simp⟩
  case round =>
    obtain ⟨ds, pos, hpl, hdl, rfl, hown, hbel, hrel⟩ := hrel
    rw [HL.out] at hpl
    have HO := Lib.hid hown
    have HREL := Lib.hid hrel
    clear hown hrel
    by_cases hlt : pos < s.size
    · have CN := Lib.hid (fun W => next_any s pos W hlt (by omega))
      generalize hN : nx (s.data.toList.drop pos) = N at CN
      have hne : s.data.toList.drop pos ≠ [] := by intro h; have := congrArg List.length h; rw [List.length_drop, HL.out] at this; simp at this; omega
      rcases N with _ | ⟨c, n⟩
      · have HBAD := Lib.hid (show R = none by rw [HREL.out, runes_none _ hne hN]; rfl)
        clear hN hne
        go_wp2_with fail
        refine (CN.out _).mono ?_
        rintro e w1 ⟨hb1, he⟩
        simp only at he
        subst he
        go_wp2_with fail
        go_ret2
        exact RunesPost.bad HBAD.out (hbel.trans (hb1.mono hbel.size))
      · obtain ⟨hch, hle, _, _, h1⟩ := nx_sound _ _ _ hN
        rw [List.length_drop, HL.out] at hle
        have hnext : R = (runes (s.data.toList.drop (pos + n))).map ((ds ++ [c]) ++ ·) := by
          rw [HREL.out, runes_some _ _ _ hN, List.drop_drop, Option.map_map]
          congr 1
          funext x
          simp
        have HNEXT := Lib.hid hnext
        have t0 : ((n : Int) == 0) = false := by rw [beq_eq_false_iff_ne]; omega
        clear hN hne hnext hch
        go_wp2_with fail
        refine (CN.out _).mono ?_
        rintro e w1 ⟨hb1, he⟩
        simp only at he
        subst he
        have B1 := Lib.hid (hbel.trans (hb1.mono hbel.size))
        have O1 := Lib.hid (own_keep HO.out hb1)
        clear hb1
        go_wp2_with (at_builtin; refine wpList_append_any _ rfl (.tmp 20) (.tmp 22) _ rfl w.heap.size 21 i0 _ 1 4 Tryd.underlying90 HI.out hz0 hz1 hz2 rfl (by decide) _ _ _ rfl (O1.out.alloc _) _ _ _ _ _ rfl (Reads.lit _ _ _ _ _ _ rfl rfl) (by intro u hu; simp at hu; subst hu; rfl) (by unfold maxLen; omega) (by omega) (by have := B1.out.size; simp; omega) ?_; intro v' w2 hown' hgr hat')
        have B2 := Lib.hid (own_below (B1.out.alloc B1.out.size _) (Nat.le_refl _) (O1.out.alloc _) (Nat.le_refl _) hgr)
        have O2 := Lib.hid (show w2.ownsRow w.heap.size 21 1 v' (ds ++ [c]).length (is .i32 (zs (ds ++ [c]))) by simpa [is, zs] using hown')
        clear hown' hgr hat'
        go_wp2_with fail
        go_roundw
        case rel => exact ⟨ds ++ [c], pos + n, by rw [HL.out]; omega, by simp; omega, by go_num, O2.out, B2.out, HNEXT.out⟩
        case measure => simp [intOf]; omega
    · have HFIN := Lib.hid (show R = some ds by
        rw [HREL.out, List.drop_eq_nil_of_le (by rw [HL.out]; omega), runes_nil]; simp)
      go_wp2_with fail
      go_ret2
      exact RunesPost.good HFIN.out HO.out hbel

end Go.Proofs.YtebjfigjfhghcaaDoor.Utf
