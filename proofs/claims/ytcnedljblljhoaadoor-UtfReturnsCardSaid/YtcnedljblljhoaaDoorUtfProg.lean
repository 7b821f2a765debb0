/-
  The contracts of package utf: Valid, Runes, Count, Text. Conditions: the two tables of unicode/utf8 lie as their initialisers lay them; the strings' lengths are within the form's reach.
-/
import Derived.Test.YtcnedljblljhoaaDoorUtfRun
import Derived.Test.YtcnedljblljhoaaDoorShelf
namespace Go.Proofs.YtcnedljblljhoaaDoor.Utf
open Go.RowKit Wd

/-- the two tables of unicode/utf8 -/
def Tabs (w : World) : Prop := Lib.Utf8Tabs (Tryd.lays196_ren.g 3) (Tryd.lays196_ren.g 4) w
theorem Tabs.keep {w w' : World} (h : Tabs w) (hb : Below w.heap.size w w') : Tabs w' := by
  refine ⟨fun c hc => ?_, fun i hi => ⟨?_, ?_⟩⟩
  · have := h.1 c hc
    rw [hb.cell (World.block_lt_of_cell? w _ this)]; exact this
  · have := (h.2 i hi).1
    rw [hb.cell (World.block_lt_of_cell? w _ this)]; exact this
  · have := (h.2 i hi).2
    rw [hb.cell (World.block_lt_of_cell? w _ this)]; exact this
theorem Tabs.alloc {w : World} (h : Tabs w) (o : Obj) : Tabs (w.alloc o) := h.keep ((Below.refl _ _).alloc (Nat.le_refl _) _)
theorem Tabs.drew {w : World} (h : Tabs w) : Tabs w.drew := h
theorem Tabs.drewN {w : World} (h : Tabs w) (q : Nat) : Tabs (w.drewN q) := h

theorem validS_any (s : ByteArray) (w : World) (hs : s.size ≤ 9223372036854775807) (hT : Tabs w) :
    Calls Tryd.prog 23 #[.string s] w fun e w' => e = .returned (.bool (runes s.data.toList).isSome) ∧ Below w.heap.size w w' := by
  rw [← valid_eq]; exact Tryd.utf8_ValidString s w hs hT

theorem valid_any (s : ByteArray) (w : World) (hs : s.size ≤ 9223372036854775807) (hT : Tabs w) :
    Calls Tryd.prog 14 #[.string s] w fun e w' => e = .returned (.bool (runes s.data.toList).isSome) ∧ Below w.heap.size w w' := by
  have HC := Lib.hid (validS_any s w hs hT)
  clear hT
  generalize (runes s.data.toList).isSome = R at HC ⊢
  go_enter Tryd.func14, Tryd.ntmps14
  go_wp2_with fail
  refine HC.out.mono ?_
  rintro e w1 ⟨rfl, hb⟩
  go_wp2_with fail
  go_ret
  exact ⟨rfl, hb⟩

/-- how Runes ends -/
def RunesPost (w : World) (R : Option (List Nat)) (e : Ending) (w' : World) : Prop :=
  Below w.heap.size w w' ∧ match R with
  | none => e = .returned (.tuple #[.slice none 0 0, .bool false])
  | some cs => ∃ v, e = .returned (.tuple #[v, .bool true]) ∧ w'.ownsRow w.heap.size 21 1 v cs.length (is .i32 (zs cs))

set_option maxHeartbeats 1000000 in
theorem runes_any (s : ByteArray) (w : World) (hs : s.size ≤ 70368744177664) (hT : Tabs w) :
    Calls Tryd.prog 11 #[.string s] w (RunesPost w (runes s.data.toList)) := by
  have HC := Lib.hid (validS_any s w (by omega) hT)
  clear hT
  generalize hR : runes s.data.toList = R at HC ⊢
  rcases R with _ | cs
  · clear hR
    go_enter Tryd.func11, Tryd.ntmps11
    go_wp2_with fail
    refine HC.out.mono ?_
    rintro e w1 ⟨rfl, hb⟩
    go_wp2_with fail
    go_ret2
    exact ⟨hb, rfl⟩
  · have hrf := runesFrom_all s cs hR
    have hcl : cs.length ≤ s.size := by
      have := txt_many cs
      rw [← ((runes_iff _ _).1 hR).1, Array.length_toList] at this
      exact this
    have hsz : (Conv.runesFrom s s.size 0 #[]).size = cs.length := by rw [hrf]; simp [is, zs]
    have hrun := fun W => run_runes_of_string (P := Tryd.prog) W 9 22 21 s Tryd.underlying9 Tryd.underlying22 Tryd.underlying21 (by rw [hsz]; omega)
    rw [hsz, hrf] at hrun
    clear hR hrf hsz
    go_enter Tryd.func11, Tryd.ntmps11
    go_wp2_with fail
    refine HC.out.mono ?_
    rintro e w1 ⟨rfl, hb⟩
    go_wp2_with fail
    go_ret2
    refine ⟨hb.drew.alloc hb.size _, _, rfl, ?_⟩
    have hg := grownCap_ge w1 cs.length 0 21
    refine ⟨by rw [is_length, zs_length, Nat.mul_one], .inr ⟨w1.heap.size, _, _, rfl, hb.size, heap_alloc_new _ _, hg, ?_, ?_, ?_⟩⟩
    · exact grownCap_le_maxLen _ _ _ _ (by unfold maxLen; omega)
    · simp [is, zs]; omega
    · simp [is, zs]

theorem count_any (s : ByteArray) (w : World) (hs : s.size < 9223372036854775807) (hT : Tabs w) :
    Calls Tryd.prog 15 #[.string s] w fun e w' => e = .returned (.int .i64 (cnt s.data.toList)) ∧ Below w.heap.size w w' := by
  have HC := Lib.hid (validS_any s w (by omega) hT)
  have HN := Lib.hid (fun W => Tryd.utf8_RuneCountInString s W hs)
  clear hT
  unfold cnt
  generalize hR : runes s.data.toList = R at HC ⊢
  rcases R with _ | cs
  · clear hR
    go_enter Tryd.func15, Tryd.ntmps15
    go_wp2_with fail
    refine HC.out.mono ?_
    rintro e w1 ⟨rfl, hb⟩
    go_wp2_with fail
    go_ret
    exact ⟨rfl, hb⟩
  · rw [count_eq s cs hR] at HN
    clear hR
    go_enter Tryd.func15, Tryd.ntmps15
    go_wp2_with fail
    refine HC.out.mono ?_
    rintro e w1 ⟨rfl, hb⟩
    go_wp2_with fail
    refine (HN.out _).mono ?_
    rintro e w2 ⟨rfl, pos, rfl⟩
    go_wp2_with fail
    go_ret
    exact ⟨rfl, hb.alloc hb.size _⟩

theorem Tryd.infoByte : (Tryd.prog.info? 5).map (fun i => (i.zero, i.size, i.bytes)) = some (some (.int .u8 0), 1, 1) := by kernel_rfl
theorem take_snocI (l : List Int) (k : Nat) (h : k < l.length) : l.take (k + 1) = l.take k ++ [l.getD k 0] := by
  rw [List.take_succ_eq_append_getElem h]; simp [List.getD, h]
theorem chars_snoc (l : List Int) (z : Int) : chars (l ++ [z]) = if Lib.validRune z then chars l ++ [z.toNat] else chars l := by
  rw [chars_append]
  simp only [chars]
  split <;> simp

/-- what a round of Text keeps -/
def TRel (w : World) (l : List Int) (o1 i1 : Value) (wr : World) : Prop :=
  ∃ k : Nat, k ≤ l.length ∧ i1 = .int .i64 (k : Int) ∧ wr.ownsRow w.heap.size 5 1 o1 (txt (chars (l.take k))).length (bs (txt (chars (l.take k)))) ∧ Below w.heap.size w wr

set_option maxRecDepth 100000 in
set_option maxHeartbeats 1000000 in
theorem text_any (A : Option Addr) (n c : Nat) (l : List Int) (w : World) (hr : RI .i32 w A n l) (hn : n ≤ 1000000000) (h32 : ∀ z ∈ l, -2147483648 ≤ z ∧ z ≤ 2147483647) :
    Calls Tryd.prog 18 #[.slice A n c] w fun e w' => e = .returned (.string ⟨(txt (chars l)).toArray⟩) ∧ Below w.heap.size w w' := by
  obtain ⟨i0, hi, hz0, hz1, hz2⟩ := info_parts Tryd.infoByte
  have hmk : ∀ u : World, (Instr.makeSlice 40 (.int .i64 0) (.int .i64 (3 * (n : Int)))).run Tryd.prog u =
      .ok (.slice (some ⟨u.heap.size, 0, none⟩) 0 (3 * n)) (u.alloc (.cells (madeCells #[.int .u8 0] (3 * n)) 5)) := fun u => by
    have h := run_make (P := Tryd.prog) u 40 5 i0 (.int .u8 0) Tryd.underlying40 hi hz0 .i64 .i64 0 (3 * (n : Int)) (by omega) (by omega) (by rw [hz2]; omega) (by omega)
    have e : (3 * (n : Int)).toNat = 3 * n := by omega
    rw [e] at h
    simpa [hz1, Value.cells] using h
  have HR := Lib.hid hr
  have HL := Lib.hid hr.len
  have H32 := Lib.hid h32
  clear hr h32 hi hz0 hz1 hz2
  go_enter Tryd.func18, Tryd.ntmps18
  go_wp2_with fail
  go_loopw [3, 12] (fun o1 i1 wr => TRel w l o1 i1 wr) (fun _ i _ => n - (intOf i).toNat)
  case atStart => exact ⟨0, Nat.zero_le _, rfl, World.ownsRow_made (size := 1) w _ (3 * n) (Nat.le_refl _) (by unfold maxLen; omega) (by simp [madeCells]), (Below.refl _ _).alloc (Nat.le_refl _) _⟩
  case round =>
    clear hmk
    obtain ⟨k, hk, rfl, hown, hbel⟩ := hrel
    have hln := HL.out
    have hlen : (txt (chars (l.take k))).length ≤ 4 * n := by
      have h1 := txt_len (chars (l.take k))
      have h2 := chars_len (l.take k)
      rw [List.length_take] at h2
      omega
    have HO := Lib.hid hown
    clear hown
    by_cases hlt : k < n
    · obtain ⟨ad, rfl, hb1, hc1⟩ := (HR.out.keep hbel).at_ hlt
      obtain ⟨z, hz⟩ : ∃ z, z = l.getD k 0 := ⟨_, rfl⟩
      have hb32 := H32.out z (by rw [hz]; simp [List.getD, show k < l.length by omega])
      rw [← hz] at hc1
      have hsn : chars (l.take (k + 1)) = if Lib.validRune z then chars (l.take k) ++ [z.toNat] else chars (l.take k) := by rw [take_snocI l k (by omega), ← hz, chars_snoc]
      have HSN := Lib.hid hsn
      have g2 : (k : Int) < (n : Int) := by omega
      clear hsn hz hln
      have CV := Lib.hid (fun W => Tryd.utf8_ValidRune z W)
      rcases hv : Lib.validRune z with _ | _
      · rw [hv] at CV HSN
        clear hv
        go_wp2_with fail
        refine (CV.out _).mono ?_
        rintro e w2 ⟨rfl, rfl⟩
        go_wp2_with fail
        go_roundw
        case rel => exact ⟨k + 1, by have := HL.out; omega, by go_num, by rw [HSN.out]; exact HO.out, hbel⟩
        case measure => simp [intOf]; omega
      · rw [hv] at CV HSN
        have hch := (validRune_chr z).1 hv
        have hcell : Lib.runeCells z = bs (enc z.toNat) := by
          have h := enc_cells z.toNat hch.2
          rw [Int.toNat_of_nonneg hch.1] at h
          exact h
        have HC := Lib.hid hcell
        clear hv hcell hch
        generalize hX : txt (chars (l.take k)) = X at HO hlen
        have HX := Lib.hid hX
        clear hX
        go_wp2_with fail
        refine (CV.out _).mono ?_
        rintro e w2 ⟨rfl, rfl⟩
        go_wp2_with fail
        refine (Tryd.utf8_AppendRune_plain w.heap.size _ X.length (bs X) z hb32.1 hb32.2 _ HO.out (by omega) hbel.size).mono ?_
        rintro e w3 ⟨v', rfl, hown', o, hg⟩
        rw [HC.out, bs_length, ← bs_append, ← List.length_append] at hown'
        have hb3 : Below w.heap.size w w3 := own_below (hbel.alloc hbel.size o) (Nat.le_refl _) (HO.out.alloc o) (Nat.le_refl _) hg
        have O3 := Lib.hid (show w3.ownsRow w.heap.size 5 1 v' (txt (chars (l.take (k + 1)))).length (bs (txt (chars (l.take (k + 1))))) by
          have e : txt (chars (l.take (k + 1))) = X ++ enc z.toNat := by
            rw [HSN.out, if_pos trivial, txt_append, HX.out]; simp [txt]
          rw [e]; exact hown')
        clear hown' hg
        go_wp2_with fail
        go_roundw
        case rel => exact ⟨k + 1, by have := HL.out; omega, by go_num, O3.out, hb3⟩
        case measure => simp [intOf]; omega
    · have hO := HO.out
      rw [List.take_of_length_le (by omega)] at hO
      obtain ⟨Ao, co, rfl, hro, _⟩ := own_bytes hO
      have hstr := RB.run_string (P := Tryd.prog) hro co 40 5 9 Tryd.underlying40 Tryd.underlying5 Tryd.underlying9
      clear hO hro HO hln
      go_wp2_with fail
      go_ret
      exact ⟨rfl, hbel⟩
end Go.Proofs.YtcnedljblljhoaaDoor.Utf
