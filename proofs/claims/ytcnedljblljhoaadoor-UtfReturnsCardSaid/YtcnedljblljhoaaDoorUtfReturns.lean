/-
  The walk of UtfReturns: characters that are written are read again, and the other way round. Conditions: the two tables of unicode/utf8 lie as their initialisers lay them.
-/
import Derived.Test.YtcnedljblljhoaaDoorUtfWorks
import Derived.Laws.OwnMore
namespace Go.Proofs.YtcnedljblljhoaaDoor.Utf
open Go.RowKit Wd

theorem zs_valid_snoc (l : List Int) (k : Nat) (h : k < l.length) (z : Int) (hz : z = l.getD k 0) : zs (chars (l.take (k + 1))) = if Lib.validRune z then zs (chars (l.take k)) ++ [z] else zs (chars (l.take k)) := by
  rw [take_snocI l k h, ← hz, chars_snoc]
  split
  · rename_i hv
    have h0 := ((validRune_chr z).1 hv).1
    simp [zs, Int.toNat_of_nonneg h0]
  · rfl

/-- what a round of the second loop keeps -/
def WRel (w : World) (l : List Int) (o1 i1 : Value) (wr : World) : Prop :=
  ∃ k : Nat, k ≤ l.length ∧ i1 = .int .i64 (k : Int) ∧ wr.ownsRow w.heap.size 21 1 o1 (zs (chars (l.take k))).length (is .i32 (zs (chars (l.take k)))) ∧ Below w.heap.size w wr

set_option maxRecDepth 100000 in
set_option maxHeartbeats 8000000 in
theorem returns_any (s : ByteArray) (A : Option Addr) (n c : Nat) (l : List Int) (w : World) (hT : Tabs w) (hr : RI .i32 w A n l) (hs : s.size ≤ 140737488355328) (hn : n ≤ 140737488355328) (h32 : ∀ z ∈ l, -2147483648 ≤ z ∧ z ≤ 2147483647) :
    Calls Tryd.prog 6 #[.string s, .slice A n c] w fun e w' => e = .returned (.bool true) ∧ Below w.heap.size w w' := by
  obtain ⟨i0, hi, hz0, hz1, hz2⟩ := info_parts Tryd.infoRune
  have HI := Lib.hid hi
  have T0 := Lib.hid hT
  have L0 := Lib.hid hr
  have H32 := Lib.hid h32
  have HL := Lib.hid hr.len
  have hcl := chars_len l
  rw [hr.len] at hcl
  clear hT hr hi h32
  by_cases hlen : 3000 < s.size
  · have hl : (3000 : Int) < (s.size : Int) := by omega
    go_enter Tryd.func6, Tryd.ntmps6
    go_wp2_with fail
    go_ret
    exact ⟨rfl, Below.refl _ _⟩
  by_cases hlen2 : 1000 < n
  · have hl : (s.size : Int) ≤ 3000 := by omega
    have hl2 : (1000 : Int) < (n : Int) := by omega
    go_enter Tryd.func6, Tryd.ntmps6
    go_wp2_with fail
    go_ret
    exact ⟨rfl, Below.refl _ _⟩
  have hl : (s.size : Int) ≤ 3000 := by omega
  have hl2 : (n : Int) ≤ 1000 := by omega
  have dl : decide ((3000 : Int) < (s.size : Int)) = false := decide_eq_false (by omega)
  have dl2 : decide ((1000 : Int) < (n : Int)) = false := decide_eq_false (by omega)
  have C1 := Lib.hid (runes_any s w (by omega) T0.out)
  have C2 := Lib.hid (fun W hT => valid_any s W (by omega) hT)
  obtain ⟨st, hst⟩ : ∃ st : ByteArray, st = ⟨(txt (chars l)).toArray⟩ := ⟨_, rfl⟩
  have hss : st.size ≤ 4000 := by
    have h1 : st.size = (txt (chars l)).length := by rw [hst]; rfl
    have h2 := txt_len (chars l)
    omega
  have C3 := Lib.hid (fun W hT => runes_any st W (by omega) hT)
  have hsd : st.data.toList = txt (chars l) := by rw [hst]
  rw [hsd, runes_txt _ (chars_chr l)] at C3
  have HST := Lib.hid hst
  clear hst hsd hss
  generalize hR : runes s.data.toList = R at C1 C2
  rcases R with _ | cs
  · clear hR
    go_enter Tryd.func6, Tryd.ntmps6
    go_wp2_with fail
    refine C1.out.mono ?_
    rintro e w1 ⟨hb1, he⟩
    have he' : e = .returned (.tuple #[.slice none 0 0, .bool false]) := he
    subst he'
    have T1 := Lib.hid (T0.out.keep hb1)
    have B1 := Lib.hid hb1
    clear hb1 he
    go_wp2_with fail
    refine (C2.out _ T1.out).mono ?_
    rintro e wX ⟨rfl, hbX⟩
    have BX := Lib.hid (B1.out.trans (hbX.mono B1.out.size))
    clear hbX T1 B1
    go_wp2_with fail
    go_loopw [7] (fun i wr => i = .int .i64 0 ∧ Below w.heap.size w wr) (fun i _ => (intOf i).toNat)
    case atStart => exact ⟨rfl, BX.out⟩
    case round =>
      obtain ⟨rfl, hbY⟩ := hrel
      have BL := Lib.hid hbY
      clear hbY
      go_wp2_with fail
      go_loopw [8, 9] (fun o1 i1 wr => WRel w l o1 i1 wr) (fun _ i _ => n - (intOf i).toNat)
      case atStart => exact ⟨0, Nat.zero_le _, rfl, World.ownsRow_nil _ _ _ _, BL.out⟩
      case round =>
        obtain ⟨k, hk, rfl, hown, hbel⟩ := hrel
        have hln := HL.out
        by_cases hlt : k < n
        · obtain ⟨ad, rfl, hb0, hc0⟩ := L0.out.at_ hlt
          have hc1 := (hbel.cell (p := ad.add k) (by rw [block_of_add]; exact hb0)).trans hc0
          obtain ⟨z, hz⟩ : ∃ z, z = l.getD k 0 := ⟨_, rfl⟩
          rw [← hz] at hc1
          have HSN := Lib.hid (zs_valid_snoc l k (by omega) z hz)
          have hZl : (zs (chars (l.take k))).length ≤ 1000 := by
            rw [zs_length]
            have := chars_len (l.take k)
            rw [List.length_take] at this
            omega
          generalize hZ : zs (chars (l.take k)) = Z at hown hZl
          have HZ := Lib.hid hZ
          have HO := Lib.hid hown
          have g2 : (k : Int) < (n : Int) := by omega
          clear hz hc0 hln hown hZ
          by_cases q1 : 0 ≤ z
          · by_cases q2 : z ≤ 1114111
            · by_cases q3 : z < 55296
              · skip

                have HV := Lib.hid (show Lib.validRune z = true by unfold Lib.validRune; rw [decide_eq_true_eq]; omega)
                have O1 := Lib.hid HO.out
                go_wp2_with (at_builtin; refine wpList_append_any _ rfl (.tmp 79) (.tmp 84) _ rfl w.heap.size 21 i0 _ 1 4 Tryd.underlying22 HI.out hz0 hz1 hz2 rfl (by decide) _ _ _ rfl (HO.out.alloc _) _ _ _ _ _ rfl (Reads.lit _ _ _ _ _ _ rfl rfl) (by intro u hu; simp at hu; subst hu; rfl) (by unfold maxLen; omega) (by omega) (by have := hbel.size; simp; omega) ?_; intro v' w2 hown' hgr hat')
                have B2 := Lib.hid (own_below (hbel.alloc hbel.size _) (Nat.le_refl _) (HO.out.alloc _) (Nat.le_refl _) hgr)
                have O2 := Lib.hid (show w2.ownsRow w.heap.size 21 1 v' (zs (chars (l.take (k + 1)))).length (is .i32 (zs (chars (l.take (k + 1))))) by
                  have e : zs (chars (l.take (k + 1))) = Z ++ [z] := by rw [HSN.out, if_pos HV.out, HZ.out]
                  rw [e, List.length_append, is_append]; exact hown')
                clear hown' hgr hat' O1
                go_wp2_with fail
                go_roundw
                case rel => exact ⟨k + 1, by have := HL.out; omega, by go_num, O2.out, B2.out⟩
                case measure => simp [intOf]; omega
              · by_cases q4 : 57343 < z
                · skip

                  have HV := Lib.hid (show Lib.validRune z = true by unfold Lib.validRune; rw [decide_eq_true_eq]; omega)
                  have O1 := Lib.hid HO.out
                  go_wp2_with (at_builtin; refine wpList_append_any _ rfl (.tmp 79) (.tmp 84) _ rfl w.heap.size 21 i0 _ 1 4 Tryd.underlying22 HI.out hz0 hz1 hz2 rfl (by decide) _ _ _ rfl (HO.out.alloc _) _ _ _ _ _ rfl (Reads.lit _ _ _ _ _ _ rfl rfl) (by intro u hu; simp at hu; subst hu; rfl) (by unfold maxLen; omega) (by omega) (by have := hbel.size; simp; omega) ?_; intro v' w2 hown' hgr hat')
                  have B2 := Lib.hid (own_below (hbel.alloc hbel.size _) (Nat.le_refl _) (HO.out.alloc _) (Nat.le_refl _) hgr)
                  have O2 := Lib.hid (show w2.ownsRow w.heap.size 21 1 v' (zs (chars (l.take (k + 1)))).length (is .i32 (zs (chars (l.take (k + 1))))) by
                    have e : zs (chars (l.take (k + 1))) = Z ++ [z] := by rw [HSN.out, if_pos HV.out, HZ.out]
                    rw [e, List.length_append, is_append]; exact hown')
                  clear hown' hgr hat' O1
                  go_wp2_with fail
                  go_roundw
                  case rel => exact ⟨k + 1, by have := HL.out; omega, by go_num, O2.out, B2.out⟩
                  case measure => simp [intOf]; omega
                · skip

                  have HV := Lib.hid (show Lib.validRune z = false by unfold Lib.validRune; rw [decide_eq_false_iff_not]; omega)
                  go_wp2_with fail
                  go_roundw
                  case rel => exact ⟨k + 1, by have := HL.out; omega, by go_num, by rw [HSN.out, if_neg (by rw [HV.out]; decide), HZ.out]; exact HO.out, hbel⟩
                  case measure => simp [intOf]; omega
            · skip

              have HV := Lib.hid (show Lib.validRune z = false by unfold Lib.validRune; rw [decide_eq_false_iff_not]; omega)
              go_wp2_with fail
              go_roundw
              case rel => exact ⟨k + 1, by have := HL.out; omega, by go_num, by rw [HSN.out, if_neg (by rw [HV.out]; decide), HZ.out]; exact HO.out, hbel⟩
              case measure => simp [intOf]; omega
          · skip

            have HV := Lib.hid (show Lib.validRune z = false by unfold Lib.validRune; rw [decide_eq_false_iff_not]; omega)
            go_wp2_with fail
            go_roundw
            case rel => exact ⟨k + 1, by have := HL.out; omega, by go_num, by rw [HSN.out, if_neg (by rw [HV.out]; decide), HZ.out]; exact HO.out, hbel⟩
            case measure => simp [intOf]; omega
        · have hO := hown
          rw [List.take_of_length_le (by omega)] at hO
          obtain ⟨Aw, cw, rfl, hrw, _⟩ := own_ints hO
          have WE := Lib.hid hrw
          have BE := Lib.hid hbel
          have TE := Lib.hid (T0.out.keep hbel)
          have LE := Lib.hid (L0.out.keep hbel)
          have hwl : (zs (chars l)).length ≤ 1000 := by rw [zs_length]; omega
          clear hO hrw hown hbel hln
          go_wp2_with fail
          refine (text_any A n c l _ LE.out (by omega) H32.out).mono ?_
          rintro e w21 ⟨rfl, hb21⟩
          clear LE
          have Tb_21 := Lib.hid (TE.out.keep hb21)
          clear TE
          have W_21 := Lib.hid (WE.out.keep hb21)
          clear WE
          have B_21 := Lib.hid (BE.out.trans (hb21.mono BE.out.size))
          clear BE
          clear hb21
          rw [← HST.out]
          go_wp2_with fail
          refine (C3.out _ Tb_21.out).mono ?_
          rintro e w22 ⟨hb22, he⟩
          have Tb_22 := Lib.hid (Tb_21.out.keep hb22)
          clear Tb_21
          have W_22 := Lib.hid (W_21.out.keep hb22)
          clear W_21
          have B_22 := Lib.hid (B_21.out.trans (hb22.mono B_21.out.size))
          clear B_21
          clear hb22
          obtain ⟨vb, rfl, hob⟩ := he
          obtain ⟨Ab, cb, rfl, hrb, _⟩ := own_ints hob
          have K := Lib.hid hrb
          clear hob hrb
          go_wp2_with fail
          refine (same_any Ab Aw (chars l).length cb (zs (chars l)).length cw (zs (chars l)) (zs (chars l)) _ K.out W_22.out (by omega)).mono ?_
          rintro e w23 ⟨rfl, hb23⟩
          clear K
          clear W_22
          have Tb_23 := Lib.hid (Tb_22.out.keep hb23)
          clear Tb_22
          have B_23 := Lib.hid (B_22.out.trans (hb23.mono B_22.out.size))
          clear B_22
          clear hb23
          rw [decide_eq_true (show zs (chars l) = zs (chars l) from rfl)]
          go_wp2_with fail
          refine (works_any _ Tb_23.out).mono ?_
          rintro e w24 ⟨rfl, hb24⟩
          have Tb_24 := Lib.hid (Tb_23.out.keep hb24)
          clear Tb_23
          have B_24 := Lib.hid (B_23.out.trans (hb24.mono B_23.out.size))
          clear B_23
          clear hb24
          go_wp2_with fail
          go_ret
          exact ⟨rfl, B_24.out⟩
  · obtain ⟨htx, hch⟩ := (runes_iff _ _).1 hR
    have hcl2 : cs.length ≤ s.size := by
      have := txt_many cs
      rw [← htx, Array.length_toList] at this
      exact this
    have hback : (⟨(txt (chars (zs cs))).toArray⟩ : ByteArray) = s := by
      rw [chars_zs cs hch, ← htx]
    have hb32 : ∀ z ∈ zs cs, -2147483648 ≤ z ∧ z ≤ 2147483647 := by
      intro z hz
      simp only [zs, List.mem_map] at hz
      obtain ⟨x, hx, rfl⟩ := hz
      have := hch x hx
      unfold chr at this
      omega
    have HBK := Lib.hid hback
    have HB32 := Lib.hid hb32
    clear hR htx hch hback hb32
    go_enter Tryd.func6, Tryd.ntmps6
    go_wp2_with fail
    refine C1.out.mono ?_
    rintro e w1 ⟨hb1, va, rfl, hoa⟩
    obtain ⟨Aa, ca, rfl, hra, _⟩ := own_ints hoa
    have T1 := Lib.hid (T0.out.keep hb1)
    have B1 := Lib.hid hb1
    have O1 := Lib.hid hoa
    have R1 := Lib.hid hra
    clear hb1 hoa hra
    go_wp2_with fail
    refine (text_any Aa cs.length ca (zs cs) _ R1.out (by omega) HB32.out).mono ?_
    rintro e w2 ⟨rfl, hb2⟩
    rw [HBK.out]
    have T2 := Lib.hid (T1.out.keep hb2)
    have B2 := Lib.hid (B1.out.trans (hb2.mono B1.out.size))
    have O2 := Lib.hid (own_keep O1.out hb2)
    clear hb2 T1 B1 O1 R1
    go_wp2_with fail
    refine (C2.out _ T2.out).mono ?_
    rintro e wX ⟨rfl, hbX⟩
    have BX := Lib.hid (B2.out.trans (hbX.mono B2.out.size))
    have OX := Lib.hid (own_keep O2.out hbX)
    clear hbX T2 B2 O2
    go_wp2_with fail
    go_loopw [7] (fun i wr => ∃ (k : Nat) (xs : List Value), k ≤ cs.length ∧ i = .int .i64 (k : Int) ∧ wr.ownsRow w.heap.size 21 1 (.slice Aa cs.length ca) cs.length xs ∧ Below w.heap.size w wr) (fun i _ => cs.length - (intOf i).toNat)
    case atStart => exact ⟨0, _, Nat.zero_le _, rfl, OX.out, BX.out⟩
    case round =>
      obtain ⟨j, xs, hj, rfl, hoY, hbY⟩ := hrel
      have BL := Lib.hid hbY
      have HOY := Lib.hid hoY
      clear hbY hoY
      by_cases hjlt : j < cs.length
      · obtain ⟨g, cap, hv, hgb, hglt⟩ := HOY.out.form (by omega)
        injection hv with e1 e2 e3
        subst e1 e3
        have hoY := HOY.out
        have hcj := hoY.cellAt j (by omega)
        have hfj := hoY.frozenAt j
        have hxl := hoY.1
        have hst' := hoY.stored j (.int .i32 (-1))
        rw [List.getElem?_eq_getElem (by omega)] at hcj
        generalize xs[j]'(by omega) = old at hcj
        have HST' := Lib.hid hst'
        have j1 : (j : Int) < (cs.length : Int) := by omega
        have hadd : (⟨g, 0, none⟩ : Addr).add j = ⟨g, j, none⟩ := by unfold Addr.add; by_cases h : j = 0 <;> simp [h]
        clear hst' hoY hxl
        go_wp2_with fail
        go_roundw
        case rel => exact ⟨j + 1, _, by omega, by go_num, HST'.out.1, BL.out.setCell (p := ⟨g, j, none⟩) hgb _⟩
        case measure => simp [intOf]; omega
      · have j1 : ¬ (j : Int) < (cs.length : Int) := by omega
        go_wp2_with fail
        go_loopw [8, 9] (fun o1 i1 wr => WRel w l o1 i1 wr) (fun _ i _ => n - (intOf i).toNat)
        case atStart => exact ⟨0, Nat.zero_le _, rfl, World.ownsRow_nil _ _ _ _, BL.out⟩
        case round =>
          obtain ⟨k, hk, rfl, hown, hbel⟩ := hrel
          have hln := HL.out
          by_cases hlt : k < n
          · obtain ⟨ad, rfl, hb0, hc0⟩ := L0.out.at_ hlt
            have hc1 := (hbel.cell (p := ad.add k) (by rw [block_of_add]; exact hb0)).trans hc0
            obtain ⟨z, hz⟩ : ∃ z, z = l.getD k 0 := ⟨_, rfl⟩
            rw [← hz] at hc1
            have HSN := Lib.hid (zs_valid_snoc l k (by omega) z hz)
            have hZl : (zs (chars (l.take k))).length ≤ 1000 := by
              rw [zs_length]
              have := chars_len (l.take k)
              rw [List.length_take] at this
              omega
            generalize hZ : zs (chars (l.take k)) = Z at hown hZl
            have HZ := Lib.hid hZ
            have HO := Lib.hid hown
            have g2 : (k : Int) < (n : Int) := by omega
            clear hz hc0 hln hown hZ
            by_cases q1 : 0 ≤ z
            · by_cases q2 : z ≤ 1114111
              · by_cases q3 : z < 55296
                · skip

                  have HV := Lib.hid (show Lib.validRune z = true by unfold Lib.validRune; rw [decide_eq_true_eq]; omega)
                  have O1 := Lib.hid HO.out
                  go_wp2_with (at_builtin; refine wpList_append_any _ rfl (.tmp 79) (.tmp 84) _ rfl w.heap.size 21 i0 _ 1 4 Tryd.underlying22 HI.out hz0 hz1 hz2 rfl (by decide) _ _ _ rfl (HO.out.alloc _) _ _ _ _ _ rfl (Reads.lit _ _ _ _ _ _ rfl rfl) (by intro u hu; simp at hu; subst hu; rfl) (by unfold maxLen; omega) (by omega) (by have := hbel.size; simp; omega) ?_; intro v' w2 hown' hgr hat')
                  have B2 := Lib.hid (own_below (hbel.alloc hbel.size _) (Nat.le_refl _) (HO.out.alloc _) (Nat.le_refl _) hgr)
                  have O2 := Lib.hid (show w2.ownsRow w.heap.size 21 1 v' (zs (chars (l.take (k + 1)))).length (is .i32 (zs (chars (l.take (k + 1))))) by
                    have e : zs (chars (l.take (k + 1))) = Z ++ [z] := by rw [HSN.out, if_pos HV.out, HZ.out]
                    rw [e, List.length_append, is_append]; exact hown')
                  clear hown' hgr hat' O1
                  go_wp2_with fail
                  go_roundw
                  case rel => exact ⟨k + 1, by have := HL.out; omega, by go_num, O2.out, B2.out⟩
                  case measure => simp [intOf]; omega
                · by_cases q4 : 57343 < z
                  · skip

                    have HV := Lib.hid (show Lib.validRune z = true by unfold Lib.validRune; rw [decide_eq_true_eq]; omega)
                    have O1 := Lib.hid HO.out
                    go_wp2_with (at_builtin; refine wpList_append_any _ rfl (.tmp 79) (.tmp 84) _ rfl w.heap.size 21 i0 _ 1 4 Tryd.underlying22 HI.out hz0 hz1 hz2 rfl (by decide) _ _ _ rfl (HO.out.alloc _) _ _ _ _ _ rfl (Reads.lit _ _ _ _ _ _ rfl rfl) (by intro u hu; simp at hu; subst hu; rfl) (by unfold maxLen; omega) (by omega) (by have := hbel.size; simp; omega) ?_; intro v' w2 hown' hgr hat')
                    have B2 := Lib.hid (own_below (hbel.alloc hbel.size _) (Nat.le_refl _) (HO.out.alloc _) (Nat.le_refl _) hgr)
                    have O2 := Lib.hid (show w2.ownsRow w.heap.size 21 1 v' (zs (chars (l.take (k + 1)))).length (is .i32 (zs (chars (l.take (k + 1))))) by
                      have e : zs (chars (l.take (k + 1))) = Z ++ [z] := by rw [HSN.out, if_pos HV.out, HZ.out]
                      rw [e, List.length_append, is_append]; exact hown')
                    clear hown' hgr hat' O1
                    go_wp2_with fail
                    go_roundw
                    case rel => exact ⟨k + 1, by have := HL.out; omega, by go_num, O2.out, B2.out⟩
                    case measure => simp [intOf]; omega
                  · skip

                    have HV := Lib.hid (show Lib.validRune z = false by unfold Lib.validRune; rw [decide_eq_false_iff_not]; omega)
                    go_wp2_with fail
                    go_roundw
                    case rel => exact ⟨k + 1, by have := HL.out; omega, by go_num, by rw [HSN.out, if_neg (by rw [HV.out]; decide), HZ.out]; exact HO.out, hbel⟩
                    case measure => simp [intOf]; omega
              · skip

                have HV := Lib.hid (show Lib.validRune z = false by unfold Lib.validRune; rw [decide_eq_false_iff_not]; omega)
                go_wp2_with fail
                go_roundw
                case rel => exact ⟨k + 1, by have := HL.out; omega, by go_num, by rw [HSN.out, if_neg (by rw [HV.out]; decide), HZ.out]; exact HO.out, hbel⟩
                case measure => simp [intOf]; omega
            · skip

              have HV := Lib.hid (show Lib.validRune z = false by unfold Lib.validRune; rw [decide_eq_false_iff_not]; omega)
              go_wp2_with fail
              go_roundw
              case rel => exact ⟨k + 1, by have := HL.out; omega, by go_num, by rw [HSN.out, if_neg (by rw [HV.out]; decide), HZ.out]; exact HO.out, hbel⟩
              case measure => simp [intOf]; omega
          · have hO := hown
            rw [List.take_of_length_le (by omega)] at hO
            obtain ⟨Aw, cw, rfl, hrw, _⟩ := own_ints hO
            have WE := Lib.hid hrw
            have BE := Lib.hid hbel
            have TE := Lib.hid (T0.out.keep hbel)
            have LE := Lib.hid (L0.out.keep hbel)
            have hwl : (zs (chars l)).length ≤ 1000 := by rw [zs_length]; omega
            clear hO hrw hown hbel hln
            go_wp2_with fail
            refine (text_any A n c l _ LE.out (by omega) H32.out).mono ?_
            rintro e w21 ⟨rfl, hb21⟩
            clear LE
            have Tb_21 := Lib.hid (TE.out.keep hb21)
            clear TE
            have W_21 := Lib.hid (WE.out.keep hb21)
            clear WE
            have B_21 := Lib.hid (BE.out.trans (hb21.mono BE.out.size))
            clear BE
            clear hb21
            rw [← HST.out]
            go_wp2_with fail
            refine (C3.out _ Tb_21.out).mono ?_
            rintro e w22 ⟨hb22, he⟩
            have Tb_22 := Lib.hid (Tb_21.out.keep hb22)
            clear Tb_21
            have W_22 := Lib.hid (W_21.out.keep hb22)
            clear W_21
            have B_22 := Lib.hid (B_21.out.trans (hb22.mono B_21.out.size))
            clear B_21
            clear hb22
            obtain ⟨vb, rfl, hob⟩ := he
            obtain ⟨Ab, cb, rfl, hrb, _⟩ := own_ints hob
            have K := Lib.hid hrb
            clear hob hrb
            go_wp2_with fail
            refine (same_any Ab Aw (chars l).length cb (zs (chars l)).length cw (zs (chars l)) (zs (chars l)) _ K.out W_22.out (by omega)).mono ?_
            rintro e w23 ⟨rfl, hb23⟩
            clear K
            clear W_22
            have Tb_23 := Lib.hid (Tb_22.out.keep hb23)
            clear Tb_22
            have B_23 := Lib.hid (B_22.out.trans (hb23.mono B_22.out.size))
            clear B_22
            clear hb23
            rw [decide_eq_true (show zs (chars l) = zs (chars l) from rfl)]
            go_wp2_with fail
            refine (works_any _ Tb_23.out).mono ?_
            rintro e w24 ⟨rfl, hb24⟩
            have Tb_24 := Lib.hid (Tb_23.out.keep hb24)
            clear Tb_23
            have B_24 := Lib.hid (B_23.out.trans (hb24.mono B_23.out.size))
            clear B_23
            clear hb24
            go_wp2_with fail
            go_ret
            exact ⟨rfl, B_24.out⟩
end Go.Proofs.YtcnedljblljhoaaDoor.Utf
