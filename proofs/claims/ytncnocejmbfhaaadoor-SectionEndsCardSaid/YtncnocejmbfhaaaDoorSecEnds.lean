/-
  The walk of the law SectionEnds. Conditions: the arguments can be read, within the form's reach; the table of package crc holds its numbers. (Printed by gen/secguards.py.)
-/
import Derived.Test.YtncnocejmbfhaaaDoorSecSplits
namespace Go.Proofs.YtncnocejmbfhaaaDoor.Sec
open Go.RowKit Wd Cod Crc

theorem file_few {ps : List PV} (h5 : total (pts ps) ≤ 5000) (hc : chk (pts ps) = 0) : (file (pts ps)).length ≤ 1000000 := by
  obtain ⟨h1, h2, h3, _⟩ := chk_zero hc
  have e : ∀ l : List Pt, (∀ p ∈ l, nameB p.name = true) → (l.flatMap hd).length ≤ 40 * l.length ∧ (l.flatMap Pt.data).length = total l := by
    intro l
    induction l with
    | nil => intro _; simp [total]
    | cons p l ih =>
      intro h
      obtain ⟨a, b⟩ := ih (fun q hq => h q (by simp [hq]))
      have c := hd_len p (nameB_size (h p (by simp))).2
      rw [List.flatMap_cons, List.flatMap_cons, List.length_append, List.length_append, List.length_cons, total_cons]
      omega
  obtain ⟨a, b⟩ := e _ h3
  have c := put_len (pts ps).length
  rw [file_length]
  unfold body
  rw [List.length_append, List.length_append, List.length_append, magic_length, b]
  omega
theorem ends_pre {l : List Pt} (h : ∀ m x y, chk m = 0 → file l ++ x = file m ++ y → l = m ∧ x = y) (k z : Nat) (m : List Pt) (n : Nat) (hk : k < (file l).length) (hn : m.length = n) (hs : Spl ((file l).take k) z m) : (z = 5 ∨ z = 11) ∧ n = 0 := by
  rcases hs.cases with ⟨_, hm, hf⟩ | ⟨hz, rfl⟩
  · exfalso
    have e : file l ++ [] = file m ++ (file l).drop k := by rw [hf, List.take_append_drop, List.append_nil]
    have h1 := congrArg List.length (h m _ _ hm e).2
    rw [List.length_drop] at h1
    simp at h1
    omega
  · exact ⟨hz, by rw [← hn]; rfl⟩
theorem ends_post {l : List Pt} (h : ∀ m x y, chk m = 0 → file l ++ x = file m ++ y → l = m ∧ x = y) (l9 : List UInt8) (n9 z : Nat) (m : List Pt) (n : Nat) (h9 : l9.length = n9) (hn : m.length = n) (hs : Spl (file l ++ l9) z m) (h0 : ∀ c m, Spl (file l) c m → c = 0) :
    n9 = 0 ∧ z = 0 ∨ n9 ≠ 0 ∧ (z = 5 ∨ z = 11) ∧ n = 0 := by
  by_cases hz : n9 = 0
  · have e : l9 = [] := List.length_eq_zero_iff.1 (by omega)
    subst e
    rw [List.append_nil] at hs
    exact .inl ⟨hz, h0 _ _ hs⟩
  · rcases hs.cases with ⟨_, hm, hf⟩ | ⟨hz', rfl⟩
    · exfalso
      have e : file l ++ l9 = file m ++ [] := by rw [hf, List.append_nil]
      have h1 := congrArg List.length (h m _ _ hm e).2
      simp at h1
      rw [h1] at h9
      simp at h9
      omega
    · exact .inr ⟨hz, hz', by rw [← hn]; rfl⟩

set_option maxRecDepth 100000 in
set_option maxHeartbeats 4000000 in
theorem ends_any (A A9 : Option Addr) (n c n9 c9 : Nat) (ps : List PV) (l9 : List UInt8) (z1 : Int) (w : World) (ht : Tab w) (h : RP w A n ps) (hf : Fit ps) (hs9 : SB w A9 n9 c9 l9) (hn : n ≤ 140737488355328) (hn9 : n9 ≤ 140737488355328) (b1 : -9223372036854775808 ≤ z1 ∧ z1 ≤ 9223372036854775807) :
    Calls Tryd.prog 8 #[.slice A n c, .int .i64 z1, .slice A9 n9 c9] w fun e w' => e = .returned (.bool true) ∧ Below w.heap.size w w' := by
  obtain ⟨i0, hi, hz0, hz1, hz2⟩ := info_parts Tryd.infoU8
  have HI := Lib.hid hi
  have T_0 := Lib.hid ht
  have H_0 := Lib.hid h
  have M_0 := Lib.hid hs9
  have HL9 := Lib.hid hs9.rb.len
  have B_0 : Hid (Below w.heap.size w w) := Lib.hid (Below.refl _ _)
  have HFEW := Lib.hid (few_any A n c ps w h hf hn)
  clear ht h hn hs9 hi
  rcases hfew : fewB ps with _ | _
  · rw [hfew] at HFEW
    go_enter Tryd.func8, Tryd.ntmps8
    go_wp2_with fail
    refine HFEW.out.mono ?_
    rintro e wq ⟨rfl, rfl⟩
    go_wp2_with fail
    go_ret
    exact ⟨rfl, B_0.out⟩
  · rw [hfew] at HFEW
    obtain ⟨hroom, h80, h5, hnm⟩ := fewB_room hfew
    rw [H_0.out.len] at h80
    have HR := Lib.hid hroom
    have H5 := Lib.hid h5
    clear hroom h5 hnm hfew
    by_cases h100 : 100 < n9
    · have h100' : (100 : Int) < (n9 : Int) := by omega
      go_enter Tryd.func8, Tryd.ntmps8
      go_wp2_with fail
      refine HFEW.out.mono ?_
      rintro e wq ⟨rfl, rfl⟩
      go_wp2_with fail
      go_ret
      exact ⟨rfl, B_0.out⟩
    · have h100' : (n9 : Int) ≤ 100 := by omega
      go_enter Tryd.func8, Tryd.ntmps8
      go_wp2_with fail
      refine HFEW.out.mono ?_
      rintro e wq ⟨rfl, rfl⟩
      clear HFEW
      go_wp2_with fail
      refine (join_any A n c ps _ T_0.out H_0.out HR.out (by omega)).mono ?_
      rintro e w1 ⟨hb1, hj⟩
      have T_1 := Lib.hid (T_0.out.keep' hb1)
      have H_1 := Lib.hid (H_0.out.keep hb1)
      clear H_0
      have M_1 := Lib.hid (M_0.out.keep hb1)
      have B_1 := Lib.hid (B_0.out.trans (hb1.mono B_0.out.size))
      clear B_0
      clear hb1
      rcases hj with ⟨hck, v2, rfl, hown2⟩ | ⟨hck, rfl⟩
      · skip
        have HCAN := Lib.hid (fun m x y (hm : chk m = 0) (h : file (pts ps) ++ x = file m ++ y) => file_cancel (chk_small hck) (chk_small hm) h)
        have HFI := Lib.hid (fun c m (h : Spl (file (pts ps)) c m) => (Spl.file h hck).1)
        have hlen : (file (pts ps)).length ≤ 1000000 := file_few H5.out hck
        have hpos : 0 < (file (pts ps)).length := by have h1 := file_length (pts ps); omega
        obtain ⟨g, c2, rfl⟩ := own_some hown2 hpos
        have HPRE := Lib.hid (ends_pre HCAN.out)
        have HPOST := Lib.hid (ends_post HCAN.out)
        clear hck HCAN
        generalize file (pts ps) = F at hown2 hlen hpos HPRE HPOST HFI ⊢
        obtain ⟨N2, hN2⟩ : ∃ N, N = F.length := ⟨_, rfl⟩
        rw [← hN2] at hown2 hlen hpos ⊢
        have hs2 := own_sb1 hown2
        have hcap2 := hs2.cap
        have S2_n := Lib.hid hs2
        have HN2 := Lib.hid hN2
        clear hown2 hN2 hs2
        by_cases c1 : 0 ≤ z1 ∧ z1 < (N2 : Int)
        clear H_1
        · skip
          obtain ⟨k, rfl⟩ := Int.eq_ofNat_of_zero_le c1.1
          have i1 : (0 : Int) ≤ (k : Int) := c1.1
          have i2 : (k : Int) < (N2 : Int) := c1.2
          have i3 : (k : Int) ≤ (c2 : Int) := by omega
          go_wp2_with fail
          refine (split_any (some ⟨g, 0, none⟩) k c2 (F.take k) _ T_1.out ⟨RB.upto S2_n.out.rb (by omega), by omega, fun h => by cases h⟩ (by omega)).mono ?_
          rintro e w2ab ⟨hb2ab, A3, n3, c3, q3, z, rfl, hop, hn3, hc3, hr3, hspl⟩
          have T_2ab := Lib.hid (T_1.out.keep' hb2ab)
          clear T_1
          have M_2ab := Lib.hid (M_1.out.keep hb2ab)
          clear M_1
          have S2_2ab := Lib.hid (S2_n.out.keep hb2ab)
          clear S2_n
          have B_2ab := Lib.hid (B_1.out.trans (hb2ab.mono B_1.out.size))
          clear B_1
          clear hb2ab
          have hz : (z = 5 ∨ z = 11) ∧ n3 = 0 := HPRE.out k z (pts q3) n3 (by rw [← HN2.out]; omega) (by rw [pts_length, hop.len]) hspl
          obtain ⟨hz, rfl⟩ := hz
          clear hop hr3 hspl hn3
          rcases hz with rfl | rfl
          · skip
            go_wp2_with (at_builtin; first
              | (refine wpList_append_any _ rfl (.tmp 56) (.tmp 57) _ rfl w.heap.size 5 i0 _ 1 1 Tryd.underlying26 HI.out hz0 hz1 hz2 rfl (by decide) _ _ _ rfl (own_mono (own_empty _ _) B_2ab.out.size) _ (some ⟨g, 0, none⟩) N2 c2 (bs F) rfl (S2_2ab.out.rb.alloc _) (bs_one F) (by unfold maxLen; omega) (by omega) (by have := B_2ab.out.size; simp; omega) ?_; intro v6 w6 hown6 hg6 hat6; have O6 : Hid (w6.ownsRow w.heap.size 5 1 v6 N2 (bs F)) := Lib.hid (by simpa using hown6); have B6 : Hid (Below w.heap.size w w6) := Lib.hid (own_below (B_2ab.out.alloc B_2ab.out.size _) (Nat.le_refl _) (own_mono (own_empty _ _) B_2ab.out.size) (Nat.le_refl _) hg6); clear hown6 hg6 hat6)
              | (refine wpList_append_any _ rfl (.tmp 58) (.tmp 59) _ rfl w.heap.size 5 i0 _ 1 1 Tryd.underlying26 HI.out hz0 hz1 hz2 rfl (by decide) _ _ _ rfl O6.out _ A9 n9 c9 (bs l9) rfl (M_0.out.keep B6.out).rb (bs_one l9) (by unfold maxLen; omega) (by omega) B6.out.size ?_; intro v7 w7 hown7 hg7 hat7; have O7 : Hid (w7.ownsRow w.heap.size 5 1 v7 (N2 + n9) (bs (F ++ l9))) := Lib.hid (by rw [bs_append]; exact hown7); have B7 : Hid (Below w.heap.size w w7) := Lib.hid (own_below B6.out (Nat.le_refl _) O6.out (Nat.le_refl _) hg7); clear hown7 hg7 hat7))
            obtain ⟨A7, c7, rfl, hs7⟩ := own_sb O7.out
            have S7 := Lib.hid hs7
            have T7 := Lib.hid (T_0.out.keep' B7.out)
            clear hs7
            refine (split_any A7 (N2 + n9) c7 (F ++ l9) _ T7.out S7.out (by omega)).mono ?_
            rintro e w3abc ⟨hb3abc, A8, n8, c8, q8, z8, rfl, hop, hn8, hc8, hr8, hspl⟩
            have T_3abc := Lib.hid (T7.out.keep' hb3abc)
            clear T7
            have S7_3abc := Lib.hid (S7.out.keep hb3abc)
            clear S7
            have B_3abc := Lib.hid (B7.out.trans (hb3abc.mono B7.out.size))
            clear B7
            clear hb3abc
            have HP8 : Hid (n9 = 0 ∧ z8 = 0 ∨ n9 ≠ 0 ∧ (z8 = 5 ∨ z8 = 11) ∧ n8 = 0) := Lib.hid (HPOST.out l9 n9 z8 (pts q8) n8 HL9.out (by rw [pts_length, hop.len]) hspl HFI.out)
            clear hop hr8 hspl hn8
            rcases HP8.out with ⟨rfl, rfl⟩ | ⟨h9, hz, rfl⟩
            · skip
              go_wp2_with fail
              refine (works_any _ T_3abc.out).mono ?_
              rintro e w4abcp ⟨rfl, hb4abcp⟩
              have T_4abcp := Lib.hid (T_3abc.out.keep' hb4abcp)
              clear T_3abc
              have S7_4abcp := Lib.hid (S7_3abc.out.keep hb4abcp)
              clear S7_3abc
              have B_4abcp := Lib.hid (B_3abc.out.trans (hb4abcp.mono B_3abc.out.size))
              clear B_3abc
              clear hb4abcp
              go_wp2_with fail
              go_ret
              exact ⟨rfl, B_4abcp.out⟩
            · skip
              have h9' : ((n9 : Int) == 0) = false := by rw [beq_eq_false_iff_ne]; omega
              rcases hz with rfl | rfl
              · skip
                go_wp2_with fail
                refine (works_any _ T_3abc.out).mono ?_
                rintro e w4abcqr ⟨rfl, hb4abcqr⟩
                have T_4abcqr := Lib.hid (T_3abc.out.keep' hb4abcqr)
                clear T_3abc
                have S7_4abcqr := Lib.hid (S7_3abc.out.keep hb4abcqr)
                clear S7_3abc
                have B_4abcqr := Lib.hid (B_3abc.out.trans (hb4abcqr.mono B_3abc.out.size))
                clear B_3abc
                clear hb4abcqr
                go_wp2_with fail
                go_ret
                exact ⟨rfl, B_4abcqr.out⟩
              · skip
                go_wp2_with fail
                refine (works_any _ T_3abc.out).mono ?_
                rintro e w4abcqs ⟨rfl, hb4abcqs⟩
                have T_4abcqs := Lib.hid (T_3abc.out.keep' hb4abcqs)
                clear T_3abc
                have S7_4abcqs := Lib.hid (S7_3abc.out.keep hb4abcqs)
                clear S7_3abc
                have B_4abcqs := Lib.hid (B_3abc.out.trans (hb4abcqs.mono B_3abc.out.size))
                clear B_3abc
                clear hb4abcqs
                go_wp2_with fail
                go_ret
                exact ⟨rfl, B_4abcqs.out⟩
          · skip
            go_wp2_with (at_builtin; first
              | (refine wpList_append_any _ rfl (.tmp 56) (.tmp 57) _ rfl w.heap.size 5 i0 _ 1 1 Tryd.underlying26 HI.out hz0 hz1 hz2 rfl (by decide) _ _ _ rfl (own_mono (own_empty _ _) B_2ab.out.size) _ (some ⟨g, 0, none⟩) N2 c2 (bs F) rfl (S2_2ab.out.rb.alloc _) (bs_one F) (by unfold maxLen; omega) (by omega) (by have := B_2ab.out.size; simp; omega) ?_; intro v6 w6 hown6 hg6 hat6; have O6 : Hid (w6.ownsRow w.heap.size 5 1 v6 N2 (bs F)) := Lib.hid (by simpa using hown6); have B6 : Hid (Below w.heap.size w w6) := Lib.hid (own_below (B_2ab.out.alloc B_2ab.out.size _) (Nat.le_refl _) (own_mono (own_empty _ _) B_2ab.out.size) (Nat.le_refl _) hg6); clear hown6 hg6 hat6)
              | (refine wpList_append_any _ rfl (.tmp 58) (.tmp 59) _ rfl w.heap.size 5 i0 _ 1 1 Tryd.underlying26 HI.out hz0 hz1 hz2 rfl (by decide) _ _ _ rfl O6.out _ A9 n9 c9 (bs l9) rfl (M_0.out.keep B6.out).rb (bs_one l9) (by unfold maxLen; omega) (by omega) B6.out.size ?_; intro v7 w7 hown7 hg7 hat7; have O7 : Hid (w7.ownsRow w.heap.size 5 1 v7 (N2 + n9) (bs (F ++ l9))) := Lib.hid (by rw [bs_append]; exact hown7); have B7 : Hid (Below w.heap.size w w7) := Lib.hid (own_below B6.out (Nat.le_refl _) O6.out (Nat.le_refl _) hg7); clear hown7 hg7 hat7))
            obtain ⟨A7, c7, rfl, hs7⟩ := own_sb O7.out
            have S7 := Lib.hid hs7
            have T7 := Lib.hid (T_0.out.keep' B7.out)
            clear hs7
            refine (split_any A7 (N2 + n9) c7 (F ++ l9) _ T7.out S7.out (by omega)).mono ?_
            rintro e w3abd ⟨hb3abd, A8, n8, c8, q8, z8, rfl, hop, hn8, hc8, hr8, hspl⟩
            have T_3abd := Lib.hid (T7.out.keep' hb3abd)
            clear T7
            have S7_3abd := Lib.hid (S7.out.keep hb3abd)
            clear S7
            have B_3abd := Lib.hid (B7.out.trans (hb3abd.mono B7.out.size))
            clear B7
            clear hb3abd
            have HP8 : Hid (n9 = 0 ∧ z8 = 0 ∨ n9 ≠ 0 ∧ (z8 = 5 ∨ z8 = 11) ∧ n8 = 0) := Lib.hid (HPOST.out l9 n9 z8 (pts q8) n8 HL9.out (by rw [pts_length, hop.len]) hspl HFI.out)
            clear hop hr8 hspl hn8
            rcases HP8.out with ⟨rfl, rfl⟩ | ⟨h9, hz, rfl⟩
            · skip
              go_wp2_with fail
              refine (works_any _ T_3abd.out).mono ?_
              rintro e w4abdp ⟨rfl, hb4abdp⟩
              have T_4abdp := Lib.hid (T_3abd.out.keep' hb4abdp)
              clear T_3abd
              have S7_4abdp := Lib.hid (S7_3abd.out.keep hb4abdp)
              clear S7_3abd
              have B_4abdp := Lib.hid (B_3abd.out.trans (hb4abdp.mono B_3abd.out.size))
              clear B_3abd
              clear hb4abdp
              go_wp2_with fail
              go_ret
              exact ⟨rfl, B_4abdp.out⟩
            · skip
              have h9' : ((n9 : Int) == 0) = false := by rw [beq_eq_false_iff_ne]; omega
              rcases hz with rfl | rfl
              · skip
                go_wp2_with fail
                refine (works_any _ T_3abd.out).mono ?_
                rintro e w4abdqr ⟨rfl, hb4abdqr⟩
                have T_4abdqr := Lib.hid (T_3abd.out.keep' hb4abdqr)
                clear T_3abd
                have S7_4abdqr := Lib.hid (S7_3abd.out.keep hb4abdqr)
                clear S7_3abd
                have B_4abdqr := Lib.hid (B_3abd.out.trans (hb4abdqr.mono B_3abd.out.size))
                clear B_3abd
                clear hb4abdqr
                go_wp2_with fail
                go_ret
                exact ⟨rfl, B_4abdqr.out⟩
              · skip
                go_wp2_with fail
                refine (works_any _ T_3abd.out).mono ?_
                rintro e w4abdqs ⟨rfl, hb4abdqs⟩
                have T_4abdqs := Lib.hid (T_3abd.out.keep' hb4abdqs)
                clear T_3abd
                have S7_4abdqs := Lib.hid (S7_3abd.out.keep hb4abdqs)
                clear S7_3abd
                have B_4abdqs := Lib.hid (B_3abd.out.trans (hb4abdqs.mono B_3abd.out.size))
                clear B_3abd
                clear hb4abdqs
                go_wp2_with fail
                go_ret
                exact ⟨rfl, B_4abdqs.out⟩
        · skip
          have hc : z1 < 0 ∨ (N2 : Int) ≤ z1 := by omega
          clear c1
          rcases hc with hc | hc
          · skip
            go_wp2_with (at_builtin; first
              | (refine wpList_append_any _ rfl (.tmp 56) (.tmp 57) _ rfl w.heap.size 5 i0 _ 1 1 Tryd.underlying26 HI.out hz0 hz1 hz2 rfl (by decide) _ _ _ rfl (own_mono (own_empty _ _) B_1.out.size) _ (some ⟨g, 0, none⟩) N2 c2 (bs F) rfl (S2_n.out.rb.alloc _) (bs_one F) (by unfold maxLen; omega) (by omega) (by have := B_1.out.size; simp; omega) ?_; intro v6 w6 hown6 hg6 hat6; have O6 : Hid (w6.ownsRow w.heap.size 5 1 v6 N2 (bs F)) := Lib.hid (by simpa using hown6); have B6 : Hid (Below w.heap.size w w6) := Lib.hid (own_below (B_1.out.alloc B_1.out.size _) (Nat.le_refl _) (own_mono (own_empty _ _) B_1.out.size) (Nat.le_refl _) hg6); clear hown6 hg6 hat6)
              | (refine wpList_append_any _ rfl (.tmp 58) (.tmp 59) _ rfl w.heap.size 5 i0 _ 1 1 Tryd.underlying26 HI.out hz0 hz1 hz2 rfl (by decide) _ _ _ rfl O6.out _ A9 n9 c9 (bs l9) rfl (M_0.out.keep B6.out).rb (bs_one l9) (by unfold maxLen; omega) (by omega) B6.out.size ?_; intro v7 w7 hown7 hg7 hat7; have O7 : Hid (w7.ownsRow w.heap.size 5 1 v7 (N2 + n9) (bs (F ++ l9))) := Lib.hid (by rw [bs_append]; exact hown7); have B7 : Hid (Below w.heap.size w w7) := Lib.hid (own_below B6.out (Nat.le_refl _) O6.out (Nat.le_refl _) hg7); clear hown7 hg7 hat7))
            obtain ⟨A7, c7, rfl, hs7⟩ := own_sb O7.out
            have S7 := Lib.hid hs7
            have T7 := Lib.hid (T_0.out.keep' B7.out)
            clear hs7
            refine (split_any A7 (N2 + n9) c7 (F ++ l9) _ T7.out S7.out (by omega)).mono ?_
            rintro e w2aef ⟨hb2aef, A8, n8, c8, q8, z8, rfl, hop, hn8, hc8, hr8, hspl⟩
            have T_2aef := Lib.hid (T7.out.keep' hb2aef)
            clear T7
            have S7_2aef := Lib.hid (S7.out.keep hb2aef)
            clear S7
            have B_2aef := Lib.hid (B7.out.trans (hb2aef.mono B7.out.size))
            clear B7
            clear hb2aef
            have HP8 : Hid (n9 = 0 ∧ z8 = 0 ∨ n9 ≠ 0 ∧ (z8 = 5 ∨ z8 = 11) ∧ n8 = 0) := Lib.hid (HPOST.out l9 n9 z8 (pts q8) n8 HL9.out (by rw [pts_length, hop.len]) hspl HFI.out)
            clear hop hr8 hspl hn8
            rcases HP8.out with ⟨rfl, rfl⟩ | ⟨h9, hz, rfl⟩
            · skip
              go_wp2_with fail
              refine (works_any _ T_2aef.out).mono ?_
              rintro e w3aefp ⟨rfl, hb3aefp⟩
              have T_3aefp := Lib.hid (T_2aef.out.keep' hb3aefp)
              clear T_2aef
              have S7_3aefp := Lib.hid (S7_2aef.out.keep hb3aefp)
              clear S7_2aef
              have B_3aefp := Lib.hid (B_2aef.out.trans (hb3aefp.mono B_2aef.out.size))
              clear B_2aef
              clear hb3aefp
              go_wp2_with fail
              go_ret
              exact ⟨rfl, B_3aefp.out⟩
            · skip
              have h9' : ((n9 : Int) == 0) = false := by rw [beq_eq_false_iff_ne]; omega
              rcases hz with rfl | rfl
              · skip
                go_wp2_with fail
                refine (works_any _ T_2aef.out).mono ?_
                rintro e w3aefqr ⟨rfl, hb3aefqr⟩
                have T_3aefqr := Lib.hid (T_2aef.out.keep' hb3aefqr)
                clear T_2aef
                have S7_3aefqr := Lib.hid (S7_2aef.out.keep hb3aefqr)
                clear S7_2aef
                have B_3aefqr := Lib.hid (B_2aef.out.trans (hb3aefqr.mono B_2aef.out.size))
                clear B_2aef
                clear hb3aefqr
                go_wp2_with fail
                go_ret
                exact ⟨rfl, B_3aefqr.out⟩
              · skip
                go_wp2_with fail
                refine (works_any _ T_2aef.out).mono ?_
                rintro e w3aefqs ⟨rfl, hb3aefqs⟩
                have T_3aefqs := Lib.hid (T_2aef.out.keep' hb3aefqs)
                clear T_2aef
                have S7_3aefqs := Lib.hid (S7_2aef.out.keep hb3aefqs)
                clear S7_2aef
                have B_3aefqs := Lib.hid (B_2aef.out.trans (hb3aefqs.mono B_2aef.out.size))
                clear B_2aef
                clear hb3aefqs
                go_wp2_with fail
                go_ret
                exact ⟨rfl, B_3aefqs.out⟩
          · skip
            have hc' : (0 : Int) ≤ z1 := by omega
            go_wp2_with (at_builtin; first
              | (refine wpList_append_any _ rfl (.tmp 56) (.tmp 57) _ rfl w.heap.size 5 i0 _ 1 1 Tryd.underlying26 HI.out hz0 hz1 hz2 rfl (by decide) _ _ _ rfl (own_mono (own_empty _ _) B_1.out.size) _ (some ⟨g, 0, none⟩) N2 c2 (bs F) rfl (S2_n.out.rb.alloc _) (bs_one F) (by unfold maxLen; omega) (by omega) (by have := B_1.out.size; simp; omega) ?_; intro v6 w6 hown6 hg6 hat6; have O6 : Hid (w6.ownsRow w.heap.size 5 1 v6 N2 (bs F)) := Lib.hid (by simpa using hown6); have B6 : Hid (Below w.heap.size w w6) := Lib.hid (own_below (B_1.out.alloc B_1.out.size _) (Nat.le_refl _) (own_mono (own_empty _ _) B_1.out.size) (Nat.le_refl _) hg6); clear hown6 hg6 hat6)
              | (refine wpList_append_any _ rfl (.tmp 58) (.tmp 59) _ rfl w.heap.size 5 i0 _ 1 1 Tryd.underlying26 HI.out hz0 hz1 hz2 rfl (by decide) _ _ _ rfl O6.out _ A9 n9 c9 (bs l9) rfl (M_0.out.keep B6.out).rb (bs_one l9) (by unfold maxLen; omega) (by omega) B6.out.size ?_; intro v7 w7 hown7 hg7 hat7; have O7 : Hid (w7.ownsRow w.heap.size 5 1 v7 (N2 + n9) (bs (F ++ l9))) := Lib.hid (by rw [bs_append]; exact hown7); have B7 : Hid (Below w.heap.size w w7) := Lib.hid (own_below B6.out (Nat.le_refl _) O6.out (Nat.le_refl _) hg7); clear hown7 hg7 hat7))
            obtain ⟨A7, c7, rfl, hs7⟩ := own_sb O7.out
            have S7 := Lib.hid hs7
            have T7 := Lib.hid (T_0.out.keep' B7.out)
            clear hs7
            refine (split_any A7 (N2 + n9) c7 (F ++ l9) _ T7.out S7.out (by omega)).mono ?_
            rintro e w2aeg ⟨hb2aeg, A8, n8, c8, q8, z8, rfl, hop, hn8, hc8, hr8, hspl⟩
            have T_2aeg := Lib.hid (T7.out.keep' hb2aeg)
            clear T7
            have S7_2aeg := Lib.hid (S7.out.keep hb2aeg)
            clear S7
            have B_2aeg := Lib.hid (B7.out.trans (hb2aeg.mono B7.out.size))
            clear B7
            clear hb2aeg
            have HP8 : Hid (n9 = 0 ∧ z8 = 0 ∨ n9 ≠ 0 ∧ (z8 = 5 ∨ z8 = 11) ∧ n8 = 0) := Lib.hid (HPOST.out l9 n9 z8 (pts q8) n8 HL9.out (by rw [pts_length, hop.len]) hspl HFI.out)
            clear hop hr8 hspl hn8
            rcases HP8.out with ⟨rfl, rfl⟩ | ⟨h9, hz, rfl⟩
            · skip
              go_wp2_with fail
              refine (works_any _ T_2aeg.out).mono ?_
              rintro e w3aegp ⟨rfl, hb3aegp⟩
              have T_3aegp := Lib.hid (T_2aeg.out.keep' hb3aegp)
              clear T_2aeg
              have S7_3aegp := Lib.hid (S7_2aeg.out.keep hb3aegp)
              clear S7_2aeg
              have B_3aegp := Lib.hid (B_2aeg.out.trans (hb3aegp.mono B_2aeg.out.size))
              clear B_2aeg
              clear hb3aegp
              go_wp2_with fail
              go_ret
              exact ⟨rfl, B_3aegp.out⟩
            · skip
              have h9' : ((n9 : Int) == 0) = false := by rw [beq_eq_false_iff_ne]; omega
              rcases hz with rfl | rfl
              · skip
                go_wp2_with fail
                refine (works_any _ T_2aeg.out).mono ?_
                rintro e w3aegqr ⟨rfl, hb3aegqr⟩
                have T_3aegqr := Lib.hid (T_2aeg.out.keep' hb3aegqr)
                clear T_2aeg
                have S7_3aegqr := Lib.hid (S7_2aeg.out.keep hb3aegqr)
                clear S7_2aeg
                have B_3aegqr := Lib.hid (B_2aeg.out.trans (hb3aegqr.mono B_2aeg.out.size))
                clear B_2aeg
                clear hb3aegqr
                go_wp2_with fail
                go_ret
                exact ⟨rfl, B_3aegqr.out⟩
              · skip
                go_wp2_with fail
                refine (works_any _ T_2aeg.out).mono ?_
                rintro e w3aegqs ⟨rfl, hb3aegqs⟩
                have T_3aegqs := Lib.hid (T_2aeg.out.keep' hb3aegqs)
                clear T_2aeg
                have S7_3aegqs := Lib.hid (S7_2aeg.out.keep hb3aegqs)
                clear S7_2aeg
                have B_3aegqs := Lib.hid (B_2aeg.out.trans (hb3aegqs.mono B_2aeg.out.size))
                clear B_2aeg
                clear hb3aegqs
                go_wp2_with fail
                go_ret
                exact ⟨rfl, B_3aegqs.out⟩
      · skip
        have hne := ne_bool hck
        clear hck
        generalize chk (pts ps) = z at hne
        go_wp2_with fail
        refine (works_any _ T_1.out).mono ?_
        rintro e w2z ⟨rfl, hb2z⟩
        have T_2z := Lib.hid (T_1.out.keep' hb2z)
        clear T_1
        have H_2z := Lib.hid (H_1.out.keep hb2z)
        clear H_1
        have M_2z := Lib.hid (M_1.out.keep hb2z)
        clear M_1
        have B_2z := Lib.hid (B_1.out.trans (hb2z.mono B_1.out.size))
        clear B_1
        clear hb2z
        go_wp2_with fail
        go_ret
        exact ⟨rfl, B_2z.out⟩
end Go.Proofs.YtncnocejmbfhaaaDoor.Sec
