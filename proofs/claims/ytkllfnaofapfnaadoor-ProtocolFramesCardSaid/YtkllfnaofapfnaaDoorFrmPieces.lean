/-
  The contract of ProtocolPieces: what Unframe returns for some bytes is the beginning of what it returns for more. Conditions: the bytes can be read, within the form's reach; the two tables of unicode/utf8 lie as their initialisers lay them. (Printed by gen/frmpieces.py.)
-/
import Derived.Test.YtkllfnaofapfnaaDoorProtWorks
import Derived.Test.YtkllfnaofapfnaaDoorFrmLaw0
namespace Go.Proofs.YtkllfnaofapfnaaDoor.Frm
open Go.RowKit Wd Cod Utf

theorem SB.upto {w : World} {A : Option Addr} {n c k : Nat} {l : List UInt8} (h : SB w A n c l) (hk : k ≤ n) : SB w A k c (l.take k) := by
  have hc := h.cap
  have := Reads.upto h.rb hk
  rw [Nat.mul_one, bs_take] at this
  exact ⟨this, by omega, h.nil⟩
theorem SB.last {w : World} {A : Option Addr} {c : Nat} {l : List UInt8} (h : l.length = 0) (hA : A = none → c = 0) : SB w A 0 c l := by
  obtain rfl := List.length_eq_zero_iff.1 h
  exact ⟨⟨rfl, fun h => absurd h (by omega)⟩, Nat.zero_le _, hA⟩
theorem OL.form2 {lo : Nat} {w : World} {v : Value} {ps : List BV} (h : OL lo w v ps) : ∃ A c, v = .slice A ps.length c ∧ RL w A ps.length ps ∧ ps.length ≤ c ∧ (A = none → c = 0) := by
  obtain ⟨A, c, rfl, hr, hc⟩ := h.form
  refine ⟨A, c, rfl, hr, hc, fun hA => ?_⟩
  subst hA
  rcases h.row.2 with ⟨e, _⟩ | ⟨g, cap, cur, e, _⟩
  · injection e
  · injection e with e1; cases e1
theorem cs_take (ps : List BV) (k : Nat) : (cs ps).take k = cs (ps.take k) := by simp [cs, List.map_take]
theorem cs_drop (ps : List BV) (k : Nat) : (cs ps).drop k = cs (ps.drop k) := by simp [cs, List.map_drop]
theorem RL.upto {w : World} {A : Option Addr} {n k : Nat} {ps : List BV} (h : RL w A n ps) (hk : k ≤ n) : RL w A k (ps.take k) := by
  have := Reads.upto h.1 hk
  rw [Nat.mul_one, cs_take] at this
  exact ⟨this, fun p hp => h.2 p (List.mem_of_mem_take hp)⟩
theorem RL.mid {w : World} {ad : Addr} {n c k : Nat} {ps : List BV} (h : RL w (some ad) n ps) (hk : k ≤ n) (hc : n ≤ c) (hck : ¬ c = k) : RL w (some (ad.add k)) (n - k) (ps.drop k) := by
  have := Reads.cut h.1 hk hc
  rw [Nat.mul_one, cs_drop, if_neg hck] at this
  exact ⟨this, fun p hp => h.2 p (List.mem_of_mem_drop hp)⟩
theorem ms_drop (ps : List BV) (k : Nat) : ms (ps.drop k) = (ms ps).drop k := by simp [ms, List.map_drop]
theorem ms_takek (ps : List BV) (k : Nat) : ms (ps.take k) = (ms ps).take k := by simp [ms, List.map_take]
theorem unf_len : ∀ (m : Nat) (l : List UInt8), l.length ≤ m → ∀ x n, unf l = some (x, n) → x.length ≤ n ∧ n ≤ l.length
  | m, l, hm, x, n, h => by
    by_cases h4 : 4 ≤ l.length
    · by_cases hb : 1048576 < len4 l
      · rw [unf_big h4 hb] at h; cases h
      · by_cases hl : l.length < 4 + len4 l
        · rw [unf_part h4 (by omega) hl] at h
          injection h with h
          injection h with h1 h2
          subst h1 h2
          exact ⟨Nat.zero_le _, Nat.zero_le _⟩
        · rw [unf_more h4 (by omega) (by omega)] at h
          rcases hu : unf (l.drop (4 + len4 l)) with _ | ⟨x', n'⟩
          · rw [hu] at h; cases h
          · rw [hu] at h
            simp only [pre, Option.map_some, Option.some.injEq, Prod.mk.injEq] at h
            obtain ⟨rfl, rfl⟩ := h
            obtain ⟨i1, i2⟩ := unf_len (m - 1) (l.drop (4 + len4 l)) (by rw [List.length_drop]; omega) x' n' hu
            rw [List.length_drop] at i2
            simp only [List.length_append, List.length_cons, List.length_nil]
            exact ⟨by omega, by omega⟩
    · rw [unf_short (by omega)] at h
      injection h with h
      injection h with h1 h2
      subst h1 h2
      exact ⟨Nat.zero_le _, Nat.zero_le _⟩
termination_by _ l => l.length
decreasing_by rw [List.length_drop]; omega
/-- bytes in two pieces -/
theorem two_none {l : List UInt8} {k : Nat} (h : unf (l.take k) = none) : unf l = none := by
  have := (unf_split (l.drop k) (l.take k).length (l.take k) (Nat.le_refl _)).1 h
  rw [List.take_append_drop] at this
  exact this
theorem two_some {l : List UInt8} {k n : Nat} {x : List (List UInt8)} (h : unf (l.take k) = some (x, n)) : n ≤ (l.take k).length ∧ unf l = pre x n (unf (l.drop n)) := by
  have := (unf_split (l.drop k) (l.take k).length (l.take k) (Nat.le_refl _)).2 x n h
  rw [List.take_append_drop] at this
  exact this
set_option maxRecDepth 100000 in
set_option maxHeartbeats 4000000 in
theorem pieces_any (A0 : Option Addr) (n0 c0 : Nat) (l0 : List UInt8) (z1 : Int) (w : World) (hT : Tabs w) (h0 : SB w A0 n0 c0 l0) (hn0 : n0 ≤ 140737488355328) (hz1 : -9223372036854775808 ≤ z1) (hz2 : z1 ≤ 9223372036854775807) :
    Calls Tryd.prog 8 #[.slice A0 n0 c0, .int .i64 z1] w fun e w' => e = .returned (.bool true) ∧ Below w.heap.size w w' := by
  have HT := Lib.hid hT
  have H0 := Lib.hid h0
  have hl0 := h0.rb.len
  have hcap := h0.cap
  have hnil := h0.nil
  have HNIL := Lib.hid hnil
  have HL0 := Lib.hid hl0
  clear hT h0 hnil hl0
  by_cases hb : n0 ≤ 100000
  · have hb' : (n0 : Int) ≤ 100000 := by omega
    by_cases hk : 0 ≤ z1 ∧ z1 ≤ (n0 : Int)
    · obtain ⟨k, rfl⟩ : ∃ k : Nat, z1 = (k : Int) := Int.eq_ofNat_of_zero_le hk.1
      have hkn : k ≤ n0 := by omega
      have hkI : (k : Int) ≤ (n0 : Int) := by omega
      have hkc : (k : Int) ≤ (c0 : Int) := by omega
      clear hk hz1 hz2
      have hlt : (l0.take k).length = k := by rw [List.length_take, HL0.out]; omega
      have HLT := Lib.hid hlt
      clear hlt
      go_enter Tryd.func8, Tryd.ntmps8
      go_wp2_with fail
      refine (unframe_any A0 k c0 (l0.take k) _ (SB.upto H0.out hkn) (by omega)).mono ?_
      rintro e w1 ⟨hb1, hu1⟩
      have B1 := Lib.hid hb1
      have HU1 := Lib.hid hu1
      clear hb1 hu1
      rcases HU1.out with ⟨hn1, rfl⟩ | ⟨v1, ps, n1, hs1, rfl, ho1⟩
      · have HF := Lib.hid (two_none hn1)
        clear hn1 HU1
        go_wp2_with fail
        refine (unframe_any A0 n0 c0 l0 _ (H0.out.keep B1.out) (by omega)).mono ?_
        rintro e w2 ⟨hb2, ⟨hn2, rfl⟩ | ⟨v2, qs, n2, hs2, _⟩⟩
        case inr => rw [HF.out] at hs2; cases hs2
        have B2 : Hid (Below w.heap.size w w2) := Lib.hid (B1.out.trans (hb2.mono B1.out.size))
        clear hb2 hn2
        go_wp2_with fail
        with_reducible refine (Prot.works_any _ (HT.out.keep B2.out)).mono ?_
        rintro e w9 ⟨rfl, hb9⟩
        have B9 : Hid (Below w.heap.size w w9) := Lib.hid (B2.out.trans (hb9.mono B2.out.size))
        clear hb9
        go_wp2_with fail
        go_ret
        exact ⟨rfl, B9.out⟩
      · obtain ⟨hle, hpre⟩ := two_some hs1
        rw [HLT.out] at hle
        have hleI : (n1 : Int) ≤ (k : Int) := by omega
        have HPRE := Lib.hid hpre
        obtain ⟨A1, d1, rfl, hr1, _⟩ := ho1.form
        have R1 := Lib.hid hr1
        clear hs1 hpre ho1 hr1 HU1
        go_wp2_with fail
        refine (unframe_any A0 n0 c0 l0 _ (H0.out.keep B1.out) (by omega)).mono ?_
        rintro e w2 ⟨hb2, hu2⟩
        have HU2 := Lib.hid hu2
        have R2 := Lib.hid (R1.out.keep hb2)
        have B2 : Hid (Below w.heap.size w w2) := Lib.hid (B1.out.trans (hb2.mono B1.out.size))
        clear hb2 hu2 R1 B1
        by_cases hcn : c0 = n1
        · have hnn : n1 = n0 := by omega
          have hkk : n1 = k := by omega
          have hcc : n1 = c0 := by omega
          clear hkI hkc hleI hcap hkn hle hcn
          subst hcc
          subst hnn
          subst hkk
          have HDL : Hid ((l0.drop n1).length = 0) := Lib.hid (by rw [List.length_drop, HL0.out]; omega)
          rcases hx : unf (l0.drop n1) with _ | ⟨y, n3⟩
          · have HE : Hid (unf l0 = none) := Lib.hid (by rw [HPRE.out, hx, pre_none])
            have HX := Lib.hid hx
            clear hx
            rcases HU2.out with ⟨_, rfl⟩ | ⟨v2, qs, n2, hs2, _, _⟩
            case inr => rw [HE.out] at hs2; cases hs2
            clear HU2
            go_wp2_with fail
            refine (unframe_any A0 0 0 (l0.drop n1) _ (SB.last HDL.out (fun _ => rfl)) (by omega)).mono ?_
            rintro e w3 ⟨hb3, ⟨_, rfl⟩ | ⟨v3, rs, n3, hs3, _⟩⟩
            case inr => rw [HX.out] at hs3; cases hs3
            have B3 : Hid (Below w.heap.size w w3) := Lib.hid (B2.out.trans (hb3.mono B2.out.size))
            clear hb3
            go_wp2_with fail
            with_reducible refine (Prot.works_any _ (HT.out.keep B3.out)).mono ?_
            rintro e w9 ⟨rfl, hb9⟩
            have B9 : Hid (Below w.heap.size w w9) := Lib.hid (B3.out.trans (hb9.mono B3.out.size))
            clear hb9
            go_wp2_with fail
            go_ret
            exact ⟨rfl, B9.out⟩
          · have HE : Hid (unf l0 = some (ms ps ++ y, n1 + n3)) := Lib.hid (by rw [HPRE.out, hx]; rfl)
            have HX := Lib.hid hx
            clear hx
            rcases HU2.out with ⟨hn2, _⟩ | ⟨v2, qs, n2, hs2, rfl, ho2⟩
            · rw [HE.out] at hn2; cases hn2
            rw [HE.out] at hs2
            injection hs2 with hs2
            injection hs2 with hq hn
            obtain ⟨A2, d2, rfl, hr2, hd2, hnil2⟩ := OL.form2 ho2
            have R3 := Lib.hid hr2
            have HQ := Lib.hid hq.symm
            have HN2 := Lib.hid hnil2
            have HNN := Lib.hid hn
            clear hq ho2 hr2 HU2 hnil2 hn
            go_wp2_with fail
            refine (unframe_any A0 0 0 (l0.drop n1) _ (SB.last HDL.out (fun _ => rfl)) (by omega)).mono ?_
            rintro e w3 ⟨hb3, ⟨hn3, _⟩ | ⟨v3, rs, n3', hs3, rfl, ho3⟩⟩
            · rw [HX.out] at hn3; cases hn3
            rw [HX.out] at hs3
            injection hs3 with hs3
            injection hs3 with hr hn3
            subst hn3
            have B3 : Hid (Below w.heap.size w w3) := Lib.hid (B2.out.trans (hb3.mono B2.out.size))
            have R4 := Lib.hid (R2.out.keep hb3)
            have R5 := Lib.hid (R3.out.keep hb3)
            obtain ⟨A3, d3, rfl, hr3, _⟩ := ho3.form
            have R6 := Lib.hid hr3
            have HQ2 : Hid (ms qs = ms ps ++ ms rs) := Lib.hid (by rw [HQ.out, hr])
            have hlen : qs.length = ps.length + rs.length := by
              have := congrArg List.length HQ2.out
              rwa [List.length_append, ms_length, ms_length, ms_length] at this
            have hbound : ps.length + rs.length ≤ 140737488355328 := by
              have h9 := unf_len _ l0 (Nat.le_refl _) _ _ HE.out
              rw [HL0.out, List.length_append, ms_length, hr, ms_length] at h9
              omega
            have hy3 := unf_len _ (l0.drop n1) (Nat.le_refl _) _ _ HX.out
            rw [List.length_drop, HL0.out] at hy3
            have hy4 := unf_len _ l0 (Nat.le_refl _) _ _ HE.out
            rw [HL0.out, List.length_append, ms_length, hr, ms_length] at hy4
            have bI1 : (n1 : Int) ≤ 100000 := by omega
            have bI3 : (n3 : Int) ≤ 100000 := by omega
            have bI4 : (ps.length : Int) ≤ 100000 := by omega
            have bI5 : (rs.length : Int) ≤ 100000 := by omega
            clear hy3 hy4
            have hq1 : ((qs.length : Int) == (ps.length : Int) + (rs.length : Int)) = true := by rw [beq_iff_eq]; omega
            have hq2 : ((n2 : Int) == (n1 : Int) + (n3 : Int)) = true := by have := HNN.out; rw [beq_iff_eq]; omega
            have hpq : (ps.length : Int) ≤ (qs.length : Int) := by omega
            have hpd : (ps.length : Int) ≤ (d2 : Int) := by omega
            have hqd : (qs.length : Int) ≤ (d2 : Int) := by omega
            have HT1 : Hid (ms (qs.take ps.length) = ms ps) := Lib.hid (by rw [ms_takek, HQ2.out, ← ms_length ps, List.take_left])
            have HT2 : Hid (ms (qs.drop ps.length) = ms rs) := Lib.hid (by rw [ms_drop, HQ2.out, ← ms_length ps, List.drop_left])
            clear hb3 hr ho3 hr3 R2 R3 HQ
            by_cases hdp : d2 = ps.length
            · have hr0 : rs.length = 0 := by omega
              have hq0 : qs.length = ps.length := by omega
              have hrs : rs = [] := List.length_eq_zero_iff.1 hr0
              subst hrs
              have R5' : Hid (RL w3 A2 ps.length qs) := Lib.hid (by rw [← hq0]; exact R5.out)
              clear hlen hbound hq1 hpq hpd hqd hr0 bI5 hd2 R5 R6 HQ2
              subst hdp
              rw [hq0]
              have hqq : Hid (qs.length = ps.length) := Lib.hid hq0
              clear hq0
              go_wp2_with fail
              with_reducible refine (lists_any A2 A1 ps.length ps.length ps.length d1 (qs.take ps.length) ps _ (RL.upto R5'.out (Nat.le_refl _)) R4.out (by omega)).mono ?_
              rintro e w4 ⟨rfl, hb4⟩
              rw [decide_eq_true HT1.out]
              have B4 : Hid (Below w.heap.size w w4) := Lib.hid (B3.out.trans (hb4.mono B3.out.size))
              clear hb4 R5'
              go_wp2_with fail
              with_reducible refine (lists_any A2 A3 0 0 0 d3 [] [] _ (RL.nil _ _) (RL.nil _ _) (by decide)).mono ?_
              rintro e w5 ⟨rfl, hb5⟩
              rw [decide_eq_true (show ms ([] : List BV) = ms [] from rfl)]
              have B5 : Hid (Below w.heap.size w w5) := Lib.hid (B4.out.trans (hb5.mono B4.out.size))
              clear hb5
              go_wp2_with fail
              with_reducible refine (Prot.works_any _ (HT.out.keep B5.out)).mono ?_
              rintro e w9 ⟨rfl, hb9⟩
              have B9 : Hid (Below w.heap.size w w9) := Lib.hid (B5.out.trans (hb9.mono B5.out.size))
              clear hb9
              go_wp2_with fail
              go_ret
              exact ⟨rfl, B9.out⟩
            · have hdp' : ps.length < d2 := by omega
              have R7 := Lib.hid R5.out
              obtain ⟨ad2, rfl⟩ : ∃ ad2, A2 = some ad2 := by
                rcases A2 with _ | ad2
                · exact absurd (HN2.out rfl) (by omega)
                · exact ⟨_, rfl⟩
              go_wp2_with fail
              with_reducible refine (lists_any (some ad2) A1 ps.length d2 ps.length d1 (qs.take ps.length) ps _ (RL.upto R5.out (by omega)) R4.out (by omega)).mono ?_
              rintro e w4 ⟨rfl, hb4⟩
              rw [decide_eq_true HT1.out]
              have B4 : Hid (Below w.heap.size w w4) := Lib.hid (B3.out.trans (hb4.mono B3.out.size))
              have RM : Hid (RL w4 (some (ad2.add ps.length)) rs.length (qs.drop ps.length)) := Lib.hid (by
                have := (RL.mid R5.out (k := ps.length) (c := d2) (by omega) hd2 hdp).keep hb4
                rw [show qs.length - ps.length = rs.length by omega] at this
                exact this)
              have R8 := Lib.hid (R6.out.keep hb4)
              clear hb4 R5 R6
              go_wp2_with fail
              with_reducible refine (lists_any (some (ad2.add ps.length)) A3 rs.length (d2 - ps.length) rs.length d3 (qs.drop ps.length) rs _ RM.out R8.out (by omega)).mono ?_
              rintro e w5 ⟨rfl, hb5⟩
              rw [decide_eq_true HT2.out]
              have B5 : Hid (Below w.heap.size w w5) := Lib.hid (B4.out.trans (hb5.mono B4.out.size))
              clear hb5
              go_wp2_with fail
              with_reducible refine (Prot.works_any _ (HT.out.keep B5.out)).mono ?_
              rintro e w9 ⟨rfl, hb9⟩
              have B9 : Hid (Below w.heap.size w w9) := Lib.hid (B5.out.trans (hb9.mono B5.out.size))
              clear hb9
              go_wp2_with fail
              go_ret
              exact ⟨rfl, B9.out⟩
        · have hcn' : n1 < c0 := by omega
          have hn1n : (n1 : Int) ≤ (n0 : Int) := by omega
          have hn1c : (n1 : Int) ≤ (c0 : Int) := by omega
          obtain ⟨ad, rfl⟩ : ∃ ad, A0 = some ad := by
            rcases A0 with _ | ad
            · exact absurd (HNIL.out rfl) (by omega)
            · exact ⟨_, rfl⟩
          have SR : Hid (SB w (some (ad.add n1)) (n0 - n1) (c0 - n1) (l0.drop n1)) := Lib.hid (by
            have := SB.mid H0.out (k := n1) (N := n0 - n1) (by omega)
            rw [List.take_of_length_le (by rw [List.length_drop, HL0.out]; omega)] at this
            exact this)
          rcases hx : unf (l0.drop n1) with _ | ⟨y, n3⟩
          · have HE : Hid (unf l0 = none) := Lib.hid (by rw [HPRE.out, hx, pre_none])
            have HX := Lib.hid hx
            clear hx
            rcases HU2.out with ⟨_, rfl⟩ | ⟨v2, qs, n2, hs2, _, _⟩
            case inr => rw [HE.out] at hs2; cases hs2
            clear HU2
            go_wp2_with fail
            refine (unframe_any (some (ad.add n1)) (n0 - n1) (c0 - n1) (l0.drop n1) _ (SR.out.keep B2.out) (by omega)).mono ?_
            rintro e w3 ⟨hb3, ⟨_, rfl⟩ | ⟨v3, rs, n3, hs3, _⟩⟩
            case inr => rw [HX.out] at hs3; cases hs3
            have B3 : Hid (Below w.heap.size w w3) := Lib.hid (B2.out.trans (hb3.mono B2.out.size))
            clear hb3
            go_wp2_with fail
            with_reducible refine (Prot.works_any _ (HT.out.keep B3.out)).mono ?_
            rintro e w9 ⟨rfl, hb9⟩
            have B9 : Hid (Below w.heap.size w w9) := Lib.hid (B3.out.trans (hb9.mono B3.out.size))
            clear hb9
            go_wp2_with fail
            go_ret
            exact ⟨rfl, B9.out⟩
          · have HE : Hid (unf l0 = some (ms ps ++ y, n1 + n3)) := Lib.hid (by rw [HPRE.out, hx]; rfl)
            have HX := Lib.hid hx
            clear hx
            rcases HU2.out with ⟨hn2, _⟩ | ⟨v2, qs, n2, hs2, rfl, ho2⟩
            · rw [HE.out] at hn2; cases hn2
            rw [HE.out] at hs2
            injection hs2 with hs2
            injection hs2 with hq hn
            obtain ⟨A2, d2, rfl, hr2, hd2, hnil2⟩ := OL.form2 ho2
            have R3 := Lib.hid hr2
            have HQ := Lib.hid hq.symm
            have HN2 := Lib.hid hnil2
            have HNN := Lib.hid hn
            clear hq ho2 hr2 HU2 hnil2 hn
            go_wp2_with fail
            refine (unframe_any (some (ad.add n1)) (n0 - n1) (c0 - n1) (l0.drop n1) _ (SR.out.keep B2.out) (by omega)).mono ?_
            rintro e w3 ⟨hb3, ⟨hn3, _⟩ | ⟨v3, rs, n3', hs3, rfl, ho3⟩⟩
            · rw [HX.out] at hn3; cases hn3
            rw [HX.out] at hs3
            injection hs3 with hs3
            injection hs3 with hr hn3
            subst hn3
            have B3 : Hid (Below w.heap.size w w3) := Lib.hid (B2.out.trans (hb3.mono B2.out.size))
            have R4 := Lib.hid (R2.out.keep hb3)
            have R5 := Lib.hid (R3.out.keep hb3)
            obtain ⟨A3, d3, rfl, hr3, _⟩ := ho3.form
            have R6 := Lib.hid hr3
            have HQ2 : Hid (ms qs = ms ps ++ ms rs) := Lib.hid (by rw [HQ.out, hr])
            have hlen : qs.length = ps.length + rs.length := by
              have := congrArg List.length HQ2.out
              rwa [List.length_append, ms_length, ms_length, ms_length] at this
            have hbound : ps.length + rs.length ≤ 140737488355328 := by
              have h9 := unf_len _ l0 (Nat.le_refl _) _ _ HE.out
              rw [HL0.out, List.length_append, ms_length, hr, ms_length] at h9
              omega
            have hy3 := unf_len _ (l0.drop n1) (Nat.le_refl _) _ _ HX.out
            rw [List.length_drop, HL0.out] at hy3
            have hy4 := unf_len _ l0 (Nat.le_refl _) _ _ HE.out
            rw [HL0.out, List.length_append, ms_length, hr, ms_length] at hy4
            have bI1 : (n1 : Int) ≤ 100000 := by omega
            have bI3 : (n3 : Int) ≤ 100000 := by omega
            have bI4 : (ps.length : Int) ≤ 100000 := by omega
            have bI5 : (rs.length : Int) ≤ 100000 := by omega
            clear hy3 hy4
            have hq1 : ((qs.length : Int) == (ps.length : Int) + (rs.length : Int)) = true := by rw [beq_iff_eq]; omega
            have hq2 : ((n2 : Int) == (n1 : Int) + (n3 : Int)) = true := by have := HNN.out; rw [beq_iff_eq]; omega
            have hpq : (ps.length : Int) ≤ (qs.length : Int) := by omega
            have hpd : (ps.length : Int) ≤ (d2 : Int) := by omega
            have hqd : (qs.length : Int) ≤ (d2 : Int) := by omega
            have HT1 : Hid (ms (qs.take ps.length) = ms ps) := Lib.hid (by rw [ms_takek, HQ2.out, ← ms_length ps, List.take_left])
            have HT2 : Hid (ms (qs.drop ps.length) = ms rs) := Lib.hid (by rw [ms_drop, HQ2.out, ← ms_length ps, List.drop_left])
            clear hb3 hr ho3 hr3 R2 R3 HQ
            by_cases hdp : d2 = ps.length
            · have hr0 : rs.length = 0 := by omega
              have hq0 : qs.length = ps.length := by omega
              have hrs : rs = [] := List.length_eq_zero_iff.1 hr0
              subst hrs
              have R5' : Hid (RL w3 A2 ps.length qs) := Lib.hid (by rw [← hq0]; exact R5.out)
              clear hlen hbound hq1 hpq hpd hqd hr0 bI5 hd2 R5 R6 HQ2
              subst hdp
              rw [hq0]
              have hqq : Hid (qs.length = ps.length) := Lib.hid hq0
              clear hq0
              go_wp2_with fail
              with_reducible refine (lists_any A2 A1 ps.length ps.length ps.length d1 (qs.take ps.length) ps _ (RL.upto R5'.out (Nat.le_refl _)) R4.out (by omega)).mono ?_
              rintro e w4 ⟨rfl, hb4⟩
              rw [decide_eq_true HT1.out]
              have B4 : Hid (Below w.heap.size w w4) := Lib.hid (B3.out.trans (hb4.mono B3.out.size))
              clear hb4 R5'
              go_wp2_with fail
              with_reducible refine (lists_any A2 A3 0 0 0 d3 [] [] _ (RL.nil _ _) (RL.nil _ _) (by decide)).mono ?_
              rintro e w5 ⟨rfl, hb5⟩
              rw [decide_eq_true (show ms ([] : List BV) = ms [] from rfl)]
              have B5 : Hid (Below w.heap.size w w5) := Lib.hid (B4.out.trans (hb5.mono B4.out.size))
              clear hb5
              go_wp2_with fail
              with_reducible refine (Prot.works_any _ (HT.out.keep B5.out)).mono ?_
              rintro e w9 ⟨rfl, hb9⟩
              have B9 : Hid (Below w.heap.size w w9) := Lib.hid (B5.out.trans (hb9.mono B5.out.size))
              clear hb9
              go_wp2_with fail
              go_ret
              exact ⟨rfl, B9.out⟩
            · have hdp' : ps.length < d2 := by omega
              have R7 := Lib.hid R5.out
              obtain ⟨ad2, rfl⟩ : ∃ ad2, A2 = some ad2 := by
                rcases A2 with _ | ad2
                · exact absurd (HN2.out rfl) (by omega)
                · exact ⟨_, rfl⟩
              go_wp2_with fail
              with_reducible refine (lists_any (some ad2) A1 ps.length d2 ps.length d1 (qs.take ps.length) ps _ (RL.upto R5.out (by omega)) R4.out (by omega)).mono ?_
              rintro e w4 ⟨rfl, hb4⟩
              rw [decide_eq_true HT1.out]
              have B4 : Hid (Below w.heap.size w w4) := Lib.hid (B3.out.trans (hb4.mono B3.out.size))
              have RM : Hid (RL w4 (some (ad2.add ps.length)) rs.length (qs.drop ps.length)) := Lib.hid (by
                have := (RL.mid R5.out (k := ps.length) (c := d2) (by omega) hd2 hdp).keep hb4
                rw [show qs.length - ps.length = rs.length by omega] at this
                exact this)
              have R8 := Lib.hid (R6.out.keep hb4)
              clear hb4 R5 R6
              go_wp2_with fail
              with_reducible refine (lists_any (some (ad2.add ps.length)) A3 rs.length (d2 - ps.length) rs.length d3 (qs.drop ps.length) rs _ RM.out R8.out (by omega)).mono ?_
              rintro e w5 ⟨rfl, hb5⟩
              rw [decide_eq_true HT2.out]
              have B5 : Hid (Below w.heap.size w w5) := Lib.hid (B4.out.trans (hb5.mono B4.out.size))
              clear hb5
              go_wp2_with fail
              with_reducible refine (Prot.works_any _ (HT.out.keep B5.out)).mono ?_
              rintro e w9 ⟨rfl, hb9⟩
              have B9 : Hid (Below w.heap.size w w9) := Lib.hid (B5.out.trans (hb9.mono B5.out.size))
              clear hb9
              go_wp2_with fail
              go_ret
              exact ⟨rfl, B9.out⟩
    · have hk' : z1 < 0 ∨ (n0 : Int) < z1 := by omega
      clear hk
      rcases hk' with hk' | hk'
      all_goals
        go_enter Tryd.func8, Tryd.ntmps8
        go_wp2_with fail
        go_ret
        exact ⟨rfl, Below.refl _ _⟩
  · have hb' : (100000 : Int) < (n0 : Int) := by omega
    go_enter Tryd.func8, Tryd.ntmps8
    go_wp2_with fail
    go_ret
    exact ⟨rfl, Below.refl _ _⟩
end Go.Proofs.YtkllfnaofapfnaaDoor.Frm
