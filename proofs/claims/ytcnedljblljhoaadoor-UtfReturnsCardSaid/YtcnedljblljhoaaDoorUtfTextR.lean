/-
  The contracts of the reference's Text, Cut and Same (henkanref01). Conditions: lengths are within the form's reach.
-/
import Derived.Test.YtcnedljblljhoaaDoorUtfCode
namespace Go.Proofs.YtcnedljblljhoaaDoor.Utf
open Go.RowKit Wd

theorem strCells_bs (s : ByteArray) : Lib.strCells s = bs s.data.toList := rfl

set_option maxRecDepth 100000 in
set_option maxHeartbeats 1000000 in
theorem textR_any (A : Option Addr) (n c : Nat) (l : List Int) (w : World) (hr : RI .i32 w A n l) (hn : n ≤ 1000000000) :
    Calls Tryd.prog 19 #[.slice A n c] w fun e w' => e = .returned (.string ⟨(txt (chars l)).toArray⟩) ∧ Below w.heap.size w w' := by
  obtain ⟨i0, hi, hz0, hz1, hz2⟩ := info_parts Tryd.infoByte
  have HI := Lib.hid hi
  have HR := Lib.hid hr
  have HL := Lib.hid hr.len
  clear hr hi
  go_enter Tryd.func19, Tryd.ntmps19
  go_wp2_with fail
  go_loopw [3, 4] (fun o1 i1 wr => TRel w l o1 i1 wr) (fun _ i _ => n - (intOf i).toNat)
  case atStart => exact ⟨0, Nat.zero_le _, rfl, World.ownsRow_nil _ _ _ _, Below.refl _ _⟩
  case round =>
    obtain ⟨k, hk, rfl, hown, hbel⟩ := hrel
    have hln := HL.out
    have hlen : (txt (chars (l.take k))).length ≤ 4 * n := by
      have h1 := txt_len (chars (l.take k))
      have h2 := chars_len (l.take k)
      rw [List.length_take] at h2
      omega
    have HO := Lib.hid hown
    clear hown
    by_cases hlt : k < n
    · obtain ⟨ad, rfl, hb0, hc0⟩ := HR.out.at_ hlt
      have hc1 := (hbel.cell (p := ad.add k) (by rw [block_of_add]; exact hb0)).trans hc0
      obtain ⟨z, hz⟩ : ∃ z, z = l.getD k 0 := ⟨_, rfl⟩
      rw [← hz] at hc1
      have hsn : chars (l.take (k + 1)) = if Lib.validRune z then chars (l.take k) ++ [z.toNat] else chars (l.take k) := by rw [take_snocI l k (by omega), ← hz, chars_snoc]
      have HSN := Lib.hid hsn
      have g2 : (k : Int) < (n : Int) := by omega
      clear hsn hz hln hc0
      have CV := Lib.hid (fun W => character_any z W)
      rcases hv : Lib.validRune z with _ | _
      · rw [hv] at CV HSN
        clear hv
        go_wp2_with fail
        refine (CV.out _).mono ?_
        rintro e w' ⟨rfl, rfl⟩
        go_wp2_with fail
        go_roundw
        case rel => exact ⟨k + 1, by have := HL.out; omega, by go_num, by rw [HSN.out]; exact HO.out, hbel⟩
        case measure => simp [intOf]; omega
      · rw [hv] at CV HSN
        have hch := (validRune_chr z).1 hv
        obtain ⟨x, rfl⟩ := Int.eq_ofNat_of_zero_le hch.1
        have hx : x ≤ 1114111 := by have := hch.2; unfold chr at this; simp at this; omega
        clear hv hch
        generalize hX : txt (chars (l.take k)) = X at HO hlen
        have HX := Lib.hid hX
        have hel := enc_len x
        clear hX
        go_wp2_with fail
        refine (CV.out _).mono ?_
        rintro e w' ⟨rfl, rfl⟩
        go_wp2_with fail
        refine (code_any x _ hx).mono ?_
        rintro e w2 ⟨rfl, hb2⟩
        have O2 := Lib.hid (own_keep HO.out hb2)
        have B2 := Lib.hid (hbel.trans (hb2.mono hbel.size))
        clear hb2
        obtain ⟨st, hst⟩ : ∃ st : ByteArray, st = ⟨(enc x).toArray⟩ := ⟨_, rfl⟩
        have hsz : st.size = (enc x).length := by rw [hst]; rfl
        have hdt : st.data.toList = enc x := by rw [hst]
        rw [← hst]
        have HST := Lib.hid hdt
        have hsz2 : st.size ≤ 4 := by omega
        have HSZ := Lib.hid hsz
        clear hst hdt hsz
        go_wp2_with (at_builtin; refine Lib.wpList_append_own_string _ rfl (.tmp 16) (.tmp 21) 40 9 rfl w.heap.size 5 i0 Tryd.underlying40 Tryd.underlying9 HI.out hz0 hz1 hz2 _ _ _ rfl O2.out st rfl (by unfold maxLen; omega) (by omega) B2.out.size ?_; intro v' w3 hown' hgr hat')
        have B3 := Lib.hid (own_below B2.out (Nat.le_refl _) O2.out (Nat.le_refl _) hgr)
        have O3 := Lib.hid (show w3.ownsRow w.heap.size 5 1 v' (txt (chars (l.take (k + 1)))).length (bs (txt (chars (l.take (k + 1))))) by
          have e : txt (chars (l.take (k + 1))) = X ++ enc x := by
            rw [HSN.out, if_pos trivial, txt_append, HX.out]; simp [txt]
          rw [e, List.length_append, ← HSZ.out, bs_append, ← HST.out]; exact hown')
        clear hown' hgr hat'
        go_wp2_with fail
        go_roundw
        case rel => exact ⟨k + 1, by have := HL.out; omega, by go_num, O3.out, B3.out⟩
        case measure => simp [intOf]; omega
    · have hO := HO.out
      rw [List.take_of_length_le (by omega)] at hO
      obtain ⟨Ao, co, rfl, hro, _⟩ := own_bytes hO
      have hstr := RB.run_string (P := Tryd.prog) hro co 40 5 9 Tryd.underlying40 Tryd.underlying5 Tryd.underlying9
      clear hO hro HO hln
      go_wp2_with fail
      go_ret
      exact ⟨rfl, hbel⟩

theorem CutPost.bad {w w' : World} {R : Option (List UInt8)} (hR : R = none) (hb : Below w.heap.size w w') : CutPost w R (.returned (.tuple #[.string ⟨#[]⟩, .bool false])) w' := by subst hR; exact ⟨hb, rfl⟩
theorem CutPost.good {w w' : World} {R : Option (List UInt8)} {l : List UInt8} (hR : R = some l) (hb : Below w.heap.size w w') : CutPost w R (.returned (.tuple #[.string ⟨l.toArray⟩, .bool true])) w' := by subst hR; exact ⟨hb, rfl⟩

theorem RI.part {k : IntKind} {w : World} {A : Option Addr} {n c : Nat} {l : List Int} (h : RI k w A n l) (hc : n ≤ c) {lo m : Nat} (hm : lo + m ≤ n) : RI k w (if c = lo then A else A.map (·.add lo)) m ((l.drop lo).take m) := by
  have h1 := Reads.cut h (k := lo) (cap := c) (by omega) hc
  have h2 := h1.upto (k := m) (by omega)
  rw [Nat.mul_one, Nat.mul_one, is_drop, is_take] at h2
  exact h2

set_option maxRecDepth 100000 in
set_option maxHeartbeats 1000000 in
theorem cutR_any (s : ByteArray) (f t : Int) (w : World) (hs : s.size ≤ 1000000000) :
    Calls Tryd.prog 21 #[.string s, .int .i64 f, .int .i64 t] w (CutPost w (cutOf s.data.toList f t)) := by
  have HC := Lib.hid (runesR_any s w (by omega))
  generalize hcut : cutOf s.data.toList f t = C
  unfold cutOf at hcut
  generalize hR : runes s.data.toList = R at HC hcut
  rcases R with _ | cs
  · have HCUT := Lib.hid hcut.symm
    clear hcut hR
    go_enter Tryd.func21, Tryd.ntmps21
    go_wp2_with fail
    refine HC.out.mono ?_
    rintro e w1 ⟨hb, he⟩
    simp only at he
    subst he
    go_wp2_with fail
    go_ret2
    exact CutPost.bad HCUT.out hb
  · have hcl : cs.length ≤ s.size := by
      have := txt_many cs
      rw [← ((runes_iff _ _).1 hR).1, Array.length_toList] at this
      exact this
    have hch := ((runes_iff _ _).1 hR).2
    have HCH := Lib.hid hch
    clear hR hch
    simp only at hcut
    by_cases h : f < 0 ∨ t < f ∨ (cs.length : Int) < t
    · rw [if_pos h] at hcut
      have HCUT := Lib.hid hcut.symm
      clear hcut
      rcases (show f < 0 ∨ (0 ≤ f ∧ t < f) ∨ (0 ≤ f ∧ f ≤ t ∧ (cs.length : Int) < t) by omega) with h1 | ⟨h1, h2⟩ | ⟨h1, h2, h3⟩
      all_goals
        clear h
        go_enter Tryd.func21, Tryd.ntmps21
        go_wp2_with fail
        refine HC.out.mono ?_
        rintro e w1 ⟨hb, v, rfl, ho⟩
        obtain ⟨A, c, rfl, _⟩ := own_ints ho
        clear ho
        go_wp2_with fail
        go_ret2
        exact CutPost.bad HCUT.out hb
    · rw [if_neg h] at hcut
      have HCUT := Lib.hid hcut.symm
      clear hcut
      obtain ⟨f', rfl⟩ := Int.eq_ofNat_of_zero_le (by omega : 0 ≤ f)
      obtain ⟨t', rfl⟩ := Int.eq_ofNat_of_zero_le (by omega : 0 ≤ t)
      have i1 : (f' : Int) ≤ (t' : Int) := by omega
      have i2 : (t' : Int) ≤ (cs.length : Int) := by omega
      clear h
      go_enter Tryd.func21, Tryd.ntmps21
      go_wp2_with fail
      refine HC.out.mono ?_
      rintro e w1 ⟨hb, v, rfl, ho⟩
      obtain ⟨A, c, rfl, hri, hcc⟩ := own_ints ho
      have i3 : (t' : Int) ≤ (c : Int) := by omega
      have hpart := RI.part hri hcc (lo := f') (m := t' - f') (by omega)
      have hzs : ((zs cs).drop f').take (t' - f') = zs ((cs.drop f').take (t' - f')) := by simp [zs, List.map_take, List.map_drop]
      rw [hzs] at hpart
      have HP := Lib.hid hpart
      have HB := Lib.hid hb
      have hnn : A = none → c = 0 := by
        intro hA
        subst hA
        rcases ho.2 with ⟨hv, _⟩ | ⟨g, cap, cur, hv, _⟩
        · injection hv
        · injection hv with hv; cases hv
      have hchs : chars (zs ((cs.drop f').take (t' - f'))) = (cs.drop f').take (t' - f') := chars_zs _ (fun x hx => HCH.out x (List.mem_of_mem_drop (List.mem_of_mem_take hx)))
      have HCHS := Lib.hid hchs
      clear ho hri hpart hzs hb hchs
      by_cases hca : c = f'
      · have hca' : (c : Int) = (f' : Int) := by omega
        rw [if_pos hca] at HP
        clear hca hnn
        go_wp2_with fail
        refine (textR_any A (t' - f') (c - f') _ _ HP.out (by omega)).mono ?_
        rintro e w2 ⟨rfl, hb2⟩
        rw [HCHS.out]
        have B2 := Lib.hid (HB.out.trans (hb2.mono HB.out.size))
        clear hb2
        go_wp2_with fail
        go_ret2
        exact CutPost.good HCUT.out B2.out
      · have hca' : ¬ (c : Int) = (f' : Int) := by omega
        rcases A with _ | ad
        · exact absurd (hnn rfl) (by omega)
        rw [if_neg hca] at HP
        simp only [Option.map_some] at HP
        clear hca hnn
        go_wp2_with fail
        refine (textR_any (some (ad.add f')) (t' - f') (c - f') _ _ HP.out (by omega)).mono ?_
        rintro e w2 ⟨rfl, hb2⟩
        rw [HCHS.out]
        have B2 := Lib.hid (HB.out.trans (hb2.mono HB.out.size))
        clear hb2
        go_wp2_with fail
        go_ret2
        exact CutPost.good HCUT.out B2.out

theorem same_len (A A2 : Option Addr) (n c n2 c2 : Nat) (w : World) (hne : n ≠ n2) :
    Calls Tryd.prog 13 #[.slice A n c, .slice A2 n2 c2] w fun e w' => e = .returned (.bool false) ∧ w = w' := by
  have h : ((n : Int) != (n2 : Int)) = true := by rw [bne_iff_ne]; omega
  go_enter Tryd.func13, Tryd.ntmps13
  go_wp2_with fail
  go_ret
  exact ⟨rfl, rfl⟩

set_option maxHeartbeats 1000000 in
theorem same_any (A A2 : Option Addr) (n c n2 c2 : Nat) (l l2 : List Int) (w : World) (hr : RI .i32 w A n l) (hr2 : RI .i32 w A2 n2 l2) (hn : n ≤ 140737488355328) :
    Calls Tryd.prog 13 #[.slice A n c, .slice A2 n2 c2] w fun e w' => e = .returned (.bool (decide (l = l2))) ∧ Below w.heap.size w w' := by
  by_cases hne : n = n2
  · subst hne
    have HR := Lib.hid hr
    have HR2 := Lib.hid hr2
    clear hr hr2
    go_enter Tryd.func13, Tryd.ntmps13
    go_wp2_with fail
    go_loopw [5] (fun i wr => ∃ k : Nat, k ≤ n ∧ i = .int .i64 k ∧ l.take k = l2.take k ∧ Below w.heap.size w wr) (fun i _ => n - (intOf i).toNat)
    case atStart => exact ⟨0, Nat.zero_le _, rfl, by simp, Below.refl _ _⟩
    case round =>
      obtain ⟨k, hk, rfl, heq, hbel⟩ := hrel
      have HE := Lib.hid heq
      clear heq
      by_cases hlt : k < n
      · obtain ⟨ad, rfl, hb1, hc1⟩ := (HR.out.keep hbel).at_ hlt
        obtain ⟨ad2, rfl, hb2, hc2⟩ := (HR2.out.keep hbel).at_ hlt
        have g2 : (k : Int) < (n : Int) := by omega
        have g3 : (0 : Int) ≤ (k : Int) := by omega
        by_cases hxy : l.getD k 0 = l2.getD k 0
        · have hn1 := Lib.hid (show l.take (k + 1) = l2.take (k + 1) by
            rw [take_snocI l k (by have := HR.out.len; omega), take_snocI l2 k (by have := HR2.out.len; omega), HE.out, hxy])
          rw [hxy] at hc1
          generalize l2.getD k 0 = y at hc1 hc2 hxy
          clear hxy
          go_wp2_with fail
          go_quiet (fail)
          go_wp2_with fail
          go_roundw
          case rel => exact ⟨k + 1, by omega, by go_num, hn1.out, below_drewN hbel _⟩
          case measure => simp [intOf]; omega
        · have hd := Lib.hid (show ¬ l = l2 from fun h => hxy (by rw [h]))
          generalize l2.getD k 0 = y at hc2 hxy
          generalize l.getD k 0 = x at hc1 hxy
          have hne : (x != y) = true := by rw [bne_iff_ne]; exact hxy
          clear hxy
          go_wp2_with fail
          go_quiet (fail)
          go_wp2_with fail
          go_ret
          exact ⟨by rw [decide_eq_false hd.out]; rfl, below_drewN hbel _⟩
      · obtain rfl : k = n := by omega
        have hfin : l = l2 := by
          have h := HE.out
          rwa [List.take_of_length_le (by have := HR.out.len; omega), List.take_of_length_le (by have := HR2.out.len; omega)] at h
        have HF := Lib.hid hfin
        clear hfin
        go_wp2_with fail
        go_ret
        exact ⟨by rw [decide_eq_true HF.out]; rfl, hbel⟩
  · refine (same_len A A2 n c n2 c2 w hne).mono ?_
    rintro e w' ⟨rfl, rfl⟩
    refine ⟨?_, Below.refl _ _⟩
    rw [decide_eq_false]
    intro h
    apply hne
    rw [← hr.len, ← hr2.len, h]
end Go.Proofs.YtcnedljblljhoaaDoor.Utf
