/-
  The contract of ProtocolFrames: messages are framed, and frames are divided, as by the reference; messages that are returned are not kept. Conditions: the arguments can be read, within the form's reach; the two tables of unicode/utf8 lie as their initialisers lay them.
-/
import Derived.Test.YtkllfnaofapfnaaDoorFrmEnds
import Derived.Test.YtkllfnaofapfnaaDoorFrmPieces
import Derived.Deep.DeepCutAuto
import Derived.Deep.RegionHeld
namespace Go.Proofs.YtkllfnaofapfnaaDoor.Frm
open Go.RowKit Wd Cod Utf

theorem unf_elem : ∀ {l : List UInt8} {x : List (List UInt8)} {n : Nat}, unf l = some (x, n) → ∀ {d : List UInt8}, d ∈ x → d.length ≤ l.length
  | l, x, n, h, d, hd => by
    by_cases h4 : 4 ≤ l.length
    · by_cases hb : 1048576 < len4 l
      · rw [unf_big h4 hb] at h; cases h
      · by_cases hl : l.length < 4 + len4 l
        · rw [unf_part h4 (by omega) hl] at h
          injection h with h
          injection h with h1 h2
          subst h1
          cases hd
        · rw [unf_more h4 (by omega) (by omega)] at h
          rcases hu : unf (l.drop (4 + len4 l)) with _ | ⟨x', n'⟩
          · rw [hu] at h; cases h
          · rw [hu] at h
            simp only [pre, Option.map_some, Option.some.injEq, Prod.mk.injEq] at h
            obtain ⟨rfl, rfl⟩ := h
            rcases List.mem_append.1 hd with hd | hd
            · simp at hd
              subst hd
              rw [List.length_take, List.length_drop]; omega
            · have := unf_elem hu hd
              rw [List.length_drop] at this
              omega
    · rw [unf_short (by omega)] at h
      injection h with h
      injection h with h1 h2
      subst h1
      cases hd
termination_by l => l.length
decreasing_by rw [List.length_drop]; omega
/-- what a round of the change of messages keeps -/
def M1 (lo : Nat) (n : Nat) (v : Value) (ps : List BV) (w : World) (wr : World) : Prop := Byt lo wr ps ∧ wr.ownsRow lo 25 1 v n (cs ps) ∧ Spo ps w wr
set_option maxRecDepth 100000 in
set_option maxHeartbeats 4000000 in
theorem frames_any (A0 A1 : Option Addr) (n0 c0 n1 c1 : Nat) (ps : List BV) (l1 : List UInt8) (w : World) (hT : Tabs w) (h0 : RL w A0 n0 ps) (hf : ∀ p ∈ ps, p.n ≤ 140737488355328) (hn0 : n0 ≤ 140737488355328) (h1 : SB w A1 n1 c1 l1) (hn1 : n1 ≤ 140737488355328) :
    Calls Tryd.prog 9 #[.slice A0 n0 c0, .slice A1 n1 c1] w fun e w' => e = .returned (.bool true) ∧ Below w.heap.size w w' := by
  have HT := Lib.hid hT
  have H0 := Lib.hid h0
  have H1 := Lib.hid h1
  have HF := Lib.hid hf
  have HSM := Lib.hid (small_any A0 n0 c0 ps w h0 hf hn0)
  have hpl : ∀ p ∈ ps, p.d.length = p.n := fun p hp => (h0.2 p hp).rb.len
  have hl0 := h0.len
  have hl1 := h1.rb.len
  clear hT h0 h1 hf
  rcases hs : smallB ps with _ | _
  · rw [hs] at HSM
    clear hs hpl
    go_enter Tryd.func9, Tryd.ntmps9
    go_wp2_with fail
    refine HSM.out.mono ?_
    rintro e wq ⟨rfl, rfl⟩
    go_wp2_with fail
    go_ret
    exact ⟨rfl, Below.refl _ _⟩
  rw [hs] at HSM
  obtain ⟨k1, k2, k3⟩ := small_parts hs hpl
  clear hs hpl k3
  by_cases hb : n1 ≤ 100000
  · have hb' : (n1 : Int) ≤ 100000 := by omega
    go_enter Tryd.func9, Tryd.ntmps9
    go_wp2_with fail
    refine HSM.out.mono ?_
    rintro e wq ⟨rfl, rfl⟩
    go_upto_region 3 with fail
    go_cut [30] (fun x wx => x = .bool false ∧ Below w.heap.size w wx)
    case first =>
      go_region_held (fun _ => True) (exact trivial)
        (first
          | (go_at_call 31; (with_reducible refine (frameR_any A0 n0 c0 ps _ ?_ (by omega) HF.out).mono ?_); (· exact H0.out.keep BA.out); rintro e wb ⟨vb, rfl, hob, hbb⟩; obtain ⟨Ab, cb, rfl, hsb⟩ := own_sb hob; have SB2 := Lib.hid hsb; have SA2 := Lib.hid (SA.out.keep hbb); have BB : Hid (Below w.heap.size w wb) := Lib.hid (BA.out.trans (hbb.mono BA.out.size)); have qa := strS SA2.out; have qb := strS SB2.out; clear hob hsb hbb)
          | (go_at_call 30; (with_reducible refine (frame_any A0 n0 c0 ps _ ?_ (by omega) HF.out).mono ?_); (· exact H0.out.keep BC.out); rintro e wb ⟨vb, rfl, hob, hbb⟩; obtain ⟨Ab, cb, rfl, hsb⟩ := own_sb hob; have SB2 := Lib.hid hsb; have SC2 := Lib.hid (SC.out.keep hbb); have BB : Hid (Below w.heap.size w wb) := Lib.hid (BC.out.trans (hbb.mono BC.out.size)); have qa := strS SC2.out; have qb := strS SB2.out; clear hob hsb hbb)
          | (go_at_call 30; (with_reducible refine (frame_any A0 n0 c0 ps _ ?_ (by omega) HF.out).mono ?_); (· exact H0.out.drew); rintro e wa ⟨va, rfl, ha, hba⟩; obtain ⟨Aa, ca, rfl, hsa⟩ := own_sb ha; have SA := Lib.hid hsa; have BA : Hid (Below w.heap.size w wa) := Lib.hid (by exact ((Below.refl _ w).drew).trans hba); have ka := strS SA.out; clear ha hsa hba)
          | (go_at_call 31; (with_reducible refine (frameR_any A0 n0 c0 ps _ ?_ (by omega) HF.out).mono ?_); (· exact H0.out.drew); rintro e wa ⟨va, rfl, ha, hba⟩; obtain ⟨Aa, ca, rfl, hsa⟩ := own_sb ha; have SC := Lib.hid hsa; have BC : Hid (Below w.heap.size w wa) := Lib.hid (by exact ((Below.refl _ w).drew).trans hba); have ka := strS SC.out; clear ha hsa hba))
      all_goals
        go_wp2_with fail
        go_meet
        exact ⟨rfl, BB.out⟩
    obtain ⟨rfl, hbc⟩ := hcut
    have BC := Lib.hid hbc
    clear hbc HSM
    go_wp2_with fail
    refine (unframe_any A1 n1 c1 l1 _ (H1.out.keep BC.out) (by omega)).mono ?_
    rintro e w1 ⟨hb1, ⟨hn, rfl⟩ | ⟨v1, qs, k, hs1, rfl, ho1⟩⟩
    · have HN := Lib.hid hn
      have B1 : Hid (Below w.heap.size w w1) := Lib.hid (BC.out.trans (hb1.mono BC.out.size))
      clear hb1 hn BC
      go_wp2_with fail
      refine (unframeR_any A1 n1 c1 l1 _ (H1.out.keep B1.out) (by omega)).mono ?_
      rintro e w2 ⟨hb2, ⟨_, rfl⟩ | ⟨v2, rs, k2', hs2, _⟩⟩
      case inr => rw [HN.out] at hs2; cases hs2
      have B2 : Hid (Below w.heap.size w w2) := Lib.hid (B1.out.trans (hb2.mono B1.out.size))
      clear hb2 B1
      go_wp2_with fail
      with_reducible refine (lists_any none none 0 0 0 0 [] [] _ (RL.nil _ _) (RL.nil _ _) (by decide)).mono ?_
      rintro e w3 ⟨rfl, hb3⟩
      rw [decide_eq_true (show ms ([] : List BV) = ms [] from rfl)]
      have B3 : Hid (Below w.heap.size w w3) := Lib.hid (B2.out.trans (hb3.mono B2.out.size))
      clear hb3 B2
      go_wp2_with fail
      go_loopw [11] (fun i wr => i = .int .i64 0 ∧ Below w.heap.size w wr) (fun _ _ => 0)
      case atStart => exact ⟨rfl, B3.out⟩
      case round =>
        obtain ⟨rfl, hbr⟩ := hrel
        have B4 := Lib.hid hbr
        clear hbr B3
        go_wp2_with fail
        refine (unframe_any A1 n1 c1 l1 _ (H1.out.keep B4.out) (by omega)).mono ?_
        rintro e w5 ⟨hb5, ⟨_, rfl⟩ | ⟨v2, rs, k2', hs2, _⟩⟩
        case inr => rw [HN.out] at hs2; cases hs2
        have B5 : Hid (Below w.heap.size w w5) := Lib.hid (B4.out.trans (hb5.mono B4.out.size))
        clear hb5
        go_wp2_with fail
        with_reducible refine (lists_any none none 0 0 0 0 [] [] _ (RL.nil _ _) (RL.nil _ _) (by decide)).mono ?_
        rintro e w6 ⟨rfl, hb6⟩
        rw [decide_eq_true (show ms ([] : List BV) = ms [] from rfl)]
        have B6 : Hid (Below w.heap.size w w6) := Lib.hid (B5.out.trans (hb6.mono B5.out.size))
        clear hb6
        go_wp2_with fail
        with_reducible refine (Prot.works_any _ (HT.out.keep B6.out)).mono ?_
        rintro e w9 ⟨rfl, hb9⟩
        have B9 : Hid (Below w.heap.size w w9) := Lib.hid (B6.out.trans (hb9.mono B6.out.size))
        clear hb9
        go_wp2_with fail
        go_ret
        exact ⟨rfl, B9.out⟩
    · have HS := Lib.hid hs1
      have B1 : Hid (Below w.heap.size w w1) := Lib.hid (BC.out.trans (hb1.mono BC.out.size))
      have hbz1 := BC.out.size
      have O1 := Lib.hid (ho1.lower hbz1)
      have hql : qs.length ≤ 100000 := by
        have h9 := unf_len _ l1 (Nat.le_refl _) _ _ hs1
        rw [ms_length] at h9
        omega
      clear hb1 hs1 BC hbz1
      obtain ⟨Am, cm, rfl, _, hmc⟩ := ho1.form
      clear ho1
      go_wp2_with fail
      refine (unframeR_any A1 n1 c1 l1 _ (H1.out.keep B1.out) (by omega)).mono ?_
      rintro e w2 ⟨hb2, ⟨hn, _⟩ | ⟨v2, rs, k2', hs2, rfl, ho2⟩⟩
      · rw [HS.out] at hn; cases hn
      rw [HS.out] at hs2
      injection hs2 with hs2
      injection hs2 with hq hk
      subst hk
      have HQ := Lib.hid hq
      have hlen : rs.length = qs.length := by have := congrArg List.length hq; rwa [ms_length, ms_length, eq_comm] at this
      obtain ⟨Ax, cx, rfl, hrx, _⟩ := ho2.form
      have B2 : Hid (Below w.heap.size w w2) := Lib.hid (B1.out.trans (hb2.mono B1.out.size))
      have O2 := Lib.hid ho2
      have OM := Lib.hid (O1.out.keep hb2)
      have RX := Lib.hid hrx
      have LT : Hid (∀ p ∈ qs, ∀ k, (Value.slice p.A p.n p.c).ownBlock = some k → w.heap.size ≤ k ∧ k < w1.heap.size) := Lib.hid (fun p hp k hk => (O1.out.els p hp).lt k hk)
      have hz12 := hb2.size
      have HZ12 := Lib.hid hz12
      obtain ⟨A9, c9, e9, hrm, _⟩ := OM.out.form
      injection e9 with e1 _ e3
      subst e1 e3
      have RM := Lib.hid hrm
      have HLN := Lib.hid hlen
      clear hb2 hq hrx ho2 hrm B1 O1 hz12 hlen
      go_wp2_with fail
      with_reducible refine (lists_any Am Ax qs.length cm rs.length cx qs rs _ RM.out RX.out (by omega)).mono ?_
      rintro e w3 ⟨rfl, hb3⟩
      rw [decide_eq_true HQ.out]
      have B3 : Hid (Below w.heap.size w w3) := Lib.hid (B2.out.trans (hb3.mono B2.out.size))
      have OM3 := Lib.hid (OM.out.keep hb3)
      have OX3 := Lib.hid (O2.out.keep hb3)
      have M0 : Hid (M1 w.heap.size qs.length (.slice Am qs.length cm) qs w3 w3) := Lib.hid ⟨fun p hp => ⟨p.d, OM3.out.els p hp⟩, OM3.out.row, Spo.refl _ _⟩
      have FIT : Hid (∀ p ∈ qs, p.n ≤ 100000) := Lib.hid (fun p hp => by
        have h1 := own_len (OM3.out.els p hp)
        have h2 := unf_elem HS.out (List.mem_map.2 ⟨p, hp, rfl⟩)
        omega)
      clear hb3 B2 RM RX O2 OM
      go_wp2_with fail
      go_loopw [11] (fun i wr => ∃ a : Nat, a ≤ qs.length ∧ i = .int .i64 (a : Int) ∧ M1 w.heap.size qs.length (.slice Am qs.length cm) qs w3 wr) (fun i _ => qs.length - (intOf i).toNat)
      case atStart => exact ⟨0, Nat.zero_le _, rfl, M0.out⟩
      case round =>
        obtain ⟨a, ha, rfl, hm⟩ := hrel
        have MM := Lib.hid hm
        clear hm M0
        by_cases hlt : a < qs.length
        · obtain ⟨p, hp⟩ : ∃ p, qs[a]? = some p := ⟨qs[a]'hlt, List.getElem?_eq_getElem _⟩
          have hpn := FIT.out p (List.mem_of_getElem? hp)
          have HP := Lib.hid hp
          clear hp
          go_wp2_with fail
          go_loopw [12] (fun j wj => ∃ i : Nat, i ≤ p.n ∧ j = .int .i64 (i : Int) ∧ M1 w.heap.size qs.length (.slice Am qs.length cm) qs w3 wj) (fun j _ => p.n - (intOf j).toNat)
          case atStart => exact ⟨0, Nat.zero_le _, rfl, MM.out⟩
          case round =>
            obtain ⟨i, hi, rfl, hm⟩ := hrel
            clear MM
            have MM := Lib.hid hm
            obtain ⟨g, capg, hvg⟩ := own_some hm.2.1 (by omega)
            injection hvg with hv1 hv2 hv3
            subst hv1
            have c2 : wr.cell? ⟨g, a, none⟩ = some (.slice p.A p.n p.c) := by
              rw [hm.2.1.cellAt a (by omega)]
              exact cs_at HP.out
            have hgb := (hm.2.1.lt g rfl).2
            clear hm hv3 hv2
            by_cases hlj : i < p.n
            · obtain ⟨d, hd⟩ := MM.out.1 p (List.mem_of_getElem? HP.out)
              obtain ⟨h, cap, hv⟩ := own_some hd (by omega)
              injection hv with hv1 hv2 hv3
              have hx : (bs d)[i]? = some (.int .u8 ((d.getD i 0).toNat : Int)) := by
                have hl := own_len hd
                rw [bs_at d i (by omega)]
                simp [List.getD, show i < d.length by omega]
              have hdf := own_diff MM.out.2.1 hd (by decide)
              have hne : h ≠ g := by
                rw [hv1] at hdf
                rcases hdf with e | e
                · cases e
                · intro e'
                  subst e'
                  exact e rfl
              have c3 : wr.cell? ⟨h, i, none⟩ = some (.int .u8 ((d.getD i 0).toNat : Int)) := by
                have hh := hd
                rw [hv1] at hh
                rw [hh.cellAt i (by omega)]; exact hx
              have f3 : wr.frozen? ⟨h, i, none⟩ = false := by
                have hh := hd
                rw [hv1] at hh
                exact hh.frozenAt i
              have hxb := (d.getD i 0).toNat_lt
              have hob : (Value.slice p.A p.n p.c).ownBlock = some h := by rw [hv1]; rfl
              rw [hv1] at c2
              generalize (d.getD i 0).toNat = x at hxb c3
              have hw : IntKind.u8.wrap ((x : Int) + 1) = (((x + 1) % 256 : Nat) : Int) := by rw [IntKind.wrap_u8]; omega
              have MM2 : Hid (M1 w.heap.size qs.length (.slice (some ⟨g, 0, none⟩) qs.length cm) qs w3 (wr.setCell ⟨h, i, none⟩ (.int .u8 (((x + 1) % 256 : Nat) : Int)))) := Lib.hid ⟨Byt.set_ MM.out.1 h i ((x + 1) % 256) (Nat.mod_lt _ (by decide)), MM.out.2.1.kept (row := some h) ((Upd.refl h _).set_ i _) (.inr (by simp [Value.ownBlock]; exact fun e => hne e.symm)), MM.out.2.2.set_ (List.mem_of_getElem? HP.out) hob i _⟩
              obtain ⟨y, hy⟩ : ∃ y, y = (x + 1) % 256 := ⟨_, rfl⟩
              rw [← hy] at hw MM2
              clear hd hx hv1 hv2 hv3 hob hy hdf
              go_wp2_with fail
              go_roundw
              case rel => exact ⟨i + 1, by omega, by go_num, MM2.out⟩
              case measure => simp [intOf]; omega
            · obtain rfl : i = p.n := by omega
              go_wp2_with fail
              go_roundw
              case rel => exact ⟨a + 1, by omega, by go_num, MM.out⟩
              case measure => simp [intOf]; omega
        · have SPO := Lib.hid MM.out.2.2
          have B4 : Hid (Below w.heap.size w wr) := Lib.hid (B3.out.trans (SPO.out.below B3.out.size (fun p hp k hk => (LT.out p hp k hk).1)))
          have OX4 := Lib.hid (OX3.out.spo SPO.out (fun p hp k hk => (LT.out p hp k hk).2))
          clear MM OM3 OX3 B3
          go_wp2_with fail
          refine (unframe_any A1 n1 c1 l1 _ (H1.out.keep B4.out) (by omega)).mono ?_
          rintro e w5 ⟨hb5, ⟨hn, _⟩ | ⟨v5, ts, k5, hs5, rfl, ho5⟩⟩
          · rw [HS.out] at hn; cases hn
          rw [HS.out] at hs5
          injection hs5 with hs5
          injection hs5 with hq5 _
          have B5 : Hid (Below w.heap.size w w5) := Lib.hid (B4.out.trans (hb5.mono B4.out.size))
          have OX5 := Lib.hid (OX4.out.keep hb5)
          obtain ⟨A5, c5, rfl, hr5, _⟩ := ho5.form
          obtain ⟨A8, c8, e8, hr8, _⟩ := OX5.out.form
          injection e8 with e1 _ e3
          subst e1 e3
          have R5 := Lib.hid hr5
          have R8 := Lib.hid hr8
          have HQ5 : Hid (ms ts = ms rs) := Lib.hid (by rw [← hq5]; exact HQ.out)
          have hlt5 : ts.length ≤ 100000 := by have := congrArg List.length hq5; rw [ms_length, ms_length] at this; omega
          clear hb5 hq5 ho5 hr5 hr8 B4
          go_wp2_with fail
          with_reducible refine (lists_any A5 Ax ts.length c5 rs.length cx ts rs _ R5.out R8.out (by omega)).mono ?_
          rintro e w6 ⟨rfl, hb6⟩
          rw [decide_eq_true HQ5.out]
          have B6 : Hid (Below w.heap.size w w6) := Lib.hid (B5.out.trans (hb6.mono B5.out.size))
          clear hb6
          go_wp2_with fail
          with_reducible refine (Prot.works_any _ (HT.out.keep B6.out)).mono ?_
          rintro e w9 ⟨rfl, hb9⟩
          have B9 : Hid (Below w.heap.size w w9) := Lib.hid (B6.out.trans (hb9.mono B6.out.size))
          clear hb9
          go_wp2_with fail
          go_ret
          exact ⟨rfl, B9.out⟩
  · have hb' : (100000 : Int) < (n1 : Int) := by omega
    go_enter Tryd.func9, Tryd.ntmps9
    go_wp2_with fail
    refine HSM.out.mono ?_
    rintro e wq ⟨rfl, rfl⟩
    go_wp2_with fail
    go_ret
    exact ⟨rfl, Below.refl _ _⟩
end Go.Proofs.YtkllfnaofapfnaaDoor.Frm
