/-
  The contract of ProtocolKnown: the examples of the chapter, and the limits of messages. Conditions: the two tables of unicode/utf8 lie as their initialisers lay them.
-/
import Derived.Test.YtkllfnaofapfnaaDoorFrmEnds
namespace Go.Proofs.YtkllfnaofapfnaaDoor.Frm
open Go.RowKit Wd Cod Utf Prot

def ka : Req := ⟨1, 0, 0, 0, ⟨#[]⟩, ⟨#[]⟩, false, ⟨#[]⟩, none, 0, 0, none, 0, 0⟩
def qa : Rq := ⟨1, 0, 0, 0, ⟨#[]⟩, ⟨#[]⟩, false, ⟨#[]⟩, [], []⟩
def kb : Req := ⟨1, 1, 0, 0, ⟨#[]⟩, ⟨#[]⟩, false, ⟨#[]⟩, none, 0, 0, none, 0, 0⟩
def qb : Rq := ⟨1, 1, 0, 0, ⟨#[]⟩, ⟨#[]⟩, false, ⟨#[]⟩, [], []⟩
def kc : Req := ⟨10, 0, 0, 0, ⟨#[]⟩, ⟨#[]⟩, false, ⟨#[]⟩, none, 0, 0, none, 0, 0⟩
def qc : Rq := ⟨10, 0, 0, 0, ⟨#[]⟩, ⟨#[]⟩, false, ⟨#[]⟩, [], []⟩
def qd : Rq := ⟨7, 0, 0, 0, ⟨#[]⟩, ⟨#[]⟩, false, ⟨#[]⟩, [5, 0], []⟩
theorem qa_chk : chkR qa = 0 := by decide +kernel
theorem qa_code : codeR qa = [1] := by decide +kernel
theorem qb_chk : chkR qb = 1 := by decide +kernel
theorem qc_chk : chkR qc = 1 := by decide +kernel
theorem qd_chk : chkR qd = 0 := by decide +kernel
theorem qd_code : codeR qd = [7, 2, 5, 0] := by decide +kernel
theorem ka_in (w : World) : RqIn w ka qa := ⟨RI.nil _ _, sb_nil _, ⟨rfl, rfl, rfl, rfl, rfl, rfl, rfl, rfl, rfl, rfl, rfl⟩, by decide, by decide, by decide, by decide, by decide, by decide⟩
theorem kb_in (w : World) : RqIn w kb qb := ⟨RI.nil _ _, sb_nil _, ⟨rfl, rfl, rfl, rfl, rfl, rfl, rfl, rfl, rfl, rfl, rfl⟩, by decide, by decide, by decide, by decide, by decide, by decide⟩
theorem kc_in (w : World) : RqIn w kc qc := ⟨RI.nil _ _, sb_nil _, ⟨rfl, rfl, rfl, rfl, rfl, rfl, rfl, rfl, rfl, rfl, rfl⟩, by decide, by decide, by decide, by decide, by decide, by decide⟩
theorem dec_no {l : List UInt8} (h : ¬ ((rReq l limP (rMany l limP.seen)).2 = (l.length, false) ∧ chkR (rReq l limP (rMany l limP.seen)).1 = 0)) : DecR l 5 rq0 := (decR_prog rfl).2 h
theorem no1 : DecR [5, 1, 2] 5 rq0 := dec_no (by decide +kernel)
theorem no2 : DecR [1, 0] 5 rq0 := dec_no (by decide +kernel)
theorem no3 : DecR [] 5 rq0 := dec_no (by decide +kernel)
theorem big4 : unf [1, 0, 16, 0] = none := unf_big (by decide) (by decide)
theorem rl_two {w : World} {T : TypeId} {A B : Option Addr} {n c m d : Nat} {l k : List UInt8} (h : SB w A n c l) (h2 : SB w B m d k) : RL (w.alloc (.cells #[.slice A n c, .slice B m d] T)) (some ⟨w.heap.size, 0, none⟩) 2 [⟨A, n, c, l⟩, ⟨B, m, d, k⟩] :=
  ⟨Reads.lit w _ T _ 2 _ rfl rfl, fun p hp => by
    simp at hp
    rcases hp with rfl | rfl
    · exact h.alloc _
    · exact h2.alloc _⟩
theorem unf_one {Z : List UInt8} (h : Z.length = 1048576) : unf (frame1 Z) = some ([Z], 1048580) := by
  have := unf_frame (m := Z) (by omega) []
  rw [List.append_nil, unf_short (l := []) (by decide), h] at this
  rw [this]; rfl
theorem frameOf_over {Z : List UInt8} (h : Z.length = 1048577) : frameOf [[1], Z] = [] := by
  unfold frameOf
  have : big Z = true := decide_eq_true (by omega)
  simp [this]
set_option maxRecDepth 100000 in
set_option maxHeartbeats 8000000 in
theorem known_any (w : World) (hT : Tabs w) :
    Calls Tryd.prog 11 #[] w fun e w' => e = .returned (.bool true) ∧ Below w.heap.size w w' := by
  have HT := Lib.hid hT
  clear hT
  go_enter Tryd.func11, Tryd.ntmps11
  go_wp2_with fail
  refine (encReq_any ka qa w HT.out (ka_in w)).mono ?_
  rintro e w1 ⟨hb1, ⟨_, A1, n1, c1, rfl, hs1⟩ | ⟨h, _⟩⟩
  case inr => exact absurd qa_chk h
  rw [qa_code] at hs1
  have hn1 : n1 = 1 := hs1.rb.len.symm
  subst hn1
  have B1 := Lib.hid hb1
  have S1 := Lib.hid hs1
  clear hb1 hs1
  go_wp2_with fail
  refine (encReq_any kb qb w1 (HT.out.keep B1.out) (kb_in w1)).mono ?_
  rintro e w2 ⟨hb2, ⟨h, _⟩ | ⟨_, rfl⟩⟩
  · rw [qb_chk] at h; cases h
  rw [qb_chk]
  have B2 : Hid (Below w.heap.size w w2) := Lib.hid (B1.out.trans (hb2.mono B1.out.size))
  have S2 := Lib.hid (S1.out.keep hb2)
  clear hb2 B1 S1
  go_wp2_with fail
  refine (encReq_any kc qc w2 (HT.out.keep B2.out) (kc_in w2)).mono ?_
  rintro e w3 ⟨hb3, ⟨h, _⟩ | ⟨_, rfl⟩⟩
  · rw [qc_chk] at h; cases h
  rw [qc_chk]
  have B3 : Hid (Below w.heap.size w w3) := Lib.hid (B2.out.trans (hb3.mono B2.out.size))
  have S3 := Lib.hid (S2.out.keep hb3)
  clear hb3 B2 S2
  go_wp2_with fail
  have hri : RI .i64 (w3.alloc (.cells #[.int .i64 5, .int .i64 0] 3)) (some ⟨w3.heap.size, 0, none⟩) 2 [5, 0] := ri_lit .i64 w3 _ _ _ 2 _ [5, 0] rfl rfl rfl
  have B3a := Lib.hid (B3.out.alloc B3.out.size (.cells #[.int .i64 5, .int .i64 0] 3))
  have S3a := Lib.hid (S3.out.alloc (.cells #[.int .i64 5, .int .i64 0] 3))
  refine (encReq_any ⟨7, 0, 0, 0, ⟨#[]⟩, ⟨#[]⟩, false, ⟨#[]⟩, some ⟨w3.heap.size, 0, none⟩, 2, 2, none, 0, 0⟩ qd _ (HT.out.keep B3a.out) ⟨hri, sb_nil _, ⟨rfl, rfl, rfl, rfl, rfl, rfl, rfl, rfl, rfl, rfl, rfl⟩, Nat.le_of_ble_eq_true rfl, Nat.zero_le _, Nat.zero_le _, Nat.zero_le _, Nat.zero_le _, Nat.le_of_ble_eq_true rfl⟩).mono ?_
  rintro e w4 ⟨hb4, ⟨_, A4, n4, c4, rfl, hs4⟩ | ⟨h, _⟩⟩
  case inr => exact absurd qd_chk h
  rw [qd_code] at hs4
  have hn4 : n4 = 4 := hs4.rb.len.symm
  subst hn4
  have B4 : Hid (Below w.heap.size w w4) := Lib.hid (B3a.out.trans (hb4.mono B3a.out.size))
  have S4 := Lib.hid (S3a.out.keep hb4)
  have T4 := Lib.hid hs4
  clear hb4 hs4 hri B3 S3 B3a S3a
  go_wp2_with fail
  have hl5 := sb_lit w4 #[.int .u8 5, .int .u8 1, .int .u8 2] 5 (0, 0) 3 _ [5, 1, 2] rfl rfl rfl
  have B4a := Lib.hid (B4.out.alloc B4.out.size (.cells #[.int .u8 5, .int .u8 1, .int .u8 2] 5))
  have S4a := Lib.hid (S4.out.alloc (.cells #[.int .u8 5, .int .u8 1, .int .u8 2] 5))
  have T4a := Lib.hid (T4.out.alloc (.cells #[.int .u8 5, .int .u8 1, .int .u8 2] 5))
  refine (decReq_any _ 3 3 [5, 1, 2] _ (HT.out.keep B4a.out) hl5 (by decide)).mono ?_
  rintro e w5 ⟨hb5, r5, q5, z5, rfl, _, hd5, _, _, _⟩
  obtain ⟨rfl, _⟩ := DecR.uniq hd5 no1
  have B5 : Hid (Below w.heap.size w w5) := Lib.hid (B4a.out.trans (hb5.mono B4a.out.size))
  have S5 := Lib.hid (S4a.out.keep hb5)
  have T5 := Lib.hid (T4a.out.keep hb5)
  obtain ⟨k0, k1, k2, k3, k4, k5, k6, k7, k8, k9, k10, k11, k12, k13⟩ := r5
  unfold Req.cells
  clear hb5 hd5 hl5 B4 S4 T4 B4a S4a T4a
  go_wp2_with fail
  refine (decReq_any _ 2 2 [1, 0] _ (HT.out.keep ((B5.out.alloc B5.out.size _).alloc (by have := B5.out.size; simp; omega) _)) (sb_lit _ _ _ _ 2 _ [1, 0] (by simp) rfl rfl) (by decide)).mono ?_
  rintro e w6 ⟨hb6, r6, q6, z6, rfl, _, hd6, _, _, _⟩
  obtain ⟨rfl, _⟩ := DecR.uniq hd6 no2
  have B6 : Hid (Below w.heap.size w w6) := Lib.hid (((B5.out.alloc B5.out.size _).alloc (by have := B5.out.size; simp; omega) _).trans (hb6.mono (by have := B5.out.size; simp; omega)))
  have S6 := Lib.hid (((S5.out.alloc _).alloc _).keep hb6)
  have T6 := Lib.hid (((T5.out.alloc _).alloc _).keep hb6)
  obtain ⟨k0, k1, k2, k3, k4, k5, k6, k7, k8, k9, k10, k11, k12, k13⟩ := r6
  unfold Req.cells
  clear hb6 hd6 B5 S5 T5
  go_wp2_with fail
  refine (decReq_any none 0 0 [] _ (HT.out.keep (B6.out.alloc B6.out.size _)) (sb_nil _) (by decide)).mono ?_
  rintro e w7 ⟨hb7, r7, q7, z7, rfl, _, hd7, _, _, _⟩
  obtain ⟨rfl, _⟩ := DecR.uniq hd7 no3
  have B7 : Hid (Below w.heap.size w w7) := Lib.hid ((B6.out.alloc B6.out.size _).trans (hb7.mono (by have := B6.out.size; simp; omega)))
  have S7 := Lib.hid ((S6.out.alloc _).keep hb7)
  have T7 := Lib.hid ((T6.out.alloc _).keep hb7)
  obtain ⟨k0, k1, k2, k3, k4, k5, k6, k7, k8, k9, k10, k11, k12, k13⟩ := r7
  unfold Req.cells
  clear hb7 hd7 B6 S6 T6
  go_wp2_with fail
  as_aux_lemma =>
    refine (unframe_any _ 4 4 [1, 0, 16, 0] _ (sb_lit _ _ _ _ 4 _ [1, 0, 16, 0] (by simp) rfl rfl) (by decide)).mono ?_
    rintro e w8 ⟨hb8, ⟨_, rfl⟩ | ⟨v8, ps8, k, hs8, _⟩⟩
    case inr => rw [big4] at hs8; cases hs8
    have B8 : Hid (Below w.heap.size w w8) := Lib.hid (((B7.out.alloc B7.out.size _).alloc (by have := B7.out.size; simp; omega) _).trans (hb8.mono (by have := B7.out.size; simp; omega)))
    have S8 := Lib.hid (((S7.out.alloc _).alloc _).keep hb8)
    have T8 := Lib.hid (((T7.out.alloc _).alloc _).keep hb8)
    clear hb8 B7 S7 T7
    as_aux_lemma =>
      obtain ⟨W9, hmk, hb9, hz9⟩ := make_u8 1048576 (by decide) w8
      have hmk' : (Instr.makeSlice 25 (.int .i64 1048576) (.int .i64 1048576)).run Tryd.prog w8 = .ok (.slice (some ⟨w8.heap.size, 0, none⟩) 1048576 1048576) W9 := hmk
      have hzl := hz9.rb.len
      generalize List.replicate 1048576 (0 : UInt8) = Z at hz9 hzl
      have HZL := Lib.hid hzl
      have HZ9 := Lib.hid hz9
      have B9 : Hid (Below w.heap.size w W9) := Lib.hid (B8.out.trans (hb9.mono B8.out.size))
      have S9 := Lib.hid (S8.out.keep hb9)
      have T9 := Lib.hid (T8.out.keep hb9)
      clear hmk hb9 hz9 hzl B8 S8 T8
      go_wp2_with fail
      refine (frame_any _ 1 1 [⟨some ⟨w8.heap.size, 0, none⟩, 1048576, 1048576, Z⟩] _ (rl_one HZ9.out) (by decide) (fun p hp => by simp at hp; subst hp; exact Nat.le_of_ble_eq_true rfl)).mono ?_
      rintro e w10 ⟨v10, rfl, ho10, hb10⟩
      have hfz : frameOf (ms [⟨some ⟨w8.heap.size, 0, none⟩, 1048576, 1048576, Z⟩]) = frame1 Z := frameOf_one (l := Z) (by rw [HZL.out]; exact Nat.le_refl _)
      rw [hfz] at ho10
      have hfl : (frame1 Z).length = 1048580 := by rw [frame1_len, HZL.out]
      rw [hfl] at ho10
      have HUN := Lib.hid (unf_one HZL.out)
      generalize frame1 Z = G at ho10 HUN hfl
      obtain ⟨A10, c10, rfl, hs10⟩ := own_sb ho10
      have B10 : Hid (Below w.heap.size w w10) := Lib.hid ((B9.out.alloc B9.out.size _).trans (hb10.mono (by have := B9.out.size; simp; omega)))
      have S10 := Lib.hid ((S9.out.alloc _).keep hb10)
      have T10 := Lib.hid ((T9.out.alloc _).keep hb10)
      have F10 := Lib.hid hs10
      clear hmk' ho10 hfz hfl hs10 hb10 B9 S9 T9
      go_wp2_with fail
      as_aux_lemma =>
        refine (unframe_any A10 1048580 c10 G _ F10.out (by decide)).mono ?_
        rintro e w11 ⟨hb11, ⟨h, _⟩ | ⟨v11, ps11, k11', hs11, rfl, ho11⟩⟩
        · rw [HUN.out] at h; cases h
        rw [HUN.out] at hs11
        injection hs11 with hs11
        injection hs11 with hq11 hk11
        subst hk11
        obtain ⟨p, rfl⟩ : ∃ p, ps11 = [p] := by
          match ps11, hq11 with
          | [p], _ => exact ⟨p, rfl⟩
          | [], h => cases h
          | p :: r :: t, h => simp [ms] at h
        have hpd : p.d = Z := by simpa [ms] using hq11.symm
        have hpn : p.n = 1048576 := by
          have := own_len (ho11.els p (by simp))
          rw [hpd, HZL.out] at this
          exact this.symm
        obtain ⟨A11, c11, rfl, hr11, _⟩ := ho11.form
        have R11 := Lib.hid hr11
        have HPN := Lib.hid hpn
        have B11 : Hid (Below w.heap.size w w11) := Lib.hid (B10.out.trans (hb11.mono B10.out.size))
        have S11 := Lib.hid (S10.out.keep hb11)
        have T11 := Lib.hid (T10.out.keep hb11)
        clear hb11 hq11 ho11 hr11 hpd hpn B10 S10 T10 F10 HZ9
        as_aux_lemma =>
          obtain ⟨W12, hmk, hb12, hz12⟩ := make_u8 1048577 (by decide) (w11.alloc (.cells #[.int .u8 1] 5))
          have hmk' : (Instr.makeSlice 25 (.int .i64 1048577) (.int .i64 1048577)).run Tryd.prog (w11.alloc (.cells #[.int .u8 1] 5)) = .ok (.slice (some ⟨(w11.alloc (.cells #[.int .u8 1] 5)).heap.size, 0, none⟩) 1048577 1048577) W12 := hmk
          have hsz11 : (w11.alloc (.cells #[.int .u8 1] 5)).heap.size = w11.heap.size + 1 := by simp
          rw [hsz11] at hmk' hz12
          have hzl := hz12.rb.len
          generalize List.replicate 1048577 (0 : UInt8) = Y at hz12 hzl
          have hl12 := (sb_lit w11 #[.int .u8 1] 5 (0, 0) 1 _ [1] rfl rfl rfl).keep hb12
          have HYL := Lib.hid hzl
          have HY := Lib.hid hz12
          have HO := Lib.hid hl12
          have bb : Below w11.heap.size w11 (w11.alloc (.cells #[.int .u8 1] 5)) := (Below.refl _ _).alloc (Nat.le_refl _) _
          have hb12' : Below w11.heap.size w11 W12 := bb.trans (hb12.mono bb.size)
          have B12 : Hid (Below w.heap.size w W12) := Lib.hid (B11.out.trans (hb12'.mono B11.out.size))
          have S12 := Lib.hid (S11.out.keep hb12')
          have T12 := Lib.hid (T11.out.keep hb12')
          have R12 := Lib.hid (R11.out.keep hb12')
          clear hmk hb12 hb12' hz12 hzl hl12 hsz11 bb B11 S11 T11 R11
          go_wp2_with fail
          refine (frame_any _ 2 2 [⟨some ⟨w11.heap.size, 0, none⟩, 1, 1, [1]⟩, ⟨some ⟨w11.heap.size + 1, 0, none⟩, 1048577, 1048577, Y⟩] _ (rl_two HO.out HY.out) (by decide) (fun p hp => by
            simp at hp
            rcases hp with rfl | rfl
            · exact Nat.le_of_ble_eq_true rfl
            · exact Nat.le_of_ble_eq_true rfl)).mono ?_
          rintro e w13 ⟨v13, rfl, ho13, hb13⟩
          have hfy : frameOf (ms [⟨some ⟨w11.heap.size, 0, none⟩, 1, 1, [1]⟩, ⟨some ⟨w11.heap.size + 1, 0, none⟩, 1048577, 1048577, Y⟩]) = [] := frameOf_over HYL.out
          rw [hfy] at ho13
          obtain ⟨A13, c13, rfl, hs13⟩ := own_sb ho13
          have B13 : Hid (Below w.heap.size w w13) := Lib.hid ((B12.out.alloc B12.out.size _).trans (hb13.mono (by have := B12.out.size; simp; omega)))
          have S13 := Lib.hid ((S12.out.alloc _).keep hb13)
          have T13 := Lib.hid ((T12.out.alloc _).keep hb13)
          have hb13' : Below W12.heap.size W12 w13 := ((Below.refl W12.heap.size W12).alloc (Nat.le_refl _) _).trans (hb13.mono (by simp))
          as_aux_lemma =>
            obtain ⟨ad, x, rfl, hx, _, hc, _⟩ := (R12.out.keep hb13').at_ (k := 0) (by simp)
            injection hx with hx
            subst hx
            rw [HPN.out] at hc
            have hc' : w13.cell? ad = some (.slice p.A 1048576 p.c) := hc
            have e1 := strS S13.out
            have e2 := strS T13.out
            clear hmk' ho13 hfy hs13 hb13 hb13' hc B12 S12 T12 R12 S13 T13
            go_wp2_with fail
            refine (Prot.works_any _ (HT.out.keep B13.out)).mono ?_
            rintro e w14 ⟨rfl, hb14⟩
            have B14 : Hid (Below w.heap.size w w14) := Lib.hid (B13.out.trans (hb14.mono B13.out.size))
            clear hb14
            go_wp2_with fail
            go_ret
            exact ⟨rfl, B14.out⟩
end Go.Proofs.YtkllfnaofapfnaaDoor.Frm
