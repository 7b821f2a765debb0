/-
  The contract of EncodeRequest of package henkanref42. Conditions: the request can be read; lengths are within the form's reach. (Printed by gen/reqenc.py.)
-/
import Derived.Test.YtkllfnaofapfnaaDoorReqChkR
namespace Go.Proofs.YtkllfnaofapfnaaDoor.Prot
open Go.RowKit Wd Utf Cod

/-- the memory of the reference's EncodeRequest: the request, the code as far as it is written -/
structure EE (w : World) (r : Req) (v : Value) (N : Nat) (l : List UInt8) (wx : World) : Prop where
  rq : RqR w.heap.size r wx
  own : wx.ownsRow (w.heap.size + 1) 5 1 v N (bs l)
  bel : Below w.heap.size w wx
theorem EE.keep {w wx wy : World} {r : Req} {v : Value} {N : Nat} {l : List UInt8} (h : EE w r v N l wx) (hb : Below wx.heap.size wx wy) : EE w r v N l wy := ⟨h.rq.keep hb, own_keep h.own hb, h.bel.trans (hb.mono h.bel.size)⟩
theorem EE.len {w wx : World} {r : Req} {v : Value} {N : Nat} {l : List UInt8} (h : EE w r v N l wx) : l.length = N := by have := h.own.1; rw [bs_length] at this; omega
theorem EE.app {w wx wy : World} {r : Req} {v v2 : Value} {N m : Nat} {l l2 : List UInt8} (h : EE w r v N l wx) (ho : wy.ownsRow (w.heap.size + 1) 5 1 v2 (N + m) (bs l ++ bs l2)) (hg : wx.grownBy wy v.ownBlock) : EE w r v2 (N + m) (l ++ l2) wy := by
  refine ⟨Blk.grown h.rq hg (fun e => ?_), by rw [bs_append]; exact ho, own_below h.bel (Nat.le_refl _) h.own (by omega) hg⟩
  have := (h.own.lt _ e.symm).1
  omega
theorem uints_one {z : Int} : ([z].flatMap fun z => put z.toNat) = put z.toNat := by simp
theorem uints_two {a b : Int} : ([a, b].flatMap fun z => put z.toNat) = put a.toNat ++ put b.toNat := by simp
theorem own_sb1' {w : World} {base n c : Nat} {e : TypeId} {A : Option Addr} {l : List UInt8} (h : w.ownsRow base e 1 (.slice A n c) n (bs l)) : SB w A n c l := by
  obtain ⟨A', c', e, hs⟩ := own_sb h
  injection e with e1 e2 e3
  subst e1 e3
  exact hs
theorem putT_small {s : ByteArray} (h : s.size ≤ 4096) : (putT s.data.toList).length ≤ 5000 := by
  have := put_len s.data.toList.length
  have h2 := dl s
  unfold putT
  rw [List.length_append]; omega
theorem own_len {w : World} {base n : Nat} {e : TypeId} {v : Value} {l : List UInt8} (h : w.ownsRow base e 1 v n (bs l)) : l.length = n := by have := h.1; rw [bs_length] at this; omega
set_option maxRecDepth 100000 in
set_option maxHeartbeats 4000000 in
theorem encR_bad (r : Req) (q : Rq) (w : World) (hq : RqIn w r q) (hb : r.bef.size ≤ 30000000000000) (hs : r.sel.size ≤ 30000000000000) (hu : r.sur.size ≤ 30000000000000) (hck : chkR q ≠ 0) :
    Calls Tryd.prog 24 #[.agg r.cells] w (EPost w q) := by
  have hb0 : Below w.heap.size w (w.alloc (.cells r.cells 42)) := (Below.refl _ _).alloc (Nat.le_refl _) _
  have HC := Lib.hid (checkR_any r q _ (hq.keep hb0) hb hs hu)
  have B0 := Lib.hid hb0
  have HCK := Lib.hid hck
  have hne : (((chkR q : Nat) : Int) != 0) = true := by rw [bne_iff_ne]; omega
  clear hq hck hb0
  generalize hz : chkR q = z at HC hne
  have HZ := Lib.hid hz
  clear hz
  unfold Req.cells at HC B0 ⊢
  go_enter Tryd.func24, Tryd.ntmps24
  go_wp2_with fail
  refine HC.out.mono ?_
  rintro e w1 ⟨rfl, hb1⟩
  have B1 := Lib.hid (B0.out.trans (hb1.mono B0.out.size))
  clear hb1
  go_wp2_with fail
  go_ret2
  have := EPost.bad HCK.out B1.out
  rw [HZ.out] at this
  exact this
set_option maxRecDepth 100000 in
set_option maxHeartbeats 8000000 in
theorem encR_good (r : Req) (q : Rq) (w : World) (hq : RqIn w r q) (hb : r.bef.size ≤ 30000000000000) (hs : r.sel.size ≤ 30000000000000) (hu : r.sur.size ≤ 30000000000000) (hck : chkR q = 0) :
    Calls Tryd.prog 24 #[.agg r.cells] w (EPost w q) := by
  have hb0 : Below w.heap.size w (w.alloc (.cells r.cells 42)) := (Below.refl _ _).alloc (Nat.le_refl _) _
  obtain ⟨i0, hi, hz0, hz1, hz2⟩ := info_parts Tryd.infoU8
  have HI := Lib.hid hi
  have HC := Lib.hid (checkR_any r q _ (hq.keep hb0) hb hs hu)
  rw [hck] at HC
  have HQ := Lib.hid hq
  have B0 := Lib.hid hb0
  have R0 : Hid (RqR w.heap.size r (w.alloc (.cells r.cells 42))) := Lib.hid (Blk.new w _ _)
  have HCK := Lib.hid hck
  have ok := okay_of hck
  have hk1 : 1 ≤ r.kind := by have := ok.kind.1; rw [hq.is.kind] at this; exact this
  have hk9 : r.kind ≤ 9 := by have := ok.kind.2; rw [hq.is.kind] at this; exact this
  have hs1 : 0 ≤ r.ses := by have := ok.nses.1; rw [hq.is.ses] at this; exact this
  have hs2 : r.ses ≤ 2147483647 := by have := ok.nses.2; rw [hq.is.ses] at this; exact this
  have OK := Lib.hid ok
  have HH := Lib.hid (fun w : World => has_any r.kind w)
  have HCODE : Hid (codeR q = put r.kind.toNat ++ (if hasS r.kind then put r.ses.toNat else []) ++ tailR q) := Lib.hid (by unfold codeR; rw [hq.is.kind, hq.is.ses])
  clear hq hck hb0 hi ok hb hs hu
  unfold Req.cells at HC B0 R0 ⊢
  go_enter Tryd.func24, Tryd.ntmps24
  go_wp2_with fail
  refine HC.out.mono ?_
  rintro e w1 ⟨rfl, hb1⟩
  have R1 := Lib.hid (R0.out.keep hb1)
  have B1 := Lib.hid (B0.out.trans (hb1.mono B0.out.size))
  have hlt1 : w.heap.size + 1 ≤ w1.heap.size := R1.out.lt
  clear hb1 R0 B0 HC
  have k0 := R1.out.c0
  go_wp2_with fail
  refine (uints_any _ 1 1 [r.kind] _ (ri_lit .i64 _ _ _ _ 1 _ [r.kind] rfl rfl rfl) (by decide) (by intro z hz; simp at hz; subst hz; omega)).mono ?_
  rintro e w2 ⟨b2, L2, rfl, ho2, hL2, hb2⟩
  rw [uints_one] at ho2
  have hb2' := below_alloc1 hb2
  have E2 : Hid (EE w r b2 L2 (put r.kind.toNat) w2) := Lib.hid ⟨R1.out.keep hb2', own_mono ho2 (by simp; omega), B1.out.trans (hb2'.mono B1.out.size)⟩
  obtain ⟨A2, c2, rfl, hs2'⟩ := own_sb ho2
  clear hb2 hb2' ho2 R1 B1 hs2' k0 hlt1
  have k0 := E2.out.rq.c0
  go_upto_if 17 with (go_at_call 47; refine (HH.out _).mono ?_; rintro e wq ⟨rfl, rfl⟩)
  go_cut [5] (fun s5 wx => ∃ A N c, s5 = .slice A N c ∧ N ≤ 20 ∧ EE w r (.slice A N c) N (put r.kind.toNat ++ (if hasS r.kind then put r.ses.toNat else [])) wx)
  case first =>
    rcases hS : hasS r.kind with _ | _
    · go_wp2_with fail
      go_meet
      case rel => exact ⟨A2, L2, c2, rfl, by omega, by simpa [hS] using E2.out⟩
    ·
      have k1 := E2.out.rq.c1
      go_wp2_with fail
      refine (uints_any _ 1 1 [r.ses] _ (ri_lit .i64 _ _ _ _ 1 _ [r.ses] rfl rfl rfl) (by decide) (by intro z hz; simp at hz; subst hz; omega)).mono ?_
      rintro e w1 ⟨b1, L1, rfl, ho1, hL1, hb1⟩
      rw [uints_one] at ho1
      have hl1 := own_len ho1
      obtain ⟨A1, c1, rfl, hs1⟩ := own_sb ho1
      have S1 := Lib.hid hs1
      have E1 := Lib.hid (E2.out.keep (below_alloc1 hb1))
      have LL1 := Lib.hid hl1
      clear ho1 hs1 hb1 hl1 E2
      have hz_2 := E1.out.bel.size
      go_wp2_with (at_builtin; refine wpList_append_any _ rfl (.tmp 18) (.tmp 22) _ rfl (w.heap.size + 1) 5 i0 _ 1 1 Tryd.underlying25 HI.out hz0 hz1 hz2 rfl (by decide) _ L2 _ rfl E1.out.own _ A1 L1 c1 _ rfl S1.out.rb (bs_one _) (by unfold maxLen; omega) (by omega) (by have := E1.out.rq.lt; omega) ?_; intro v2 wa2 hown2 hg2 hat2; have E2 := Lib.hid (E1.out.app hown2 hg2); clear hown2 hg2 hat2)
      go_meet
      case rel => obtain ⟨A, c, e, _⟩ := own_sb E2.out.own; exact ⟨A, _, c, e, by omega, by rw [← e]; simpa [hS] using E2.out⟩
  obtain ⟨A, N, c, rfl, hN, he⟩ := hcut
  have E := Lib.hid he
  clear he E2 hL2
  generalize hP : (put r.kind.toNat ++ (if hasS r.kind then put r.ses.toNat else [])) = P at E
  have HP : Hid (codeR q = P ++ tailR q) := Lib.hid (by rw [HCODE.out, hP])
  clear hP HCODE
  obtain ⟨k, hk⟩ := Int.eq_ofNat_of_zero_le (show 0 ≤ r.kind by omega)
  have k0 := E.out.rq.c0
  have TK := Lib.hid hk
  have hk' : k = 1 ∨ k = 2 ∨ k = 3 ∨ k = 4 ∨ k = 5 ∨ k = 6 ∨ k = 7 ∨ k = 8 ∨ k = 9 := by omega
  rw [hk] at k0
  clear hk1 hk9 hk HH hs1 hs2
  rcases hk' with rfl | rfl | rfl | rfl | rfl | rfl | rfl | rfl | rfl
  ·
    have EF := Lib.hid (own_sb1' E.out.own)
    have BF := Lib.hid E.out.bel
    go_wp2_with fail
    go_ret2
    exact EPost.good HCK.out BF.out EF.out (by rw [HP.out]; unfold tailR; rw [HQ.out.is.kind, TK.out]; simp)
  ·
    have EF := Lib.hid (own_sb1' E.out.own)
    have BF := Lib.hid E.out.bel
    go_wp2_with fail
    go_ret2
    exact EPost.good HCK.out BF.out EF.out (by rw [HP.out]; unfold tailR; rw [HQ.out.is.kind, TK.out]; simp)
  ·
    have k2 := E.out.rq.c2
    have k3 := E.out.rq.c3
    have h1 : 1 ≤ r.kk := by have := (OK.out.nkk (by rw [HQ.out.is.kind, TK.out]; rfl)).1; rw [HQ.out.is.kk] at this; exact this
    have h2 : r.kk ≤ 17 := by have := (OK.out.nkk (by rw [HQ.out.is.kind, TK.out]; rfl)).2; rw [HQ.out.is.kk] at this; exact this
    have hkc := HQ.out.kc
    have hw : IntKind.i64.wrap (r.kc : Int) = (r.kc : Int) := by rw [IntKind.wrap_i64]; omega
    go_wp2_with fail
    refine (uints_any _ 2 2 [r.kk, (r.kc : Int)] _ (ri_lit .i64 _ _ _ _ 2 _ [r.kk, (r.kc : Int)] rfl rfl rfl) (by decide) (by intro z hz; simp at hz; rcases hz with rfl | rfl <;> omega)).mono ?_
    rintro e w3 ⟨b3, L3, rfl, ho3, hL3, hb3⟩
    rw [uints_two] at ho3
    have hl3 := own_len ho3
    obtain ⟨A3, c3, rfl, hs3⟩ := own_sb ho3
    have S3 := Lib.hid hs3
    have E3 := Lib.hid (E.out.keep (below_alloc1 hb3))
    have LL3 := Lib.hid hl3
    clear ho3 hs3 hb3 hl3 E
    have hz_4 := E3.out.bel.size
    go_wp2_with (at_builtin; refine wpList_append_any _ rfl (.tmp 28) (.tmp 37) _ rfl (w.heap.size + 1) 5 i0 _ 1 1 Tryd.underlying25 HI.out hz0 hz1 hz2 rfl (by decide) _ N _ rfl E3.out.own _ A3 L3 c3 _ rfl S3.out.rb (bs_one _) (by unfold maxLen; omega) (by omega) (by have := E3.out.rq.lt; omega) ?_; intro v4 wa4 hown4 hg4 hat4; have E4 := Lib.hid (E3.out.app hown4 hg4); clear hown4 hg4 hat4)
    obtain ⟨AF, cF, e, hsF⟩ := own_sb E4.out.own
    have EF := Lib.hid hsF
    have BF := Lib.hid E4.out.bel
    clear E4 hsF
    subst e
    go_wp2_with fail
    go_ret2
    exact EPost.good HCK.out BF.out EF.out (by rw [HP.out]; unfold tailR; rw [HQ.out.is.kind, TK.out]; simp [HQ.out.is.kk, HQ.out.is.kc])
  ·
    have k4 := E.out.rq.c4
    have l4 : r.bef.size ≤ 4096 := by have := OK.out.lbef; rw [HQ.out.is.bef] at this; exact this
    have l5 : r.sel.size ≤ 4096 := by have := OK.out.lsel; rw [HQ.out.is.sel] at this; exact this
    have p4 := putT_small l4
    have p5 := putT_small l5
    go_wp2_with fail
    refine (textR_any r.bef _ (by omega)).mono ?_
    rintro e w5 ⟨b5, rfl, ho5, hb5⟩
    have hl5 := own_len ho5
    obtain ⟨A5, c5, rfl, hs5⟩ := own_sb ho5
    have S5 := Lib.hid hs5
    have E5 := Lib.hid (E.out.keep hb5)
    have LL5 := Lib.hid hl5
    clear ho5 hs5 hb5 hl5 E
    have hz_6 := E5.out.bel.size
    go_wp2_with (at_builtin; refine wpList_append_any _ rfl (.tmp 41) (.tmp 44) _ rfl (w.heap.size + 1) 5 i0 _ 1 1 Tryd.underlying25 HI.out hz0 hz1 hz2 rfl (by decide) _ N _ rfl E5.out.own _ A5 (putT r.bef.data.toList).length c5 _ rfl S5.out.rb (bs_one _) (by unfold maxLen; omega) (by omega) (by have := E5.out.rq.lt; omega) ?_; intro v6 wa6 hown6 hg6 hat6; have E6 := Lib.hid (E5.out.app hown6 hg6); clear hown6 hg6 hat6; have k5 := E6.out.rq.c4; have k6 := E6.out.rq.c5)
    refine (textR_any r.sel _ (by omega)).mono ?_
    rintro e w7 ⟨b7, rfl, ho7, hb7⟩
    have hl7 := own_len ho7
    obtain ⟨A7, c7, rfl, hs7⟩ := own_sb ho7
    have S7 := Lib.hid hs7
    have E7 := Lib.hid (E6.out.keep hb7)
    have LL7 := Lib.hid hl7
    clear ho7 hs7 hb7 hl7 E6
    have hz_8 := E7.out.bel.size
    go_wp2_with (at_builtin; refine wpList_append_any _ rfl (.tmp 46) (.tmp 49) _ rfl (w.heap.size + 1) 5 i0 _ 1 1 Tryd.underlying25 HI.out hz0 hz1 hz2 rfl (by decide) _ (N + (putT r.bef.data.toList).length) _ rfl E7.out.own _ A7 (putT r.sel.data.toList).length c7 _ rfl S7.out.rb (bs_one _) (by unfold maxLen; omega) (by omega) (by have := E7.out.rq.lt; omega) ?_; intro v8 wa8 hown8 hg8 hat8; have E8 := Lib.hid (E7.out.app hown8 hg8); clear hown8 hg8 hat8)
    obtain ⟨AF, cF, e, hsF⟩ := own_sb E8.out.own
    have EF := Lib.hid hsF
    have BF := Lib.hid E8.out.bel
    clear E8 hsF
    subst e
    go_wp2_with fail
    go_ret2
    exact EPost.good HCK.out BF.out EF.out (by rw [HP.out]; unfold tailR; rw [HQ.out.is.kind, TK.out]; simp [HQ.out.is.bef, HQ.out.is.sel])
  ·
    have k6 := E.out.rq.c6
    have hbn : bitN r.on ≤ 1 := by cases r.on <;> decide
    go_wp2_with fail
    refine (flag_any _ _).mono ?_
    rintro e wq ⟨rfl, rfl⟩
    go_wp2_with fail
    refine (uints_any _ 1 1 [((bitN r.on : Nat) : Int)] _ (ri_lit .i64 _ _ _ _ 1 _ [((bitN r.on : Nat) : Int)] rfl rfl rfl) (by decide) (by intro z hz; simp at hz; subst hz; omega)).mono ?_
    rintro e w9 ⟨b9, L9, rfl, ho9, hL9, hb9⟩
    rw [uints_one] at ho9
    have hl9 := own_len ho9
    obtain ⟨A9, c9, rfl, hs9⟩ := own_sb ho9
    have S9 := Lib.hid hs9
    have E9 := Lib.hid (E.out.keep (below_alloc1 hb9))
    have LL9 := Lib.hid hl9
    clear ho9 hs9 hb9 hl9 E
    have hz_10 := E9.out.bel.size
    go_wp2_with (at_builtin; refine wpList_append_any _ rfl (.tmp 53) (.tmp 58) _ rfl (w.heap.size + 1) 5 i0 _ 1 1 Tryd.underlying25 HI.out hz0 hz1 hz2 rfl (by decide) _ N _ rfl E9.out.own _ A9 L9 c9 _ rfl S9.out.rb (bs_one _) (by unfold maxLen; omega) (by omega) (by have := E9.out.rq.lt; omega) ?_; intro v10 wa10 hown10 hg10 hat10; have E10 := Lib.hid (E9.out.app hown10 hg10); clear hown10 hg10 hat10)
    obtain ⟨AF, cF, e, hsF⟩ := own_sb E10.out.own
    have EF := Lib.hid hsF
    have BF := Lib.hid E10.out.bel
    clear E10 hsF
    subst e
    go_wp2_with fail
    go_ret2
    exact EPost.good HCK.out BF.out EF.out (by rw [HP.out]; unfold tailR; rw [HQ.out.is.kind, TK.out]; simp [HQ.out.is.on])
  ·
    have k7 := E.out.rq.c7
    have l4 : r.sur.size ≤ 4096 := by have := OK.out.lsur; rw [HQ.out.is.sur] at this; exact this
    have p4 := putT_small l4
    go_wp2_with fail
    refine (textR_any r.sur _ (by omega)).mono ?_
    rintro e w11 ⟨b11, rfl, ho11, hb11⟩
    have hl11 := own_len ho11
    obtain ⟨A11, c11, rfl, hs11⟩ := own_sb ho11
    have S11 := Lib.hid hs11
    have E11 := Lib.hid (E.out.keep hb11)
    have LL11 := Lib.hid hl11
    clear ho11 hs11 hb11 hl11 E
    have hz_12 := E11.out.bel.size
    go_wp2_with (at_builtin; refine wpList_append_any _ rfl (.tmp 62) (.tmp 65) _ rfl (w.heap.size + 1) 5 i0 _ 1 1 Tryd.underlying25 HI.out hz0 hz1 hz2 rfl (by decide) _ N _ rfl E11.out.own _ A11 (putT r.sur.data.toList).length c11 _ rfl S11.out.rb (bs_one _) (by unfold maxLen; omega) (by omega) (by have := E11.out.rq.lt; omega) ?_; intro v12 wa12 hown12 hg12 hat12; have E12 := Lib.hid (E11.out.app hown12 hg12); clear hown12 hg12 hat12)
    obtain ⟨AF, cF, e, hsF⟩ := own_sb E12.out.own
    have EF := Lib.hid hsF
    have BF := Lib.hid E12.out.bel
    clear E12 hsF
    subst e
    go_wp2_with fail
    go_ret2
    exact EPost.good HCK.out BF.out EF.out (by rw [HP.out]; unfold tailR; rw [HQ.out.is.kind, TK.out]; simp [HQ.out.is.sur])
  ·
    have k8 := E.out.rq.c8
    have HSL : Hid (q.seen.length = r.n7) := Lib.hid HQ.out.seen.len
    have hn7 : r.n7 ≤ 8 := by have := OK.out.lseen; rw [HSL.out] at this; exact this
    go_wp2_with fail
    refine (uints_any _ 1 1 [(r.n7 : Int)] _ (ri_lit .i64 _ _ _ _ 1 _ [(r.n7 : Int)] rfl rfl rfl) (by decide) (by intro z hz; simp at hz; subst hz; omega)).mono ?_
    rintro e w13 ⟨b13, L13, rfl, ho13, hL13, hb13⟩
    rw [uints_one] at ho13
    have hl13 := own_len ho13
    obtain ⟨A13, c13, rfl, hs13⟩ := own_sb ho13
    have S13 := Lib.hid hs13
    have E13 := Lib.hid (E.out.keep (below_alloc1 hb13))
    have LL13 := Lib.hid hl13
    clear ho13 hs13 hb13 hl13 E
    have hz_14 := E13.out.bel.size
    go_wp2_with (at_builtin; refine wpList_append_any _ rfl (.tmp 69) (.tmp 74) _ rfl (w.heap.size + 1) 5 i0 _ 1 1 Tryd.underlying25 HI.out hz0 hz1 hz2 rfl (by decide) _ N _ rfl E13.out.own _ A13 L13 c13 _ rfl S13.out.rb (bs_one _) (by unfold maxLen; omega) (by omega) (by have := E13.out.rq.lt; omega) ?_; intro v14 wa14 hown14 hg14 hat14; have E14 := Lib.hid (E13.out.app hown14 hg14); clear hown14 hg14 hat14; have k9 := E14.out.rq.c8)
    refine (uints_any _ _ _ q.seen _ (HQ.out.keep E14.out.bel).seen (by omega) (fun z hz => by have := OK.out.nseen z hz; omega)).mono ?_
    rintro e w15 ⟨b15, L15, rfl, ho15, hL15, hb15⟩
    have hl15 := own_len ho15
    obtain ⟨A15, c15, rfl, hs15⟩ := own_sb ho15
    have S15 := Lib.hid hs15
    have E15 := Lib.hid (E14.out.keep hb15)
    have LL15 := Lib.hid hl15
    clear ho15 hs15 hb15 hl15 E14
    have hz_16 := E15.out.bel.size
    go_wp2_with (at_builtin; refine wpList_append_any _ rfl (.tmp 76) (.tmp 79) _ rfl (w.heap.size + 1) 5 i0 _ 1 1 Tryd.underlying25 HI.out hz0 hz1 hz2 rfl (by decide) _ (N + L13) _ rfl E15.out.own _ A15 L15 c15 _ rfl S15.out.rb (bs_one _) (by unfold maxLen; omega) (by omega) (by have := E15.out.rq.lt; omega) ?_; intro v16 wa16 hown16 hg16 hat16; have E16 := Lib.hid (E15.out.app hown16 hg16); clear hown16 hg16 hat16)
    obtain ⟨AF, cF, e, hsF⟩ := own_sb E16.out.own
    have EF := Lib.hid hsF
    have BF := Lib.hid E16.out.bel
    clear E16 hsF
    subst e
    go_wp2_with fail
    go_ret2
    exact EPost.good HCK.out BF.out EF.out (by rw [HP.out]; unfold tailR; rw [HQ.out.is.kind, TK.out]; simp [HSL.out])
  ·
    have k9 := E.out.rq.c9
    have HD := Lib.hid (HQ.out.keep E.out.bel).data.rb
    have hcv := HD.out.run_string (P := Tryd.prog) r.c8 25 5 9 Tryd.underlying25 Tryd.underlying5 Tryd.underlying9
    have HDL : Hid (q.data.length = r.n8) := Lib.hid HD.out.len
    have hn8 : r.n8 ≤ 69632 := by have := OK.out.ldata; rw [HDL.out] at this; exact this
    have hbs : (⟨q.data.toArray⟩ : ByteArray).size = q.data.length := by simp [ByteArray.size]
    have hbz : (⟨q.data.toArray⟩ : ByteArray).size ≤ 69632 := by have := HDL.out; omega
    have hpl : (putT (⟨q.data.toArray⟩ : ByteArray).data.toList).length ≤ 70000 := by
      have := put_len q.data.length
      have := HDL.out
      unfold putT
      rw [List.length_append]
      simp
      omega
    have HBA : Hid ((⟨q.data.toArray⟩ : ByteArray).data.toList = q.data) := Lib.hid (by simp)
    clear hbs
    generalize hSD : (⟨q.data.toArray⟩ : ByteArray) = SD at hcv hbz hpl HBA
    clear hSD
    go_wp2_with fail
    refine (textR_any SD _ (by omega)).mono ?_
    rintro e w17 ⟨b17, rfl, ho17, hb17⟩
    have hl17 := own_len ho17
    obtain ⟨A17, c17, rfl, hs17⟩ := own_sb ho17
    have S17 := Lib.hid hs17
    have E17 := Lib.hid (E.out.keep hb17)
    have LL17 := Lib.hid hl17
    clear ho17 hs17 hb17 hl17 E
    have hz_18 := E17.out.bel.size
    go_wp2_with (at_builtin; refine wpList_append_any _ rfl (.tmp 83) (.tmp 87) _ rfl (w.heap.size + 1) 5 i0 _ 1 1 Tryd.underlying25 HI.out hz0 hz1 hz2 rfl (by decide) _ N _ rfl E17.out.own _ A17 (putT SD.data.toList).length c17 _ rfl S17.out.rb (bs_one _) (by unfold maxLen; omega) (by omega) (by have := E17.out.rq.lt; omega) ?_; intro v18 wa18 hown18 hg18 hat18; have E18 := Lib.hid (E17.out.app hown18 hg18); clear hown18 hg18 hat18)
    obtain ⟨AF, cF, e, hsF⟩ := own_sb E18.out.own
    have EF := Lib.hid hsF
    have BF := Lib.hid E18.out.bel
    clear E18 hsF
    subst e
    go_wp2_with fail
    go_ret2
    exact EPost.good HCK.out BF.out EF.out (by rw [HP.out]; unfold tailR; rw [HQ.out.is.kind, TK.out]; simp [HBA.out])
  ·
    have EF := Lib.hid (own_sb1' E.out.own)
    have BF := Lib.hid E.out.bel
    go_wp2_with fail
    go_ret2
    exact EPost.good HCK.out BF.out EF.out (by rw [HP.out]; unfold tailR; rw [HQ.out.is.kind, TK.out]; simp)
theorem encR_any (r : Req) (q : Rq) (w : World) (hq : RqIn w r q) (hb : r.bef.size ≤ 30000000000000) (hs : r.sel.size ≤ 30000000000000) (hu : r.sur.size ≤ 30000000000000) :
    Calls Tryd.prog 24 #[.agg r.cells] w (EPost w q) := by
  by_cases hck : chkR q = 0
  · exact encR_good r q w hq hb hs hu hck
  · exact encR_bad r q w hq hb hs hu hck
end Go.Proofs.YtkllfnaofapfnaaDoor.Prot
