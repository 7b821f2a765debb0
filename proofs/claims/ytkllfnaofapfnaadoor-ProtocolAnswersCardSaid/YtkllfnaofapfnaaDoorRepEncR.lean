/-
  The contract of EncodeReply of package henkanref42. Conditions: the reply can be read; the lengths of its strings are within the form's reach. (Printed by gen/repencr.py.)
-/
import Derived.Test.YtkllfnaofapfnaaDoorRepChkR
import Derived.Test.YtkllfnaofapfnaaDoorRepEnc
import Derived.Deep.RegionHeld3
namespace Go.Proofs.YtkllfnaofapfnaaDoor.Prot
open Go.RowKit Wd Utf Cod

/-- the memory of the reference's EncodeReply: the reply, the view, the code as far as it is written -/
structure ER (w : World) (r : Rep) (V : Nat) (v : Value) (N : Nat) (l : List UInt8) (wx : World) : Prop where
  rep : Blk wx w.heap.size 48 r.cells
  view : Blk wx V 32 r.view
  own : wx.ownsRow (V + 1) 5 1 v N (bs l)
  lo : w.heap.size < V
  bel : Below w.heap.size w wx
section
variable {w wx wy : World} {r : Rep} {V N m : Nat} {v v2 : Value} {l l2 : List UInt8}
theorem ER.keep (h : ER w r V v N l wx) (hb : Below wx.heap.size wx wy) : ER w r V v N l wy := ⟨h.rep.below hb h.rep.lt, h.view.below hb h.view.lt, own_keep h.own hb, h.lo, h.bel.trans (hb.mono h.bel.size)⟩
theorem ER.drew (h : ER w r V v N l wx) : ER w r V v N l wx.drew := h.keep ((Below.refl _ _).drew)
theorem ER.len (h : ER w r V v N l wx) : l.length = N := by have := h.own.1; rw [bs_length] at this; omega
theorem ER.app (h : ER w r V v N l wx) (ho : wy.ownsRow (V + 1) 5 1 v2 (N + m) (bs l ++ bs l2)) (hg : wx.grownBy wy v.ownBlock) : ER w r V v2 (N + m) (l ++ l2) wy := by
  have hlo := h.lo
  refine ⟨Blk.grown h.rep hg (fun e => ?_), Blk.grown h.view hg (fun e => ?_), by rw [bs_append]; exact ho, h.lo, h.bel.grown hg h.bel.size (fun k hk => by have := (h.own.lt k hk).1; omega)⟩
  · have := (h.own.lt _ e.symm).1
    omega
  · have := (h.own.lt _ e.symm).1
    omega
end
theorem own_lenP {w : World} {base n : Nat} {e : TypeId} {v : Value} {l : List UInt8} (h : w.ownsRow base e 1 v n (bs l)) : l.length = n := by have := h.1; rw [bs_length] at this; omega
theorem RR.cell1 {w : World} {ad : Addr} {n k : Nat} {l : List (ByteArray × Int)} {x : ByteArray × Int} (h : RR w (some ad) n l) (hx : l[k]? = some x) : w.cell? (ad.add (k * 2)) = some (.string x.1) ∧ w.cell? ⟨(ad.add (k * 2)).block, (ad.add (k * 2)).off + 1, none⟩ = some (.int .i64 x.2) := by
  obtain ⟨hk, _⟩ := List.getElem?_eq_some_iff.1 hx
  obtain ⟨ad', x', e', hx', _, h1, h2⟩ := h.at_ (k := k) (by rw [← h.len]; exact hk)
  injection e' with e'
  subst e'
  rw [hx] at hx'
  injection hx' with hx'
  subst hx'
  exact ⟨h1, h2⟩
theorem puts_three {a b c : Nat} : ([(a : Int), (b : Int), (c : Int)].flatMap fun z => put z.toNat) = put a ++ put b ++ put c := by simp
theorem puts_two {a b : Nat} : ([(a : Int), (b : Int)].flatMap fun z => put z.toNat) = put a ++ put b := by simp
theorem puts_one {a : Nat} : ([(a : Int)].flatMap fun z => put z.toNat) = put a := by simp
set_option maxRecDepth 100000 in
set_option maxHeartbeats 4000000 in
theorem encPR_bad (r : Rep) (q : Rp) (w : World) (hq : RpIn w r q) (hsp : ∀ x ∈ q.pre, x.1.size ≤ 30000000000000) (hsc : ∀ s ∈ q.cands, s.size ≤ 30000000000000) (hsm : r.commit.size ≤ 30000000000000) (hck : chkP q ≠ 0) :
    Calls Tryd.prog 26 #[.agg r.cells] w (EPostP w q) := by
  have hb0 : Below w.heap.size w (w.alloc (.cells r.cells 48)) := (Below.refl _ _).alloc (Nat.le_refl _) _
  have HC := Lib.hid (checkPR_any r q _ (hq.keep hb0) hsp hsc hsm)
  have B0 := Lib.hid hb0
  have HCK := Lib.hid hck
  have hne : (((chkP q : Nat) : Int) != 0) = true := by rw [bne_iff_ne]; omega
  clear hq hck hb0
  generalize hz : chkP q = z at HC hne
  have HZ := Lib.hid hz
  clear hz
  unfold Rep.cells at HC B0 ⊢
  go_enter Tryd.func26, Tryd.ntmps26
  go_wp2_with fail
  refine HC.out.mono ?_
  rintro e w1 ⟨rfl, hb1⟩
  have B1 := Lib.hid (B0.out.trans (hb1.mono B0.out.size))
  clear hb1
  go_wp2_with fail
  go_ret2
  have := EPostP.bad HCK.out B1.out
  rw [HZ.out] at this
  exact this
set_option maxRecDepth 100000 in
set_option maxHeartbeats 16000000 in
theorem encPR_good (en sn ca er : Nat) (Ap Ac Ad : Option Addr) (np cp nc cc nd cd : Nat) (ch : Int) (commit : ByteArray) (taken : Bool) (q : Rp) (w : World) (hq : RpIn w (⟨(en : Int), (sn : Int), Ap, np, cp, (ca : Int), Ac, nc, cc, ch, commit, (er : Int), taken, Ad, nd, cd⟩ : Rep) q) (hck : chkP q = 0) :
    Calls Tryd.prog 26 #[.agg (Rep.cells (⟨(en : Int), (sn : Int), Ap, np, cp, (ca : Int), Ac, nc, cc, ch, commit, (er : Int), taken, Ad, nd, cd⟩ : Rep))] w (EPostP w q) := by
  have hb0 : Below w.heap.size w (w.alloc (.cells (Rep.cells (⟨(en : Int), (sn : Int), Ap, np, cp, (ca : Int), Ac, nc, cc, ch, commit, (er : Int), taken, Ad, nd, cd⟩ : Rep)) 48)) := (Below.refl _ _).alloc (Nat.le_refl _) _
  have OK := Lib.hid (okayP_of hck)
  have HC := Lib.hid (checkPR_any _ q _ (hq.keep hb0) (fun x hx => Nat.le_trans (OK.out.lpre x hx) (by decide)) (fun s hs => Nat.le_trans (OK.out.lcands s hs) (by decide)) (by rw [← hq.commit]; exact Nat.le_trans OK.out.lcommit (by decide)))
  rw [hck] at HC
  have HQ := Lib.hid hq
  have B0 := Lib.hid hb0
  have R0 := Lib.hid (Blk.new w 48 (Rep.cells (⟨(en : Int), (sn : Int), Ap, np, cp, (ca : Int), Ac, nc, cc, ch, commit, (er : Int), taken, Ad, nd, cd⟩ : Rep)))
  have HCK := Lib.hid hck
  have hen : en ≤ 2147483647 := by have h1 := OK.out.err; rw [hq.err] at h1; simp only at h1; omega
  have hsn : sn ≤ 2147483647 := by have h1 := OK.out.ses; rw [hq.ses] at h1; simp only at h1; omega
  have hca : ca ≤ 2147483647 := by have h1 := OK.out.caret; rw [hq.caret] at h1; simp only at h1; omega
  have her : er ≤ 2147483647 := by have h1 := OK.out.erase; rw [hq.erase] at h1; simp only at h1; omega
  have hch1 : -1 ≤ ch := by have h1 := OK.out.chosen; rw [hq.chosen] at h1; exact h1.1
  have hch2 : ch ≤ 2147483647 := by have h1 := OK.out.chosen; rw [hq.chosen] at h1; exact h1.2
  have hnp : np ≤ 1000 := by have h1 := OK.out.npre; rw [hq.pre.len] at h1; exact h1
  have hnc : nc ≤ 60 := by have h1 := OK.out.ncands; rw [hq.cands.len] at h1; exact h1
  have hnd : nd ≤ 69632 := by have h1 := OK.out.ldata; rw [hq.data.rb.len] at h1; exact h1
  have hlm : commit.size ≤ 4096 := by have h1 := OK.out.lcommit; rw [hq.commit] at h1; exact h1
  have hbt : bitN taken ≤ 1 := by cases taken <;> decide
  have HCODE : Hid (codeP q = put en ++ (put sn ++ (put np ++ (q.pre.flatMap runC ++ (put ca ++ (put nc ++ (q.cands.flatMap (fun s => putT s.data.toList) ++ (put (zig ch) ++ (putT commit.data.toList ++ (put er ++ (put (bitN taken) ++ putT q.data))))))))))) := Lib.hid (by
    unfold codeP
    rw [hq.err, hq.ses, hq.pre.len, hq.caret, hq.cands.len, hq.chosen, hq.commit, hq.erase, hq.taken]
    rfl)
  have HPL := Lib.hid hq.pre.len
  have HCL := Lib.hid hq.cands.len
  have HDL := Lib.hid hq.data.rb.len
  clear hq hck hb0
  obtain ⟨i0, hi, hz0, hz1, hz2⟩ := info_parts Tryd.infoU8
  have HI := Lib.hid hi
  clear hi
  unfold Rep.cells at HC B0 R0 ⊢
  simp only at HPL HCL HDL
  go_enter Tryd.func26, Tryd.ntmps26
  go_wp2_with fail
  refine HC.out.mono ?_
  rintro e w1 ⟨rfl, hb1⟩
  have R1 : Hid (Blk w1 w.heap.size 48 (Rep.cells (⟨(en : Int), (sn : Int), Ap, np, cp, (ca : Int), Ac, nc, cc, ch, commit, (er : Int), taken, Ad, nd, cd⟩ : Rep))) := Lib.hid (R0.out.below hb1 R0.out.lt)
  have B1 : Hid (Below w.heap.size w w1) := Lib.hid (B0.out.trans (hb1.mono B0.out.size))
  clear hb1 HC R0 B0
  have hlt1 : w.heap.size < w1.heap.size := R1.out.lt
  have R2 : Hid (Blk (w1.alloc (.cells #[.slice Ap np cp, .int .i64 (ca : Int), .slice Ac nc cc, .int .i64 ch, .string commit, .int .i64 (er : Int), .bool taken] 32)) w.heap.size 48 (Rep.cells (⟨(en : Int), (sn : Int), Ap, np, cp, (ca : Int), Ac, nc, cc, ch, commit, (er : Int), taken, Ad, nd, cd⟩ : Rep))) := Lib.hid (R1.out.alloc _)
  have V2 : Hid (Blk (w1.alloc (.cells #[.slice Ap np cp, .int .i64 (ca : Int), .slice Ac nc cc, .int .i64 ch, .string commit, .int .i64 (er : Int), .bool taken] 32)) w1.heap.size 32 (Rep.view (⟨(en : Int), (sn : Int), Ap, np, cp, (ca : Int), Ac, nc, cc, ch, commit, (er : Int), taken, Ad, nd, cd⟩ : Rep))) := Lib.hid (Blk.new w1 _ _)
  have B2 : Hid (Below w.heap.size w (w1.alloc (.cells #[.slice Ap np cp, .int .i64 (ca : Int), .slice Ac nc cc, .int .i64 ch, .string commit, .int .i64 (er : Int), .bool taken] 32))) := Lib.hid (B1.out.alloc B1.out.size _)
  have k0 : w1.cell? ⟨w.heap.size, 0, none⟩ = some (.int .i64 (en : Int)) := R1.out.cell 0
  have k1 : w1.cell? ⟨w.heap.size, 1, none⟩ = some (.int .i64 (sn : Int)) := R1.out.cell 1
  have k2 : w1.cell? ⟨w.heap.size, 2, none⟩ = some (.slice Ap np cp) := R1.out.cell 2
  have k3 : w1.cell? ⟨w.heap.size, 3, none⟩ = some (.int .i64 (ca : Int)) := R1.out.cell 3
  have k4 : w1.cell? ⟨w.heap.size, 4, none⟩ = some (.slice Ac nc cc) := R1.out.cell 4
  have k5 : w1.cell? ⟨w.heap.size, 5, none⟩ = some (.int .i64 ch) := R1.out.cell 5
  have k6 : w1.cell? ⟨w.heap.size, 6, none⟩ = some (.string commit) := R1.out.cell 6
  have k7 : w1.cell? ⟨w.heap.size, 7, none⟩ = some (.int .i64 (er : Int)) := R1.out.cell 7
  have k8 : w1.cell? ⟨w.heap.size, 8, none⟩ = some (.bool taken) := R1.out.cell 8
  have k9 : w1.cell? ⟨w.heap.size, 9, none⟩ = some (.slice Ad nd cd) := R1.out.cell 9
  have hz2s : (w1.alloc (.cells #[.slice Ap np cp, .int .i64 (ca : Int), .slice Ac nc cc, .int .i64 ch, .string commit, .int .i64 (er : Int), .bool taken] 32)).heap.size = w1.heap.size + 1 := by simp
  have HZ2 := Lib.hid hz2s
  clear hz2s
  go_wp2_with fail
  refine (uints_any _ 3 3 [(en : Int), (sn : Int), (np : Int)] _ (ri_lit .i64 _ _ _ _ 3 _ [(en : Int), (sn : Int), (np : Int)] HZ2.out rfl rfl) (by decide) (by intro z hz; simp at hz; rcases hz with rfl | rfl | rfl <;> omega)).mono ?_
  rintro e w3 ⟨b3, L3, rfl, ho3, hL3, hb3⟩
  rw [puts_three] at ho3
  have hb3' := below_alloc1 hb3
  have E3 : Hid (ER w (⟨(en : Int), (sn : Int), Ap, np, cp, (ca : Int), Ac, nc, cc, ch, commit, (er : Int), taken, Ad, nd, cd⟩ : Rep) w1.heap.size b3 L3 (put en ++ put sn ++ put np) w3) := Lib.hid ⟨R2.out.below hb3' R2.out.lt, V2.out.below hb3' V2.out.lt, own_mono ho3 (by have := HZ2.out; simp; try omega), hlt1, B2.out.trans (hb3'.mono B2.out.size)⟩
  obtain ⟨A3, c3, rfl, _⟩ := own_sb ho3
  clear hb3 hb3' ho3 R1 R2 V2 B1 B2 k0 k1 k2 k3 k4 k5 k6 k7 k8 k9 HZ2
  have kv0 : w3.cell? ⟨w1.heap.size, 0, none⟩ = some (.slice Ap np cp) := E3.out.view.cell 0
  go_wp2_with fail
  go_loopw [6, 7] (fun b i wr => ∃ (j : Nat) (A : Option Addr) (N c : Nat), j ≤ np ∧ i = .int .i64 (j : Int) ∧ b = .slice A N c ∧ N ≤ 60 + 6000 * j ∧ ER w (⟨(en : Int), (sn : Int), Ap, np, cp, (ca : Int), Ac, nc, cc, ch, commit, (er : Int), taken, Ad, nd, cd⟩ : Rep) w1.heap.size (.slice A N c) N (put en ++ put sn ++ put np ++ (q.pre.take j).flatMap runC) wr) (fun _ i _ => np - (intOf i).toNat)
  case atStart => exact ⟨0, A3, L3, c3, Nat.zero_le _, rfl, rfl, by omega, by simpa using E3.out⟩
  case round =>
    obtain ⟨j, Aj, Nj, cj, hj, rfl, rfl, hNj, hej⟩ := hrel
    have EJ := Lib.hid hej
    clear hej E3 kv0
    have kv0 : wr.cell? ⟨w1.heap.size, 0, none⟩ = some (.slice Ap np cp) := EJ.out.view.cell 0
    by_cases hlt : j < np
    · obtain ⟨ad, x, rfl, hp, hbl, hc1, hc2⟩ := (HQ.out.keep EJ.out.bel).pre.at_ hlt
      obtain ⟨t, a⟩ := x
      have hat := OK.out.attr _ (List.mem_of_getElem? hp)
      have htl := OK.out.lpre _ (List.mem_of_getElem? hp)
      obtain ⟨an, rfl⟩ : ∃ an : Nat, a = (an : Int) := Int.eq_ofNat_of_zero_le (by have := hat.1; simp only at this; omega)
      simp only at hat htl hc1 hc2
      have HRC := Lib.hid (run_code hp)
      have HP := Lib.hid hp
      have hx1 := putT_le htl
      have hx2 := put_len an
      have HB1 : Hid (ad.block < wr.heap.size) := Lib.hid hbl
      clear hp hbl
      go_wp2_with fail
      refine (textR_any t _ (by omega)).mono ?_
      rintro e w4 ⟨b4, rfl, ho4, hb4⟩
      obtain ⟨A4, c4, rfl, hs4⟩ := own_sb ho4
      have S4 := Lib.hid hs4
      have E4 := Lib.hid (EJ.out.keep hb4)
      clear ho4 hs4 hb4 EJ
      have kv0' : w4.cell? ⟨w1.heap.size, 0, none⟩ = some (.slice (some ad) np cp) := E4.out.view.cell 0
      have hz_5 := E4.out.bel.size
      have hv_5 := E4.out.view.lt
      go_wp2_with (at_builtin; refine wpList_append_any _ rfl (.tmp 32) (.tmp 39) _ rfl (w1.heap.size + 1) 5 i0 _ 1 1 Tryd.underlying25 HI.out hz0 hz1 hz2 rfl (by decide) _ Nj _ rfl E4.out.own _ A4 (putT t.data.toList).length c4 (bs (putT t.data.toList)) rfl S4.out.rb (bs_one _) (by unfold maxLen; omega) (by omega) (by omega) ?_; intro v5 wa5 hown5 hg5 hat5; have E5 := Lib.hid (E4.out.app hown5 hg5); (obtain ⟨A5, c5, rfl, _⟩ := own_sliceS hown5); clear hown5 hg5 hat5; have kv0'' : wa5.cell? ⟨w1.heap.size, 0, none⟩ = some (.slice (some ad) np cp) := E5.out.view.cell 0; have hc4 := (RR.cell1 (HQ.out.keep E5.out.bel).pre HP.out).2; simp only at hc4)
      clear hz_5 hv_5 E4 S4
      refine (uints_any _ 1 1 [(an : Int)] _ (ri_lit .i64 _ _ _ _ 1 _ [(an : Int)] rfl rfl rfl) (by decide) (by intro z hz; simp at hz; subst hz; omega)).mono ?_
      rintro e w6 ⟨b6, L6, rfl, ho6, hL6, hb6⟩
      rw [puts_one] at ho6
      obtain ⟨A6, c6, rfl, hs6⟩ := own_sb ho6
      have S6 := Lib.hid hs6
      have E6 := Lib.hid (E5.out.keep (below_alloc1 hb6))
      clear ho6 hs6 hb6 E5
      have hz_7 := E6.out.bel.size
      have hv_7 := E6.out.view.lt
      go_wp2_with (at_builtin; refine wpList_append_any _ rfl (.tmp 41) (.tmp 49) _ rfl (w1.heap.size + 1) 5 i0 _ 1 1 Tryd.underlying25 HI.out hz0 hz1 hz2 rfl (by decide) _ (Nj + (putT t.data.toList).length) _ rfl E6.out.own _ A6 L6 c6 (bs (put an)) rfl S6.out.rb (bs_one _) (by unfold maxLen; omega) (by omega) (by omega) ?_; intro v7 wa7 hown7 hg7 hat7; have E7 := Lib.hid (E6.out.app hown7 hg7); (obtain ⟨A7, c7, rfl, _⟩ := own_sliceS hown7); clear hown7 hg7 hat7)
      clear hz_7 hv_7 E6 S6
      go_roundw
      case rel => exact ⟨j + 1, A7, _, c7, by omega, by go_num, rfl, by omega, by rw [HRC.out]; have := E7.out; simpa [List.append_assoc] using this⟩
      case measure => simp [intOf]; omega
    · have hjn : j = np := by omega
      subst j
      have ht : q.pre.take np = q.pre := List.take_of_length_le (by rw [HPL.out]; omega)
      rw [ht] at EJ
      clear ht
      have kv1 : wr.cell? ⟨w1.heap.size, 1, none⟩ = some (.int .i64 (ca : Int)) := EJ.out.view.cell 1
      have kv2 : wr.cell? ⟨w1.heap.size, 2, none⟩ = some (.slice Ac nc cc) := EJ.out.view.cell 2
      go_wp2_with fail
      refine (uints_any _ 2 2 [(ca : Int), (nc : Int)] _ (ri_lit .i64 _ _ _ _ 2 _ [(ca : Int), (nc : Int)] rfl rfl rfl) (by decide) (by intro z hz; simp at hz; rcases hz with rfl | rfl <;> omega)).mono ?_
      rintro e w8 ⟨b8, L8, rfl, ho8, hL8, hb8⟩
      rw [puts_two] at ho8
      obtain ⟨A8, c8, rfl, hs8⟩ := own_sb ho8
      have S8 := Lib.hid hs8
      have E8 := Lib.hid (EJ.out.keep (below_alloc1 hb8))
      clear ho8 hs8 hb8 EJ
      clear kv0 kv1 kv2
      have hz_9 := E8.out.bel.size
      have hv_9 := E8.out.view.lt
      go_wp2_with (at_builtin; refine wpList_append_any _ rfl (.tmp 51) (.tmp 58) _ rfl (w1.heap.size + 1) 5 i0 _ 1 1 Tryd.underlying25 HI.out hz0 hz1 hz2 rfl (by decide) _ Nj _ rfl E8.out.own _ A8 L8 c8 (bs (put ca ++ put nc)) rfl S8.out.rb (bs_one _) (by unfold maxLen; omega) (by omega) (by omega) ?_; intro v9 wa9 hown9 hg9 hat9; have E9 := Lib.hid (E8.out.app hown9 hg9); (obtain ⟨A9, c9, rfl, _⟩ := own_sliceS hown9); clear hown9 hg9 hat9)
      clear hz_9 hv_9 E8 S8
      have hnbM : Nj + L8 ≤ 6100000 := by omega
      generalize Nj + L8 = M9 at E9 hnbM ⊢
      have kv2 : wa9.cell? ⟨w1.heap.size, 2, none⟩ = some (.slice Ac nc cc) := E9.out.view.cell 2
      clear hNj
      go_wp2_with fail
      go_loopw [6, 8] (fun b i wr => ∃ (i2 : Nat) (A : Option Addr) (N c : Nat), i2 ≤ nc ∧ i = .int .i64 (i2 : Int) ∧ b = .slice A N c ∧ N ≤ 6100000 + 6000 * i2 ∧ ER w (⟨(en : Int), (sn : Int), Ap, np, cp, (ca : Int), Ac, nc, cc, ch, commit, (er : Int), taken, Ad, nd, cd⟩ : Rep) w1.heap.size (.slice A N c) N (put en ++ put sn ++ put np ++ q.pre.flatMap runC ++ (put ca ++ put nc) ++ (q.cands.take i2).flatMap (fun s => putT s.data.toList)) wr) (fun _ i _ => nc - (intOf i).toNat)
      case atStart => exact ⟨0, A9, M9, c9, Nat.zero_le _, rfl, rfl, by omega, by simpa using E9.out⟩
      case round =>
        obtain ⟨i2, A2, N2, c2, hi2, rfl, rfl, hN2, he2⟩ := hrel
        have E2J := Lib.hid he2
        clear he2 E9 kv2
        rename World => wq
        by_cases hlt : i2 < nc
        · obtain ⟨ad2, rfl, hbl2, hc2⟩ := (HQ.out.keep E2J.out.bel).cands.at_ hlt
          have hlen : i2 < q.cands.length := by rw [HCL.out]; exact hlt
          have htl := OK.out.lcands (q.cands.getD i2 ByteArray.empty) (by rw [List.getD, List.getElem?_eq_getElem hlen, Option.getD_some]; exact List.getElem_mem _)
          have HRC := Lib.hid (cand_code hlen)
          have kv2 : wq.cell? ⟨w1.heap.size, 2, none⟩ = some (.slice (some ad2) nc cc) := E2J.out.view.cell 2
          clear hlen
          generalize q.cands.getD i2 ByteArray.empty = t at hc2 htl HRC
          have hx1 := putT_le htl
          go_wp2_with fail
          refine (textR_any t _ (by omega)).mono ?_
          rintro e w10 ⟨b10, rfl, ho10, hb10⟩
          obtain ⟨A10, c10, rfl, hs10⟩ := own_sb ho10
          have S10 := Lib.hid hs10
          have E10 := Lib.hid (E2J.out.keep hb10)
          clear ho10 hs10 hb10 E2J
          have hz_11 := E10.out.bel.size
          have hv_11 := E10.out.view.lt
          go_wp2_with (at_builtin; refine wpList_append_any _ rfl (.tmp 67) (.tmp 73) _ rfl (w1.heap.size + 1) 5 i0 _ 1 1 Tryd.underlying25 HI.out hz0 hz1 hz2 rfl (by decide) _ N2 _ rfl E10.out.own _ A10 (putT t.data.toList).length c10 (bs (putT t.data.toList)) rfl S10.out.rb (bs_one _) (by unfold maxLen; omega) (by omega) (by omega) ?_; intro v11 wa11 hown11 hg11 hat11; have E11 := Lib.hid (E10.out.app hown11 hg11); (obtain ⟨A11, c11, rfl, _⟩ := own_sliceS hown11); clear hown11 hg11 hat11)
          clear hz_11 hv_11 E10 S10
          go_roundw
          case rel => exact ⟨i2 + 1, A11, _, c11, by omega, by go_num, rfl, by omega, by rw [HRC.out]; have := E11.out; simpa [List.append_assoc] using this⟩
          case measure => simp [intOf]; omega
        · have hjn : i2 = nc := by omega
          subst i2
          have ht : q.cands.take nc = q.cands := List.take_of_length_le (by rw [HCL.out]; omega)
          rw [ht] at E2J
          clear ht
          have hx1 := put_len (zig ch)
          have hx2 := putT_le hlm
          have kv2 : wq.cell? ⟨w1.heap.size, 2, none⟩ = some (.slice Ac nc cc) := E2J.out.view.cell 2
          have kv3 : wq.cell? ⟨w1.heap.size, 3, none⟩ = some (.int .i64 ch) := E2J.out.view.cell 3
          go_wp2_with fail
          refine (intR_any ch _ (by omega) (by omega)).mono ?_
          rintro e w12 ⟨b12, rfl, ho12, hb12⟩
          obtain ⟨A12, c12, rfl, hs12⟩ := own_sb ho12
          have S12 := Lib.hid hs12
          have E12 := Lib.hid (E2J.out.keep hb12)
          clear ho12 hs12 hb12 E2J kv2 kv3
          have hz_13 := E12.out.bel.size
          have hv_13 := E12.out.view.lt
          go_wp2_with (at_builtin; refine wpList_append_any _ rfl (.tmp 75) (.tmp 78) _ rfl (w1.heap.size + 1) 5 i0 _ 1 1 Tryd.underlying25 HI.out hz0 hz1 hz2 rfl (by decide) _ N2 _ rfl E12.out.own _ A12 (put (zig ch)).length c12 (bs (put (zig ch))) rfl S12.out.rb (bs_one _) (by unfold maxLen; omega) (by omega) (by omega) ?_; intro v13 wa13 hown13 hg13 hat13; have E13 := Lib.hid (E12.out.app hown13 hg13); (obtain ⟨A13, c13, rfl, _⟩ := own_sliceS hown13); clear hown13 hg13 hat13; have kv4 : wa13.cell? ⟨w1.heap.size, 4, none⟩ = some (.string commit) := E13.out.view.cell 4)
          clear hz_13 hv_13 E12 S12
          refine (textR_any commit _ (by omega)).mono ?_
          rintro e w14 ⟨b14, rfl, ho14, hb14⟩
          obtain ⟨A14, c14, rfl, hs14⟩ := own_sb ho14
          have S14 := Lib.hid hs14
          have E14 := Lib.hid (E13.out.keep hb14)
          clear ho14 hs14 hb14 E13
          clear kv4
          have hz_15 := E14.out.bel.size
          have hv_15 := E14.out.view.lt
          go_wp2_with (at_builtin; refine wpList_append_any _ rfl (.tmp 80) (.tmp 83) _ rfl (w1.heap.size + 1) 5 i0 _ 1 1 Tryd.underlying25 HI.out hz0 hz1 hz2 rfl (by decide) _ (N2 + (put (zig ch)).length) _ rfl E14.out.own _ A14 (putT commit.data.toList).length c14 (bs (putT commit.data.toList)) rfl S14.out.rb (bs_one _) (by unfold maxLen; omega) (by omega) (by omega) ?_; intro v15 wa15 hown15 hg15 hat15; have E15 := Lib.hid (E14.out.app hown15 hg15); (obtain ⟨A15, c15, rfl, _⟩ := own_sliceS hown15); clear hown15 hg15 hat15)
          clear hz_15 hv_15 E14 S14
          have hnbM5 : N2 + (put (zig ch)).length + (putT commit.data.toList).length ≤ 7000000 := by omega
          generalize N2 + (put (zig ch)).length + (putT commit.data.toList).length = M5 at E15 hnbM5 ⊢
          clear hx1 hx2 hN2
          have kv5 : wa15.cell? ⟨w1.heap.size, 5, none⟩ = some (.int .i64 (er : Int)) := E15.out.view.cell 5
          have kv6 : wa15.cell? ⟨w1.heap.size, 6, none⟩ = some (.bool taken) := E15.out.view.cell 6
          have hcc15 := Lib.hid (show wa15.drew.cell? ⟨w1.heap.size, 5, none⟩ = some (.int .i64 (er : Int)) ∧ wa15.drew.cell? ⟨w1.heap.size, 6, none⟩ = some (.bool taken) from ⟨kv5, kv6⟩)
          have hvl := E15.out.view.lt
          have hbz := E15.out.bel.size
          go_wp2_with fail
          go_region_held3 (fun w' => w'.cell? ⟨w1.heap.size, 5, none⟩ = some (.int .i64 (er : Int)) ∧ w'.cell? ⟨w1.heap.size, 6, none⟩ = some (.bool taken)) (first | exact hcc15.out | exact hcc16.out | exact hcc17.out | go_keep)
            (first
              | (refine step_append_any _ (by rfl) (.tmp 85) (.tmp 92) _ (by rfl) (w1.heap.size + 1) 5 i0 _ 1 1 Tryd.underlying25 HI.out hz0 hz1 hz2 rfl (by decide) _ M5 _ (by rfl) E16.out.own _ A16 L16 c16 (bs (put er ++ put (bitN taken))) (by rfl) S16.out.rb (bs_one _) (by unfold maxLen; omega) (by omega) (by have := E16.out.view.lt; omega) ?_; intro v17 wa17 hown17 hg17 hat17; have E17 := Lib.hid (E16.out.app hown17 (by exact hg17)); (obtain ⟨A17, c17, rfl, _⟩ := own_sliceS hown17); have hcc17 := Lib.hid (show wa17.cell? ⟨w1.heap.size, 5, none⟩ = some (.int .i64 (er : Int)) ∧ wa17.cell? ⟨w1.heap.size, 6, none⟩ = some (.bool taken) from ⟨E17.out.view.cell 5, E17.out.view.cell 6⟩); clear hown17 hg17 hat17)
              | (go_at_call 49; (with_reducible refine (flag_any taken _).mono ?_); rintro e wq9 ⟨rfl, rfl⟩)
              | (go_at_call 46; (with_reducible refine (uints_any _ 2 2 [(er : Int), ((bitN taken : Nat) : Int)] _ ?_ (by decide) ?_).mono ?_); (· exact RI.drew (ri_lit .i64 _ _ _ _ 2 _ [(er : Int), ((bitN taken : Nat) : Int)] rfl rfl rfl)); (· intro z hz; simp at hz; rcases hz with rfl | rfl <;> omega); rintro e w16 ⟨b16, L16, rfl, ho16, hL16, hb16⟩; rw [puts_two] at ho16; (obtain ⟨A16, c16, rfl, hs16⟩ := own_sb ho16); have S16 := Lib.hid hs16; have E16 := Lib.hid (E15.out.keep (((Below.refl _ _).alloc (Nat.le_refl _) _).drew.trans (hb16.mono (by simp)))); have hcc16 := Lib.hid (show w16.cell? ⟨w1.heap.size, 5, none⟩ = some (.int .i64 (er : Int)) ∧ w16.cell? ⟨w1.heap.size, 6, none⟩ = some (.bool taken) from ⟨E16.out.view.cell 5, E16.out.view.cell 6⟩); clear ho16 hs16 hb16))
          clear hcc15 hcc16 hcc17 kv5 kv6 hvl hbz
          have hnbM6 : M5 + L16 ≤ 7000100 := by omega
          clear E15 E16 S16
          generalize M5 + L16 = M6 at E17 hnbM6 ⊢
          have k9 : wa17.cell? ⟨w.heap.size, 9, none⟩ = some (.slice Ad nd cd) := E17.out.rep.cell 9
          have hcv := (HQ.out.keep E17.out.bel).data.rb.run_string (P := Tryd.prog) cd 25 5 9 Tryd.underlying25 Tryd.underlying5 Tryd.underlying9
          have hxl : (putT (⟨q.data.toArray⟩ : ByteArray).data.toList).length ≤ 1000000 := by
            have := put_len q.data.length
            have := HDL.out
            unfold putT
            rw [List.length_append]
            simp
            omega
          have hbz9 : (⟨q.data.toArray⟩ : ByteArray).size ≤ 69632 := by rw [ba_size2, HDL.out]; exact hnd
          have HBA : Hid ((⟨q.data.toArray⟩ : ByteArray).data.toList = q.data) := Lib.hid (by simp)
          generalize (⟨q.data.toArray⟩ : ByteArray) = SD at hcv hxl hbz9 HBA
          go_wp2_with fail
          refine (textR_any SD _ (by omega)).mono ?_
          rintro e w18 ⟨b18, rfl, ho18, hb18⟩
          obtain ⟨A18, c18, rfl, hs18⟩ := own_sb ho18
          have S18 := Lib.hid hs18
          have E18 := Lib.hid (E17.out.keep hb18)
          clear ho18 hs18 hb18 E17
          have hz_19 := E18.out.bel.size
          have hv_19 := E18.out.view.lt
          go_wp2_with (at_builtin; refine wpList_append_any _ rfl (.tmp 94) (.tmp 98) _ rfl (w1.heap.size + 1) 5 i0 _ 1 1 Tryd.underlying25 HI.out hz0 hz1 hz2 rfl (by decide) _ M6 _ rfl E18.out.own _ A18 (putT SD.data.toList).length c18 (bs (putT SD.data.toList)) rfl S18.out.rb (bs_one _) (by unfold maxLen; omega) (by omega) (by omega) ?_; intro v19 wa19 hown19 hg19 hat19; have E19 := Lib.hid (E18.out.app hown19 hg19); (obtain ⟨A19, c19, rfl, _⟩ := own_sliceS hown19); clear hown19 hg19 hat19)
          clear hz_19 hv_19 E18 S18
          have EF := Lib.hid (own_sbP E19.out.own)
          have BF := Lib.hid E19.out.bel
          go_wp2_with fail
          go_ret2
          exact EPostP.good HCK.out BF.out EF.out (by omega) (by rw [HCODE.out, HBA.out]; simp [List.append_assoc])
theorem encPR_any (r : Rep) (q : Rp) (w : World) (hq : RpIn w r q) (hsp : ∀ x ∈ q.pre, x.1.size ≤ 30000000000000) (hsc : ∀ s ∈ q.cands, s.size ≤ 30000000000000) (hsm : r.commit.size ≤ 30000000000000) :
    Calls Tryd.prog 26 #[.agg r.cells] w (EPostP w q) := by
  by_cases hck : chkP q = 0
  · have ok := okayP_of hck
    obtain ⟨err, ses, Ap, np, cp, caret, Ac, nc, cc, ch, commit, erase, taken, Ad, nd, cd⟩ := r
    obtain ⟨en, rfl⟩ : ∃ en : Nat, err = (en : Int) := Int.eq_ofNat_of_zero_le (by have := ok.err; rw [hq.err] at this; exact this.1)
    obtain ⟨sn, rfl⟩ : ∃ sn : Nat, ses = (sn : Int) := Int.eq_ofNat_of_zero_le (by have := ok.ses; rw [hq.ses] at this; exact this.1)
    obtain ⟨ca, rfl⟩ : ∃ ca : Nat, caret = (ca : Int) := Int.eq_ofNat_of_zero_le (by have := ok.caret; rw [hq.caret] at this; exact this.1)
    obtain ⟨er, rfl⟩ : ∃ er : Nat, erase = (er : Int) := Int.eq_ofNat_of_zero_le (by have := ok.erase; rw [hq.erase] at this; exact this.1)
    exact encPR_good en sn ca er Ap Ac Ad np cp nc cc nd cd ch commit taken q w hq hck
  · exact encPR_bad r q w hq hsp hsc hsm hck
end Go.Proofs.YtkllfnaofapfnaaDoor.Prot
