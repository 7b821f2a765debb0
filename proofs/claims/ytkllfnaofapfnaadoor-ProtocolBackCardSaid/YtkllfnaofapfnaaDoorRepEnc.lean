/-
  The contract of EncodeReply of package protocol. Conditions: the reply can be read; the two tables of unicode/utf8 lie as their initialisers lay them; lengths are within the form's reach. (Printed by gen/repenc.py.)
-/
import Derived.Test.YtkllfnaofapfnaaDoorRepChk
import Derived.Test.YtkllfnaofapfnaaDoorProtEncK
import Derived.Test.YtkllfnaofapfnaaDoorCodPutI
import Derived.Deep.RegionHeld3
namespace Go.Proofs.YtkllfnaofapfnaaDoor.Prot
open Go.RowKit Wd Utf Cod

/-- how EncodeReply ends -/
def EPostP (w : World) (q : Rp) (e : Ending) (w' : World) : Prop :=
  Below w.heap.size w w' ∧ ((chkP q = 0 ∧ ∃ A n c, e = .returned (.tuple #[.slice A n c, .int .i64 0]) ∧ SB w' A n c (codeP q) ∧ n ≤ 100000000) ∨ (chkP q ≠ 0 ∧ e = .returned (.tuple #[.slice none 0 0, .int .i64 (chkP q : Nat)])))
theorem EPostP.bad {w w' : World} {q : Rp} (h : chkP q ≠ 0) (hb : Below w.heap.size w w') : EPostP w q (.returned (.tuple #[.slice none 0 0, .int .i64 (chkP q : Nat)])) w' := ⟨hb, .inr ⟨h, rfl⟩⟩
theorem EPostP.good {w w' : World} {q : Rp} {A : Option Addr} {n c : Nat} {L : List UInt8} (h : chkP q = 0) (hb : Below w.heap.size w w') (hs : SB w' A n c L) (hn : n ≤ 100000000) (hL : L = codeP q) : EPostP w q (.returned (.tuple #[.slice A n c, .int .i64 0])) w' := by
  subst hL; exact ⟨hb, .inl ⟨h, A, n, c, rfl, hs, hn⟩⟩
/-- the memory of EncodeReply -/
structure EP (w : World) (r : Rep) (q : Rp) (V : Nat) (wx : World) : Prop where
  rep : Blk wx w.heap.size 34 r.cells
  view : Blk wx V 32 r.view
  q : RpIn wx r q
  bel : Below w.heap.size w wx
theorem EP.keep {w wx wy : World} {r : Rep} {q : Rp} {V : Nat} (h : EP w r q V wx) (hb : Below wx.heap.size wx wy) : EP w r q V wy := ⟨h.rep.below hb h.rep.lt, h.view.below hb h.view.lt, h.q.keep hb, h.bel.trans (hb.mono h.bel.size)⟩
theorem EP.drew {w wx : World} {r : Rep} {q : Rp} {V : Nat} (h : EP w r q V wx) : EP w r q V wx.drew := h.keep ((Below.refl _ _).drew)
theorem run_code {l : List (ByteArray × Int)} {k : Nat} {x : ByteArray × Int} (h : l[k]? = some x) : (l.take (k + 1)).flatMap runC = (l.take k).flatMap runC ++ putT x.1.data.toList ++ put x.2.toNat := by
  obtain ⟨hk, rfl⟩ := List.getElem?_eq_some_iff.1 h
  rw [List.take_succ_eq_append_getElem hk, List.flatMap_append]
  simp [runC]
theorem cand_code {l : List ByteArray} {k : Nat} (h : k < l.length) : (l.take (k + 1)).flatMap (fun s => putT s.data.toList) = (l.take k).flatMap (fun s => putT s.data.toList) ++ putT (l.getD k ByteArray.empty).data.toList := by
  rw [List.take_succ_eq_append_getElem h, List.flatMap_append]
  simp [List.getD, h]
theorem putInt_nil (v : Nat) (w : World) (hv : v ≤ 9223372036854775807) :
    Calls Tryd.prog 35 #[.slice none 0 0, .int .i64 (v : Int)] w fun e w' => ∃ b, e = .returned b ∧ w'.ownsRow w.heap.size 5 1 b (put v).length (bs (put v)) ∧ Below w.heap.size w w' := by
  have h := putInt_any none 0 0 [] v w (sb_nil w) hv (by omega)
  rw [Nat.zero_add, List.nil_append] at h
  exact h
theorem putT_le {s : ByteArray} (h : s.size ≤ 4096) : (putT s.data.toList).length ≤ 5000 := by
  have := put_len s.data.toList.length
  have h2 := dl s
  unfold putT
  rw [List.length_append]; omega
set_option maxRecDepth 100000 in
set_option maxHeartbeats 4000000 in
theorem encP_bad (r : Rep) (q : Rp) (w : World) (hT : Tabs w) (hq : RpIn w r q) (hck : chkP q ≠ 0) :
    Calls Tryd.prog 19 #[.agg r.cells] w (EPostP w q) := by
  have hb0 : Below w.heap.size w (w.alloc (.cells r.cells 34)) := (Below.refl _ _).alloc (Nat.le_refl _) _
  have HC := Lib.hid (checkP_any r q _ (hT.keep hb0) (hq.keep hb0))
  have B0 := Lib.hid hb0
  have HCK := Lib.hid hck
  have hne : (((chkP q : Nat) : Int) != 0) = true := by rw [bne_iff_ne]; omega
  clear hT hq hck hb0
  generalize hz : chkP q = z at HC hne
  have HZ := Lib.hid hz
  clear hz
  unfold Rep.cells at HC B0 ⊢
  go_enter Tryd.func19, Tryd.ntmps19
  go_wp2_with fail
  refine HC.out.mono ?_
  rintro e w1 ⟨rfl, hb1⟩
  have B1 := Lib.hid (B0.out.trans (hb1.mono B0.out.size))
  clear hb1
  go_wp2_with fail
  go_ret2
  have := EPostP.bad HCK.out B1.out
  rw [HZ.out] at this
  exact this

set_option maxRecDepth 100000 in
set_option maxHeartbeats 8000000 in
theorem encP_good (en sn ca er : Nat) (Ap Ac Ad : Option Addr) (np cp nc cc nd cd : Nat) (ch : Int) (commit : ByteArray) (taken : Bool) (q : Rp) (w : World) (hT : Tabs w) (hq : RpIn w (⟨(en : Int), (sn : Int), Ap, np, cp, (ca : Int), Ac, nc, cc, ch, commit, (er : Int), taken, Ad, nd, cd⟩ : Rep) q) (hck : chkP q = 0) :
    Calls Tryd.prog 19 #[.agg (Rep.cells (⟨(en : Int), (sn : Int), Ap, np, cp, (ca : Int), Ac, nc, cc, ch, commit, (er : Int), taken, Ad, nd, cd⟩ : Rep))] w (EPostP w q) := by
  have hb0 : Below w.heap.size w (w.alloc (.cells (Rep.cells (⟨(en : Int), (sn : Int), Ap, np, cp, (ca : Int), Ac, nc, cc, ch, commit, (er : Int), taken, Ad, nd, cd⟩ : Rep)) 34)) := (Below.refl _ _).alloc (Nat.le_refl _) _
  have HC := Lib.hid (checkP_any _ q _ (hT.keep hb0) (hq.keep hb0))
  rw [hck] at HC
  have HQ := Lib.hid (hq.keep hb0)
  have B0 := Lib.hid hb0
  have R0 := Lib.hid (Blk.new w 34 (Rep.cells (⟨(en : Int), (sn : Int), Ap, np, cp, (ca : Int), Ac, nc, cc, ch, commit, (er : Int), taken, Ad, nd, cd⟩ : Rep)))
  have HCK := Lib.hid hck
  have OK := Lib.hid (okayP_of hck)
  have hen : en ≤ 2147483647 := by have h1 := OK.out.err; rw [hq.err] at h1; simp only at h1; omega
  have hsn : sn ≤ 2147483647 := by have h1 := OK.out.ses; rw [hq.ses] at h1; simp only at h1; omega
  have hca : ca ≤ 2147483647 := by have h1 := OK.out.caret; rw [hq.caret] at h1; simp only at h1; omega
  have her : er ≤ 2147483647 := by have h1 := OK.out.erase; rw [hq.erase] at h1; simp only at h1; omega
  have hch1 : -1 ≤ ch := by have h1 := OK.out.chosen; rw [hq.chosen] at h1; exact h1.1
  have hch2 : ch ≤ 2147483647 := by have h1 := OK.out.chosen; rw [hq.chosen] at h1; exact h1.2
  have hnp : np ≤ 1000 := by have h1 := OK.out.npre; rw [hq.pre.len] at h1; exact h1
  have hnc : nc ≤ 60 := by have h1 := OK.out.ncands; rw [hq.cands.len] at h1; exact h1
  have hnd : nd ≤ 69632 := by have h1 := OK.out.ldata; rw [hq.data.rb.len] at h1; exact h1
  have hlm : commit.size ≤ 4096 := by have h1 := OK.out.lcommit; rw [hq.commit] at h1; exact h1
  have HCODE : Hid (codeP q = put en ++ (put sn ++ (put np ++ (q.pre.flatMap runC ++ (put ca ++ (put nc ++ (q.cands.flatMap (fun s => putT s.data.toList) ++ (put (zig ch) ++ (putT commit.data.toList ++ (put er ++ (put (bitN taken) ++ putT q.data))))))))))) := Lib.hid (by
    unfold codeP
    rw [hq.err, hq.ses, hq.pre.len, hq.caret, hq.cands.len, hq.chosen, hq.commit, hq.erase, hq.taken]
    rfl)
  clear hT hq hck hb0
  unfold Rep.cells at HC B0 HQ R0 ⊢
  go_enter Tryd.func19, Tryd.ntmps19
  go_wp2_with fail
  refine HC.out.mono ?_
  rintro e w1 ⟨rfl, hb1⟩
  have HQ1 := Lib.hid (HQ.out.keep hb1)
  have R1 : Hid (Blk w1 w.heap.size 34 (Rep.cells (⟨(en : Int), (sn : Int), Ap, np, cp, (ca : Int), Ac, nc, cc, ch, commit, (er : Int), taken, Ad, nd, cd⟩ : Rep))) := Lib.hid (R0.out.below hb1 R0.out.lt)
  have B1 : Hid (Below w.heap.size w w1) := Lib.hid (B0.out.trans (hb1.mono B0.out.size))
  clear hb1 HC HQ R0 B0
  have EV : Hid (EP w (⟨(en : Int), (sn : Int), Ap, np, cp, (ca : Int), Ac, nc, cc, ch, commit, (er : Int), taken, Ad, nd, cd⟩ : Rep) q w1.heap.size (w1.alloc (.cells (Rep.view (⟨(en : Int), (sn : Int), Ap, np, cp, (ca : Int), Ac, nc, cc, ch, commit, (er : Int), taken, Ad, nd, cd⟩ : Rep)) 32))) := Lib.hid ⟨R1.out.alloc _, Blk.new w1 _ _, HQ1.out.keep ((Below.refl _ _).alloc (Nat.le_refl _) _), B1.out.alloc B1.out.size _⟩
  unfold Rep.view at EV
  have k0 : w1.cell? ⟨w.heap.size, 0, none⟩ = some (.int .i64 (en : Int)) := Blk.cell R1.out 0
  have k1 : w1.cell? ⟨w.heap.size, 1, none⟩ = some (.int .i64 (sn : Int)) := Blk.cell R1.out 1
  have k2 : w1.cell? ⟨w.heap.size, 2, none⟩ = some (.slice Ap np cp) := Blk.cell R1.out 2
  have k3 : w1.cell? ⟨w.heap.size, 3, none⟩ = some (.int .i64 (ca : Int)) := Blk.cell R1.out 3
  have k4 : w1.cell? ⟨w.heap.size, 4, none⟩ = some (.slice Ac nc cc) := Blk.cell R1.out 4
  have k5 : w1.cell? ⟨w.heap.size, 5, none⟩ = some (.int .i64 ch) := Blk.cell R1.out 5
  have k6 : w1.cell? ⟨w.heap.size, 6, none⟩ = some (.string commit) := Blk.cell R1.out 6
  have k7 : w1.cell? ⟨w.heap.size, 7, none⟩ = some (.int .i64 (er : Int)) := Blk.cell R1.out 7
  have k8 : w1.cell? ⟨w.heap.size, 8, none⟩ = some (.bool taken) := Blk.cell R1.out 8
  have k9 : w1.cell? ⟨w.heap.size, 9, none⟩ = some (.slice Ad nd cd) := Blk.cell R1.out 9
  have hlt := R1.out.lt
  have hx1 := put_len en
  have hx2 := put_len sn
  have hx3 := put_len np
  have SN := Lib.hid (sb_nil (w1.alloc (.cells #[.slice Ap np cp, .int .i64 (ca : Int), .slice Ac nc cc, .int .i64 ch, .string commit, .int .i64 (er : Int), .bool taken] 32)))
  go_wp2_with fail
  go_region_held3 (fun w' => w'.cell? ⟨w.heap.size, 0, none⟩ = some (.int .i64 (en : Int)) ∧ w'.cell? ⟨w.heap.size, 1, none⟩ = some (.int .i64 (sn : Int)) ∧ w'.cell? ⟨w1.heap.size, 0, none⟩ = some (.slice Ap np cp)) (first | exact hcc3 | exact hcc2 | exact hcc1 | go_keep)
    (first
      | (go_at_call 35; (with_reducible refine (putInt_nil en _ (by omega)).mono ?_); rintro e wa1 ⟨b1, rfl, ho1, hb1⟩; obtain ⟨A1, c1, rfl, hs1⟩ := own_sb ho1; have S1 := Lib.hid hs1; have E1 := Lib.hid ((EV.out.drew).keep hb1); have hcc1 : (wa1.cell? ⟨w.heap.size, 0, none⟩ = some (.int .i64 (en : Int)) ∧ wa1.cell? ⟨w.heap.size, 1, none⟩ = some (.int .i64 (sn : Int)) ∧ wa1.cell? ⟨w1.heap.size, 0, none⟩ = some (.slice Ap np cp)) := ⟨Blk.cell E1.out.rep 0, Blk.cell E1.out.rep 1, Blk.cell E1.out.view 0⟩; clear ho1 hs1 hb1)
      | (go_at_call 35; (with_reducible refine (putInt_any A1 (put en).length c1 (put en) sn _ ?_ (by omega) (by omega)).mono ?_); (· exact S1.out); rintro e wa2 ⟨b2, rfl, ho2, hb2⟩; obtain ⟨A2, c2, rfl, hs2⟩ := own_sb ho2; have S2 := Lib.hid hs2; have E2 := Lib.hid (E1.out.keep hb2); have hcc2 : (wa2.cell? ⟨w.heap.size, 0, none⟩ = some (.int .i64 (en : Int)) ∧ wa2.cell? ⟨w.heap.size, 1, none⟩ = some (.int .i64 (sn : Int)) ∧ wa2.cell? ⟨w1.heap.size, 0, none⟩ = some (.slice Ap np cp)) := ⟨Blk.cell E2.out.rep 0, Blk.cell E2.out.rep 1, Blk.cell E2.out.view 0⟩; clear ho2 hs2 hb2)
      | (go_at_call 35; (with_reducible refine (putInt_any A2 ((put en).length + (put sn).length) c2 (put en ++ put sn) np _ ?_ (by omega) (by omega)).mono ?_); (· exact S2.out); rintro e wa3 ⟨b3, rfl, ho3, hb3⟩; obtain ⟨A3, c3, rfl, hs3⟩ := own_sb ho3; have S3 := Lib.hid hs3; have E3 := Lib.hid (E2.out.keep hb3); have hcc3 : (wa3.cell? ⟨w.heap.size, 0, none⟩ = some (.int .i64 (en : Int)) ∧ wa3.cell? ⟨w.heap.size, 1, none⟩ = some (.int .i64 (sn : Int)) ∧ wa3.cell? ⟨w1.heap.size, 0, none⟩ = some (.slice Ap np cp)) := ⟨Blk.cell E3.out.rep 0, Blk.cell E3.out.rep 1, Blk.cell E3.out.view 0⟩; clear ho3 hs3 hb3))
  clear hcc1 hcc2 hcc3
  have hnb : (((put en).length + (put sn).length) + (put np).length) ≤ 60 := by omega
  have SS := Lib.hid S3.out
  clear S3 hx1 hx2 hx3 k0 k1 k2 k3 k4 k5 k6 k7 k8 k9 SN R1 HQ1 B1
  generalize (((put en).length + (put sn).length) + (put np).length) = N3 at SS hnb ⊢
  have k0 : wa3.cell? ⟨w1.heap.size, 0, none⟩ = some (.slice Ap np cp) := Blk.cell E3.out.view 0
  go_wp2_with fail
  go_loopw [6, 31] (fun b i wr => ∃ (j : Nat) (A : Option Addr) (N c : Nat), j ≤ np ∧ i = .int .i64 (j : Int) ∧ b = .slice A N c ∧ N ≤ 60 + 6000 * j ∧ SB wr A N c (put en ++ put sn ++ put np ++ (q.pre.take j).flatMap runC) ∧ EP w (⟨(en : Int), (sn : Int), Ap, np, cp, (ca : Int), Ac, nc, cc, ch, commit, (er : Int), taken, Ad, nd, cd⟩ : Rep) q w1.heap.size wr) (fun _ i _ => np - (intOf i).toNat)
  case atStart => exact ⟨0, A3, N3, c3, Nat.zero_le _, rfl, rfl, by omega, by simpa using SS.out, E3.out⟩
  case round =>
    obtain ⟨j, Aj, Nj, cj, hj, rfl, rfl, hNj, hsj, hej⟩ := hrel
    have SJ := Lib.hid hsj
    have EJ := Lib.hid hej
    clear hsj hej SS E3 k0
    by_cases hlt : j < np
    · obtain ⟨ad, x, rfl, hp, hbl, hc1, hc2⟩ := EJ.out.q.pre.at_ hlt
      obtain ⟨t, a⟩ := x
      have hat := OK.out.attr _ (List.mem_of_getElem? hp)
      have htl := OK.out.lpre _ (List.mem_of_getElem? hp)
      obtain ⟨an, rfl⟩ : ∃ an : Nat, a = (an : Int) := Int.eq_ofNat_of_zero_le (by have := hat.1; simp only at this; omega)
      simp only at hat htl hc1 hc2
      have HRC := Lib.hid (run_code hp)
      have hx1 := putT_le htl
      have hx2 := put_len an
      clear hp
      have EK := Lib.hid (EJ.out.keep ((Below.refl _ _).alloc (Nat.le_refl _) (.cells #[.string t, .int .i64 (an : Int)] 69)))
      have SK := Lib.hid (SJ.out.alloc (.cells #[.string t, .int .i64 (an : Int)] 69))
      have X0 := Lib.hid (Blk.new wr 69 #[.string t, .int .i64 (an : Int)])
      clear SJ EJ
      go_wp2_with fail
      go_region_held3 (fun w' => w'.cell? ⟨wr.heap.size, 0, none⟩ = some (.string t) ∧ w'.cell? ⟨wr.heap.size, 1, none⟩ = some (.int .i64 (an : Int))) (first | exact hcc5 | exact hcc4 | go_keep)
        (first
          | (go_at_call 37; (with_reducible refine (putText_any Aj Nj cj (put en ++ put sn ++ put np ++ (q.pre.take j).flatMap runC) t _ ?_ (by omega)).mono ?_); (· exact SK.out.drew); rintro e wa4 ⟨b4, rfl, ho4, hb4⟩; obtain ⟨A4, c4, rfl, hs4⟩ := own_sb ho4; have S4 := Lib.hid hs4; have E4 := Lib.hid ((EK.out.drew).keep hb4); have X4 := Lib.hid (Blk.below (w := (wr.alloc (.cells #[.string t, .int .i64 (an : Int)] 69)).drew) (by exact X0.out) hb4 (by exact Blk.lt X0.out)); have hcc4 : (wa4.cell? ⟨wr.heap.size, 0, none⟩ = some (.string t) ∧ wa4.cell? ⟨wr.heap.size, 1, none⟩ = some (.int .i64 (an : Int))) := ⟨Blk.cell X4.out 0, Blk.cell X4.out 1⟩; clear ho4 hs4 hb4)
          | (go_at_call 35; (with_reducible refine (putInt_any A4 (Nj + (putT t.data.toList).length) c4 (put en ++ put sn ++ put np ++ (q.pre.take j).flatMap runC ++ putT t.data.toList) an _ ?_ (by omega) (by omega)).mono ?_); (· exact S4.out); rintro e wa5 ⟨b5, rfl, ho5, hb5⟩; obtain ⟨A5, c5, rfl, hs5⟩ := own_sb ho5; have S5 := Lib.hid hs5; have E5 := Lib.hid (E4.out.keep hb5); have X5 := Lib.hid (Blk.below (w := wa4) (by exact X4.out) hb5 (by exact Blk.lt X4.out)); have hcc5 : (wa5.cell? ⟨wr.heap.size, 0, none⟩ = some (.string t) ∧ wa5.cell? ⟨wr.heap.size, 1, none⟩ = some (.int .i64 (an : Int))) := ⟨Blk.cell X5.out 0, Blk.cell X5.out 1⟩; clear ho5 hs5 hb5))
      clear hcc4 hcc5
      go_wp2_with fail
      go_roundw
      case rel => exact ⟨j + 1, A5, _, c5, by omega, by go_num, rfl, by omega, by rw [HRC.out]; have := S5.out; simpa [List.append_assoc] using this, E5.out⟩
      case measure => simp [intOf]; omega
    · have hjn : j = np := by omega
      subst j
      have ht : q.pre.take np = q.pre := List.take_of_length_le (by rw [EJ.out.q.pre.len]; omega)
      rw [ht] at SJ
      have hx1 := put_len ca
      have hx2 := put_len nc
      clear ht
      have kv1 : wr.cell? ⟨w1.heap.size, 1, none⟩ = some (.int .i64 (ca : Int)) := Blk.cell EJ.out.view 1
      have kv2 : wr.cell? ⟨w1.heap.size, 2, none⟩ = some (.slice Ac nc cc) := Blk.cell EJ.out.view 2
      go_wp2_with fail
      go_region_held3 (fun w' => w'.cell? ⟨w1.heap.size, 1, none⟩ = some (.int .i64 (ca : Int)) ∧ w'.cell? ⟨w1.heap.size, 2, none⟩ = some (.slice Ac nc cc)) (first | exact hcc7 | exact hcc6 | go_keep)
        (first
          | (go_at_call 35; (with_reducible refine (putInt_any Aj Nj cj (put en ++ put sn ++ put np ++ q.pre.flatMap runC) ca _ ?_ (by omega) (by omega)).mono ?_); (· exact SJ.out.drew); rintro e wa6 ⟨b6, rfl, ho6, hb6⟩; obtain ⟨A6, c6, rfl, hs6⟩ := own_sb ho6; have S6 := Lib.hid hs6; have E6 := Lib.hid ((EJ.out.drew).keep hb6); have hcc6 : (wa6.cell? ⟨w1.heap.size, 1, none⟩ = some (.int .i64 (ca : Int)) ∧ wa6.cell? ⟨w1.heap.size, 2, none⟩ = some (.slice Ac nc cc)) := ⟨Blk.cell E6.out.view 1, Blk.cell E6.out.view 2⟩; clear ho6 hs6 hb6)
          | (go_at_call 35; (with_reducible refine (putInt_any A6 (Nj + (put ca).length) c6 (put en ++ put sn ++ put np ++ q.pre.flatMap runC ++ put ca) nc _ ?_ (by omega) (by omega)).mono ?_); (· exact S6.out); rintro e wa7 ⟨b7, rfl, ho7, hb7⟩; obtain ⟨A7, c7, rfl, hs7⟩ := own_sb ho7; have S7 := Lib.hid hs7; have E7 := Lib.hid (E6.out.keep hb7); have hcc7 : (wa7.cell? ⟨w1.heap.size, 1, none⟩ = some (.int .i64 (ca : Int)) ∧ wa7.cell? ⟨w1.heap.size, 2, none⟩ = some (.slice Ac nc cc)) := ⟨Blk.cell E7.out.view 1, Blk.cell E7.out.view 2⟩; clear ho7 hs7 hb7))
      clear hcc6 hcc7
      have hnbM4 : ((Nj + (put ca).length) + (put nc).length) ≤ 6100000 := by omega
      have SM4 := Lib.hid S7.out
      clear S7 hx1 hx2 kv1 kv2 EJ SJ
      generalize ((Nj + (put ca).length) + (put nc).length) = M4 at SM4 hnbM4 ⊢
      have kc2 : wa7.cell? ⟨w1.heap.size, 2, none⟩ = some (.slice Ac nc cc) := Blk.cell E7.out.view 2
      clear hNj
      go_wp2_with fail
      go_loopw [6, 54] (fun b i wr => ∃ (i2 : Nat) (A : Option Addr) (N c : Nat), i2 ≤ nc ∧ i = .int .i64 (i2 : Int) ∧ b = .slice A N c ∧ N ≤ 6100000 + 6000 * i2 ∧ SB wr A N c (put en ++ put sn ++ put np ++ q.pre.flatMap runC ++ put ca ++ put nc ++ (q.cands.take i2).flatMap (fun s => putT s.data.toList)) ∧ EP w (⟨(en : Int), (sn : Int), Ap, np, cp, (ca : Int), Ac, nc, cc, ch, commit, (er : Int), taken, Ad, nd, cd⟩ : Rep) q w1.heap.size wr) (fun _ i _ => nc - (intOf i).toNat)
      case atStart => exact ⟨0, A7, M4, c7, Nat.zero_le _, rfl, rfl, by omega, by simpa using SM4.out, E7.out⟩
      case round =>
        obtain ⟨i2, A2, N2, c2, hi2, rfl, rfl, hN2, hs2, he2⟩ := hrel
        have S2J := Lib.hid hs2
        have E2J := Lib.hid he2
        clear hs2 he2 SM4 E7 kc2
        rename World => wq
        by_cases hlt : i2 < nc
        · obtain ⟨ad2, rfl, hbl2, hc2⟩ := E2J.out.q.cands.at_ hlt
          have hlen : i2 < q.cands.length := by rw [E2J.out.q.cands.len]; exact hlt
          have htl := OK.out.lcands (q.cands.getD i2 ByteArray.empty) (by rw [List.getD, List.getElem?_eq_getElem hlen, Option.getD_some]; exact List.getElem_mem _)
          have HRC := Lib.hid (cand_code hlen)
          clear hlen
          generalize q.cands.getD i2 ByteArray.empty = t at hc2 htl HRC
          have hx1 := putT_le htl
          go_wp2_with fail
          refine (putText_any A2 N2 c2 _ t _ S2J.out (by omega)).mono ?_
          rintro e wt ⟨bt, rfl, hot, hbt⟩
          obtain ⟨A5, c5, rfl, hs5⟩ := own_sb hot
          have S5 := Lib.hid hs5
          have E5 := Lib.hid (E2J.out.keep hbt)
          clear hot hs5 hbt
          go_wp2_with fail
          go_roundw
          case rel => exact ⟨i2 + 1, A5, _, c5, by omega, by go_num, rfl, by omega, by rw [HRC.out]; have := S5.out; simpa [List.append_assoc] using this, E5.out⟩
          case measure => simp [intOf]; omega
        · have hjn : i2 = nc := by omega
          subst i2
          have ht : q.cands.take nc = q.cands := List.take_of_length_le (by rw [E2J.out.q.cands.len]; omega)
          rw [ht] at S2J
          have hx1 := put_len (zig ch)
          have hx2 := putT_le hlm
          clear ht
          have kv3 : wq.cell? ⟨w1.heap.size, 3, none⟩ = some (.int .i64 ch) := Blk.cell E2J.out.view 3
          have kv4 : wq.cell? ⟨w1.heap.size, 4, none⟩ = some (.string commit) := Blk.cell E2J.out.view 4
          go_wp2_with fail
          go_region_held3 (fun w' => w'.cell? ⟨w1.heap.size, 3, none⟩ = some (.int .i64 ch) ∧ w'.cell? ⟨w1.heap.size, 4, none⟩ = some (.string commit)) (first | exact hcc9 | exact hcc8 | go_keep)
            (first
              | (go_at_call 42; (with_reducible refine (Cod.putInt_any A2 N2 c2 (put en ++ put sn ++ put np ++ q.pre.flatMap runC ++ put ca ++ put nc ++ q.cands.flatMap (fun s => putT s.data.toList)) ch _ ?_ (by omega) (by omega) (by omega)).mono ?_); (· exact S2J.out.drew); rintro e wa8 ⟨b8, rfl, ho8, hb8⟩; obtain ⟨A8, c8, rfl, hs8⟩ := own_sb ho8; have S8 := Lib.hid hs8; have E8 := Lib.hid ((E2J.out.drew).keep hb8); have hcc8 : (wa8.cell? ⟨w1.heap.size, 3, none⟩ = some (.int .i64 ch) ∧ wa8.cell? ⟨w1.heap.size, 4, none⟩ = some (.string commit)) := ⟨Blk.cell E8.out.view 3, Blk.cell E8.out.view 4⟩; clear ho8 hs8 hb8)
              | (go_at_call 37; (with_reducible refine (putText_any A8 (N2 + (put (zig ch)).length) c8 (put en ++ put sn ++ put np ++ q.pre.flatMap runC ++ put ca ++ put nc ++ q.cands.flatMap (fun s => putT s.data.toList) ++ put (zig ch)) commit _ ?_ (by omega)).mono ?_); (· exact S8.out); rintro e wa9 ⟨b9, rfl, ho9, hb9⟩; obtain ⟨A9, c9, rfl, hs9⟩ := own_sb ho9; have S9 := Lib.hid hs9; have E9 := Lib.hid (E8.out.keep hb9); have hcc9 : (wa9.cell? ⟨w1.heap.size, 3, none⟩ = some (.int .i64 ch) ∧ wa9.cell? ⟨w1.heap.size, 4, none⟩ = some (.string commit)) := ⟨Blk.cell E9.out.view 3, Blk.cell E9.out.view 4⟩; clear ho9 hs9 hb9))
          clear hcc8 hcc9
          have hnbM5 : ((N2 + (put (zig ch)).length) + (putT commit.data.toList).length) ≤ 7000000 := by omega
          have SM5 := Lib.hid S9.out
          clear S9 hx1 hx2 kv3 kv4 E2J S2J
          generalize ((N2 + (put (zig ch)).length) + (putT commit.data.toList).length) = M5 at SM5 hnbM5 ⊢
          have hx1 := put_len er
          have hx2 := put_len (bitN taken)
          have kv5 : wa9.cell? ⟨w1.heap.size, 5, none⟩ = some (.int .i64 (er : Int)) := Blk.cell E9.out.view 5
          have kv6 : wa9.cell? ⟨w1.heap.size, 6, none⟩ = some (.bool taken) := Blk.cell E9.out.view 6
          clear hN2
          go_wp2_with fail
          go_region_held3 (fun w' => w'.cell? ⟨w1.heap.size, 5, none⟩ = some (.int .i64 (er : Int)) ∧ w'.cell? ⟨w1.heap.size, 6, none⟩ = some (.bool taken)) (first | exact hcc11 | exact hcc10 | go_keep)
            (first
              | (go_at_call 35; (with_reducible refine (putInt_any A9 M5 c9 (put en ++ put sn ++ put np ++ q.pre.flatMap runC ++ put ca ++ put nc ++ q.cands.flatMap (fun s => putT s.data.toList) ++ put (zig ch) ++ putT commit.data.toList) er _ ?_ (by omega) (by omega)).mono ?_); (· exact SM5.out.drew); rintro e wa10 ⟨b10, rfl, ho10, hb10⟩; obtain ⟨A10, c10, rfl, hs10⟩ := own_sb ho10; have S10 := Lib.hid hs10; have E10 := Lib.hid ((E9.out.drew).keep hb10); have hcc10 : (wa10.cell? ⟨w1.heap.size, 5, none⟩ = some (.int .i64 (er : Int)) ∧ wa10.cell? ⟨w1.heap.size, 6, none⟩ = some (.bool taken)) := ⟨Blk.cell E10.out.view 5, Blk.cell E10.out.view 6⟩; clear ho10 hs10 hb10)
              | (go_at_call 38; (with_reducible refine (putBool_any A10 (M5 + (put er).length) c10 (put en ++ put sn ++ put np ++ q.pre.flatMap runC ++ put ca ++ put nc ++ q.cands.flatMap (fun s => putT s.data.toList) ++ put (zig ch) ++ putT commit.data.toList ++ put er) taken _ ?_ (by omega)).mono ?_); (· exact S10.out); rintro e wa11 ⟨b11, rfl, ho11, hb11⟩; obtain ⟨A11, c11, rfl, hs11⟩ := own_sb ho11; have S11 := Lib.hid hs11; have E11 := Lib.hid (E10.out.keep hb11); have hcc11 : (wa11.cell? ⟨w1.heap.size, 5, none⟩ = some (.int .i64 (er : Int)) ∧ wa11.cell? ⟨w1.heap.size, 6, none⟩ = some (.bool taken)) := ⟨Blk.cell E11.out.view 5, Blk.cell E11.out.view 6⟩; clear ho11 hs11 hb11))
          clear hcc10 hcc11
          have hnbM6 : ((M5 + (put er).length) + (put (bitN taken)).length) ≤ 7000100 := by omega
          have SM6 := Lib.hid S11.out
          clear S11 hx1 hx2 kv5 kv6 E9 SM5
          generalize ((M5 + (put er).length) + (put (bitN taken)).length) = M6 at SM6 hnbM6 ⊢
          have k9 : wa11.cell? ⟨w.heap.size, 9, none⟩ = some (.slice Ad nd cd) := Blk.cell E11.out.rep 9
          have hcv := E11.out.q.data.rb.run_string (P := Tryd.prog) cd 25 5 9 Tryd.underlying25 Tryd.underlying5 Tryd.underlying9
          have hdl : q.data.length = nd := E11.out.q.data.rb.len
          go_wp2_with fail
          refine (putText_any A11 M6 c11 (put en ++ put sn ++ put np ++ q.pre.flatMap runC ++ put ca ++ put nc ++ q.cands.flatMap (fun s => putT s.data.toList) ++ put (zig ch) ++ putT commit.data.toList ++ put er ++ put (bitN taken)) ⟨q.data.toArray⟩ _ SM6.out (by rw [ba_size2]; omega)).mono ?_
          rintro e wf ⟨bf, rfl, hof, hbf⟩
          obtain ⟨A7, c7, rfl, hs7⟩ := own_sb hof
          have S7 := Lib.hid hs7
          have E7 := Lib.hid (E11.out.keep hbf)
          have hxl : (putT (⟨q.data.toArray⟩ : ByteArray).data.toList).length ≤ 1000000 := by
            have := put_len q.data.length
            unfold putT
            rw [List.length_append]
            simp
            omega
          clear hof hs7 hbf hcv
          go_wp2_with fail
          go_ret2
          exact EPostP.good HCK.out E7.out.bel S7.out (by omega) (by rw [HCODE.out]; simp [List.append_assoc])
theorem encP_any (r : Rep) (q : Rp) (w : World) (hT : Tabs w) (hq : RpIn w r q) :
    Calls Tryd.prog 19 #[.agg r.cells] w (EPostP w q) := by
  by_cases hck : chkP q = 0
  · have ok := okayP_of hck
    obtain ⟨err, ses, Ap, np, cp, caret, Ac, nc, cc, ch, commit, erase, taken, Ad, nd, cd⟩ := r
    obtain ⟨en, rfl⟩ : ∃ en : Nat, err = (en : Int) := Int.eq_ofNat_of_zero_le (by have := ok.err; rw [hq.err] at this; exact this.1)
    obtain ⟨sn, rfl⟩ : ∃ sn : Nat, ses = (sn : Int) := Int.eq_ofNat_of_zero_le (by have := ok.ses; rw [hq.ses] at this; exact this.1)
    obtain ⟨ca, rfl⟩ : ∃ ca : Nat, caret = (ca : Int) := Int.eq_ofNat_of_zero_le (by have := ok.caret; rw [hq.caret] at this; exact this.1)
    obtain ⟨er, rfl⟩ : ∃ er : Nat, erase = (er : Int) := Int.eq_ofNat_of_zero_le (by have := ok.erase; rw [hq.erase] at this; exact this.1)
    exact encP_good en sn ca er Ap Ac Ad np cp nc cc nd cd ch commit taken q w hT hq hck
  · exact encP_bad r q w hT hq hck
end Go.Proofs.YtkllfnaofapfnaaDoor.Prot
