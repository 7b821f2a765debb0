/-
  The contract of ProtocolBack: a request and a reply that were encoded are decoded as they were. Conditions: the arguments can be read, within the form's reach; the two tables of unicode/utf8 lie as their initialisers lay them. (Printed by gen/lawone.py.)
-/
import Derived.Test.YtkllfnaofapfnaaDoorRepDec
import Derived.Test.YtkllfnaofapfnaaDoorRepEnc
import Derived.Test.YtkllfnaofapfnaaDoorRepTS
import Derived.Test.YtkllfnaofapfnaaDoorRepLight
import Derived.Test.YtkllfnaofapfnaaDoorReqAskIn
import Derived.Test.YtkllfnaofapfnaaDoorReqSame
import Derived.Test.YtkllfnaofapfnaaDoorReqRqOpen
import Derived.Test.YtkllfnaofapfnaaDoorProtDecK
import Derived.Test.YtkllfnaofapfnaaDoorProtWorks
import Derived.Deep.DeepCutAuto
namespace Go.Proofs.YtkllfnaofapfnaaDoor.Prot
open Go.RowKit Wd Utf Cod

theorem put_short (v : Nat) : (put v).length ≤ 10 := put_len v
theorem putT_short {l : List UInt8} {k : Nat} (h : l.length ≤ k) : (putT l).length ≤ 10 + k := by
  have := put_len l.length
  unfold putT
  rw [List.length_append]; omega
theorem puts_short : ∀ (l : List Int), (l.flatMap fun z => put z.toNat).length ≤ 10 * l.length
  | [] => by simp
  | z :: l => by
    have h1 := put_len z.toNat
    have h2 := puts_short l
    rw [List.flatMap_cons, List.length_append, List.length_cons]; omega
/-- a request's code is short -/
theorem codeR_short {r : Rq} (h : chkR r = 0) : (codeR r).length ≤ 100000 := by
  have ok := okay_of h
  have t1 := putT_short (l := r.bef.data.toList) (k := 4096) (by rw [dl]; exact ok.lbef)
  have t2 := putT_short (l := r.sel.data.toList) (k := 4096) (by rw [dl]; exact ok.lsel)
  have t3 := putT_short (l := r.sur.data.toList) (k := 4096) (by rw [dl]; exact ok.lsur)
  have t4 := putT_short (l := r.data) (k := 69632) ok.ldata
  have t5 := puts_short r.seen
  have t6 := ok.lseen
  have a1 := put_len r.kind.toNat
  have a2 := put_len r.ses.toNat
  have a3 := put_len r.kk.toNat
  have a4 := put_len r.kc
  have a5 := put_len (bitN r.on)
  have a6 := put_len r.seen.length
  have ht : (tailR r).length ≤ 80000 := by
    unfold tailR
    split
    · rw [List.length_append]; omega
    · split
      · rw [List.length_append]; omega
      · split
        · omega
        · split
          · omega
          · split
            · rw [List.length_append]; omega
            · split
              · omega
              · simp
  unfold codeR
  rw [List.length_append, List.length_append]
  split
  · omega
  · simp only [List.length_nil]; omega
/-- the memory of ProtocolBack: the request, the reply -/
structure BE (w : World) (r x : Array Value) (wx : World) : Prop where
  rq : Blk wx w.heap.size 27 r
  rp : Blk wx (w.heap.size + 1) 34 x
  bel : Below w.heap.size w wx
theorem BE.keep {w wx wy : World} {r x : Array Value} (h : BE w r x wx) (hb : Below wx.heap.size wx wy) : BE w r x wy := ⟨h.rq.below hb h.rq.lt, h.rp.below hb h.rp.lt, h.bel.trans (hb.mono h.bel.size)⟩
theorem BE.start (w : World) (r x : Array Value) : BE w r x ((w.alloc (.cells r 27)).alloc (.cells x 34)) := by
  refine ⟨(Blk.new w _ _).alloc _, ?_, ((Below.refl _ _).alloc (Nat.le_refl _) _).alloc (by simp) _⟩
  have := Blk.new (w.alloc (.cells r 27)) 34 x
  rwa [show (w.alloc (.cells r 27)).heap.size = w.heap.size + 1 by simp] at this
set_option maxRecDepth 100000 in
set_option maxHeartbeats 16000000 in
theorem back_any (r0 : Req) (q0 : Rq) (r1 : Rep) (q1 : Rp) (w : World) (hT : Tabs w) (h0 : RqOpen w r0 q0) (h1 : RpOpen w r1 q1) :
    Calls Tryd.prog 3 #[.agg r0.cells, .agg r1.cells] w fun e w' => e = .returned (.bool true) ∧ Below w.heap.size w w' := by
  have HT := Lib.hid hT
  have E0 := Lib.hid (BE.start w r0.cells r1.cells)
  have HL := Lib.hid (fun w : World => light_any r0 w)
  have HO := Lib.hid h0
  have HP := Lib.hid h1
  clear hT h0 h1
  rcases hl : lightR r0 with _ | _
  · have HLV := Lib.hid hl
    clear hl HO HP
    unfold Req.cells Rep.cells at *
    go_enter Tryd.func3, Tryd.ntmps3
    go_wp2_with fail
    refine (HL.out _).mono ?_
    rintro e wa ⟨rfl, hba⟩
    rw [HLV.out]
    have E1 := Lib.hid (E0.out.keep hba)
    clear hba
    go_wp2_with fail
    go_ret
    exact ⟨rfl, E1.out.bel⟩
  obtain ⟨l1, l2, l3, l4, l5⟩ := light_parts hl
  have HLV := Lib.hid hl
  clear hl
  rcases hl2 : lightP r1 q1 with _ | _
  · have HLP := Lib.hid hl2
    clear hl2 HO
    obtain ⟨kind, ses, kk, kc, be, sl, on, su, A7, n7, c7, A8, n8, c8⟩ := r0
    obtain ⟨err, sesp, Ap, np, cp, caret, Ac, nc, cc, chosen, commit, erase, taken, Ad, nd, cd⟩ := r1
    unfold Req.cells Rep.cells at *
    simp only at E0 HL
    go_enter Tryd.func3, Tryd.ntmps3
    go_wp2_with fail
    refine (HL.out _).mono ?_
    rintro e wa ⟨rfl, hba⟩
    rw [HLV.out]
    have E1 := Lib.hid (E0.out.keep hba)
    clear hba E0
    have y0 : wa.cell? ⟨w.heap.size + 1, 0, none⟩ = some (.int .i64 err) := E1.out.rp.cell 0
    have y1 : wa.cell? ⟨w.heap.size + 1, 1, none⟩ = some (.int .i64 sesp) := E1.out.rp.cell 1
    have y2 : wa.cell? ⟨w.heap.size + 1, 2, none⟩ = some (.slice Ap np cp) := E1.out.rp.cell 2
    have y3 : wa.cell? ⟨w.heap.size + 1, 3, none⟩ = some (.int .i64 caret) := E1.out.rp.cell 3
    have y4 : wa.cell? ⟨w.heap.size + 1, 4, none⟩ = some (.slice Ac nc cc) := E1.out.rp.cell 4
    have y5 : wa.cell? ⟨w.heap.size + 1, 5, none⟩ = some (.int .i64 chosen) := E1.out.rp.cell 5
    have y6 : wa.cell? ⟨w.heap.size + 1, 6, none⟩ = some (.string commit) := E1.out.rp.cell 6
    have y7 : wa.cell? ⟨w.heap.size + 1, 7, none⟩ = some (.int .i64 erase) := E1.out.rp.cell 7
    have y8 : wa.cell? ⟨w.heap.size + 1, 8, none⟩ = some (.bool taken) := E1.out.rp.cell 8
    have y9 : wa.cell? ⟨w.heap.size + 1, 9, none⟩ = some (.slice Ad nd cd) := E1.out.rp.cell 9
    have HLR := Lib.hid (lightReply_any (⟨err, sesp, Ap, np, cp, caret, Ac, nc, cc, chosen, commit, erase, taken, Ad, nd, cd⟩ : Rep) q1 wa (HP.out.keep E1.out.bel))
    unfold Rep.cells at HLR
    simp only at HLR
    go_wp2_with fail
    refine HLR.out.mono ?_
    rintro e wb ⟨rfl, hbb⟩
    rw [HLP.out]
    have E2 := Lib.hid (E1.out.keep hbb)
    clear hbb
    go_wp2_with fail
    go_ret
    exact ⟨rfl, E2.out.bel⟩
  obtain ⟨p1, p2, p3, p4, p5, p6⟩ := lightP_parts hl2
  have HLP := Lib.hid hl2
  have HQ := Lib.hid (HO.out.in_ (by omega))
  have HX := Lib.hid (HP.out.in_ (by omega) (by omega))
  clear hl2 p5 p6 HO
  obtain ⟨kind, ses, kk, kc, be, sl, on, su, A7, n7, c7, A8, n8, c8⟩ := r0
  obtain ⟨err, sesp, Ap, np, cp, caret, Ac, nc, cc, chosen, commit, erase, taken, Ad, nd, cd⟩ := r1
  simp only at l1 l2 l3 l4 l5 p1 p2 p3 p4
  unfold Req.cells Rep.cells at *
  simp only at E0 HL
  go_enter Tryd.func3, Tryd.ntmps3
  go_wp2_with fail
  refine (HL.out _).mono ?_
  rintro e wa ⟨rfl, hba⟩
  rw [HLV.out]
  have E1 := Lib.hid (E0.out.keep hba)
  clear hba E0 HL HLV
  have x0 : wa.cell? ⟨w.heap.size, 0, none⟩ = some (.int .i64 kind) := E1.out.rq.cell 0
  have y0 : wa.cell? ⟨w.heap.size + 1, 0, none⟩ = some (.int .i64 err) := E1.out.rp.cell 0
  have x1 : wa.cell? ⟨w.heap.size, 1, none⟩ = some (.int .i64 ses) := E1.out.rq.cell 1
  have y1 : wa.cell? ⟨w.heap.size + 1, 1, none⟩ = some (.int .i64 sesp) := E1.out.rp.cell 1
  have x2 : wa.cell? ⟨w.heap.size, 2, none⟩ = some (.int .i64 kk) := E1.out.rq.cell 2
  have y2 : wa.cell? ⟨w.heap.size + 1, 2, none⟩ = some (.slice Ap np cp) := E1.out.rp.cell 2
  have x3 : wa.cell? ⟨w.heap.size, 3, none⟩ = some (.int .u8 (kc : Int)) := E1.out.rq.cell 3
  have y3 : wa.cell? ⟨w.heap.size + 1, 3, none⟩ = some (.int .i64 caret) := E1.out.rp.cell 3
  have x4 : wa.cell? ⟨w.heap.size, 4, none⟩ = some (.string be) := E1.out.rq.cell 4
  have y4 : wa.cell? ⟨w.heap.size + 1, 4, none⟩ = some (.slice Ac nc cc) := E1.out.rp.cell 4
  have x5 : wa.cell? ⟨w.heap.size, 5, none⟩ = some (.string sl) := E1.out.rq.cell 5
  have y5 : wa.cell? ⟨w.heap.size + 1, 5, none⟩ = some (.int .i64 chosen) := E1.out.rp.cell 5
  have x6 : wa.cell? ⟨w.heap.size, 6, none⟩ = some (.bool on) := E1.out.rq.cell 6
  have y6 : wa.cell? ⟨w.heap.size + 1, 6, none⟩ = some (.string commit) := E1.out.rp.cell 6
  have x7 : wa.cell? ⟨w.heap.size, 7, none⟩ = some (.string su) := E1.out.rq.cell 7
  have y7 : wa.cell? ⟨w.heap.size + 1, 7, none⟩ = some (.int .i64 erase) := E1.out.rp.cell 7
  have x8 : wa.cell? ⟨w.heap.size, 8, none⟩ = some (.slice A7 n7 c7) := E1.out.rq.cell 8
  have y8 : wa.cell? ⟨w.heap.size + 1, 8, none⟩ = some (.bool taken) := E1.out.rp.cell 8
  have x9 : wa.cell? ⟨w.heap.size, 9, none⟩ = some (.slice A8 n8 c8) := E1.out.rq.cell 9
  have y9 : wa.cell? ⟨w.heap.size + 1, 9, none⟩ = some (.slice Ad nd cd) := E1.out.rp.cell 9
  have HLR := Lib.hid (lightReply_any (⟨err, sesp, Ap, np, cp, caret, Ac, nc, cc, chosen, commit, erase, taken, Ad, nd, cd⟩ : Rep) q1 wa (HP.out.keep E1.out.bel))
  unfold Rep.cells at HLR
  simp only at HLR
  go_wp2_with fail
  refine HLR.out.mono ?_
  rintro e wb ⟨rfl, hbb⟩
  rw [HLP.out]
  have E2 := Lib.hid (E1.out.keep hbb)
  clear hbb x0 y0 x1 y1 x2 y2 x3 y3 x4 y4 x5 y5 x6 y6 x7 y7 x8 y8 x9 y9 E1 HLR HLP HP
  have x0 : wb.cell? ⟨w.heap.size, 0, none⟩ = some (.int .i64 kind) := E2.out.rq.cell 0
  have y0 : wb.cell? ⟨w.heap.size + 1, 0, none⟩ = some (.int .i64 err) := E2.out.rp.cell 0
  have x1 : wb.cell? ⟨w.heap.size, 1, none⟩ = some (.int .i64 ses) := E2.out.rq.cell 1
  have y1 : wb.cell? ⟨w.heap.size + 1, 1, none⟩ = some (.int .i64 sesp) := E2.out.rp.cell 1
  have x2 : wb.cell? ⟨w.heap.size, 2, none⟩ = some (.int .i64 kk) := E2.out.rq.cell 2
  have y2 : wb.cell? ⟨w.heap.size + 1, 2, none⟩ = some (.slice Ap np cp) := E2.out.rp.cell 2
  have x3 : wb.cell? ⟨w.heap.size, 3, none⟩ = some (.int .u8 (kc : Int)) := E2.out.rq.cell 3
  have y3 : wb.cell? ⟨w.heap.size + 1, 3, none⟩ = some (.int .i64 caret) := E2.out.rp.cell 3
  have x4 : wb.cell? ⟨w.heap.size, 4, none⟩ = some (.string be) := E2.out.rq.cell 4
  have y4 : wb.cell? ⟨w.heap.size + 1, 4, none⟩ = some (.slice Ac nc cc) := E2.out.rp.cell 4
  have x5 : wb.cell? ⟨w.heap.size, 5, none⟩ = some (.string sl) := E2.out.rq.cell 5
  have y5 : wb.cell? ⟨w.heap.size + 1, 5, none⟩ = some (.int .i64 chosen) := E2.out.rp.cell 5
  have x6 : wb.cell? ⟨w.heap.size, 6, none⟩ = some (.bool on) := E2.out.rq.cell 6
  have y6 : wb.cell? ⟨w.heap.size + 1, 6, none⟩ = some (.string commit) := E2.out.rp.cell 6
  have x7 : wb.cell? ⟨w.heap.size, 7, none⟩ = some (.string su) := E2.out.rq.cell 7
  have y7 : wb.cell? ⟨w.heap.size + 1, 7, none⟩ = some (.int .i64 erase) := E2.out.rp.cell 7
  have x8 : wb.cell? ⟨w.heap.size, 8, none⟩ = some (.slice A7 n7 c7) := E2.out.rq.cell 8
  have y8 : wb.cell? ⟨w.heap.size + 1, 8, none⟩ = some (.bool taken) := E2.out.rp.cell 8
  have x9 : wb.cell? ⟨w.heap.size, 9, none⟩ = some (.slice A8 n8 c8) := E2.out.rq.cell 9
  have y9 : wb.cell? ⟨w.heap.size + 1, 9, none⟩ = some (.slice Ad nd cd) := E2.out.rp.cell 9
  have HE := Lib.hid (encReq_any (⟨kind, ses, kk, kc, be, sl, on, su, A7, n7, c7, A8, n8, c8⟩ : Req) q0 wb (HT.out.keep E2.out.bel) (HQ.out.keep E2.out.bel))
  unfold Req.cells at HE
  simp only at HE
  go_wp2_with fail
  refine HE.out.mono ?_
  rintro e wc ⟨hbc, hpost⟩
  have E3 := Lib.hid (E2.out.keep hbc)
  clear hbc x0 y0 x1 y1 x2 y2 x3 y3 x4 y4 x5 y5 x6 y6 x7 y7 x8 y8 x9 y9 E2 HE
  obtain ⟨z, A, n, c, rfl, hz⟩ : ∃ (z : Nat) (A : Option Addr) (n c : Nat), e = .returned (.tuple #[.slice A n c, .int .i64 (z : Int)]) ∧ ((z = 0 ∧ chkR q0 = 0 ∧ SB wc A n c (codeR q0)) ∨ (z ≠ 0 ∧ n = 0)) := by
    rcases hpost with ⟨hck, A, n, c, rfl, hs⟩ | ⟨hck, rfl⟩
    · exact ⟨0, A, n, c, rfl, .inl ⟨rfl, hck, hs⟩⟩
    · exact ⟨chkR q0, none, 0, 0, rfl, .inr ⟨hck, rfl⟩⟩
  clear hpost
  have HZ := Lib.hid hz
  have ZN : Hid (z = 0 ∨ n = 0) := Lib.hid (by rcases hz with h | h; exact .inl h.1; exact .inr h.2)
  clear hz
  go_upto_if 27 with fail
  go_cut [] (fun wx => BE w #[.int .i64 kind, .int .i64 ses, .int .i64 kk, .int .u8 (kc : Int), .string be, .string sl, .bool on, .string su, .slice A7 n7 c7, .slice A8 n8 c8] #[.int .i64 err, .int .i64 sesp, .slice Ap np cp, .int .i64 caret, .slice Ac nc cc, .int .i64 chosen, .string commit, .int .i64 erase, .bool taken, .slice Ad nd cd] wx)
  case first =>
    rcases HZ.out with ⟨h0, hck, hs⟩ | ⟨hz0, hn0⟩
    · subst h0
      have hnl : n ≤ 100000 := by have h1 := codeR_short hck; have h2 := hs.rb.len; omega
      have CK := Lib.hid hck
      have SS := Lib.hid hs
      clear hck hs
      go_wp2_with fail
      refine (decReq_any A n c (codeR q0) _ (HT.out.keep E3.out.bel) SS.out hnl).mono ?_
      rintro e wd ⟨hbd, r2, q2, cc2, rfl, hq2, hd2, _, _, _⟩
      obtain ⟨hcc, hqq⟩ := DecR.uniq hd2 (.inl ⟨rfl, CK.out, HQ.out.is.kc ▸ HQ.out.kc, rfl⟩)
      subst hcc hqq
      obtain ⟨kind', ses', kk', kc', be', sl', on', su', A7', n7', c7', A8', n8', c8'⟩ := r2
      dsimp only [Req.cells]
      have E4 := Lib.hid (E3.out.keep hbd)
      have hal : Below wd.heap.size wd (wd.alloc (.cells #[.int .i64 kind', .int .i64 ses', .int .i64 kk', .int .u8 (kc' : Int), .string be', .string sl', .bool on', .string su', .slice A7' n7' c7', .slice A8' n8' c8'] 27)) := (Below.refl _ _).alloc (Nat.le_refl _) _
      have E5 := Lib.hid (E4.out.keep hal)
      have Q5 := Lib.hid (hq2.keep hal)
      have K5 : Hid (Blk (wd.alloc (.cells #[.int .i64 kind', .int .i64 ses', .int .i64 kk', .int .u8 (kc' : Int), .string be', .string sl', .bool on', .string su', .slice A7' n7' c7', .slice A8' n8' c8'] 27)) wd.heap.size 27 #[.int .i64 kind', .int .i64 ses', .int .i64 kk', .int .u8 (kc' : Int), .string be', .string sl', .bool on', .string su', .slice A7' n7' c7', .slice A8' n8' c8']) := Lib.hid (Blk.new _ _ _)
      clear hbd hq2 hd2 hal E4 E3 SS
      go_upto_region 6 with fail
      generalize (wd.alloc (.cells #[.int .i64 kind', .int .i64 ses', .int .i64 kk', .int .u8 (kc' : Int), .string be', .string sl', .bool on', .string su', .slice A7' n7' c7', .slice A8' n8' c8'] 27)) = w5 at *
      have k0 : w5.cell? ⟨w.heap.size, 0, none⟩ = some (.int .i64 kind) := E5.out.rq.cell 0
      have m0 : w5.cell? ⟨wd.heap.size, 0, none⟩ = some (.int .i64 kind') := K5.out.cell 0
      have k1 : w5.cell? ⟨w.heap.size, 1, none⟩ = some (.int .i64 ses) := E5.out.rq.cell 1
      have m1 : w5.cell? ⟨wd.heap.size, 1, none⟩ = some (.int .i64 ses') := K5.out.cell 1
      have k2 : w5.cell? ⟨w.heap.size, 2, none⟩ = some (.int .i64 kk) := E5.out.rq.cell 2
      have m2 : w5.cell? ⟨wd.heap.size, 2, none⟩ = some (.int .i64 kk') := K5.out.cell 2
      have k3 : w5.cell? ⟨w.heap.size, 3, none⟩ = some (.int .u8 (kc : Int)) := E5.out.rq.cell 3
      have m3 : w5.cell? ⟨wd.heap.size, 3, none⟩ = some (.int .u8 (kc' : Int)) := K5.out.cell 3
      have k4 : w5.cell? ⟨w.heap.size, 4, none⟩ = some (.string be) := E5.out.rq.cell 4
      have m4 : w5.cell? ⟨wd.heap.size, 4, none⟩ = some (.string be') := K5.out.cell 4
      have k5 : w5.cell? ⟨w.heap.size, 5, none⟩ = some (.string sl) := E5.out.rq.cell 5
      have m5 : w5.cell? ⟨wd.heap.size, 5, none⟩ = some (.string sl') := K5.out.cell 5
      have k6 : w5.cell? ⟨w.heap.size, 6, none⟩ = some (.bool on) := E5.out.rq.cell 6
      have m6 : w5.cell? ⟨wd.heap.size, 6, none⟩ = some (.bool on') := K5.out.cell 6
      have k7 : w5.cell? ⟨w.heap.size, 7, none⟩ = some (.string su) := E5.out.rq.cell 7
      have m7 : w5.cell? ⟨wd.heap.size, 7, none⟩ = some (.string su') := K5.out.cell 7
      have k8 : w5.cell? ⟨w.heap.size, 8, none⟩ = some (.slice A7 n7 c7) := E5.out.rq.cell 8
      have m8 : w5.cell? ⟨wd.heap.size, 8, none⟩ = some (.slice A7' n7' c7') := K5.out.cell 8
      have k9 : w5.cell? ⟨w.heap.size, 9, none⟩ = some (.slice A8 n8 c8) := E5.out.rq.cell 9
      have m9 : w5.cell? ⟨wd.heap.size, 9, none⟩ = some (.slice A8' n8' c8') := K5.out.cell 9
      have KS : Hid (∀ W, Below w5.heap.size w5 W → (∀ j, W.cell? ⟨w.heap.size, j, none⟩ = w5.cell? ⟨w.heap.size, j, none⟩) ∧ (∀ j, W.cell? ⟨wd.heap.size, j, none⟩ = w5.cell? ⟨wd.heap.size, j, none⟩)) := Lib.hid (fun W hb => ⟨fun j => hb.cell (p := ⟨w.heap.size, j, none⟩) E5.out.rq.lt, fun j => hb.cell (p := ⟨wd.heap.size, j, none⟩) K5.out.lt⟩)
      have hcc5 := Lib.hid (KS.out w5.drew (Below.refl _ _).drew)
      have HA := Lib.hid (askedIn_any (⟨kind', ses', kk', kc', be', sl', on', su', A7', n7', c7', A8', n8', c8'⟩ : Req) _ w5.drew (Q5.out.keep (Below.refl _ _).drew))
      unfold Req.cells at HA
      simp only at HA
      have HB := Lib.hid (fun (W : World) (hW : Below w5.heap.size w5 W) => askedIn_any (⟨kind, ses, kk, kc, be, sl, on, su, A7, n7, c7, A8, n8, c8⟩ : Req) _ W (HQ.out.keep (E5.out.bel.trans (hW.mono E5.out.bel.size))))
      unfold Req.cells at HB
      simp only at HB
      go_wp2_with fail
      go_region_held3 (fun w' => (∀ j, w'.cell? ⟨w.heap.size, j, none⟩ = w5.cell? ⟨w.heap.size, j, none⟩) ∧ (∀ j, w'.cell? ⟨wd.heap.size, j, none⟩ = w5.cell? ⟨wd.heap.size, j, none⟩)) (first | with_reducible exact hcc5.out | with_reducible exact hcc8.out | with_reducible exact hcc7.out | with_reducible exact hcc6.out)
        (first
          | (go_at_call 18; (with_reducible refine HA.out.mono ?_); rintro e w6 ⟨hb6, r6, rfl, hq6⟩; have Q6 := Lib.hid hq6; have C6 := Lib.hid (((Below.refl w5.heap.size w5).drew).trans hb6); have hcc6 := Lib.hid (KS.out w6 C6.out); have HB6 := Lib.hid (HB.out w6 C6.out); clear hb6 hq6 HA HB)
          | (go_at_call 18; (with_reducible refine HB6.out.mono ?_); rintro e w7 ⟨hb7, r7, rfl, hq7⟩; have HSM := Lib.hid (sameReq_any r6 r7 _ w7 (Q6.out.keep hb7) hq7); have C7 := Lib.hid (C6.out.trans (hb7.mono C6.out.size)); have hcc7 := Lib.hid (KS.out w7 C7.out); unfold Req.cells at HSM; clear hb7 hq7 Q6 HB6)
          | (go_at_call 17; (with_reducible refine HSM.out.mono ?_); rintro e w8 ⟨rfl, hb8⟩; have C8 := Lib.hid (C7.out.trans (hb8.mono C7.out.size)); have hcc8 := Lib.hid (KS.out w8 C8.out); clear hb8 HSM))
      go_wp2_with fail
      go_meet
      exact E5.out.keep C8.out
    · have hzb : ((z : Int) == 0) = false := by rw [beq_eq_false_iff_ne]; omega
      go_wp2_with fail
      go_meet
      exact E3.out
  have E6 := Lib.hid hcut
  clear hcut E3 HZ
  rename World => we
  have x0 : we.cell? ⟨w.heap.size, 0, none⟩ = some (.int .i64 kind) := E6.out.rq.cell 0
  have y0 : we.cell? ⟨w.heap.size + 1, 0, none⟩ = some (.int .i64 err) := E6.out.rp.cell 0
  have x1 : we.cell? ⟨w.heap.size, 1, none⟩ = some (.int .i64 ses) := E6.out.rq.cell 1
  have y1 : we.cell? ⟨w.heap.size + 1, 1, none⟩ = some (.int .i64 sesp) := E6.out.rp.cell 1
  have x2 : we.cell? ⟨w.heap.size, 2, none⟩ = some (.int .i64 kk) := E6.out.rq.cell 2
  have y2 : we.cell? ⟨w.heap.size + 1, 2, none⟩ = some (.slice Ap np cp) := E6.out.rp.cell 2
  have x3 : we.cell? ⟨w.heap.size, 3, none⟩ = some (.int .u8 (kc : Int)) := E6.out.rq.cell 3
  have y3 : we.cell? ⟨w.heap.size + 1, 3, none⟩ = some (.int .i64 caret) := E6.out.rp.cell 3
  have x4 : we.cell? ⟨w.heap.size, 4, none⟩ = some (.string be) := E6.out.rq.cell 4
  have y4 : we.cell? ⟨w.heap.size + 1, 4, none⟩ = some (.slice Ac nc cc) := E6.out.rp.cell 4
  have x5 : we.cell? ⟨w.heap.size, 5, none⟩ = some (.string sl) := E6.out.rq.cell 5
  have y5 : we.cell? ⟨w.heap.size + 1, 5, none⟩ = some (.int .i64 chosen) := E6.out.rp.cell 5
  have x6 : we.cell? ⟨w.heap.size, 6, none⟩ = some (.bool on) := E6.out.rq.cell 6
  have y6 : we.cell? ⟨w.heap.size + 1, 6, none⟩ = some (.string commit) := E6.out.rp.cell 6
  have x7 : we.cell? ⟨w.heap.size, 7, none⟩ = some (.string su) := E6.out.rq.cell 7
  have y7 : we.cell? ⟨w.heap.size + 1, 7, none⟩ = some (.int .i64 erase) := E6.out.rp.cell 7
  have x8 : we.cell? ⟨w.heap.size, 8, none⟩ = some (.slice A7 n7 c7) := E6.out.rq.cell 8
  have y8 : we.cell? ⟨w.heap.size + 1, 8, none⟩ = some (.bool taken) := E6.out.rp.cell 8
  have x9 : we.cell? ⟨w.heap.size, 9, none⟩ = some (.slice A8 n8 c8) := E6.out.rq.cell 9
  have y9 : we.cell? ⟨w.heap.size + 1, 9, none⟩ = some (.slice Ad nd cd) := E6.out.rp.cell 9
  have HE := Lib.hid (encP_any (⟨err, sesp, Ap, np, cp, caret, Ac, nc, cc, chosen, commit, erase, taken, Ad, nd, cd⟩ : Rep) q1 we (HT.out.keep E6.out.bel) (HX.out.keep E6.out.bel))
  unfold Rep.cells at HE
  simp only at HE
  go_wp2_with fail
  refine HE.out.mono ?_
  rintro e wf ⟨hbf, hpost⟩
  have E3 := Lib.hid (E6.out.keep hbf)
  clear hbf x0 y0 x1 y1 x2 y2 x3 y3 x4 y4 x5 y5 x6 y6 x7 y7 x8 y8 x9 y9 E6 HE
  obtain ⟨z2, A2, n2, c2, rfl, hz⟩ : ∃ (z : Nat) (A : Option Addr) (n c : Nat), e = .returned (.tuple #[.slice A n c, .int .i64 (z : Int)]) ∧ ((z = 0 ∧ chkP q1 = 0 ∧ SB wf A n c (codeP q1) ∧ n ≤ 100000000) ∨ (z ≠ 0 ∧ n = 0)) := by
    rcases hpost with ⟨hck, A, n, c, rfl, hs, hn⟩ | ⟨hck, rfl⟩
    · exact ⟨0, A, n, c, rfl, .inl ⟨rfl, hck, hs, hn⟩⟩
    · exact ⟨chkP q1, none, 0, 0, rfl, .inr ⟨hck, rfl⟩⟩
  clear hpost
  have HZ := Lib.hid hz
  have ZN2 : Hid (z2 = 0 ∨ n2 = 0) := Lib.hid (by rcases hz with h | h; exact .inl h.1; exact .inr h.2)
  clear hz
  go_upto_if 49 with fail
  go_cut [] (fun wx => BE w #[.int .i64 kind, .int .i64 ses, .int .i64 kk, .int .u8 (kc : Int), .string be, .string sl, .bool on, .string su, .slice A7 n7 c7, .slice A8 n8 c8] #[.int .i64 err, .int .i64 sesp, .slice Ap np cp, .int .i64 caret, .slice Ac nc cc, .int .i64 chosen, .string commit, .int .i64 erase, .bool taken, .slice Ad nd cd] wx)
  case first =>
    rcases HZ.out with ⟨h0, hck, hs, hnl⟩ | ⟨hz0, hn0⟩
    · subst h0
      have CK := Lib.hid hck
      have SS := Lib.hid hs
      clear hck hs
      go_wp2_with fail
      refine (decRep_any A2 n2 c2 (codeP q1) _ (HT.out.keep E3.out.bel) SS.out hnl).mono ?_
      rintro e wd ⟨hbd, r2, q2, cc2, rfl, hq2, hd2, _, _, _⟩
      obtain ⟨hcc, hqq⟩ := DecP.uniq hd2 (.inl ⟨rfl, CK.out, rfl⟩)
      subst hcc hqq
      obtain ⟨err', sesp', Ap', np', cp', caret', Ac', nc', cc', chosen', commit', erase', taken', Ad', nd', cd'⟩ := r2
      dsimp only [Rep.cells]
      have E4 := Lib.hid (E3.out.keep hbd)
      have hal : Below wd.heap.size wd (wd.alloc (.cells #[.int .i64 err', .int .i64 sesp', .slice Ap' np' cp', .int .i64 caret', .slice Ac' nc' cc', .int .i64 chosen', .string commit', .int .i64 erase', .bool taken', .slice Ad' nd' cd'] 34)) := (Below.refl _ _).alloc (Nat.le_refl _) _
      have E5 := Lib.hid (E4.out.keep hal)
      have Q5 := Lib.hid (hq2.keep hal)
      have K5 : Hid (Blk (wd.alloc (.cells #[.int .i64 err', .int .i64 sesp', .slice Ap' np' cp', .int .i64 caret', .slice Ac' nc' cc', .int .i64 chosen', .string commit', .int .i64 erase', .bool taken', .slice Ad' nd' cd'] 34)) wd.heap.size 34 #[.int .i64 err', .int .i64 sesp', .slice Ap' np' cp', .int .i64 caret', .slice Ac' nc' cc', .int .i64 chosen', .string commit', .int .i64 erase', .bool taken', .slice Ad' nd' cd']) := Lib.hid (Blk.new _ _ _)
      clear hbd hq2 hd2 hal E4 E3 SS
      go_upto_region 11 with fail
      generalize (wd.alloc (.cells #[.int .i64 err', .int .i64 sesp', .slice Ap' np' cp', .int .i64 caret', .slice Ac' nc' cc', .int .i64 chosen', .string commit', .int .i64 erase', .bool taken', .slice Ad' nd' cd'] 34)) = w5 at *
      have k0 : w5.cell? ⟨w.heap.size + 1, 0, none⟩ = some (.int .i64 err) := E5.out.rp.cell 0
      have m0 : w5.cell? ⟨wd.heap.size, 0, none⟩ = some (.int .i64 err') := K5.out.cell 0
      have k1 : w5.cell? ⟨w.heap.size + 1, 1, none⟩ = some (.int .i64 sesp) := E5.out.rp.cell 1
      have m1 : w5.cell? ⟨wd.heap.size, 1, none⟩ = some (.int .i64 sesp') := K5.out.cell 1
      have k2 : w5.cell? ⟨w.heap.size + 1, 2, none⟩ = some (.slice Ap np cp) := E5.out.rp.cell 2
      have m2 : w5.cell? ⟨wd.heap.size, 2, none⟩ = some (.slice Ap' np' cp') := K5.out.cell 2
      have k3 : w5.cell? ⟨w.heap.size + 1, 3, none⟩ = some (.int .i64 caret) := E5.out.rp.cell 3
      have m3 : w5.cell? ⟨wd.heap.size, 3, none⟩ = some (.int .i64 caret') := K5.out.cell 3
      have k4 : w5.cell? ⟨w.heap.size + 1, 4, none⟩ = some (.slice Ac nc cc) := E5.out.rp.cell 4
      have m4 : w5.cell? ⟨wd.heap.size, 4, none⟩ = some (.slice Ac' nc' cc') := K5.out.cell 4
      have k5 : w5.cell? ⟨w.heap.size + 1, 5, none⟩ = some (.int .i64 chosen) := E5.out.rp.cell 5
      have m5 : w5.cell? ⟨wd.heap.size, 5, none⟩ = some (.int .i64 chosen') := K5.out.cell 5
      have k6 : w5.cell? ⟨w.heap.size + 1, 6, none⟩ = some (.string commit) := E5.out.rp.cell 6
      have m6 : w5.cell? ⟨wd.heap.size, 6, none⟩ = some (.string commit') := K5.out.cell 6
      have k7 : w5.cell? ⟨w.heap.size + 1, 7, none⟩ = some (.int .i64 erase) := E5.out.rp.cell 7
      have m7 : w5.cell? ⟨wd.heap.size, 7, none⟩ = some (.int .i64 erase') := K5.out.cell 7
      have k8 : w5.cell? ⟨w.heap.size + 1, 8, none⟩ = some (.bool taken) := E5.out.rp.cell 8
      have m8 : w5.cell? ⟨wd.heap.size, 8, none⟩ = some (.bool taken') := K5.out.cell 8
      have k9 : w5.cell? ⟨w.heap.size + 1, 9, none⟩ = some (.slice Ad nd cd) := E5.out.rp.cell 9
      have m9 : w5.cell? ⟨wd.heap.size, 9, none⟩ = some (.slice Ad' nd' cd') := K5.out.cell 9
      have KS : Hid (∀ W, Below w5.heap.size w5 W → (∀ j, W.cell? ⟨w.heap.size + 1, j, none⟩ = w5.cell? ⟨w.heap.size + 1, j, none⟩) ∧ (∀ j, W.cell? ⟨wd.heap.size, j, none⟩ = w5.cell? ⟨wd.heap.size, j, none⟩)) := Lib.hid (fun W hb => ⟨fun j => hb.cell (p := ⟨w.heap.size + 1, j, none⟩) E5.out.rp.lt, fun j => hb.cell (p := ⟨wd.heap.size, j, none⟩) K5.out.lt⟩)
      have hcc5 := Lib.hid (KS.out w5.drew (Below.refl _ _).drew)
      have HA := Lib.hid (told_any (⟨err', sesp', Ap', np', cp', caret', Ac', nc', cc', chosen', commit', erase', taken', Ad', nd', cd'⟩ : Rep) _ w5.drew (Q5.out.keep (Below.refl _ _).drew))
      unfold Rep.cells at HA
      simp only at HA
      have HB := Lib.hid (fun (W : World) (hW : Below w5.heap.size w5 W) => told_any (⟨err, sesp, Ap, np, cp, caret, Ac, nc, cc, chosen, commit, erase, taken, Ad, nd, cd⟩ : Rep) _ W (HX.out.keep (E5.out.bel.trans (hW.mono E5.out.bel.size))))
      unfold Rep.cells at HB
      simp only at HB
      go_wp2_with fail
      go_region_held3 (fun w' => (∀ j, w'.cell? ⟨w.heap.size + 1, j, none⟩ = w5.cell? ⟨w.heap.size + 1, j, none⟩) ∧ (∀ j, w'.cell? ⟨wd.heap.size, j, none⟩ = w5.cell? ⟨wd.heap.size, j, none⟩)) (first | with_reducible exact hcc5.out | with_reducible exact hcc8.out | with_reducible exact hcc7.out | with_reducible exact hcc6.out)
        (first
          | (go_at_call 22; (with_reducible refine HA.out.mono ?_); rintro e w6 ⟨hb6, r6, rfl, hq6⟩; have Q6 := Lib.hid hq6; have C6 := Lib.hid (((Below.refl w5.heap.size w5).drew).trans hb6); have hcc6 := Lib.hid (KS.out w6 C6.out); have HB6 := Lib.hid (HB.out w6 C6.out); clear hb6 hq6 HA HB)
          | (go_at_call 22; (with_reducible refine HB6.out.mono ?_); rintro e w7 ⟨hb7, r7, rfl, hq7⟩; have HSM := Lib.hid (sameRep_any r6 r7 _ w7 (Q6.out.keep hb7) hq7); have C7 := Lib.hid (C6.out.trans (hb7.mono C6.out.size)); have hcc7 := Lib.hid (KS.out w7 C7.out); unfold Rep.cells at HSM; clear hb7 hq7 Q6 HB6)
          | (go_at_call 21; (with_reducible refine HSM.out.mono ?_); rintro e w8 ⟨rfl, hb8⟩; have C8 := Lib.hid (C7.out.trans (hb8.mono C7.out.size)); have hcc8 := Lib.hid (KS.out w8 C8.out); clear hb8 HSM))
      go_wp2_with fail
      go_meet
      exact E5.out.keep C8.out
    · have hzb : ((z2 : Int) == 0) = false := by rw [beq_eq_false_iff_ne]; omega
      go_wp2_with fail
      go_meet
      exact E3.out
  have E7 := Lib.hid hcut
  clear hcut E3 HZ
  rename World => wg
  have HW := Lib.hid (works_any wg (HT.out.keep E7.out.bel))
  have fin : ∀ (z n : Nat), (z = 0 ∨ n = 0) → ((z : Int) == 0) = true ∨ (((z : Int) == 0) = false ∧ n = 0) := by
    intro z n h
    by_cases hz : z = 0
    · subst hz; exact .inl rfl
    · exact .inr ⟨by rw [beq_eq_false_iff_ne]; omega, h.resolve_left hz⟩
  rcases fin z n ZN.out with f1 | ⟨f1, rfl⟩
  all_goals
    rcases fin z2 n2 ZN2.out with f2 | ⟨f2, rfl⟩
    all_goals
      clear fin
      go_wp2_with fail
      refine HW.out.mono ?_
      rintro e wh ⟨rfl, hbh⟩
      have E8 := Lib.hid (E7.out.keep hbh)
      clear hbh
      go_wp2_with fail
      go_ret
      exact ⟨rfl, E8.out.bel⟩
end Go.Proofs.YtkllfnaofapfnaaDoor.Prot
