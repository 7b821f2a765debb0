/-
  The contract of DecodeRequest of package protocol at the kinds 5, 6, 8. Conditions: the bytes can be read, within the form's reach; the two tables of unicode/utf8 lie as their initialisers lay them. (Printed by gen/protdec.py.)
-/
import Derived.Test.YtkllfnaofapfnaaDoorProtDec
import Derived.Deep.RegionHeld3
import Derived.Deep.RegionLaw
namespace Go.Proofs.YtkllfnaofapfnaaDoor.Prot
open Go.RowKit Wd Utf Cod

theorem rReq_5 {l : List UInt8} {s1 s2 s3 : St} {se : Nat} {o : Nat} (h1 : rU l 9 ((0, false) : St) = (5, s1)) (h2 : rU l 2147483647 s1 = (se, s2)) (h3 : rU l 1 s2 = (o, s3)) : rReq l limP (rMany l limP.seen) = (({ rq0 with kind := 5, ses := (se : Int), on := o == 1 } : Rq), s3) := by
  have hS : hasS ((5 : Nat) : Int) = true := by decide
  unfold rReq rTail rSes
  simp only [limP, h1, hS]
  simp [h2, h3]
set_option maxRecDepth 100000 in
set_option maxHeartbeats 4000000 in
theorem dec_5 (A : Option Addr) (n c : Nat) (l : List UInt8) (w : World) (hT : Tabs w) (hs : SB w A n c l) (hn : n ≤ 100000) (hk : (rU l 9 (0, false)).1 = 5) :
    Calls Tryd.prog 16 #[.slice A n c] w (DPost w l) := by
  have hl := hs.rb.len
  have LL := Lib.hid hl
  have L0 := Lib.hid (show ((0, false) : St).1 ≤ n from Nat.zero_le _)
  obtain ⟨s1, e1⟩ : ∃ s1, rU l 9 (0, false) = (5, s1) := ⟨_, Prod.ext hk rfl⟩
  have L1 : Hid (s1.1 ≤ n) := Lib.hid (by have := rU_le (most := 9) (l := l) (s := (0, false)) (by have := L0.out; omega); rw [e1] at this; simp only at this; omega)
  obtain ⟨se, s2, e2⟩ : ∃ se s2, rU l 2147483647 s1 = (se, s2) := ⟨_, _, rfl⟩
  have L2 : Hid (s2.1 ≤ n) := Lib.hid (by have := rU_le (most := 2147483647) (l := l) (s := s1) (by have := L1.out; omega); rw [e2] at this; simp only at this; omega)
  have M2 : se ≤ 2147483647 := by have := rU_most (l := l) (most := 2147483647) (s := s1); rw [e2] at this; exact this
  obtain ⟨o, s3, e3⟩ : ∃ o s3, rU l 1 s2 = (o, s3) := ⟨_, _, rfl⟩
  have L3 : Hid (s3.1 ≤ n) := Lib.hid (by have := rU_le (most := 1) (l := l) (s := s2) (by have := L2.out; omega); rw [e3] at this; simp only at this; omega)
  have M3 : o ≤ 1 := by have := rU_most (l := l) (most := 1) (s := s2); rw [e3] at this; exact this
  have HD := Lib.hid (decR_prog (rReq_5 e1 e2 e3))
  have E1 := Lib.hid e1
  clear e1
  have E2 := Lib.hid e2
  clear e2
  have E3 := Lib.hid e3
  clear e3
  clear hk
  have HT := Lib.hid hT
  have HS := Lib.hid hs
  clear hT hs
  have hw0 : (w.alloc (.cells req0.cells 27)).heap.size = w.heap.size + 1 := by simp
  have R0 : Hid (Rd ((w.alloc (.cells req0.cells 27)).alloc (.cells #[.slice A n c, .int .i64 0, .bool false] 77)) (w.heap.size + 1) A n c (0, false)) := Lib.hid (by have := Blk.new (w.alloc (.cells req0.cells 27)) 77 #[.slice A n c, .int .i64 0, .bool false]; rw [hw0] at this; exact this)
  have B0 : Hid (Below w.heap.size w ((w.alloc (.cells req0.cells 27)).alloc (.cells #[.slice A n c, .int .i64 0, .bool false] 77))) := Lib.hid (((Below.refl _ _).alloc (Nat.le_refl _) _).alloc (by simp) _)
  have Q0 : Hid (RqB w.heap.size req0 ((w.alloc (.cells req0.cells 27)).alloc (.cells #[.slice A n c, .int .i64 0, .bool false] 77))) := Lib.hid ((Blk.new w _ _).alloc _)
  clear hw0
  go_enter Tryd.func16, Tryd.ntmps16
  have hc := count_any (w.heap.size + 1) A n c l (0, false) 9 _ R0.out (HS.out.keep B0.out).rb (by omega) (by omega) (by decide)
  rw [E1.out] at hc
  have HC := Lib.hid hc
  clear hc
  go_wp2_with fail
  refine HC.out.mono ?_
  rintro e w1 ⟨rfl, hr1, hu1⟩
  clear HC
  have hz : w.heap.size + 2 ≤ w1.heap.size := by have := hu1.size; simp at this; omega
  have R1 := Lib.hid hr1
  have Q1 := Lib.hid (show RqB w.heap.size req0 w1 from Blk.grown Q0.out hu1 (by simp))
  have D1 : Hid (DE w w1.heap.size A n c s1 (⟨5, 0, 0, 0, ⟨#[]⟩, ⟨#[]⟩, false, ⟨#[]⟩, none, 0, 0, none, 0, 0⟩ : Req) (w1.alloc (.cells (⟨5, 0, 0, 0, ⟨#[]⟩, ⟨#[]⟩, false, ⟨#[]⟩, none, 0, 0, none, 0, 0⟩ : Req).cells 27))) := Lib.hid ⟨(Blk.grown Q0.out hu1 (by simp)).alloc _, Blk.alloc hr1 _, Blk.new w1 _ _, hz, (B0.out.trans (hu1.below (B := w.heap.size) B0.out.size (by omega))).alloc (by omega) _⟩
  clear hr1 hu1 R0 B0 Q0
  unfold Req.cells at D1
  go_wp2_with fail
  refine (session_has 5 _).mono ?_
  rintro e wq ⟨rfl, rfl⟩
  rw [show hasS (5 : Int) = true by decide]
  have hc := count_any (w.heap.size + 1) A n c l s1 2147483647 _ D1.out.rd (HS.out.keep D1.out.bel).rb (by omega) (by have := L1.out; omega) (by decide)
  rw [E2.out] at hc
  have HC := Lib.hid hc
  clear hc
  go_wp2_with fail
  refine HC.out.mono ?_
  rintro e w2 ⟨rfl, hr2, hu2⟩
  have D1' := Lib.hid (D1.out.step hu2 hr2)
  clear HC hr2 hu2 D1
  have x0 : w2.cell? ⟨w1.heap.size, 0, none⟩ = some (.int .i64 5) := Blk.cell D1'.out.rq 0
  have x1 : w2.cell? ⟨w1.heap.size, 1, none⟩ = some (.int .i64 0) := Blk.cell D1'.out.rq 1
  have f1 := Blk.frozen D1'.out.rq 1
  have D2 : Hid (DE w w1.heap.size A n c s2 (⟨5, (se : Int), 0, 0, ⟨#[]⟩, ⟨#[]⟩, false, ⟨#[]⟩, none, 0, 0, none, 0, 0⟩ : Req) _) := Lib.hid (D1'.out.set_ (r' := (⟨5, (se : Int), 0, 0, ⟨#[]⟩, ⟨#[]⟩, false, ⟨#[]⟩, none, 0, 0, none, 0, 0⟩ : Req)) 1 (.int .i64 (se : Int)) rfl)
  have hc := count_any (w.heap.size + 1) A n c l s2 1 _ D2.out.rd (HS.out.keep D2.out.bel).rb (by omega) (by have := L2.out; omega) (by decide)
  rw [E3.out] at hc
  have HC := Lib.hid hc
  clear hc
  go_wp2_with fail
  refine HC.out.mono ?_
  rintro e w3 ⟨rfl, hr3, hu3⟩
  have D2' := Lib.hid (D2.out.step hu3 hr3)
  clear HC hr3 hu3 D2
  have x0 : w3.cell? ⟨w1.heap.size, 0, none⟩ = some (.int .i64 5) := Blk.cell D2'.out.rq 0
  have x6 : w3.cell? ⟨w1.heap.size, 6, none⟩ = some (.bool false) := Blk.cell D2'.out.rq 6
  have f6 := Blk.frozen D2'.out.rq 6
  have D3 : Hid (DE w w1.heap.size A n c s3 (⟨5, (se : Int), 0, 0, ⟨#[]⟩, ⟨#[]⟩, ((o : Int) == 1), ⟨#[]⟩, none, 0, 0, none, 0, 0⟩ : Req) _) := Lib.hid (D2'.out.set_ (r' := (⟨5, (se : Int), 0, 0, ⟨#[]⟩, ⟨#[]⟩, ((o : Int) == 1), ⟨#[]⟩, none, 0, 0, none, 0, 0⟩ : Req)) 6 (.bool ((o : Int) == 1)) rfl)
  have Q := Lib.hid (show DQ w w1.heap.size A n c s3 (⟨5, (se : Int), 0, 0, ⟨#[]⟩, ⟨#[]⟩, ((o : Int) == 1), ⟨#[]⟩, none, 0, 0, none, 0, 0⟩ : Req) ({ rq0 with kind := 5, ses := (se : Int), on := o == 1 } : Rq) _ from ⟨D3.out, ⟨RI.nil _ _, sb_nil _, ⟨rfl, rfl, rfl, rfl, rfl, rfl, (by rw [Bool.eq_iff_iff]; simp; omega), rfl, rfl, rfl, rfl⟩, (by simp; try omega), (by simp; try omega), Nat.zero_le _, Nat.zero_le _, Nat.zero_le _, (by simp; try omega)⟩, (fun ad h => by cases h), (fun ad h => by cases h), Nat.zero_le _⟩)
  clear D3
  obtain ⟨a, b⟩ := s3
  rcases b with _ | _
  · have y2 : w3.cell? ⟨w.heap.size + 1, 2, none⟩ = some (.bool false) := Blk.cell D2'.out.rd 2
    have y1 : w3.cell? ⟨w.heap.size + 1, 1, none⟩ = some (.int .i64 (a : Int)) := Blk.cell D2'.out.rd 1
    by_cases ha : a = n
    · subst ha
      have x1 : w3.cell? ⟨w1.heap.size, 1, none⟩ = some (.int .i64 (se : Int)) := Blk.cell D2'.out.rq 1
      have x2 : w3.cell? ⟨w1.heap.size, 2, none⟩ = some (.int .i64 0) := Blk.cell D2'.out.rq 2
      have x3 : w3.cell? ⟨w1.heap.size, 3, none⟩ = some (.int .u8 0) := Blk.cell D2'.out.rq 3
      have x4 : w3.cell? ⟨w1.heap.size, 4, none⟩ = some (.string ⟨#[]⟩) := Blk.cell D2'.out.rq 4
      have x5 : w3.cell? ⟨w1.heap.size, 5, none⟩ = some (.string ⟨#[]⟩) := Blk.cell D2'.out.rq 5
      have x7 : w3.cell? ⟨w1.heap.size, 7, none⟩ = some (.string ⟨#[]⟩) := Blk.cell D2'.out.rq 7
      have x8 : w3.cell? ⟨w1.heap.size, 8, none⟩ = some (.slice none 0 0) := Blk.cell D2'.out.rq 8
      have x9 : w3.cell? ⟨w1.heap.size, 9, none⟩ = some (.slice none 0 0) := Blk.cell D2'.out.rq 9
      have hc := check_any (⟨5, (se : Int), 0, 0, ⟨#[]⟩, ⟨#[]⟩, ((o : Int) == 1), ⟨#[]⟩, none, 0, 0, none, 0, 0⟩ : Req) ({ rq0 with kind := 5, ses := (se : Int), on := o == 1 } : Rq) _ _ (HT.out.keep Q.out.de.bel) Q.out.q.seen Q.out.q.n7 Q.out.q.is Q.out.q.bef Q.out.q.sel Q.out.q.sur
      have HC := Lib.hid hc
      clear hc
      go_wp2_with fail
      refine HC.out.mono ?_
      rintro e wc ⟨rfl, hbc⟩
      clear HC
      have DC := Lib.hid (Q.out.de.keep hbc)
      have QC := Lib.hid (Q.out.q.keep hbc)
      clear hbc
      have z0 : wc.cell? ⟨w.heap.size, 0, none⟩ = some (.int .i64 0) := Blk.cell DC.out.res 0
      have g0 := Blk.frozen DC.out.res 0
      have z1 : wc.cell? ⟨w.heap.size, 1, none⟩ = some (.int .i64 0) := Blk.cell DC.out.res 1
      have g1 := Blk.frozen DC.out.res 1
      have z2 : wc.cell? ⟨w.heap.size, 2, none⟩ = some (.int .i64 0) := Blk.cell DC.out.res 2
      have g2 := Blk.frozen DC.out.res 2
      have z3 : wc.cell? ⟨w.heap.size, 3, none⟩ = some (.int .u8 0) := Blk.cell DC.out.res 3
      have g3 := Blk.frozen DC.out.res 3
      have z4 : wc.cell? ⟨w.heap.size, 4, none⟩ = some (.string ⟨#[]⟩) := Blk.cell DC.out.res 4
      have g4 := Blk.frozen DC.out.res 4
      have z5 : wc.cell? ⟨w.heap.size, 5, none⟩ = some (.string ⟨#[]⟩) := Blk.cell DC.out.res 5
      have g5 := Blk.frozen DC.out.res 5
      have z6 : wc.cell? ⟨w.heap.size, 6, none⟩ = some (.bool false) := Blk.cell DC.out.res 6
      have g6 := Blk.frozen DC.out.res 6
      have z7 : wc.cell? ⟨w.heap.size, 7, none⟩ = some (.string ⟨#[]⟩) := Blk.cell DC.out.res 7
      have g7 := Blk.frozen DC.out.res 7
      have z8 : wc.cell? ⟨w.heap.size, 8, none⟩ = some (.slice none 0 0) := Blk.cell DC.out.res 8
      have g8 := Blk.frozen DC.out.res 8
      have z9 : wc.cell? ⟨w.heap.size, 9, none⟩ = some (.slice none 0 0) := Blk.cell DC.out.res 9
      have g9 := Blk.frozen DC.out.res 9
      rcases hk0 : chkR ({ rq0 with kind := 5, ses := (se : Int), on := o == 1 } : Rq) with _ | z
      · have x0 : wc.cell? ⟨w1.heap.size, 0, none⟩ = some (.int .i64 5) := Blk.cell DC.out.rq 0
        have x1 : wc.cell? ⟨w1.heap.size, 1, none⟩ = some (.int .i64 (se : Int)) := Blk.cell DC.out.rq 1
        have x2 : wc.cell? ⟨w1.heap.size, 2, none⟩ = some (.int .i64 0) := Blk.cell DC.out.rq 2
        have x3 : wc.cell? ⟨w1.heap.size, 3, none⟩ = some (.int .u8 0) := Blk.cell DC.out.rq 3
        have x4 : wc.cell? ⟨w1.heap.size, 4, none⟩ = some (.string ⟨#[]⟩) := Blk.cell DC.out.rq 4
        have x5 : wc.cell? ⟨w1.heap.size, 5, none⟩ = some (.string ⟨#[]⟩) := Blk.cell DC.out.rq 5
        have x6 : wc.cell? ⟨w1.heap.size, 6, none⟩ = some (.bool ((o : Int) == 1)) := Blk.cell DC.out.rq 6
        have x7 : wc.cell? ⟨w1.heap.size, 7, none⟩ = some (.string ⟨#[]⟩) := Blk.cell DC.out.rq 7
        have x8 : wc.cell? ⟨w1.heap.size, 8, none⟩ = some (.slice none 0 0) := Blk.cell DC.out.rq 8
        have x9 : wc.cell? ⟨w1.heap.size, 9, none⟩ = some (.slice none 0 0) := Blk.cell DC.out.rq 9
        have HK := Lib.hid hk0
        clear hk0
        go_wp2_with fail
        exact bodyPost_ret (v := .tuple #[.agg #[.int .i64 5, .int .i64 (se : Int), .int .i64 0, .int .u8 0, .string ⟨#[]⟩, .string ⟨#[]⟩, .bool ((o : Int) == 1), .string ⟨#[]⟩, .slice none 0 0, .slice none 0 0], .int .i64 0]) (by simp [results, Tryd.results16, go_sem, *]) rfl (DPost.good Q.out (((((((((((DC.out.bel).setCell (p := ⟨w.heap.size, 0, none⟩) (Nat.le_refl _) _).setCell (p := ⟨w.heap.size, 1, none⟩) (Nat.le_refl _) _).setCell (p := ⟨w.heap.size, 2, none⟩) (Nat.le_refl _) _).setCell (p := ⟨w.heap.size, 3, none⟩) (Nat.le_refl _) _).setCell (p := ⟨w.heap.size, 4, none⟩) (Nat.le_refl _) _).setCell (p := ⟨w.heap.size, 5, none⟩) (Nat.le_refl _) _).setCell (p := ⟨w.heap.size, 6, none⟩) (Nat.le_refl _) _).setCell (p := ⟨w.heap.size, 7, none⟩) (Nat.le_refl _) _).setCell (p := ⟨w.heap.size, 8, none⟩) (Nat.le_refl _) _).setCell (p := ⟨w.heap.size, 9, none⟩) (Nat.le_refl _) _) (QC.out.upd (((((((((((Upd.refl w.heap.size _).set_ 0 _).set_ 1 _).set_ 2 _).set_ 3 _).set_ 4 _).set_ 5 _).set_ 6 _).set_ 7 _).set_ 8 _).set_ 9 _) (fun ad e => Nat.ne_of_gt (Q.out.f7 ad e)) (fun ad e => Nat.ne_of_gt (Q.out.f8 ad e))) (HD.out.1 ⟨by rw [LL.out], HK.out⟩))
      · have hne : (((z + 1 : Nat) : Int) != 0) = true := by rw [bne_iff_ne]; omega
        have HK := Lib.hid hk0
        clear hk0
        generalize hzz : z + 1 = y at hne HK
        have HZ := Lib.hid hzz
        clear hzz
        go_wp2_with fail
        exact bodyPost_ret (v := .tuple #[.agg #[.int .i64 0, .int .i64 0, .int .i64 0, .int .u8 0, .string ⟨#[]⟩, .string ⟨#[]⟩, .bool false, .string ⟨#[]⟩, .slice none 0 0, .slice none 0 0], .int .i64 5]) (by simp [results, Tryd.results16, go_sem, *]) rfl (DPost.bad (((((((((((DC.out.bel).setCell (p := ⟨w.heap.size, 0, none⟩) (Nat.le_refl _) _).setCell (p := ⟨w.heap.size, 1, none⟩) (Nat.le_refl _) _).setCell (p := ⟨w.heap.size, 2, none⟩) (Nat.le_refl _) _).setCell (p := ⟨w.heap.size, 3, none⟩) (Nat.le_refl _) _).setCell (p := ⟨w.heap.size, 4, none⟩) (Nat.le_refl _) _).setCell (p := ⟨w.heap.size, 5, none⟩) (Nat.le_refl _) _).setCell (p := ⟨w.heap.size, 6, none⟩) (Nat.le_refl _) _).setCell (p := ⟨w.heap.size, 7, none⟩) (Nat.le_refl _) _).setCell (p := ⟨w.heap.size, 8, none⟩) (Nat.le_refl _) _).setCell (p := ⟨w.heap.size, 9, none⟩) (Nat.le_refl _) _) (HD.out.2 (fun h => by have h2 := h.2; rw [HK.out, ← HZ.out] at h2; cases h2)))
    · have hne : ((a : Int) != (n : Int)) = true := by rw [bne_iff_ne]; omega
      have HA := Lib.hid ha
      clear ha
      have z0 : w3.cell? ⟨w.heap.size, 0, none⟩ = some (.int .i64 0) := Blk.cell D2'.out.res 0
      have g0 := Blk.frozen D2'.out.res 0
      have z1 : w3.cell? ⟨w.heap.size, 1, none⟩ = some (.int .i64 0) := Blk.cell D2'.out.res 1
      have g1 := Blk.frozen D2'.out.res 1
      have z2 : w3.cell? ⟨w.heap.size, 2, none⟩ = some (.int .i64 0) := Blk.cell D2'.out.res 2
      have g2 := Blk.frozen D2'.out.res 2
      have z3 : w3.cell? ⟨w.heap.size, 3, none⟩ = some (.int .u8 0) := Blk.cell D2'.out.res 3
      have g3 := Blk.frozen D2'.out.res 3
      have z4 : w3.cell? ⟨w.heap.size, 4, none⟩ = some (.string ⟨#[]⟩) := Blk.cell D2'.out.res 4
      have g4 := Blk.frozen D2'.out.res 4
      have z5 : w3.cell? ⟨w.heap.size, 5, none⟩ = some (.string ⟨#[]⟩) := Blk.cell D2'.out.res 5
      have g5 := Blk.frozen D2'.out.res 5
      have z6 : w3.cell? ⟨w.heap.size, 6, none⟩ = some (.bool false) := Blk.cell D2'.out.res 6
      have g6 := Blk.frozen D2'.out.res 6
      have z7 : w3.cell? ⟨w.heap.size, 7, none⟩ = some (.string ⟨#[]⟩) := Blk.cell D2'.out.res 7
      have g7 := Blk.frozen D2'.out.res 7
      have z8 : w3.cell? ⟨w.heap.size, 8, none⟩ = some (.slice none 0 0) := Blk.cell D2'.out.res 8
      have g8 := Blk.frozen D2'.out.res 8
      have z9 : w3.cell? ⟨w.heap.size, 9, none⟩ = some (.slice none 0 0) := Blk.cell D2'.out.res 9
      have g9 := Blk.frozen D2'.out.res 9
      go_wp2_with fail
      exact bodyPost_ret (v := .tuple #[.agg #[.int .i64 0, .int .i64 0, .int .i64 0, .int .u8 0, .string ⟨#[]⟩, .string ⟨#[]⟩, .bool false, .string ⟨#[]⟩, .slice none 0 0, .slice none 0 0], .int .i64 5]) (by simp [results, Tryd.results16, go_sem, *]) rfl (DPost.bad (((((((((((Q.out.de.bel).setCell (p := ⟨w.heap.size, 0, none⟩) (Nat.le_refl _) _).setCell (p := ⟨w.heap.size, 1, none⟩) (Nat.le_refl _) _).setCell (p := ⟨w.heap.size, 2, none⟩) (Nat.le_refl _) _).setCell (p := ⟨w.heap.size, 3, none⟩) (Nat.le_refl _) _).setCell (p := ⟨w.heap.size, 4, none⟩) (Nat.le_refl _) _).setCell (p := ⟨w.heap.size, 5, none⟩) (Nat.le_refl _) _).setCell (p := ⟨w.heap.size, 6, none⟩) (Nat.le_refl _) _).setCell (p := ⟨w.heap.size, 7, none⟩) (Nat.le_refl _) _).setCell (p := ⟨w.heap.size, 8, none⟩) (Nat.le_refl _) _).setCell (p := ⟨w.heap.size, 9, none⟩) (Nat.le_refl _) _) (HD.out.2 (fun h => HA.out (by have h1 := congrArg Prod.fst h.1; simp only at h1; rw [h1]; exact LL.out))))
  · have z0 : w3.cell? ⟨w.heap.size, 0, none⟩ = some (.int .i64 0) := Blk.cell D2'.out.res 0
    have g0 := Blk.frozen D2'.out.res 0
    have z1 : w3.cell? ⟨w.heap.size, 1, none⟩ = some (.int .i64 0) := Blk.cell D2'.out.res 1
    have g1 := Blk.frozen D2'.out.res 1
    have z2 : w3.cell? ⟨w.heap.size, 2, none⟩ = some (.int .i64 0) := Blk.cell D2'.out.res 2
    have g2 := Blk.frozen D2'.out.res 2
    have z3 : w3.cell? ⟨w.heap.size, 3, none⟩ = some (.int .u8 0) := Blk.cell D2'.out.res 3
    have g3 := Blk.frozen D2'.out.res 3
    have z4 : w3.cell? ⟨w.heap.size, 4, none⟩ = some (.string ⟨#[]⟩) := Blk.cell D2'.out.res 4
    have g4 := Blk.frozen D2'.out.res 4
    have z5 : w3.cell? ⟨w.heap.size, 5, none⟩ = some (.string ⟨#[]⟩) := Blk.cell D2'.out.res 5
    have g5 := Blk.frozen D2'.out.res 5
    have z6 : w3.cell? ⟨w.heap.size, 6, none⟩ = some (.bool false) := Blk.cell D2'.out.res 6
    have g6 := Blk.frozen D2'.out.res 6
    have z7 : w3.cell? ⟨w.heap.size, 7, none⟩ = some (.string ⟨#[]⟩) := Blk.cell D2'.out.res 7
    have g7 := Blk.frozen D2'.out.res 7
    have z8 : w3.cell? ⟨w.heap.size, 8, none⟩ = some (.slice none 0 0) := Blk.cell D2'.out.res 8
    have g8 := Blk.frozen D2'.out.res 8
    have z9 : w3.cell? ⟨w.heap.size, 9, none⟩ = some (.slice none 0 0) := Blk.cell D2'.out.res 9
    have g9 := Blk.frozen D2'.out.res 9
    have y2 : w3.cell? ⟨w.heap.size + 1, 2, none⟩ = some (.bool true) := Blk.cell D2'.out.rd 2
    go_wp2_with fail
    exact bodyPost_ret (v := .tuple #[.agg #[.int .i64 0, .int .i64 0, .int .i64 0, .int .u8 0, .string ⟨#[]⟩, .string ⟨#[]⟩, .bool false, .string ⟨#[]⟩, .slice none 0 0, .slice none 0 0], .int .i64 5]) (by simp [results, Tryd.results16, go_sem, *]) rfl (DPost.bad (((((((((((Q.out.de.bel).setCell (p := ⟨w.heap.size, 0, none⟩) (Nat.le_refl _) _).setCell (p := ⟨w.heap.size, 1, none⟩) (Nat.le_refl _) _).setCell (p := ⟨w.heap.size, 2, none⟩) (Nat.le_refl _) _).setCell (p := ⟨w.heap.size, 3, none⟩) (Nat.le_refl _) _).setCell (p := ⟨w.heap.size, 4, none⟩) (Nat.le_refl _) _).setCell (p := ⟨w.heap.size, 5, none⟩) (Nat.le_refl _) _).setCell (p := ⟨w.heap.size, 6, none⟩) (Nat.le_refl _) _).setCell (p := ⟨w.heap.size, 7, none⟩) (Nat.le_refl _) _).setCell (p := ⟨w.heap.size, 8, none⟩) (Nat.le_refl _) _).setCell (p := ⟨w.heap.size, 9, none⟩) (Nat.le_refl _) _) (HD.out.2 (fun h => by have h1 := congrArg Prod.snd h.1; cases h1)))
theorem rReq_6 {l : List UInt8} {s1 s2 : St} {su : List UInt8} (h1 : rU l 9 ((0, false) : St) = (6, s1)) (h2 : rT l s1 = (su, s2)) : rReq l limP (rMany l limP.seen) = (({ rq0 with kind := 6, ses := 0, sur := ba su } : Rq), s2) := by
  have hS : hasS ((6 : Nat) : Int) = false := by decide
  unfold rReq rTail rSes
  simp only [limP, h1, hS]
  simp [h2]
set_option maxRecDepth 100000 in
set_option maxHeartbeats 4000000 in
theorem dec_6 (A : Option Addr) (n c : Nat) (l : List UInt8) (w : World) (hT : Tabs w) (hs : SB w A n c l) (hn : n ≤ 100000) (hk : (rU l 9 (0, false)).1 = 6) :
    Calls Tryd.prog 16 #[.slice A n c] w (DPost w l) := by
  have hl := hs.rb.len
  have LL := Lib.hid hl
  have L0 := Lib.hid (show ((0, false) : St).1 ≤ n from Nat.zero_le _)
  obtain ⟨s1, e1⟩ : ∃ s1, rU l 9 (0, false) = (6, s1) := ⟨_, Prod.ext hk rfl⟩
  have L1 : Hid (s1.1 ≤ n) := Lib.hid (by have := rU_le (most := 9) (l := l) (s := (0, false)) (by have := L0.out; omega); rw [e1] at this; simp only at this; omega)
  obtain ⟨su, s2, e2⟩ : ∃ su s2, rT l s1 = (su, s2) := ⟨_, _, rfl⟩
  have L2 : Hid (s2.1 ≤ n) := Lib.hid (by have := rT_le (l := l) (s := s1) (by have := L1.out; omega); rw [e2] at this; simp only at this; omega)
  have M2 : su.length ≤ n := by have := rT_len (l := l) (s := s1) (by have := L1.out; omega); rw [e2] at this; simp only at this; omega
  have HD := Lib.hid (decR_prog (rReq_6 e1 e2))
  have E1 := Lib.hid e1
  clear e1
  have E2 := Lib.hid e2
  clear e2
  clear hk
  have HT := Lib.hid hT
  have HS := Lib.hid hs
  clear hT hs
  have hw0 : (w.alloc (.cells req0.cells 27)).heap.size = w.heap.size + 1 := by simp
  have R0 : Hid (Rd ((w.alloc (.cells req0.cells 27)).alloc (.cells #[.slice A n c, .int .i64 0, .bool false] 77)) (w.heap.size + 1) A n c (0, false)) := Lib.hid (by have := Blk.new (w.alloc (.cells req0.cells 27)) 77 #[.slice A n c, .int .i64 0, .bool false]; rw [hw0] at this; exact this)
  have B0 : Hid (Below w.heap.size w ((w.alloc (.cells req0.cells 27)).alloc (.cells #[.slice A n c, .int .i64 0, .bool false] 77))) := Lib.hid (((Below.refl _ _).alloc (Nat.le_refl _) _).alloc (by simp) _)
  have Q0 : Hid (RqB w.heap.size req0 ((w.alloc (.cells req0.cells 27)).alloc (.cells #[.slice A n c, .int .i64 0, .bool false] 77))) := Lib.hid ((Blk.new w _ _).alloc _)
  clear hw0
  go_enter Tryd.func16, Tryd.ntmps16
  have hc := count_any (w.heap.size + 1) A n c l (0, false) 9 _ R0.out (HS.out.keep B0.out).rb (by omega) (by omega) (by decide)
  rw [E1.out] at hc
  have HC := Lib.hid hc
  clear hc
  go_wp2_with fail
  refine HC.out.mono ?_
  rintro e w1 ⟨rfl, hr1, hu1⟩
  clear HC
  have hz : w.heap.size + 2 ≤ w1.heap.size := by have := hu1.size; simp at this; omega
  have R1 := Lib.hid hr1
  have Q1 := Lib.hid (show RqB w.heap.size req0 w1 from Blk.grown Q0.out hu1 (by simp))
  have D1 : Hid (DE w w1.heap.size A n c s1 (⟨6, 0, 0, 0, ⟨#[]⟩, ⟨#[]⟩, false, ⟨#[]⟩, none, 0, 0, none, 0, 0⟩ : Req) (w1.alloc (.cells (⟨6, 0, 0, 0, ⟨#[]⟩, ⟨#[]⟩, false, ⟨#[]⟩, none, 0, 0, none, 0, 0⟩ : Req).cells 27))) := Lib.hid ⟨(Blk.grown Q0.out hu1 (by simp)).alloc _, Blk.alloc hr1 _, Blk.new w1 _ _, hz, (B0.out.trans (hu1.below (B := w.heap.size) B0.out.size (by omega))).alloc (by omega) _⟩
  clear hr1 hu1 R0 B0 Q0
  unfold Req.cells at D1
  go_wp2_with fail
  refine (session_has 6 _).mono ?_
  rintro e wq ⟨rfl, rfl⟩
  rw [show hasS (6 : Int) = false by decide]
  have hc := textR_read (w.heap.size + 1) A n c l s1 _ D1.out.rd (HS.out.keep D1.out.bel) (by omega) (by have := L1.out; omega)
  rw [E2.out] at hc
  have HC := Lib.hid hc
  clear hc
  go_wp2_with fail
  refine HC.out.mono ?_
  rintro e w2 ⟨rfl, hr2, hu2⟩
  have D1' := Lib.hid (D1.out.step hu2 hr2)
  clear HC hr2 hu2 D1
  have x0 : w2.cell? ⟨w1.heap.size, 0, none⟩ = some (.int .i64 6) := Blk.cell D1'.out.rq 0
  have x7 : w2.cell? ⟨w1.heap.size, 7, none⟩ = some (.string ⟨#[]⟩) := Blk.cell D1'.out.rq 7
  have f7 := Blk.frozen D1'.out.rq 7
  have D2 : Hid (DE w w1.heap.size A n c s2 (⟨6, 0, 0, 0, ⟨#[]⟩, ⟨#[]⟩, false, (ba su), none, 0, 0, none, 0, 0⟩ : Req) _) := Lib.hid (D1'.out.set_ (r' := (⟨6, 0, 0, 0, ⟨#[]⟩, ⟨#[]⟩, false, (ba su), none, 0, 0, none, 0, 0⟩ : Req)) 7 (.string (ba su)) rfl)
  have Q := Lib.hid (show DQ w w1.heap.size A n c s2 (⟨6, 0, 0, 0, ⟨#[]⟩, ⟨#[]⟩, false, (ba su), none, 0, 0, none, 0, 0⟩ : Req) ({ rq0 with kind := 6, ses := 0, sur := ba su } : Rq) _ from ⟨D2.out, ⟨RI.nil _ _, sb_nil _, ⟨rfl, rfl, rfl, rfl, rfl, rfl, rfl, rfl, rfl, rfl, rfl⟩, (by simp; try omega), (by simp; try omega), Nat.zero_le _, Nat.zero_le _, (by show (ba su).size ≤ _; rw [ba_len]; omega), (by simp; try omega)⟩, (fun ad h => by cases h), (fun ad h => by cases h), Nat.zero_le _⟩)
  clear D2
  obtain ⟨a, b⟩ := s2
  rcases b with _ | _
  · have y2 : w2.cell? ⟨w.heap.size + 1, 2, none⟩ = some (.bool false) := Blk.cell D1'.out.rd 2
    have y1 : w2.cell? ⟨w.heap.size + 1, 1, none⟩ = some (.int .i64 (a : Int)) := Blk.cell D1'.out.rd 1
    by_cases ha : a = n
    · subst ha
      have x1 : w2.cell? ⟨w1.heap.size, 1, none⟩ = some (.int .i64 0) := Blk.cell D1'.out.rq 1
      have x2 : w2.cell? ⟨w1.heap.size, 2, none⟩ = some (.int .i64 0) := Blk.cell D1'.out.rq 2
      have x3 : w2.cell? ⟨w1.heap.size, 3, none⟩ = some (.int .u8 0) := Blk.cell D1'.out.rq 3
      have x4 : w2.cell? ⟨w1.heap.size, 4, none⟩ = some (.string ⟨#[]⟩) := Blk.cell D1'.out.rq 4
      have x5 : w2.cell? ⟨w1.heap.size, 5, none⟩ = some (.string ⟨#[]⟩) := Blk.cell D1'.out.rq 5
      have x6 : w2.cell? ⟨w1.heap.size, 6, none⟩ = some (.bool false) := Blk.cell D1'.out.rq 6
      have x8 : w2.cell? ⟨w1.heap.size, 8, none⟩ = some (.slice none 0 0) := Blk.cell D1'.out.rq 8
      have x9 : w2.cell? ⟨w1.heap.size, 9, none⟩ = some (.slice none 0 0) := Blk.cell D1'.out.rq 9
      have hc := check_any (⟨6, 0, 0, 0, ⟨#[]⟩, ⟨#[]⟩, false, (ba su), none, 0, 0, none, 0, 0⟩ : Req) ({ rq0 with kind := 6, ses := 0, sur := ba su } : Rq) _ _ (HT.out.keep Q.out.de.bel) Q.out.q.seen Q.out.q.n7 Q.out.q.is Q.out.q.bef Q.out.q.sel Q.out.q.sur
      have HC := Lib.hid hc
      clear hc
      go_wp2_with fail
      refine HC.out.mono ?_
      rintro e wc ⟨rfl, hbc⟩
      clear HC
      have DC := Lib.hid (Q.out.de.keep hbc)
      have QC := Lib.hid (Q.out.q.keep hbc)
      clear hbc
      have z0 : wc.cell? ⟨w.heap.size, 0, none⟩ = some (.int .i64 0) := Blk.cell DC.out.res 0
      have g0 := Blk.frozen DC.out.res 0
      have z1 : wc.cell? ⟨w.heap.size, 1, none⟩ = some (.int .i64 0) := Blk.cell DC.out.res 1
      have g1 := Blk.frozen DC.out.res 1
      have z2 : wc.cell? ⟨w.heap.size, 2, none⟩ = some (.int .i64 0) := Blk.cell DC.out.res 2
      have g2 := Blk.frozen DC.out.res 2
      have z3 : wc.cell? ⟨w.heap.size, 3, none⟩ = some (.int .u8 0) := Blk.cell DC.out.res 3
      have g3 := Blk.frozen DC.out.res 3
      have z4 : wc.cell? ⟨w.heap.size, 4, none⟩ = some (.string ⟨#[]⟩) := Blk.cell DC.out.res 4
      have g4 := Blk.frozen DC.out.res 4
      have z5 : wc.cell? ⟨w.heap.size, 5, none⟩ = some (.string ⟨#[]⟩) := Blk.cell DC.out.res 5
      have g5 := Blk.frozen DC.out.res 5
      have z6 : wc.cell? ⟨w.heap.size, 6, none⟩ = some (.bool false) := Blk.cell DC.out.res 6
      have g6 := Blk.frozen DC.out.res 6
      have z7 : wc.cell? ⟨w.heap.size, 7, none⟩ = some (.string ⟨#[]⟩) := Blk.cell DC.out.res 7
      have g7 := Blk.frozen DC.out.res 7
      have z8 : wc.cell? ⟨w.heap.size, 8, none⟩ = some (.slice none 0 0) := Blk.cell DC.out.res 8
      have g8 := Blk.frozen DC.out.res 8
      have z9 : wc.cell? ⟨w.heap.size, 9, none⟩ = some (.slice none 0 0) := Blk.cell DC.out.res 9
      have g9 := Blk.frozen DC.out.res 9
      rcases hk0 : chkR ({ rq0 with kind := 6, ses := 0, sur := ba su } : Rq) with _ | z
      · have x0 : wc.cell? ⟨w1.heap.size, 0, none⟩ = some (.int .i64 6) := Blk.cell DC.out.rq 0
        have x1 : wc.cell? ⟨w1.heap.size, 1, none⟩ = some (.int .i64 0) := Blk.cell DC.out.rq 1
        have x2 : wc.cell? ⟨w1.heap.size, 2, none⟩ = some (.int .i64 0) := Blk.cell DC.out.rq 2
        have x3 : wc.cell? ⟨w1.heap.size, 3, none⟩ = some (.int .u8 0) := Blk.cell DC.out.rq 3
        have x4 : wc.cell? ⟨w1.heap.size, 4, none⟩ = some (.string ⟨#[]⟩) := Blk.cell DC.out.rq 4
        have x5 : wc.cell? ⟨w1.heap.size, 5, none⟩ = some (.string ⟨#[]⟩) := Blk.cell DC.out.rq 5
        have x6 : wc.cell? ⟨w1.heap.size, 6, none⟩ = some (.bool false) := Blk.cell DC.out.rq 6
        have x7 : wc.cell? ⟨w1.heap.size, 7, none⟩ = some (.string (ba su)) := Blk.cell DC.out.rq 7
        have x8 : wc.cell? ⟨w1.heap.size, 8, none⟩ = some (.slice none 0 0) := Blk.cell DC.out.rq 8
        have x9 : wc.cell? ⟨w1.heap.size, 9, none⟩ = some (.slice none 0 0) := Blk.cell DC.out.rq 9
        have HK := Lib.hid hk0
        clear hk0
        go_wp2_with fail
        exact bodyPost_ret (v := .tuple #[.agg #[.int .i64 6, .int .i64 0, .int .i64 0, .int .u8 0, .string ⟨#[]⟩, .string ⟨#[]⟩, .bool false, .string (ba su), .slice none 0 0, .slice none 0 0], .int .i64 0]) (by simp [results, Tryd.results16, go_sem, *]) rfl (DPost.good Q.out (((((((((((DC.out.bel).setCell (p := ⟨w.heap.size, 0, none⟩) (Nat.le_refl _) _).setCell (p := ⟨w.heap.size, 1, none⟩) (Nat.le_refl _) _).setCell (p := ⟨w.heap.size, 2, none⟩) (Nat.le_refl _) _).setCell (p := ⟨w.heap.size, 3, none⟩) (Nat.le_refl _) _).setCell (p := ⟨w.heap.size, 4, none⟩) (Nat.le_refl _) _).setCell (p := ⟨w.heap.size, 5, none⟩) (Nat.le_refl _) _).setCell (p := ⟨w.heap.size, 6, none⟩) (Nat.le_refl _) _).setCell (p := ⟨w.heap.size, 7, none⟩) (Nat.le_refl _) _).setCell (p := ⟨w.heap.size, 8, none⟩) (Nat.le_refl _) _).setCell (p := ⟨w.heap.size, 9, none⟩) (Nat.le_refl _) _) (QC.out.upd (((((((((((Upd.refl w.heap.size _).set_ 0 _).set_ 1 _).set_ 2 _).set_ 3 _).set_ 4 _).set_ 5 _).set_ 6 _).set_ 7 _).set_ 8 _).set_ 9 _) (fun ad e => Nat.ne_of_gt (Q.out.f7 ad e)) (fun ad e => Nat.ne_of_gt (Q.out.f8 ad e))) (HD.out.1 ⟨by rw [LL.out], HK.out⟩))
      · have hne : (((z + 1 : Nat) : Int) != 0) = true := by rw [bne_iff_ne]; omega
        have HK := Lib.hid hk0
        clear hk0
        generalize hzz : z + 1 = y at hne HK
        have HZ := Lib.hid hzz
        clear hzz
        go_wp2_with fail
        exact bodyPost_ret (v := .tuple #[.agg #[.int .i64 0, .int .i64 0, .int .i64 0, .int .u8 0, .string ⟨#[]⟩, .string ⟨#[]⟩, .bool false, .string ⟨#[]⟩, .slice none 0 0, .slice none 0 0], .int .i64 5]) (by simp [results, Tryd.results16, go_sem, *]) rfl (DPost.bad (((((((((((DC.out.bel).setCell (p := ⟨w.heap.size, 0, none⟩) (Nat.le_refl _) _).setCell (p := ⟨w.heap.size, 1, none⟩) (Nat.le_refl _) _).setCell (p := ⟨w.heap.size, 2, none⟩) (Nat.le_refl _) _).setCell (p := ⟨w.heap.size, 3, none⟩) (Nat.le_refl _) _).setCell (p := ⟨w.heap.size, 4, none⟩) (Nat.le_refl _) _).setCell (p := ⟨w.heap.size, 5, none⟩) (Nat.le_refl _) _).setCell (p := ⟨w.heap.size, 6, none⟩) (Nat.le_refl _) _).setCell (p := ⟨w.heap.size, 7, none⟩) (Nat.le_refl _) _).setCell (p := ⟨w.heap.size, 8, none⟩) (Nat.le_refl _) _).setCell (p := ⟨w.heap.size, 9, none⟩) (Nat.le_refl _) _) (HD.out.2 (fun h => by have h2 := h.2; rw [HK.out, ← HZ.out] at h2; cases h2)))
    · have hne : ((a : Int) != (n : Int)) = true := by rw [bne_iff_ne]; omega
      have HA := Lib.hid ha
      clear ha
      have z0 : w2.cell? ⟨w.heap.size, 0, none⟩ = some (.int .i64 0) := Blk.cell D1'.out.res 0
      have g0 := Blk.frozen D1'.out.res 0
      have z1 : w2.cell? ⟨w.heap.size, 1, none⟩ = some (.int .i64 0) := Blk.cell D1'.out.res 1
      have g1 := Blk.frozen D1'.out.res 1
      have z2 : w2.cell? ⟨w.heap.size, 2, none⟩ = some (.int .i64 0) := Blk.cell D1'.out.res 2
      have g2 := Blk.frozen D1'.out.res 2
      have z3 : w2.cell? ⟨w.heap.size, 3, none⟩ = some (.int .u8 0) := Blk.cell D1'.out.res 3
      have g3 := Blk.frozen D1'.out.res 3
      have z4 : w2.cell? ⟨w.heap.size, 4, none⟩ = some (.string ⟨#[]⟩) := Blk.cell D1'.out.res 4
      have g4 := Blk.frozen D1'.out.res 4
      have z5 : w2.cell? ⟨w.heap.size, 5, none⟩ = some (.string ⟨#[]⟩) := Blk.cell D1'.out.res 5
      have g5 := Blk.frozen D1'.out.res 5
      have z6 : w2.cell? ⟨w.heap.size, 6, none⟩ = some (.bool false) := Blk.cell D1'.out.res 6
      have g6 := Blk.frozen D1'.out.res 6
      have z7 : w2.cell? ⟨w.heap.size, 7, none⟩ = some (.string ⟨#[]⟩) := Blk.cell D1'.out.res 7
      have g7 := Blk.frozen D1'.out.res 7
      have z8 : w2.cell? ⟨w.heap.size, 8, none⟩ = some (.slice none 0 0) := Blk.cell D1'.out.res 8
      have g8 := Blk.frozen D1'.out.res 8
      have z9 : w2.cell? ⟨w.heap.size, 9, none⟩ = some (.slice none 0 0) := Blk.cell D1'.out.res 9
      have g9 := Blk.frozen D1'.out.res 9
      go_wp2_with fail
      exact bodyPost_ret (v := .tuple #[.agg #[.int .i64 0, .int .i64 0, .int .i64 0, .int .u8 0, .string ⟨#[]⟩, .string ⟨#[]⟩, .bool false, .string ⟨#[]⟩, .slice none 0 0, .slice none 0 0], .int .i64 5]) (by simp [results, Tryd.results16, go_sem, *]) rfl (DPost.bad (((((((((((Q.out.de.bel).setCell (p := ⟨w.heap.size, 0, none⟩) (Nat.le_refl _) _).setCell (p := ⟨w.heap.size, 1, none⟩) (Nat.le_refl _) _).setCell (p := ⟨w.heap.size, 2, none⟩) (Nat.le_refl _) _).setCell (p := ⟨w.heap.size, 3, none⟩) (Nat.le_refl _) _).setCell (p := ⟨w.heap.size, 4, none⟩) (Nat.le_refl _) _).setCell (p := ⟨w.heap.size, 5, none⟩) (Nat.le_refl _) _).setCell (p := ⟨w.heap.size, 6, none⟩) (Nat.le_refl _) _).setCell (p := ⟨w.heap.size, 7, none⟩) (Nat.le_refl _) _).setCell (p := ⟨w.heap.size, 8, none⟩) (Nat.le_refl _) _).setCell (p := ⟨w.heap.size, 9, none⟩) (Nat.le_refl _) _) (HD.out.2 (fun h => HA.out (by have h1 := congrArg Prod.fst h.1; simp only at h1; rw [h1]; exact LL.out))))
  · have z0 : w2.cell? ⟨w.heap.size, 0, none⟩ = some (.int .i64 0) := Blk.cell D1'.out.res 0
    have g0 := Blk.frozen D1'.out.res 0
    have z1 : w2.cell? ⟨w.heap.size, 1, none⟩ = some (.int .i64 0) := Blk.cell D1'.out.res 1
    have g1 := Blk.frozen D1'.out.res 1
    have z2 : w2.cell? ⟨w.heap.size, 2, none⟩ = some (.int .i64 0) := Blk.cell D1'.out.res 2
    have g2 := Blk.frozen D1'.out.res 2
    have z3 : w2.cell? ⟨w.heap.size, 3, none⟩ = some (.int .u8 0) := Blk.cell D1'.out.res 3
    have g3 := Blk.frozen D1'.out.res 3
    have z4 : w2.cell? ⟨w.heap.size, 4, none⟩ = some (.string ⟨#[]⟩) := Blk.cell D1'.out.res 4
    have g4 := Blk.frozen D1'.out.res 4
    have z5 : w2.cell? ⟨w.heap.size, 5, none⟩ = some (.string ⟨#[]⟩) := Blk.cell D1'.out.res 5
    have g5 := Blk.frozen D1'.out.res 5
    have z6 : w2.cell? ⟨w.heap.size, 6, none⟩ = some (.bool false) := Blk.cell D1'.out.res 6
    have g6 := Blk.frozen D1'.out.res 6
    have z7 : w2.cell? ⟨w.heap.size, 7, none⟩ = some (.string ⟨#[]⟩) := Blk.cell D1'.out.res 7
    have g7 := Blk.frozen D1'.out.res 7
    have z8 : w2.cell? ⟨w.heap.size, 8, none⟩ = some (.slice none 0 0) := Blk.cell D1'.out.res 8
    have g8 := Blk.frozen D1'.out.res 8
    have z9 : w2.cell? ⟨w.heap.size, 9, none⟩ = some (.slice none 0 0) := Blk.cell D1'.out.res 9
    have g9 := Blk.frozen D1'.out.res 9
    have y2 : w2.cell? ⟨w.heap.size + 1, 2, none⟩ = some (.bool true) := Blk.cell D1'.out.rd 2
    go_wp2_with fail
    exact bodyPost_ret (v := .tuple #[.agg #[.int .i64 0, .int .i64 0, .int .i64 0, .int .u8 0, .string ⟨#[]⟩, .string ⟨#[]⟩, .bool false, .string ⟨#[]⟩, .slice none 0 0, .slice none 0 0], .int .i64 5]) (by simp [results, Tryd.results16, go_sem, *]) rfl (DPost.bad (((((((((((Q.out.de.bel).setCell (p := ⟨w.heap.size, 0, none⟩) (Nat.le_refl _) _).setCell (p := ⟨w.heap.size, 1, none⟩) (Nat.le_refl _) _).setCell (p := ⟨w.heap.size, 2, none⟩) (Nat.le_refl _) _).setCell (p := ⟨w.heap.size, 3, none⟩) (Nat.le_refl _) _).setCell (p := ⟨w.heap.size, 4, none⟩) (Nat.le_refl _) _).setCell (p := ⟨w.heap.size, 5, none⟩) (Nat.le_refl _) _).setCell (p := ⟨w.heap.size, 6, none⟩) (Nat.le_refl _) _).setCell (p := ⟨w.heap.size, 7, none⟩) (Nat.le_refl _) _).setCell (p := ⟨w.heap.size, 8, none⟩) (Nat.le_refl _) _).setCell (p := ⟨w.heap.size, 9, none⟩) (Nat.le_refl _) _) (HD.out.2 (fun h => by have h1 := congrArg Prod.snd h.1; cases h1)))
theorem rReq_8 {l : List UInt8} {s1 s2 : St} {da : List UInt8} (h1 : rU l 9 ((0, false) : St) = (8, s1)) (h2 : rT l s1 = (da, s2)) : rReq l limP (rMany l limP.seen) = (({ rq0 with kind := 8, ses := 0, data := da } : Rq), s2) := by
  have hS : hasS ((8 : Nat) : Int) = false := by decide
  unfold rReq rTail rSes
  simp only [limP, h1, hS]
  simp [h2]
set_option maxRecDepth 100000 in
set_option maxHeartbeats 4000000 in
theorem dec_8 (A : Option Addr) (n c : Nat) (l : List UInt8) (w : World) (hT : Tabs w) (hs : SB w A n c l) (hn : n ≤ 100000) (hk : (rU l 9 (0, false)).1 = 8) :
    Calls Tryd.prog 16 #[.slice A n c] w (DPost w l) := by
  have hl := hs.rb.len
  have LL := Lib.hid hl
  have L0 := Lib.hid (show ((0, false) : St).1 ≤ n from Nat.zero_le _)
  obtain ⟨s1, e1⟩ : ∃ s1, rU l 9 (0, false) = (8, s1) := ⟨_, Prod.ext hk rfl⟩
  have L1 : Hid (s1.1 ≤ n) := Lib.hid (by have := rU_le (most := 9) (l := l) (s := (0, false)) (by have := L0.out; omega); rw [e1] at this; simp only at this; omega)
  obtain ⟨da, s2, e2⟩ : ∃ da s2, rT l s1 = (da, s2) := ⟨_, _, rfl⟩
  have L2 : Hid (s2.1 ≤ n) := Lib.hid (by have := rT_le (l := l) (s := s1) (by have := L1.out; omega); rw [e2] at this; simp only at this; omega)
  have M2 : da.length ≤ n := by have := rT_len (l := l) (s := s1) (by have := L1.out; omega); rw [e2] at this; simp only at this; omega
  have HD := Lib.hid (decR_prog (rReq_8 e1 e2))
  have E1 := Lib.hid e1
  clear e1
  have E2 := Lib.hid e2
  clear e2
  clear hk
  have HT := Lib.hid hT
  have HS := Lib.hid hs
  clear hT hs
  have hw0 : (w.alloc (.cells req0.cells 27)).heap.size = w.heap.size + 1 := by simp
  have R0 : Hid (Rd ((w.alloc (.cells req0.cells 27)).alloc (.cells #[.slice A n c, .int .i64 0, .bool false] 77)) (w.heap.size + 1) A n c (0, false)) := Lib.hid (by have := Blk.new (w.alloc (.cells req0.cells 27)) 77 #[.slice A n c, .int .i64 0, .bool false]; rw [hw0] at this; exact this)
  have B0 : Hid (Below w.heap.size w ((w.alloc (.cells req0.cells 27)).alloc (.cells #[.slice A n c, .int .i64 0, .bool false] 77))) := Lib.hid (((Below.refl _ _).alloc (Nat.le_refl _) _).alloc (by simp) _)
  have Q0 : Hid (RqB w.heap.size req0 ((w.alloc (.cells req0.cells 27)).alloc (.cells #[.slice A n c, .int .i64 0, .bool false] 77))) := Lib.hid ((Blk.new w _ _).alloc _)
  clear hw0
  go_enter Tryd.func16, Tryd.ntmps16
  have hc := count_any (w.heap.size + 1) A n c l (0, false) 9 _ R0.out (HS.out.keep B0.out).rb (by omega) (by omega) (by decide)
  rw [E1.out] at hc
  have HC := Lib.hid hc
  clear hc
  go_wp2_with fail
  refine HC.out.mono ?_
  rintro e w1 ⟨rfl, hr1, hu1⟩
  clear HC
  have hz : w.heap.size + 2 ≤ w1.heap.size := by have := hu1.size; simp at this; omega
  have R1 := Lib.hid hr1
  have Q1 := Lib.hid (show RqB w.heap.size req0 w1 from Blk.grown Q0.out hu1 (by simp))
  have D1 : Hid (DE w w1.heap.size A n c s1 (⟨8, 0, 0, 0, ⟨#[]⟩, ⟨#[]⟩, false, ⟨#[]⟩, none, 0, 0, none, 0, 0⟩ : Req) (w1.alloc (.cells (⟨8, 0, 0, 0, ⟨#[]⟩, ⟨#[]⟩, false, ⟨#[]⟩, none, 0, 0, none, 0, 0⟩ : Req).cells 27))) := Lib.hid ⟨(Blk.grown Q0.out hu1 (by simp)).alloc _, Blk.alloc hr1 _, Blk.new w1 _ _, hz, (B0.out.trans (hu1.below (B := w.heap.size) B0.out.size (by omega))).alloc (by omega) _⟩
  clear hr1 hu1 R0 B0 Q0
  unfold Req.cells at D1
  go_wp2_with fail
  refine (session_has 8 _).mono ?_
  rintro e wq ⟨rfl, rfl⟩
  rw [show hasS (8 : Int) = false by decide]
  have hc := textR_read (w.heap.size + 1) A n c l s1 _ D1.out.rd (HS.out.keep D1.out.bel) (by omega) (by have := L1.out; omega)
  rw [E2.out] at hc
  have HC := Lib.hid hc
  clear hc
  go_wp2_with fail
  refine HC.out.mono ?_
  rintro e w2 ⟨rfl, hr2, hu2⟩
  have D1' := Lib.hid (D1.out.step hu2 hr2)
  clear HC hr2 hu2 D1
  have D2 := D1'
  clear D1'
  obtain ⟨W3, c8, hcv, hb3, hsb3⟩ := conv_bytes w2 da
  have hlo8 : w.heap.size < w2.heap.size := by have := D2.out.rq.lt; have := D2.out.lo; omega
  have S3 := Lib.hid hsb3
  have D3 := Lib.hid (D2.out.keep hb3)
  clear hb3 hsb3
  have x0 : W3.cell? ⟨w1.heap.size, 0, none⟩ = some (.int .i64 8) := Blk.cell D3.out.rq 0
  have x9 : W3.cell? ⟨w1.heap.size, 9, none⟩ = some (.slice none 0 0) := Blk.cell D3.out.rq 9
  have x0' : w2.cell? ⟨w1.heap.size, 0, none⟩ = some (.int .i64 8) := Blk.cell D2.out.rq 0
  have f9 := Blk.frozen D3.out.rq 9
  have D4 : Hid (DE w w1.heap.size A n c s2 (⟨8, 0, 0, 0, ⟨#[]⟩, ⟨#[]⟩, false, ⟨#[]⟩, none, 0, 0, (some ⟨w2.heap.size, 0, none⟩), da.length, c8⟩ : Req) _) := Lib.hid (D3.out.set_ (r' := (⟨8, 0, 0, 0, ⟨#[]⟩, ⟨#[]⟩, false, ⟨#[]⟩, none, 0, 0, (some ⟨w2.heap.size, 0, none⟩), da.length, c8⟩ : Req)) 9 (.slice (some ⟨w2.heap.size, 0, none⟩) da.length c8) rfl)
  have S4 := Lib.hid (SB.upd S3.out ((Upd.refl w1.heap.size _).set_ 9 (.slice (some ⟨w2.heap.size, 0, none⟩) da.length c8)) (fun ad e => by cases e; have := D2.out.rq.lt; simp; omega))
  clear D2 S3
  have Q := Lib.hid (show DQ w w1.heap.size A n c s2 (⟨8, 0, 0, 0, ⟨#[]⟩, ⟨#[]⟩, false, ⟨#[]⟩, none, 0, 0, (some ⟨w2.heap.size, 0, none⟩), da.length, c8⟩ : Req) ({ rq0 with kind := 8, ses := 0, data := da } : Rq) _ from ⟨D4.out, ⟨RI.nil _ _, S4.out, ⟨rfl, rfl, rfl, rfl, rfl, rfl, rfl, rfl, rfl, rfl, rfl⟩, (by simp; try omega), (by simp; try omega), Nat.zero_le _, Nat.zero_le _, Nat.zero_le _, (by simp; try omega)⟩, (fun ad h => by cases h), (fun ad h => by cases h; exact hlo8), Nat.zero_le _⟩)
  obtain ⟨a, b⟩ := s2
  rcases b with _ | _
  · have y2 : W3.cell? ⟨w.heap.size + 1, 2, none⟩ = some (.bool false) := Blk.cell D3.out.rd 2
    have y1 : W3.cell? ⟨w.heap.size + 1, 1, none⟩ = some (.int .i64 (a : Int)) := Blk.cell D3.out.rd 1
    by_cases ha : a = n
    · subst ha
      have x1 : W3.cell? ⟨w1.heap.size, 1, none⟩ = some (.int .i64 0) := Blk.cell D3.out.rq 1
      have x2 : W3.cell? ⟨w1.heap.size, 2, none⟩ = some (.int .i64 0) := Blk.cell D3.out.rq 2
      have x3 : W3.cell? ⟨w1.heap.size, 3, none⟩ = some (.int .u8 0) := Blk.cell D3.out.rq 3
      have x4 : W3.cell? ⟨w1.heap.size, 4, none⟩ = some (.string ⟨#[]⟩) := Blk.cell D3.out.rq 4
      have x5 : W3.cell? ⟨w1.heap.size, 5, none⟩ = some (.string ⟨#[]⟩) := Blk.cell D3.out.rq 5
      have x6 : W3.cell? ⟨w1.heap.size, 6, none⟩ = some (.bool false) := Blk.cell D3.out.rq 6
      have x7 : W3.cell? ⟨w1.heap.size, 7, none⟩ = some (.string ⟨#[]⟩) := Blk.cell D3.out.rq 7
      have x8 : W3.cell? ⟨w1.heap.size, 8, none⟩ = some (.slice none 0 0) := Blk.cell D3.out.rq 8
      have hc := check_any (⟨8, 0, 0, 0, ⟨#[]⟩, ⟨#[]⟩, false, ⟨#[]⟩, none, 0, 0, (some ⟨w2.heap.size, 0, none⟩), da.length, c8⟩ : Req) ({ rq0 with kind := 8, ses := 0, data := da } : Rq) _ _ (HT.out.keep Q.out.de.bel) Q.out.q.seen Q.out.q.n7 Q.out.q.is Q.out.q.bef Q.out.q.sel Q.out.q.sur
      have HC := Lib.hid hc
      clear hc
      go_wp2_with fail
      refine HC.out.mono ?_
      rintro e wc ⟨rfl, hbc⟩
      clear HC
      have DC := Lib.hid (Q.out.de.keep hbc)
      have QC := Lib.hid (Q.out.q.keep hbc)
      clear hbc
      have z0 : wc.cell? ⟨w.heap.size, 0, none⟩ = some (.int .i64 0) := Blk.cell DC.out.res 0
      have g0 := Blk.frozen DC.out.res 0
      have z1 : wc.cell? ⟨w.heap.size, 1, none⟩ = some (.int .i64 0) := Blk.cell DC.out.res 1
      have g1 := Blk.frozen DC.out.res 1
      have z2 : wc.cell? ⟨w.heap.size, 2, none⟩ = some (.int .i64 0) := Blk.cell DC.out.res 2
      have g2 := Blk.frozen DC.out.res 2
      have z3 : wc.cell? ⟨w.heap.size, 3, none⟩ = some (.int .u8 0) := Blk.cell DC.out.res 3
      have g3 := Blk.frozen DC.out.res 3
      have z4 : wc.cell? ⟨w.heap.size, 4, none⟩ = some (.string ⟨#[]⟩) := Blk.cell DC.out.res 4
      have g4 := Blk.frozen DC.out.res 4
      have z5 : wc.cell? ⟨w.heap.size, 5, none⟩ = some (.string ⟨#[]⟩) := Blk.cell DC.out.res 5
      have g5 := Blk.frozen DC.out.res 5
      have z6 : wc.cell? ⟨w.heap.size, 6, none⟩ = some (.bool false) := Blk.cell DC.out.res 6
      have g6 := Blk.frozen DC.out.res 6
      have z7 : wc.cell? ⟨w.heap.size, 7, none⟩ = some (.string ⟨#[]⟩) := Blk.cell DC.out.res 7
      have g7 := Blk.frozen DC.out.res 7
      have z8 : wc.cell? ⟨w.heap.size, 8, none⟩ = some (.slice none 0 0) := Blk.cell DC.out.res 8
      have g8 := Blk.frozen DC.out.res 8
      have z9 : wc.cell? ⟨w.heap.size, 9, none⟩ = some (.slice none 0 0) := Blk.cell DC.out.res 9
      have g9 := Blk.frozen DC.out.res 9
      rcases hk0 : chkR ({ rq0 with kind := 8, ses := 0, data := da } : Rq) with _ | z
      · have x0 : wc.cell? ⟨w1.heap.size, 0, none⟩ = some (.int .i64 8) := Blk.cell DC.out.rq 0
        have x1 : wc.cell? ⟨w1.heap.size, 1, none⟩ = some (.int .i64 0) := Blk.cell DC.out.rq 1
        have x2 : wc.cell? ⟨w1.heap.size, 2, none⟩ = some (.int .i64 0) := Blk.cell DC.out.rq 2
        have x3 : wc.cell? ⟨w1.heap.size, 3, none⟩ = some (.int .u8 0) := Blk.cell DC.out.rq 3
        have x4 : wc.cell? ⟨w1.heap.size, 4, none⟩ = some (.string ⟨#[]⟩) := Blk.cell DC.out.rq 4
        have x5 : wc.cell? ⟨w1.heap.size, 5, none⟩ = some (.string ⟨#[]⟩) := Blk.cell DC.out.rq 5
        have x6 : wc.cell? ⟨w1.heap.size, 6, none⟩ = some (.bool false) := Blk.cell DC.out.rq 6
        have x7 : wc.cell? ⟨w1.heap.size, 7, none⟩ = some (.string ⟨#[]⟩) := Blk.cell DC.out.rq 7
        have x8 : wc.cell? ⟨w1.heap.size, 8, none⟩ = some (.slice none 0 0) := Blk.cell DC.out.rq 8
        have x9 : wc.cell? ⟨w1.heap.size, 9, none⟩ = some (.slice (some ⟨w2.heap.size, 0, none⟩) da.length c8) := Blk.cell DC.out.rq 9
        have HK := Lib.hid hk0
        clear hk0
        go_wp2_with fail
        exact bodyPost_ret (v := .tuple #[.agg #[.int .i64 8, .int .i64 0, .int .i64 0, .int .u8 0, .string ⟨#[]⟩, .string ⟨#[]⟩, .bool false, .string ⟨#[]⟩, .slice none 0 0, .slice (some ⟨w2.heap.size, 0, none⟩) da.length c8], .int .i64 0]) (by simp [results, Tryd.results16, go_sem, *]) rfl (DPost.good Q.out (((((((((((DC.out.bel).setCell (p := ⟨w.heap.size, 0, none⟩) (Nat.le_refl _) _).setCell (p := ⟨w.heap.size, 1, none⟩) (Nat.le_refl _) _).setCell (p := ⟨w.heap.size, 2, none⟩) (Nat.le_refl _) _).setCell (p := ⟨w.heap.size, 3, none⟩) (Nat.le_refl _) _).setCell (p := ⟨w.heap.size, 4, none⟩) (Nat.le_refl _) _).setCell (p := ⟨w.heap.size, 5, none⟩) (Nat.le_refl _) _).setCell (p := ⟨w.heap.size, 6, none⟩) (Nat.le_refl _) _).setCell (p := ⟨w.heap.size, 7, none⟩) (Nat.le_refl _) _).setCell (p := ⟨w.heap.size, 8, none⟩) (Nat.le_refl _) _).setCell (p := ⟨w.heap.size, 9, none⟩) (Nat.le_refl _) _) (QC.out.upd (((((((((((Upd.refl w.heap.size _).set_ 0 _).set_ 1 _).set_ 2 _).set_ 3 _).set_ 4 _).set_ 5 _).set_ 6 _).set_ 7 _).set_ 8 _).set_ 9 _) (fun ad e => Nat.ne_of_gt (Q.out.f7 ad e)) (fun ad e => Nat.ne_of_gt (Q.out.f8 ad e))) (HD.out.1 ⟨by rw [LL.out], HK.out⟩))
      · have hne : (((z + 1 : Nat) : Int) != 0) = true := by rw [bne_iff_ne]; omega
        have HK := Lib.hid hk0
        clear hk0
        generalize hzz : z + 1 = y at hne HK
        have HZ := Lib.hid hzz
        clear hzz
        go_wp2_with fail
        exact bodyPost_ret (v := .tuple #[.agg #[.int .i64 0, .int .i64 0, .int .i64 0, .int .u8 0, .string ⟨#[]⟩, .string ⟨#[]⟩, .bool false, .string ⟨#[]⟩, .slice none 0 0, .slice none 0 0], .int .i64 5]) (by simp [results, Tryd.results16, go_sem, *]) rfl (DPost.bad (((((((((((DC.out.bel).setCell (p := ⟨w.heap.size, 0, none⟩) (Nat.le_refl _) _).setCell (p := ⟨w.heap.size, 1, none⟩) (Nat.le_refl _) _).setCell (p := ⟨w.heap.size, 2, none⟩) (Nat.le_refl _) _).setCell (p := ⟨w.heap.size, 3, none⟩) (Nat.le_refl _) _).setCell (p := ⟨w.heap.size, 4, none⟩) (Nat.le_refl _) _).setCell (p := ⟨w.heap.size, 5, none⟩) (Nat.le_refl _) _).setCell (p := ⟨w.heap.size, 6, none⟩) (Nat.le_refl _) _).setCell (p := ⟨w.heap.size, 7, none⟩) (Nat.le_refl _) _).setCell (p := ⟨w.heap.size, 8, none⟩) (Nat.le_refl _) _).setCell (p := ⟨w.heap.size, 9, none⟩) (Nat.le_refl _) _) (HD.out.2 (fun h => by have h2 := h.2; rw [HK.out, ← HZ.out] at h2; cases h2)))
    · have hne : ((a : Int) != (n : Int)) = true := by rw [bne_iff_ne]; omega
      have HA := Lib.hid ha
      clear ha
      have z0 : W3.cell? ⟨w.heap.size, 0, none⟩ = some (.int .i64 0) := Blk.cell D3.out.res 0
      have g0 := Blk.frozen D3.out.res 0
      have z1 : W3.cell? ⟨w.heap.size, 1, none⟩ = some (.int .i64 0) := Blk.cell D3.out.res 1
      have g1 := Blk.frozen D3.out.res 1
      have z2 : W3.cell? ⟨w.heap.size, 2, none⟩ = some (.int .i64 0) := Blk.cell D3.out.res 2
      have g2 := Blk.frozen D3.out.res 2
      have z3 : W3.cell? ⟨w.heap.size, 3, none⟩ = some (.int .u8 0) := Blk.cell D3.out.res 3
      have g3 := Blk.frozen D3.out.res 3
      have z4 : W3.cell? ⟨w.heap.size, 4, none⟩ = some (.string ⟨#[]⟩) := Blk.cell D3.out.res 4
      have g4 := Blk.frozen D3.out.res 4
      have z5 : W3.cell? ⟨w.heap.size, 5, none⟩ = some (.string ⟨#[]⟩) := Blk.cell D3.out.res 5
      have g5 := Blk.frozen D3.out.res 5
      have z6 : W3.cell? ⟨w.heap.size, 6, none⟩ = some (.bool false) := Blk.cell D3.out.res 6
      have g6 := Blk.frozen D3.out.res 6
      have z7 : W3.cell? ⟨w.heap.size, 7, none⟩ = some (.string ⟨#[]⟩) := Blk.cell D3.out.res 7
      have g7 := Blk.frozen D3.out.res 7
      have z8 : W3.cell? ⟨w.heap.size, 8, none⟩ = some (.slice none 0 0) := Blk.cell D3.out.res 8
      have g8 := Blk.frozen D3.out.res 8
      have z9 : W3.cell? ⟨w.heap.size, 9, none⟩ = some (.slice none 0 0) := Blk.cell D3.out.res 9
      have g9 := Blk.frozen D3.out.res 9
      go_wp2_with fail
      exact bodyPost_ret (v := .tuple #[.agg #[.int .i64 0, .int .i64 0, .int .i64 0, .int .u8 0, .string ⟨#[]⟩, .string ⟨#[]⟩, .bool false, .string ⟨#[]⟩, .slice none 0 0, .slice none 0 0], .int .i64 5]) (by simp [results, Tryd.results16, go_sem, *]) rfl (DPost.bad (((((((((((Q.out.de.bel).setCell (p := ⟨w.heap.size, 0, none⟩) (Nat.le_refl _) _).setCell (p := ⟨w.heap.size, 1, none⟩) (Nat.le_refl _) _).setCell (p := ⟨w.heap.size, 2, none⟩) (Nat.le_refl _) _).setCell (p := ⟨w.heap.size, 3, none⟩) (Nat.le_refl _) _).setCell (p := ⟨w.heap.size, 4, none⟩) (Nat.le_refl _) _).setCell (p := ⟨w.heap.size, 5, none⟩) (Nat.le_refl _) _).setCell (p := ⟨w.heap.size, 6, none⟩) (Nat.le_refl _) _).setCell (p := ⟨w.heap.size, 7, none⟩) (Nat.le_refl _) _).setCell (p := ⟨w.heap.size, 8, none⟩) (Nat.le_refl _) _).setCell (p := ⟨w.heap.size, 9, none⟩) (Nat.le_refl _) _) (HD.out.2 (fun h => HA.out (by have h1 := congrArg Prod.fst h.1; simp only at h1; rw [h1]; exact LL.out))))
  · have z0 : W3.cell? ⟨w.heap.size, 0, none⟩ = some (.int .i64 0) := Blk.cell D3.out.res 0
    have g0 := Blk.frozen D3.out.res 0
    have z1 : W3.cell? ⟨w.heap.size, 1, none⟩ = some (.int .i64 0) := Blk.cell D3.out.res 1
    have g1 := Blk.frozen D3.out.res 1
    have z2 : W3.cell? ⟨w.heap.size, 2, none⟩ = some (.int .i64 0) := Blk.cell D3.out.res 2
    have g2 := Blk.frozen D3.out.res 2
    have z3 : W3.cell? ⟨w.heap.size, 3, none⟩ = some (.int .u8 0) := Blk.cell D3.out.res 3
    have g3 := Blk.frozen D3.out.res 3
    have z4 : W3.cell? ⟨w.heap.size, 4, none⟩ = some (.string ⟨#[]⟩) := Blk.cell D3.out.res 4
    have g4 := Blk.frozen D3.out.res 4
    have z5 : W3.cell? ⟨w.heap.size, 5, none⟩ = some (.string ⟨#[]⟩) := Blk.cell D3.out.res 5
    have g5 := Blk.frozen D3.out.res 5
    have z6 : W3.cell? ⟨w.heap.size, 6, none⟩ = some (.bool false) := Blk.cell D3.out.res 6
    have g6 := Blk.frozen D3.out.res 6
    have z7 : W3.cell? ⟨w.heap.size, 7, none⟩ = some (.string ⟨#[]⟩) := Blk.cell D3.out.res 7
    have g7 := Blk.frozen D3.out.res 7
    have z8 : W3.cell? ⟨w.heap.size, 8, none⟩ = some (.slice none 0 0) := Blk.cell D3.out.res 8
    have g8 := Blk.frozen D3.out.res 8
    have z9 : W3.cell? ⟨w.heap.size, 9, none⟩ = some (.slice none 0 0) := Blk.cell D3.out.res 9
    have g9 := Blk.frozen D3.out.res 9
    have y2 : W3.cell? ⟨w.heap.size + 1, 2, none⟩ = some (.bool true) := Blk.cell D3.out.rd 2
    go_wp2_with fail
    exact bodyPost_ret (v := .tuple #[.agg #[.int .i64 0, .int .i64 0, .int .i64 0, .int .u8 0, .string ⟨#[]⟩, .string ⟨#[]⟩, .bool false, .string ⟨#[]⟩, .slice none 0 0, .slice none 0 0], .int .i64 5]) (by simp [results, Tryd.results16, go_sem, *]) rfl (DPost.bad (((((((((((Q.out.de.bel).setCell (p := ⟨w.heap.size, 0, none⟩) (Nat.le_refl _) _).setCell (p := ⟨w.heap.size, 1, none⟩) (Nat.le_refl _) _).setCell (p := ⟨w.heap.size, 2, none⟩) (Nat.le_refl _) _).setCell (p := ⟨w.heap.size, 3, none⟩) (Nat.le_refl _) _).setCell (p := ⟨w.heap.size, 4, none⟩) (Nat.le_refl _) _).setCell (p := ⟨w.heap.size, 5, none⟩) (Nat.le_refl _) _).setCell (p := ⟨w.heap.size, 6, none⟩) (Nat.le_refl _) _).setCell (p := ⟨w.heap.size, 7, none⟩) (Nat.le_refl _) _).setCell (p := ⟨w.heap.size, 8, none⟩) (Nat.le_refl _) _).setCell (p := ⟨w.heap.size, 9, none⟩) (Nat.le_refl _) _) (HD.out.2 (fun h => by have h1 := congrArg Prod.snd h.1; cases h1)))
end Go.Proofs.YtkllfnaofapfnaaDoor.Prot
