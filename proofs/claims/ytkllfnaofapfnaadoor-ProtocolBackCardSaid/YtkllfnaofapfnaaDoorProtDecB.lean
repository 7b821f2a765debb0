/-
  The contract of DecodeRequest of package protocol at the kinds 2, 3, 4. Conditions: the bytes can be read, within the form's reach; the two tables of unicode/utf8 lie as their initialisers lay them. (Printed by gen/protdec.py.)
-/
import Derived.Test.YtkllfnaofapfnaaDoorProtDec
import Derived.Deep.RegionHeld3
import Derived.Deep.RegionLaw
namespace Go.Proofs.YtkllfnaofapfnaaDoor.Prot
open Go.RowKit Wd Utf Cod

theorem rReq_2 {l : List UInt8} {s1 s2 : St} {se : Nat} (h1 : rU l 9 ((0, false) : St) = (2, s1)) (h2 : rU l 2147483647 s1 = (se, s2)) : rReq l limP (rMany l limP.seen) = (({ rq0 with kind := 2, ses := (se : Int) } : Rq), s2) := by
  have hS : hasS ((2 : Nat) : Int) = true := by decide
  unfold rReq rTail rSes
  simp only [limP, h1, hS]
  simp [h2]
set_option maxRecDepth 100000 in
set_option maxHeartbeats 4000000 in
theorem dec_2 (A : Option Addr) (n c : Nat) (l : List UInt8) (w : World) (hT : Tabs w) (hs : SB w A n c l) (hn : n ≤ 100000) (hk : (rU l 9 (0, false)).1 = 2) :
    Calls Tryd.prog 16 #[.slice A n c] w (DPost w l) := by
  have hl := hs.rb.len
  have LL := Lib.hid hl
  have L0 := Lib.hid (show ((0, false) : St).1 ≤ n from Nat.zero_le _)
  obtain ⟨s1, e1⟩ : ∃ s1, rU l 9 (0, false) = (2, s1) := ⟨_, Prod.ext hk rfl⟩
  have L1 : Hid (s1.1 ≤ n) := Lib.hid (by have := rU_le (most := 9) (l := l) (s := (0, false)) (by have := L0.out; omega); rw [e1] at this; simp only at this; omega)
  obtain ⟨se, s2, e2⟩ : ∃ se s2, rU l 2147483647 s1 = (se, s2) := ⟨_, _, rfl⟩
  have L2 : Hid (s2.1 ≤ n) := Lib.hid (by have := rU_le (most := 2147483647) (l := l) (s := s1) (by have := L1.out; omega); rw [e2] at this; simp only at this; omega)
  have M2 : se ≤ 2147483647 := by have := rU_most (l := l) (most := 2147483647) (s := s1); rw [e2] at this; exact this
  have HD := Lib.hid (decR_prog (rReq_2 e1 e2))
  have E1 := Lib.hid e1
  clear e1
  have E2 := Lib.hid e2
  clear e2
  clear hk
  have HT := Lib.hid hT
  have HS := Lib.hid hs
  clear hT hs
  have hw0 : (w.alloc (.cells req0.cells 27)).heap.size = w.heap.size + 1 := by simp
  have R0 : Hid (Rd ((w.alloc (.cells req0.cells 27)).alloc (.cells #[.slice A n c, .int .i64 0, .bool false] 77)) (w.heap.size + 1) A n c (0, false)) := Lib.hid (by have := Blk.new (w.alloc (.cells req0.cells 27)) 77 #[.slice A n c, .int .i64 0, .bool false]; rw [hw0] at this; exact this)
  have B0 : Hid (Below w.heap.size w ((w.alloc (.cells req0.cells 27)).alloc (.cells #[.slice A n c, .int .i64 0, .bool false] 77))) := Lib.hid (((Below.refl _ _).alloc (Nat.le_refl _) _).alloc (by simp) _)
  have Q0 : Hid (RqB w.heap.size req0 ((w.alloc (.cells req0.cells 27)).alloc (.cells #[.slice A n c, .int .i64 0, .bool false] 77))) := Lib.hid ((Blk.new w _ _).alloc _)
  clear hw0
  go_enter Tryd.func16, Tryd.ntmps16
  have hc := count_any (w.heap.size + 1) A n c l (0, false) 9 _ R0.out (HS.out.keep B0.out).rb (by omega) (by omega) (by decide)
  rw [E1.out] at hc
  have HC := Lib.hid hc
  clear hc
  go_wp2_with fail
  refine HC.out.mono ?_
  rintro e w1 ⟨rfl, hr1, hu1⟩
  clear HC
  have hz : w.heap.size + 2 ≤ w1.heap.size := by have := hu1.size; simp at this; omega
  have R1 := Lib.hid hr1
  have Q1 := Lib.hid (show RqB w.heap.size req0 w1 from Blk.grown Q0.out hu1 (by simp))
  have D1 : Hid (DE w w1.heap.size A n c s1 (⟨2, 0, 0, 0, ⟨#[]⟩, ⟨#[]⟩, false, ⟨#[]⟩, none, 0, 0, none, 0, 0⟩ : Req) (w1.alloc (.cells (⟨2, 0, 0, 0, ⟨#[]⟩, ⟨#[]⟩, false, ⟨#[]⟩, none, 0, 0, none, 0, 0⟩ : Req).cells 27))) := Lib.hid ⟨(Blk.grown Q0.out hu1 (by simp)).alloc _, Blk.alloc hr1 _, Blk.new w1 _ _, hz, (B0.out.trans (hu1.below (B := w.heap.size) B0.out.size (by omega))).alloc (by omega) _⟩
  clear hr1 hu1 R0 B0 Q0
  unfold Req.cells at D1
  go_wp2_with fail
  refine (session_has 2 _).mono ?_
  rintro e wq ⟨rfl, rfl⟩
  rw [show hasS (2 : Int) = true by decide]
  have hc := count_any (w.heap.size + 1) A n c l s1 2147483647 _ D1.out.rd (HS.out.keep D1.out.bel).rb (by omega) (by have := L1.out; omega) (by decide)
  rw [E2.out] at hc
  have HC := Lib.hid hc
  clear hc
  go_wp2_with fail
  refine HC.out.mono ?_
  rintro e w2 ⟨rfl, hr2, hu2⟩
  have D1' := Lib.hid (D1.out.step hu2 hr2)
  clear HC hr2 hu2 D1
  have x0 : w2.cell? ⟨w1.heap.size, 0, none⟩ = some (.int .i64 2) := Blk.cell D1'.out.rq 0
  have x1 : w2.cell? ⟨w1.heap.size, 1, none⟩ = some (.int .i64 0) := Blk.cell D1'.out.rq 1
  have f1 := Blk.frozen D1'.out.rq 1
  have D2 : Hid (DE w w1.heap.size A n c s2 (⟨2, (se : Int), 0, 0, ⟨#[]⟩, ⟨#[]⟩, false, ⟨#[]⟩, none, 0, 0, none, 0, 0⟩ : Req) _) := Lib.hid (D1'.out.set_ (r' := (⟨2, (se : Int), 0, 0, ⟨#[]⟩, ⟨#[]⟩, false, ⟨#[]⟩, none, 0, 0, none, 0, 0⟩ : Req)) 1 (.int .i64 (se : Int)) rfl)
  have Q := Lib.hid (show DQ w w1.heap.size A n c s2 (⟨2, (se : Int), 0, 0, ⟨#[]⟩, ⟨#[]⟩, false, ⟨#[]⟩, none, 0, 0, none, 0, 0⟩ : Req) ({ rq0 with kind := 2, ses := (se : Int) } : Rq) _ from ⟨D2.out, ⟨RI.nil _ _, sb_nil _, ⟨rfl, rfl, rfl, rfl, rfl, rfl, rfl, rfl, rfl, rfl, rfl⟩, (by simp; try omega), (by simp; try omega), Nat.zero_le _, Nat.zero_le _, Nat.zero_le _, (by simp; try omega)⟩, (fun ad h => by cases h), (fun ad h => by cases h), Nat.zero_le _⟩)
  clear D2
  obtain ⟨a, b⟩ := s2
  rcases b with _ | _
  · have y2 : w2.cell? ⟨w.heap.size + 1, 2, none⟩ = some (.bool false) := Blk.cell D1'.out.rd 2
    have y1 : w2.cell? ⟨w.heap.size + 1, 1, none⟩ = some (.int .i64 (a : Int)) := Blk.cell D1'.out.rd 1
    by_cases ha : a = n
    · subst ha
      have x2 : w2.cell? ⟨w1.heap.size, 2, none⟩ = some (.int .i64 0) := Blk.cell D1'.out.rq 2
      have x3 : w2.cell? ⟨w1.heap.size, 3, none⟩ = some (.int .u8 0) := Blk.cell D1'.out.rq 3
      have x4 : w2.cell? ⟨w1.heap.size, 4, none⟩ = some (.string ⟨#[]⟩) := Blk.cell D1'.out.rq 4
      have x5 : w2.cell? ⟨w1.heap.size, 5, none⟩ = some (.string ⟨#[]⟩) := Blk.cell D1'.out.rq 5
      have x6 : w2.cell? ⟨w1.heap.size, 6, none⟩ = some (.bool false) := Blk.cell D1'.out.rq 6
      have x7 : w2.cell? ⟨w1.heap.size, 7, none⟩ = some (.string ⟨#[]⟩) := Blk.cell D1'.out.rq 7
      have x8 : w2.cell? ⟨w1.heap.size, 8, none⟩ = some (.slice none 0 0) := Blk.cell D1'.out.rq 8
      have x9 : w2.cell? ⟨w1.heap.size, 9, none⟩ = some (.slice none 0 0) := Blk.cell D1'.out.rq 9
      have hc := check_any (⟨2, (se : Int), 0, 0, ⟨#[]⟩, ⟨#[]⟩, false, ⟨#[]⟩, none, 0, 0, none, 0, 0⟩ : Req) ({ rq0 with kind := 2, ses := (se : Int) } : Rq) _ _ (HT.out.keep Q.out.de.bel) Q.out.q.seen Q.out.q.n7 Q.out.q.is Q.out.q.bef Q.out.q.sel Q.out.q.sur
      have HC := Lib.hid hc
      clear hc
      go_wp2_with fail
      refine HC.out.mono ?_
      rintro e wc ⟨rfl, hbc⟩
      clear HC
      have DC := Lib.hid (Q.out.de.keep hbc)
      have QC := Lib.hid (Q.out.q.keep hbc)
      clear hbc
      have z0 : wc.cell? ⟨w.heap.size, 0, none⟩ = some (.int .i64 0) := Blk.cell DC.out.res 0
      have g0 := Blk.frozen DC.out.res 0
      have z1 : wc.cell? ⟨w.heap.size, 1, none⟩ = some (.int .i64 0) := Blk.cell DC.out.res 1
      have g1 := Blk.frozen DC.out.res 1
      have z2 : wc.cell? ⟨w.heap.size, 2, none⟩ = some (.int .i64 0) := Blk.cell DC.out.res 2
      have g2 := Blk.frozen DC.out.res 2
      have z3 : wc.cell? ⟨w.heap.size, 3, none⟩ = some (.int .u8 0) := Blk.cell DC.out.res 3
      have g3 := Blk.frozen DC.out.res 3
      have z4 : wc.cell? ⟨w.heap.size, 4, none⟩ = some (.string ⟨#[]⟩) := Blk.cell DC.out.res 4
      have g4 := Blk.frozen DC.out.res 4
      have z5 : wc.cell? ⟨w.heap.size, 5, none⟩ = some (.string ⟨#[]⟩) := Blk.cell DC.out.res 5
      have g5 := Blk.frozen DC.out.res 5
      have z6 : wc.cell? ⟨w.heap.size, 6, none⟩ = some (.bool false) := Blk.cell DC.out.res 6
      have g6 := Blk.frozen DC.out.res 6
      have z7 : wc.cell? ⟨w.heap.size, 7, none⟩ = some (.string ⟨#[]⟩) := Blk.cell DC.out.res 7
      have g7 := Blk.frozen DC.out.res 7
      have z8 : wc.cell? ⟨w.heap.size, 8, none⟩ = some (.slice none 0 0) := Blk.cell DC.out.res 8
      have g8 := Blk.frozen DC.out.res 8
      have z9 : wc.cell? ⟨w.heap.size, 9, none⟩ = some (.slice none 0 0) := Blk.cell DC.out.res 9
      have g9 := Blk.frozen DC.out.res 9
      rcases hk0 : chkR ({ rq0 with kind := 2, ses := (se : Int) } : Rq) with _ | z
      · have x0 : wc.cell? ⟨w1.heap.size, 0, none⟩ = some (.int .i64 2) := Blk.cell DC.out.rq 0
        have x1 : wc.cell? ⟨w1.heap.size, 1, none⟩ = some (.int .i64 (se : Int)) := Blk.cell DC.out.rq 1
        have x2 : wc.cell? ⟨w1.heap.size, 2, none⟩ = some (.int .i64 0) := Blk.cell DC.out.rq 2
        have x3 : wc.cell? ⟨w1.heap.size, 3, none⟩ = some (.int .u8 0) := Blk.cell DC.out.rq 3
        have x4 : wc.cell? ⟨w1.heap.size, 4, none⟩ = some (.string ⟨#[]⟩) := Blk.cell DC.out.rq 4
        have x5 : wc.cell? ⟨w1.heap.size, 5, none⟩ = some (.string ⟨#[]⟩) := Blk.cell DC.out.rq 5
        have x6 : wc.cell? ⟨w1.heap.size, 6, none⟩ = some (.bool false) := Blk.cell DC.out.rq 6
        have x7 : wc.cell? ⟨w1.heap.size, 7, none⟩ = some (.string ⟨#[]⟩) := Blk.cell DC.out.rq 7
        have x8 : wc.cell? ⟨w1.heap.size, 8, none⟩ = some (.slice none 0 0) := Blk.cell DC.out.rq 8
        have x9 : wc.cell? ⟨w1.heap.size, 9, none⟩ = some (.slice none 0 0) := Blk.cell DC.out.rq 9
        have HK := Lib.hid hk0
        clear hk0
        go_wp2_with fail
        exact bodyPost_ret (v := .tuple #[.agg #[.int .i64 2, .int .i64 (se : Int), .int .i64 0, .int .u8 0, .string ⟨#[]⟩, .string ⟨#[]⟩, .bool false, .string ⟨#[]⟩, .slice none 0 0, .slice none 0 0], .int .i64 0]) (by simp [results, Tryd.results16, go_sem, *]) rfl (DPost.good Q.out (((((((((((DC.out.bel).setCell (p := ⟨w.heap.size, 0, none⟩) (Nat.le_refl _) _).setCell (p := ⟨w.heap.size, 1, none⟩) (Nat.le_refl _) _).setCell (p := ⟨w.heap.size, 2, none⟩) (Nat.le_refl _) _).setCell (p := ⟨w.heap.size, 3, none⟩) (Nat.le_refl _) _).setCell (p := ⟨w.heap.size, 4, none⟩) (Nat.le_refl _) _).setCell (p := ⟨w.heap.size, 5, none⟩) (Nat.le_refl _) _).setCell (p := ⟨w.heap.size, 6, none⟩) (Nat.le_refl _) _).setCell (p := ⟨w.heap.size, 7, none⟩) (Nat.le_refl _) _).setCell (p := ⟨w.heap.size, 8, none⟩) (Nat.le_refl _) _).setCell (p := ⟨w.heap.size, 9, none⟩) (Nat.le_refl _) _) (QC.out.upd (((((((((((Upd.refl w.heap.size _).set_ 0 _).set_ 1 _).set_ 2 _).set_ 3 _).set_ 4 _).set_ 5 _).set_ 6 _).set_ 7 _).set_ 8 _).set_ 9 _) (fun ad e => Nat.ne_of_gt (Q.out.f7 ad e)) (fun ad e => Nat.ne_of_gt (Q.out.f8 ad e))) (HD.out.1 ⟨by rw [LL.out], HK.out⟩))
      · have hne : (((z + 1 : Nat) : Int) != 0) = true := by rw [bne_iff_ne]; omega
        have HK := Lib.hid hk0
        clear hk0
        generalize hzz : z + 1 = y at hne HK
        have HZ := Lib.hid hzz
        clear hzz
        go_wp2_with fail
        exact bodyPost_ret (v := .tuple #[.agg #[.int .i64 0, .int .i64 0, .int .i64 0, .int .u8 0, .string ⟨#[]⟩, .string ⟨#[]⟩, .bool false, .string ⟨#[]⟩, .slice none 0 0, .slice none 0 0], .int .i64 5]) (by simp [results, Tryd.results16, go_sem, *]) rfl (DPost.bad (((((((((((DC.out.bel).setCell (p := ⟨w.heap.size, 0, none⟩) (Nat.le_refl _) _).setCell (p := ⟨w.heap.size, 1, none⟩) (Nat.le_refl _) _).setCell (p := ⟨w.heap.size, 2, none⟩) (Nat.le_refl _) _).setCell (p := ⟨w.heap.size, 3, none⟩) (Nat.le_refl _) _).setCell (p := ⟨w.heap.size, 4, none⟩) (Nat.le_refl _) _).setCell (p := ⟨w.heap.size, 5, none⟩) (Nat.le_refl _) _).setCell (p := ⟨w.heap.size, 6, none⟩) (Nat.le_refl _) _).setCell (p := ⟨w.heap.size, 7, none⟩) (Nat.le_refl _) _).setCell (p := ⟨w.heap.size, 8, none⟩) (Nat.le_refl _) _).setCell (p := ⟨w.heap.size, 9, none⟩) (Nat.le_refl _) _) (HD.out.2 (fun h => by have h2 := h.2; rw [HK.out, ← HZ.out] at h2; cases h2)))
    · have hne : ((a : Int) != (n : Int)) = true := by rw [bne_iff_ne]; omega
      have HA := Lib.hid ha
      clear ha
      have z0 : w2.cell? ⟨w.heap.size, 0, none⟩ = some (.int .i64 0) := Blk.cell D1'.out.res 0
      have g0 := Blk.frozen D1'.out.res 0
      have z1 : w2.cell? ⟨w.heap.size, 1, none⟩ = some (.int .i64 0) := Blk.cell D1'.out.res 1
      have g1 := Blk.frozen D1'.out.res 1
      have z2 : w2.cell? ⟨w.heap.size, 2, none⟩ = some (.int .i64 0) := Blk.cell D1'.out.res 2
      have g2 := Blk.frozen D1'.out.res 2
      have z3 : w2.cell? ⟨w.heap.size, 3, none⟩ = some (.int .u8 0) := Blk.cell D1'.out.res 3
      have g3 := Blk.frozen D1'.out.res 3
      have z4 : w2.cell? ⟨w.heap.size, 4, none⟩ = some (.string ⟨#[]⟩) := Blk.cell D1'.out.res 4
      have g4 := Blk.frozen D1'.out.res 4
      have z5 : w2.cell? ⟨w.heap.size, 5, none⟩ = some (.string ⟨#[]⟩) := Blk.cell D1'.out.res 5
      have g5 := Blk.frozen D1'.out.res 5
      have z6 : w2.cell? ⟨w.heap.size, 6, none⟩ = some (.bool false) := Blk.cell D1'.out.res 6
      have g6 := Blk.frozen D1'.out.res 6
      have z7 : w2.cell? ⟨w.heap.size, 7, none⟩ = some (.string ⟨#[]⟩) := Blk.cell D1'.out.res 7
      have g7 := Blk.frozen D1'.out.res 7
      have z8 : w2.cell? ⟨w.heap.size, 8, none⟩ = some (.slice none 0 0) := Blk.cell D1'.out.res 8
      have g8 := Blk.frozen D1'.out.res 8
      have z9 : w2.cell? ⟨w.heap.size, 9, none⟩ = some (.slice none 0 0) := Blk.cell D1'.out.res 9
      have g9 := Blk.frozen D1'.out.res 9
      go_wp2_with fail
      exact bodyPost_ret (v := .tuple #[.agg #[.int .i64 0, .int .i64 0, .int .i64 0, .int .u8 0, .string ⟨#[]⟩, .string ⟨#[]⟩, .bool false, .string ⟨#[]⟩, .slice none 0 0, .slice none 0 0], .int .i64 5]) (by simp [results, Tryd.results16, go_sem, *]) rfl (DPost.bad (((((((((((Q.out.de.bel).setCell (p := ⟨w.heap.size, 0, none⟩) (Nat.le_refl _) _).setCell (p := ⟨w.heap.size, 1, none⟩) (Nat.le_refl _) _).setCell (p := ⟨w.heap.size, 2, none⟩) (Nat.le_refl _) _).setCell (p := ⟨w.heap.size, 3, none⟩) (Nat.le_refl _) _).setCell (p := ⟨w.heap.size, 4, none⟩) (Nat.le_refl _) _).setCell (p := ⟨w.heap.size, 5, none⟩) (Nat.le_refl _) _).setCell (p := ⟨w.heap.size, 6, none⟩) (Nat.le_refl _) _).setCell (p := ⟨w.heap.size, 7, none⟩) (Nat.le_refl _) _).setCell (p := ⟨w.heap.size, 8, none⟩) (Nat.le_refl _) _).setCell (p := ⟨w.heap.size, 9, none⟩) (Nat.le_refl _) _) (HD.out.2 (fun h => HA.out (by have h1 := congrArg Prod.fst h.1; simp only at h1; rw [h1]; exact LL.out))))
  · have z0 : w2.cell? ⟨w.heap.size, 0, none⟩ = some (.int .i64 0) := Blk.cell D1'.out.res 0
    have g0 := Blk.frozen D1'.out.res 0
    have z1 : w2.cell? ⟨w.heap.size, 1, none⟩ = some (.int .i64 0) := Blk.cell D1'.out.res 1
    have g1 := Blk.frozen D1'.out.res 1
    have z2 : w2.cell? ⟨w.heap.size, 2, none⟩ = some (.int .i64 0) := Blk.cell D1'.out.res 2
    have g2 := Blk.frozen D1'.out.res 2
    have z3 : w2.cell? ⟨w.heap.size, 3, none⟩ = some (.int .u8 0) := Blk.cell D1'.out.res 3
    have g3 := Blk.frozen D1'.out.res 3
    have z4 : w2.cell? ⟨w.heap.size, 4, none⟩ = some (.string ⟨#[]⟩) := Blk.cell D1'.out.res 4
    have g4 := Blk.frozen D1'.out.res 4
    have z5 : w2.cell? ⟨w.heap.size, 5, none⟩ = some (.string ⟨#[]⟩) := Blk.cell D1'.out.res 5
    have g5 := Blk.frozen D1'.out.res 5
    have z6 : w2.cell? ⟨w.heap.size, 6, none⟩ = some (.bool false) := Blk.cell D1'.out.res 6
    have g6 := Blk.frozen D1'.out.res 6
    have z7 : w2.cell? ⟨w.heap.size, 7, none⟩ = some (.string ⟨#[]⟩) := Blk.cell D1'.out.res 7
    have g7 := Blk.frozen D1'.out.res 7
    have z8 : w2.cell? ⟨w.heap.size, 8, none⟩ = some (.slice none 0 0) := Blk.cell D1'.out.res 8
    have g8 := Blk.frozen D1'.out.res 8
    have z9 : w2.cell? ⟨w.heap.size, 9, none⟩ = some (.slice none 0 0) := Blk.cell D1'.out.res 9
    have g9 := Blk.frozen D1'.out.res 9
    have y2 : w2.cell? ⟨w.heap.size + 1, 2, none⟩ = some (.bool true) := Blk.cell D1'.out.rd 2
    go_wp2_with fail
    exact bodyPost_ret (v := .tuple #[.agg #[.int .i64 0, .int .i64 0, .int .i64 0, .int .u8 0, .string ⟨#[]⟩, .string ⟨#[]⟩, .bool false, .string ⟨#[]⟩, .slice none 0 0, .slice none 0 0], .int .i64 5]) (by simp [results, Tryd.results16, go_sem, *]) rfl (DPost.bad (((((((((((Q.out.de.bel).setCell (p := ⟨w.heap.size, 0, none⟩) (Nat.le_refl _) _).setCell (p := ⟨w.heap.size, 1, none⟩) (Nat.le_refl _) _).setCell (p := ⟨w.heap.size, 2, none⟩) (Nat.le_refl _) _).setCell (p := ⟨w.heap.size, 3, none⟩) (Nat.le_refl _) _).setCell (p := ⟨w.heap.size, 4, none⟩) (Nat.le_refl _) _).setCell (p := ⟨w.heap.size, 5, none⟩) (Nat.le_refl _) _).setCell (p := ⟨w.heap.size, 6, none⟩) (Nat.le_refl _) _).setCell (p := ⟨w.heap.size, 7, none⟩) (Nat.le_refl _) _).setCell (p := ⟨w.heap.size, 8, none⟩) (Nat.le_refl _) _).setCell (p := ⟨w.heap.size, 9, none⟩) (Nat.le_refl _) _) (HD.out.2 (fun h => by have h1 := congrArg Prod.snd h.1; cases h1)))
theorem rReq_3 {l : List UInt8} {s1 s2 s3 s4 : St} {se : Nat} {kk : Nat} {kc : Nat} (h1 : rU l 9 ((0, false) : St) = (3, s1)) (h2 : rU l 2147483647 s1 = (se, s2)) (h3 : rU l 17 s2 = (kk, s3)) (h4 : rU l 255 s3 = (kc, s4)) : rReq l limP (rMany l limP.seen) = (({ rq0 with kind := 3, ses := (se : Int), kk := (kk : Int), kc := kc % 256 } : Rq), s4) := by
  have hS : hasS ((3 : Nat) : Int) = true := by decide
  unfold rReq rTail rSes
  simp only [limP, h1, hS]
  simp [h2, h3, h4]
set_option maxRecDepth 100000 in
set_option maxHeartbeats 4000000 in
theorem dec_3 (A : Option Addr) (n c : Nat) (l : List UInt8) (w : World) (hT : Tabs w) (hs : SB w A n c l) (hn : n ≤ 100000) (hk : (rU l 9 (0, false)).1 = 3) :
    Calls Tryd.prog 16 #[.slice A n c] w (DPost w l) := by
  have hl := hs.rb.len
  have LL := Lib.hid hl
  have L0 := Lib.hid (show ((0, false) : St).1 ≤ n from Nat.zero_le _)
  obtain ⟨s1, e1⟩ : ∃ s1, rU l 9 (0, false) = (3, s1) := ⟨_, Prod.ext hk rfl⟩
  have L1 : Hid (s1.1 ≤ n) := Lib.hid (by have := rU_le (most := 9) (l := l) (s := (0, false)) (by have := L0.out; omega); rw [e1] at this; simp only at this; omega)
  obtain ⟨se, s2, e2⟩ : ∃ se s2, rU l 2147483647 s1 = (se, s2) := ⟨_, _, rfl⟩
  have L2 : Hid (s2.1 ≤ n) := Lib.hid (by have := rU_le (most := 2147483647) (l := l) (s := s1) (by have := L1.out; omega); rw [e2] at this; simp only at this; omega)
  have M2 : se ≤ 2147483647 := by have := rU_most (l := l) (most := 2147483647) (s := s1); rw [e2] at this; exact this
  obtain ⟨kk, s3, e3⟩ : ∃ kk s3, rU l 17 s2 = (kk, s3) := ⟨_, _, rfl⟩
  have L3 : Hid (s3.1 ≤ n) := Lib.hid (by have := rU_le (most := 17) (l := l) (s := s2) (by have := L2.out; omega); rw [e3] at this; simp only at this; omega)
  have M3 : kk ≤ 17 := by have := rU_most (l := l) (most := 17) (s := s2); rw [e3] at this; exact this
  obtain ⟨kc, s4, e4⟩ : ∃ kc s4, rU l 255 s3 = (kc, s4) := ⟨_, _, rfl⟩
  have L4 : Hid (s4.1 ≤ n) := Lib.hid (by have := rU_le (most := 255) (l := l) (s := s3) (by have := L3.out; omega); rw [e4] at this; simp only at this; omega)
  have M4 : kc ≤ 255 := by have := rU_most (l := l) (most := 255) (s := s3); rw [e4] at this; exact this
  have HD := Lib.hid (decR_prog (rReq_3 e1 e2 e3 e4))
  have E1 := Lib.hid e1
  clear e1
  have E2 := Lib.hid e2
  clear e2
  have E3 := Lib.hid e3
  clear e3
  have E4 := Lib.hid e4
  clear e4
  clear hk
  have HT := Lib.hid hT
  have HS := Lib.hid hs
  clear hT hs
  have hw0 : (w.alloc (.cells req0.cells 27)).heap.size = w.heap.size + 1 := by simp
  have R0 : Hid (Rd ((w.alloc (.cells req0.cells 27)).alloc (.cells #[.slice A n c, .int .i64 0, .bool false] 77)) (w.heap.size + 1) A n c (0, false)) := Lib.hid (by have := Blk.new (w.alloc (.cells req0.cells 27)) 77 #[.slice A n c, .int .i64 0, .bool false]; rw [hw0] at this; exact this)
  have B0 : Hid (Below w.heap.size w ((w.alloc (.cells req0.cells 27)).alloc (.cells #[.slice A n c, .int .i64 0, .bool false] 77))) := Lib.hid (((Below.refl _ _).alloc (Nat.le_refl _) _).alloc (by simp) _)
  have Q0 : Hid (RqB w.heap.size req0 ((w.alloc (.cells req0.cells 27)).alloc (.cells #[.slice A n c, .int .i64 0, .bool false] 77))) := Lib.hid ((Blk.new w _ _).alloc _)
  clear hw0
  go_enter Tryd.func16, Tryd.ntmps16
  have hc := count_any (w.heap.size + 1) A n c l (0, false) 9 _ R0.out (HS.out.keep B0.out).rb (by omega) (by omega) (by decide)
  rw [E1.out] at hc
  have HC := Lib.hid hc
  clear hc
  go_wp2_with fail
  refine HC.out.mono ?_
  rintro e w1 ⟨rfl, hr1, hu1⟩
  clear HC
  have hz : w.heap.size + 2 ≤ w1.heap.size := by have := hu1.size; simp at this; omega
  have R1 := Lib.hid hr1
  have Q1 := Lib.hid (show RqB w.heap.size req0 w1 from Blk.grown Q0.out hu1 (by simp))
  have D1 : Hid (DE w w1.heap.size A n c s1 (⟨3, 0, 0, 0, ⟨#[]⟩, ⟨#[]⟩, false, ⟨#[]⟩, none, 0, 0, none, 0, 0⟩ : Req) (w1.alloc (.cells (⟨3, 0, 0, 0, ⟨#[]⟩, ⟨#[]⟩, false, ⟨#[]⟩, none, 0, 0, none, 0, 0⟩ : Req).cells 27))) := Lib.hid ⟨(Blk.grown Q0.out hu1 (by simp)).alloc _, Blk.alloc hr1 _, Blk.new w1 _ _, hz, (B0.out.trans (hu1.below (B := w.heap.size) B0.out.size (by omega))).alloc (by omega) _⟩
  clear hr1 hu1 R0 B0 Q0
  unfold Req.cells at D1
  go_wp2_with fail
  refine (session_has 3 _).mono ?_
  rintro e wq ⟨rfl, rfl⟩
  rw [show hasS (3 : Int) = true by decide]
  have hc := count_any (w.heap.size + 1) A n c l s1 2147483647 _ D1.out.rd (HS.out.keep D1.out.bel).rb (by omega) (by have := L1.out; omega) (by decide)
  rw [E2.out] at hc
  have HC := Lib.hid hc
  clear hc
  go_wp2_with fail
  refine HC.out.mono ?_
  rintro e w2 ⟨rfl, hr2, hu2⟩
  have D1' := Lib.hid (D1.out.step hu2 hr2)
  clear HC hr2 hu2 D1
  have x0 : w2.cell? ⟨w1.heap.size, 0, none⟩ = some (.int .i64 3) := Blk.cell D1'.out.rq 0
  have x1 : w2.cell? ⟨w1.heap.size, 1, none⟩ = some (.int .i64 0) := Blk.cell D1'.out.rq 1
  have f1 := Blk.frozen D1'.out.rq 1
  have D2 : Hid (DE w w1.heap.size A n c s2 (⟨3, (se : Int), 0, 0, ⟨#[]⟩, ⟨#[]⟩, false, ⟨#[]⟩, none, 0, 0, none, 0, 0⟩ : Req) _) := Lib.hid (D1'.out.set_ (r' := (⟨3, (se : Int), 0, 0, ⟨#[]⟩, ⟨#[]⟩, false, ⟨#[]⟩, none, 0, 0, none, 0, 0⟩ : Req)) 1 (.int .i64 (se : Int)) rfl)
  have wkc : IntKind.u8.wrap (kc : Int) = (kc : Int) := by rw [IntKind.wrap_u8]; omega
  have hc := count_any (w.heap.size + 1) A n c l s2 17 _ D2.out.rd (HS.out.keep D2.out.bel).rb (by omega) (by have := L2.out; omega) (by decide)
  rw [E3.out] at hc
  have HC := Lib.hid hc
  clear hc
  go_wp2_with fail
  refine HC.out.mono ?_
  rintro e w3 ⟨rfl, hr3, hu3⟩
  have D2' := Lib.hid (D2.out.step hu3 hr3)
  clear HC hr3 hu3 D2
  have x0 : w3.cell? ⟨w1.heap.size, 0, none⟩ = some (.int .i64 3) := Blk.cell D2'.out.rq 0
  have x2 : w3.cell? ⟨w1.heap.size, 2, none⟩ = some (.int .i64 0) := Blk.cell D2'.out.rq 2
  have x3 : w3.cell? ⟨w1.heap.size, 3, none⟩ = some (.int .u8 0) := Blk.cell D2'.out.rq 3
  have f2 := Blk.frozen D2'.out.rq 2
  have f3 := Blk.frozen D2'.out.rq 3
  have D3 : Hid (DE w w1.heap.size A n c s3 (⟨3, (se : Int), (kk : Int), 0, ⟨#[]⟩, ⟨#[]⟩, false, ⟨#[]⟩, none, 0, 0, none, 0, 0⟩ : Req) _) := Lib.hid ((D2'.out.set_ (r' := (⟨3, (se : Int), (kk : Int), 0, ⟨#[]⟩, ⟨#[]⟩, false, ⟨#[]⟩, none, 0, 0, none, 0, 0⟩ : Req)) 2 (.int .i64 (kk : Int)) rfl).set_ (r' := (⟨3, (se : Int), (kk : Int), 0, ⟨#[]⟩, ⟨#[]⟩, false, ⟨#[]⟩, none, 0, 0, none, 0, 0⟩ : Req)) 3 (.int .u8 0) rfl)
  have hc := count_any (w.heap.size + 1) A n c l s3 255 _ D3.out.rd (HS.out.keep D3.out.bel).rb (by omega) (by have := L3.out; omega) (by decide)
  rw [E4.out] at hc
  have HC := Lib.hid hc
  clear hc
  go_wp2_with fail
  refine HC.out.mono ?_
  rintro e w4 ⟨rfl, hr4, hu4⟩
  have D3' := Lib.hid (D3.out.step hu4 hr4)
  clear HC hr4 hu4 D3
  have x0 : w4.cell? ⟨w1.heap.size, 0, none⟩ = some (.int .i64 3) := Blk.cell D3'.out.rq 0
  have x3 : w4.cell? ⟨w1.heap.size, 3, none⟩ = some (.int .u8 0) := Blk.cell D3'.out.rq 3
  have f3 := Blk.frozen D3'.out.rq 3
  have D4 : Hid (DE w w1.heap.size A n c s4 (⟨3, (se : Int), (kk : Int), kc, ⟨#[]⟩, ⟨#[]⟩, false, ⟨#[]⟩, none, 0, 0, none, 0, 0⟩ : Req) _) := Lib.hid (D3'.out.set_ (r' := (⟨3, (se : Int), (kk : Int), kc, ⟨#[]⟩, ⟨#[]⟩, false, ⟨#[]⟩, none, 0, 0, none, 0, 0⟩ : Req)) 3 (.int .u8 (kc : Int)) rfl)
  have Q := Lib.hid (show DQ w w1.heap.size A n c s4 (⟨3, (se : Int), (kk : Int), kc, ⟨#[]⟩, ⟨#[]⟩, false, ⟨#[]⟩, none, 0, 0, none, 0, 0⟩ : Req) ({ rq0 with kind := 3, ses := (se : Int), kk := (kk : Int), kc := kc % 256 } : Rq) _ from ⟨D4.out, ⟨RI.nil _ _, sb_nil _, ⟨rfl, rfl, rfl, (Nat.mod_eq_of_lt (by omega)), rfl, rfl, rfl, rfl, rfl, rfl, rfl⟩, (by simp; try omega), (by simp; try omega), Nat.zero_le _, Nat.zero_le _, Nat.zero_le _, (by simp; try omega)⟩, (fun ad h => by cases h), (fun ad h => by cases h), Nat.zero_le _⟩)
  clear D4
  obtain ⟨a, b⟩ := s4
  rcases b with _ | _
  · have y2 : w4.cell? ⟨w.heap.size + 1, 2, none⟩ = some (.bool false) := Blk.cell D3'.out.rd 2
    have y1 : w4.cell? ⟨w.heap.size + 1, 1, none⟩ = some (.int .i64 (a : Int)) := Blk.cell D3'.out.rd 1
    by_cases ha : a = n
    · subst ha
      have x1 : w4.cell? ⟨w1.heap.size, 1, none⟩ = some (.int .i64 (se : Int)) := Blk.cell D3'.out.rq 1
      have x2 : w4.cell? ⟨w1.heap.size, 2, none⟩ = some (.int .i64 (kk : Int)) := Blk.cell D3'.out.rq 2
      have x4 : w4.cell? ⟨w1.heap.size, 4, none⟩ = some (.string ⟨#[]⟩) := Blk.cell D3'.out.rq 4
      have x5 : w4.cell? ⟨w1.heap.size, 5, none⟩ = some (.string ⟨#[]⟩) := Blk.cell D3'.out.rq 5
      have x6 : w4.cell? ⟨w1.heap.size, 6, none⟩ = some (.bool false) := Blk.cell D3'.out.rq 6
      have x7 : w4.cell? ⟨w1.heap.size, 7, none⟩ = some (.string ⟨#[]⟩) := Blk.cell D3'.out.rq 7
      have x8 : w4.cell? ⟨w1.heap.size, 8, none⟩ = some (.slice none 0 0) := Blk.cell D3'.out.rq 8
      have x9 : w4.cell? ⟨w1.heap.size, 9, none⟩ = some (.slice none 0 0) := Blk.cell D3'.out.rq 9
      have hc := check_any (⟨3, (se : Int), (kk : Int), kc, ⟨#[]⟩, ⟨#[]⟩, false, ⟨#[]⟩, none, 0, 0, none, 0, 0⟩ : Req) ({ rq0 with kind := 3, ses := (se : Int), kk := (kk : Int), kc := kc % 256 } : Rq) _ _ (HT.out.keep Q.out.de.bel) Q.out.q.seen Q.out.q.n7 Q.out.q.is Q.out.q.bef Q.out.q.sel Q.out.q.sur
      have HC := Lib.hid hc
      clear hc
      go_wp2_with fail
      refine HC.out.mono ?_
      rintro e wc ⟨rfl, hbc⟩
      clear HC
      have DC := Lib.hid (Q.out.de.keep hbc)
      have QC := Lib.hid (Q.out.q.keep hbc)
      clear hbc
      have z0 : wc.cell? ⟨w.heap.size, 0, none⟩ = some (.int .i64 0) := Blk.cell DC.out.res 0
      have g0 := Blk.frozen DC.out.res 0
      have z1 : wc.cell? ⟨w.heap.size, 1, none⟩ = some (.int .i64 0) := Blk.cell DC.out.res 1
      have g1 := Blk.frozen DC.out.res 1
      have z2 : wc.cell? ⟨w.heap.size, 2, none⟩ = some (.int .i64 0) := Blk.cell DC.out.res 2
      have g2 := Blk.frozen DC.out.res 2
      have z3 : wc.cell? ⟨w.heap.size, 3, none⟩ = some (.int .u8 0) := Blk.cell DC.out.res 3
      have g3 := Blk.frozen DC.out.res 3
      have z4 : wc.cell? ⟨w.heap.size, 4, none⟩ = some (.string ⟨#[]⟩) := Blk.cell DC.out.res 4
      have g4 := Blk.frozen DC.out.res 4
      have z5 : wc.cell? ⟨w.heap.size, 5, none⟩ = some (.string ⟨#[]⟩) := Blk.cell DC.out.res 5
      have g5 := Blk.frozen DC.out.res 5
      have z6 : wc.cell? ⟨w.heap.size, 6, none⟩ = some (.bool false) := Blk.cell DC.out.res 6
      have g6 := Blk.frozen DC.out.res 6
      have z7 : wc.cell? ⟨w.heap.size, 7, none⟩ = some (.string ⟨#[]⟩) := Blk.cell DC.out.res 7
      have g7 := Blk.frozen DC.out.res 7
      have z8 : wc.cell? ⟨w.heap.size, 8, none⟩ = some (.slice none 0 0) := Blk.cell DC.out.res 8
      have g8 := Blk.frozen DC.out.res 8
      have z9 : wc.cell? ⟨w.heap.size, 9, none⟩ = some (.slice none 0 0) := Blk.cell DC.out.res 9
      have g9 := Blk.frozen DC.out.res 9
      rcases hk0 : chkR ({ rq0 with kind := 3, ses := (se : Int), kk := (kk : Int), kc := kc % 256 } : Rq) with _ | z
      · have x0 : wc.cell? ⟨w1.heap.size, 0, none⟩ = some (.int .i64 3) := Blk.cell DC.out.rq 0
        have x1 : wc.cell? ⟨w1.heap.size, 1, none⟩ = some (.int .i64 (se : Int)) := Blk.cell DC.out.rq 1
        have x2 : wc.cell? ⟨w1.heap.size, 2, none⟩ = some (.int .i64 (kk : Int)) := Blk.cell DC.out.rq 2
        have x3 : wc.cell? ⟨w1.heap.size, 3, none⟩ = some (.int .u8 (kc : Int)) := Blk.cell DC.out.rq 3
        have x4 : wc.cell? ⟨w1.heap.size, 4, none⟩ = some (.string ⟨#[]⟩) := Blk.cell DC.out.rq 4
        have x5 : wc.cell? ⟨w1.heap.size, 5, none⟩ = some (.string ⟨#[]⟩) := Blk.cell DC.out.rq 5
        have x6 : wc.cell? ⟨w1.heap.size, 6, none⟩ = some (.bool false) := Blk.cell DC.out.rq 6
        have x7 : wc.cell? ⟨w1.heap.size, 7, none⟩ = some (.string ⟨#[]⟩) := Blk.cell DC.out.rq 7
        have x8 : wc.cell? ⟨w1.heap.size, 8, none⟩ = some (.slice none 0 0) := Blk.cell DC.out.rq 8
        have x9 : wc.cell? ⟨w1.heap.size, 9, none⟩ = some (.slice none 0 0) := Blk.cell DC.out.rq 9
        have HK := Lib.hid hk0
        clear hk0
        go_wp2_with fail
        exact bodyPost_ret (v := .tuple #[.agg #[.int .i64 3, .int .i64 (se : Int), .int .i64 (kk : Int), .int .u8 (kc : Int), .string ⟨#[]⟩, .string ⟨#[]⟩, .bool false, .string ⟨#[]⟩, .slice none 0 0, .slice none 0 0], .int .i64 0]) (by simp [results, Tryd.results16, go_sem, *]) rfl (DPost.good Q.out (((((((((((DC.out.bel).setCell (p := ⟨w.heap.size, 0, none⟩) (Nat.le_refl _) _).setCell (p := ⟨w.heap.size, 1, none⟩) (Nat.le_refl _) _).setCell (p := ⟨w.heap.size, 2, none⟩) (Nat.le_refl _) _).setCell (p := ⟨w.heap.size, 3, none⟩) (Nat.le_refl _) _).setCell (p := ⟨w.heap.size, 4, none⟩) (Nat.le_refl _) _).setCell (p := ⟨w.heap.size, 5, none⟩) (Nat.le_refl _) _).setCell (p := ⟨w.heap.size, 6, none⟩) (Nat.le_refl _) _).setCell (p := ⟨w.heap.size, 7, none⟩) (Nat.le_refl _) _).setCell (p := ⟨w.heap.size, 8, none⟩) (Nat.le_refl _) _).setCell (p := ⟨w.heap.size, 9, none⟩) (Nat.le_refl _) _) (QC.out.upd (((((((((((Upd.refl w.heap.size _).set_ 0 _).set_ 1 _).set_ 2 _).set_ 3 _).set_ 4 _).set_ 5 _).set_ 6 _).set_ 7 _).set_ 8 _).set_ 9 _) (fun ad e => Nat.ne_of_gt (Q.out.f7 ad e)) (fun ad e => Nat.ne_of_gt (Q.out.f8 ad e))) (HD.out.1 ⟨by rw [LL.out], HK.out⟩))
      · have hne : (((z + 1 : Nat) : Int) != 0) = true := by rw [bne_iff_ne]; omega
        have HK := Lib.hid hk0
        clear hk0
        generalize hzz : z + 1 = y at hne HK
        have HZ := Lib.hid hzz
        clear hzz
        go_wp2_with fail
        exact bodyPost_ret (v := .tuple #[.agg #[.int .i64 0, .int .i64 0, .int .i64 0, .int .u8 0, .string ⟨#[]⟩, .string ⟨#[]⟩, .bool false, .string ⟨#[]⟩, .slice none 0 0, .slice none 0 0], .int .i64 5]) (by simp [results, Tryd.results16, go_sem, *]) rfl (DPost.bad (((((((((((DC.out.bel).setCell (p := ⟨w.heap.size, 0, none⟩) (Nat.le_refl _) _).setCell (p := ⟨w.heap.size, 1, none⟩) (Nat.le_refl _) _).setCell (p := ⟨w.heap.size, 2, none⟩) (Nat.le_refl _) _).setCell (p := ⟨w.heap.size, 3, none⟩) (Nat.le_refl _) _).setCell (p := ⟨w.heap.size, 4, none⟩) (Nat.le_refl _) _).setCell (p := ⟨w.heap.size, 5, none⟩) (Nat.le_refl _) _).setCell (p := ⟨w.heap.size, 6, none⟩) (Nat.le_refl _) _).setCell (p := ⟨w.heap.size, 7, none⟩) (Nat.le_refl _) _).setCell (p := ⟨w.heap.size, 8, none⟩) (Nat.le_refl _) _).setCell (p := ⟨w.heap.size, 9, none⟩) (Nat.le_refl _) _) (HD.out.2 (fun h => by have h2 := h.2; rw [HK.out, ← HZ.out] at h2; cases h2)))
    · have hne : ((a : Int) != (n : Int)) = true := by rw [bne_iff_ne]; omega
      have HA := Lib.hid ha
      clear ha
      have z0 : w4.cell? ⟨w.heap.size, 0, none⟩ = some (.int .i64 0) := Blk.cell D3'.out.res 0
      have g0 := Blk.frozen D3'.out.res 0
      have z1 : w4.cell? ⟨w.heap.size, 1, none⟩ = some (.int .i64 0) := Blk.cell D3'.out.res 1
      have g1 := Blk.frozen D3'.out.res 1
      have z2 : w4.cell? ⟨w.heap.size, 2, none⟩ = some (.int .i64 0) := Blk.cell D3'.out.res 2
      have g2 := Blk.frozen D3'.out.res 2
      have z3 : w4.cell? ⟨w.heap.size, 3, none⟩ = some (.int .u8 0) := Blk.cell D3'.out.res 3
      have g3 := Blk.frozen D3'.out.res 3
      have z4 : w4.cell? ⟨w.heap.size, 4, none⟩ = some (.string ⟨#[]⟩) := Blk.cell D3'.out.res 4
      have g4 := Blk.frozen D3'.out.res 4
      have z5 : w4.cell? ⟨w.heap.size, 5, none⟩ = some (.string ⟨#[]⟩) := Blk.cell D3'.out.res 5
      have g5 := Blk.frozen D3'.out.res 5
      have z6 : w4.cell? ⟨w.heap.size, 6, none⟩ = some (.bool false) := Blk.cell D3'.out.res 6
      have g6 := Blk.frozen D3'.out.res 6
      have z7 : w4.cell? ⟨w.heap.size, 7, none⟩ = some (.string ⟨#[]⟩) := Blk.cell D3'.out.res 7
      have g7 := Blk.frozen D3'.out.res 7
      have z8 : w4.cell? ⟨w.heap.size, 8, none⟩ = some (.slice none 0 0) := Blk.cell D3'.out.res 8
      have g8 := Blk.frozen D3'.out.res 8
      have z9 : w4.cell? ⟨w.heap.size, 9, none⟩ = some (.slice none 0 0) := Blk.cell D3'.out.res 9
      have g9 := Blk.frozen D3'.out.res 9
      go_wp2_with fail
      exact bodyPost_ret (v := .tuple #[.agg #[.int .i64 0, .int .i64 0, .int .i64 0, .int .u8 0, .string ⟨#[]⟩, .string ⟨#[]⟩, .bool false, .string ⟨#[]⟩, .slice none 0 0, .slice none 0 0], .int .i64 5]) (by simp [results, Tryd.results16, go_sem, *]) rfl (DPost.bad (((((((((((Q.out.de.bel).setCell (p := ⟨w.heap.size, 0, none⟩) (Nat.le_refl _) _).setCell (p := ⟨w.heap.size, 1, none⟩) (Nat.le_refl _) _).setCell (p := ⟨w.heap.size, 2, none⟩) (Nat.le_refl _) _).setCell (p := ⟨w.heap.size, 3, none⟩) (Nat.le_refl _) _).setCell (p := ⟨w.heap.size, 4, none⟩) (Nat.le_refl _) _).setCell (p := ⟨w.heap.size, 5, none⟩) (Nat.le_refl _) _).setCell (p := ⟨w.heap.size, 6, none⟩) (Nat.le_refl _) _).setCell (p := ⟨w.heap.size, 7, none⟩) (Nat.le_refl _) _).setCell (p := ⟨w.heap.size, 8, none⟩) (Nat.le_refl _) _).setCell (p := ⟨w.heap.size, 9, none⟩) (Nat.le_refl _) _) (HD.out.2 (fun h => HA.out (by have h1 := congrArg Prod.fst h.1; simp only at h1; rw [h1]; exact LL.out))))
  · have z0 : w4.cell? ⟨w.heap.size, 0, none⟩ = some (.int .i64 0) := Blk.cell D3'.out.res 0
    have g0 := Blk.frozen D3'.out.res 0
    have z1 : w4.cell? ⟨w.heap.size, 1, none⟩ = some (.int .i64 0) := Blk.cell D3'.out.res 1
    have g1 := Blk.frozen D3'.out.res 1
    have z2 : w4.cell? ⟨w.heap.size, 2, none⟩ = some (.int .i64 0) := Blk.cell D3'.out.res 2
    have g2 := Blk.frozen D3'.out.res 2
    have z3 : w4.cell? ⟨w.heap.size, 3, none⟩ = some (.int .u8 0) := Blk.cell D3'.out.res 3
    have g3 := Blk.frozen D3'.out.res 3
    have z4 : w4.cell? ⟨w.heap.size, 4, none⟩ = some (.string ⟨#[]⟩) := Blk.cell D3'.out.res 4
    have g4 := Blk.frozen D3'.out.res 4
    have z5 : w4.cell? ⟨w.heap.size, 5, none⟩ = some (.string ⟨#[]⟩) := Blk.cell D3'.out.res 5
    have g5 := Blk.frozen D3'.out.res 5
    have z6 : w4.cell? ⟨w.heap.size, 6, none⟩ = some (.bool false) := Blk.cell D3'.out.res 6
    have g6 := Blk.frozen D3'.out.res 6
    have z7 : w4.cell? ⟨w.heap.size, 7, none⟩ = some (.string ⟨#[]⟩) := Blk.cell D3'.out.res 7
    have g7 := Blk.frozen D3'.out.res 7
    have z8 : w4.cell? ⟨w.heap.size, 8, none⟩ = some (.slice none 0 0) := Blk.cell D3'.out.res 8
    have g8 := Blk.frozen D3'.out.res 8
    have z9 : w4.cell? ⟨w.heap.size, 9, none⟩ = some (.slice none 0 0) := Blk.cell D3'.out.res 9
    have g9 := Blk.frozen D3'.out.res 9
    have y2 : w4.cell? ⟨w.heap.size + 1, 2, none⟩ = some (.bool true) := Blk.cell D3'.out.rd 2
    go_wp2_with fail
    exact bodyPost_ret (v := .tuple #[.agg #[.int .i64 0, .int .i64 0, .int .i64 0, .int .u8 0, .string ⟨#[]⟩, .string ⟨#[]⟩, .bool false, .string ⟨#[]⟩, .slice none 0 0, .slice none 0 0], .int .i64 5]) (by simp [results, Tryd.results16, go_sem, *]) rfl (DPost.bad (((((((((((Q.out.de.bel).setCell (p := ⟨w.heap.size, 0, none⟩) (Nat.le_refl _) _).setCell (p := ⟨w.heap.size, 1, none⟩) (Nat.le_refl _) _).setCell (p := ⟨w.heap.size, 2, none⟩) (Nat.le_refl _) _).setCell (p := ⟨w.heap.size, 3, none⟩) (Nat.le_refl _) _).setCell (p := ⟨w.heap.size, 4, none⟩) (Nat.le_refl _) _).setCell (p := ⟨w.heap.size, 5, none⟩) (Nat.le_refl _) _).setCell (p := ⟨w.heap.size, 6, none⟩) (Nat.le_refl _) _).setCell (p := ⟨w.heap.size, 7, none⟩) (Nat.le_refl _) _).setCell (p := ⟨w.heap.size, 8, none⟩) (Nat.le_refl _) _).setCell (p := ⟨w.heap.size, 9, none⟩) (Nat.le_refl _) _) (HD.out.2 (fun h => by have h1 := congrArg Prod.snd h.1; cases h1)))
theorem rReq_4 {l : List UInt8} {s1 s2 s3 s4 : St} {se : Nat} {be : List UInt8} {sl : List UInt8} (h1 : rU l 9 ((0, false) : St) = (4, s1)) (h2 : rU l 2147483647 s1 = (se, s2)) (h3 : rT l s2 = (be, s3)) (h4 : rT l s3 = (sl, s4)) : rReq l limP (rMany l limP.seen) = (({ rq0 with kind := 4, ses := (se : Int), bef := ba be, sel := ba sl } : Rq), s4) := by
  have hS : hasS ((4 : Nat) : Int) = true := by decide
  unfold rReq rTail rSes
  simp only [limP, h1, hS]
  simp [h2, h3, h4]
set_option maxRecDepth 100000 in
set_option maxHeartbeats 4000000 in
theorem dec_4 (A : Option Addr) (n c : Nat) (l : List UInt8) (w : World) (hT : Tabs w) (hs : SB w A n c l) (hn : n ≤ 100000) (hk : (rU l 9 (0, false)).1 = 4) :
    Calls Tryd.prog 16 #[.slice A n c] w (DPost w l) := by
  have hl := hs.rb.len
  have LL := Lib.hid hl
  have L0 := Lib.hid (show ((0, false) : St).1 ≤ n from Nat.zero_le _)
  obtain ⟨s1, e1⟩ : ∃ s1, rU l 9 (0, false) = (4, s1) := ⟨_, Prod.ext hk rfl⟩
  have L1 : Hid (s1.1 ≤ n) := Lib.hid (by have := rU_le (most := 9) (l := l) (s := (0, false)) (by have := L0.out; omega); rw [e1] at this; simp only at this; omega)
  obtain ⟨se, s2, e2⟩ : ∃ se s2, rU l 2147483647 s1 = (se, s2) := ⟨_, _, rfl⟩
  have L2 : Hid (s2.1 ≤ n) := Lib.hid (by have := rU_le (most := 2147483647) (l := l) (s := s1) (by have := L1.out; omega); rw [e2] at this; simp only at this; omega)
  have M2 : se ≤ 2147483647 := by have := rU_most (l := l) (most := 2147483647) (s := s1); rw [e2] at this; exact this
  obtain ⟨be, s3, e3⟩ : ∃ be s3, rT l s2 = (be, s3) := ⟨_, _, rfl⟩
  have L3 : Hid (s3.1 ≤ n) := Lib.hid (by have := rT_le (l := l) (s := s2) (by have := L2.out; omega); rw [e3] at this; simp only at this; omega)
  have M3 : be.length ≤ n := by have := rT_len (l := l) (s := s2) (by have := L2.out; omega); rw [e3] at this; simp only at this; omega
  obtain ⟨sl, s4, e4⟩ : ∃ sl s4, rT l s3 = (sl, s4) := ⟨_, _, rfl⟩
  have L4 : Hid (s4.1 ≤ n) := Lib.hid (by have := rT_le (l := l) (s := s3) (by have := L3.out; omega); rw [e4] at this; simp only at this; omega)
  have M4 : sl.length ≤ n := by have := rT_len (l := l) (s := s3) (by have := L3.out; omega); rw [e4] at this; simp only at this; omega
  have HD := Lib.hid (decR_prog (rReq_4 e1 e2 e3 e4))
  have E1 := Lib.hid e1
  clear e1
  have E2 := Lib.hid e2
  clear e2
  have E3 := Lib.hid e3
  clear e3
  have E4 := Lib.hid e4
  clear e4
  clear hk
  have HT := Lib.hid hT
  have HS := Lib.hid hs
  clear hT hs
  have hw0 : (w.alloc (.cells req0.cells 27)).heap.size = w.heap.size + 1 := by simp
  have R0 : Hid (Rd ((w.alloc (.cells req0.cells 27)).alloc (.cells #[.slice A n c, .int .i64 0, .bool false] 77)) (w.heap.size + 1) A n c (0, false)) := Lib.hid (by have := Blk.new (w.alloc (.cells req0.cells 27)) 77 #[.slice A n c, .int .i64 0, .bool false]; rw [hw0] at this; exact this)
  have B0 : Hid (Below w.heap.size w ((w.alloc (.cells req0.cells 27)).alloc (.cells #[.slice A n c, .int .i64 0, .bool false] 77))) := Lib.hid (((Below.refl _ _).alloc (Nat.le_refl _) _).alloc (by simp) _)
  have Q0 : Hid (RqB w.heap.size req0 ((w.alloc (.cells req0.cells 27)).alloc (.cells #[.slice A n c, .int .i64 0, .bool false] 77))) := Lib.hid ((Blk.new w _ _).alloc _)
  clear hw0
  go_enter Tryd.func16, Tryd.ntmps16
  have hc := count_any (w.heap.size + 1) A n c l (0, false) 9 _ R0.out (HS.out.keep B0.out).rb (by omega) (by omega) (by decide)
  rw [E1.out] at hc
  have HC := Lib.hid hc
  clear hc
  go_wp2_with fail
  refine HC.out.mono ?_
  rintro e w1 ⟨rfl, hr1, hu1⟩
  clear HC
  have hz : w.heap.size + 2 ≤ w1.heap.size := by have := hu1.size; simp at this; omega
  have R1 := Lib.hid hr1
  have Q1 := Lib.hid (show RqB w.heap.size req0 w1 from Blk.grown Q0.out hu1 (by simp))
  have D1 : Hid (DE w w1.heap.size A n c s1 (⟨4, 0, 0, 0, ⟨#[]⟩, ⟨#[]⟩, false, ⟨#[]⟩, none, 0, 0, none, 0, 0⟩ : Req) (w1.alloc (.cells (⟨4, 0, 0, 0, ⟨#[]⟩, ⟨#[]⟩, false, ⟨#[]⟩, none, 0, 0, none, 0, 0⟩ : Req).cells 27))) := Lib.hid ⟨(Blk.grown Q0.out hu1 (by simp)).alloc _, Blk.alloc hr1 _, Blk.new w1 _ _, hz, (B0.out.trans (hu1.below (B := w.heap.size) B0.out.size (by omega))).alloc (by omega) _⟩
  clear hr1 hu1 R0 B0 Q0
  unfold Req.cells at D1
  go_wp2_with fail
  refine (session_has 4 _).mono ?_
  rintro e wq ⟨rfl, rfl⟩
  rw [show hasS (4 : Int) = true by decide]
  have hc := count_any (w.heap.size + 1) A n c l s1 2147483647 _ D1.out.rd (HS.out.keep D1.out.bel).rb (by omega) (by have := L1.out; omega) (by decide)
  rw [E2.out] at hc
  have HC := Lib.hid hc
  clear hc
  go_wp2_with fail
  refine HC.out.mono ?_
  rintro e w2 ⟨rfl, hr2, hu2⟩
  have D1' := Lib.hid (D1.out.step hu2 hr2)
  clear HC hr2 hu2 D1
  have x0 : w2.cell? ⟨w1.heap.size, 0, none⟩ = some (.int .i64 4) := Blk.cell D1'.out.rq 0
  have x1 : w2.cell? ⟨w1.heap.size, 1, none⟩ = some (.int .i64 0) := Blk.cell D1'.out.rq 1
  have f1 := Blk.frozen D1'.out.rq 1
  have D2 : Hid (DE w w1.heap.size A n c s2 (⟨4, (se : Int), 0, 0, ⟨#[]⟩, ⟨#[]⟩, false, ⟨#[]⟩, none, 0, 0, none, 0, 0⟩ : Req) _) := Lib.hid (D1'.out.set_ (r' := (⟨4, (se : Int), 0, 0, ⟨#[]⟩, ⟨#[]⟩, false, ⟨#[]⟩, none, 0, 0, none, 0, 0⟩ : Req)) 1 (.int .i64 (se : Int)) rfl)
  have hc := textR_read (w.heap.size + 1) A n c l s2 _ D2.out.rd (HS.out.keep D2.out.bel) (by omega) (by have := L2.out; omega)
  rw [E3.out] at hc
  have HC := Lib.hid hc
  clear hc
  go_wp2_with fail
  refine HC.out.mono ?_
  rintro e w3 ⟨rfl, hr3, hu3⟩
  have D2' := Lib.hid (D2.out.step hu3 hr3)
  clear HC hr3 hu3 D2
  have x0 : w3.cell? ⟨w1.heap.size, 0, none⟩ = some (.int .i64 4) := Blk.cell D2'.out.rq 0
  have x4 : w3.cell? ⟨w1.heap.size, 4, none⟩ = some (.string ⟨#[]⟩) := Blk.cell D2'.out.rq 4
  have f4 := Blk.frozen D2'.out.rq 4
  have D3 : Hid (DE w w1.heap.size A n c s3 (⟨4, (se : Int), 0, 0, (ba be), ⟨#[]⟩, false, ⟨#[]⟩, none, 0, 0, none, 0, 0⟩ : Req) _) := Lib.hid (D2'.out.set_ (r' := (⟨4, (se : Int), 0, 0, (ba be), ⟨#[]⟩, false, ⟨#[]⟩, none, 0, 0, none, 0, 0⟩ : Req)) 4 (.string (ba be)) rfl)
  have hc := textR_read (w.heap.size + 1) A n c l s3 _ D3.out.rd (HS.out.keep D3.out.bel) (by omega) (by have := L3.out; omega)
  rw [E4.out] at hc
  have HC := Lib.hid hc
  clear hc
  go_wp2_with fail
  refine HC.out.mono ?_
  rintro e w4 ⟨rfl, hr4, hu4⟩
  have D3' := Lib.hid (D3.out.step hu4 hr4)
  clear HC hr4 hu4 D3
  have x0 : w4.cell? ⟨w1.heap.size, 0, none⟩ = some (.int .i64 4) := Blk.cell D3'.out.rq 0
  have x5 : w4.cell? ⟨w1.heap.size, 5, none⟩ = some (.string ⟨#[]⟩) := Blk.cell D3'.out.rq 5
  have f5 := Blk.frozen D3'.out.rq 5
  have D4 : Hid (DE w w1.heap.size A n c s4 (⟨4, (se : Int), 0, 0, (ba be), (ba sl), false, ⟨#[]⟩, none, 0, 0, none, 0, 0⟩ : Req) _) := Lib.hid (D3'.out.set_ (r' := (⟨4, (se : Int), 0, 0, (ba be), (ba sl), false, ⟨#[]⟩, none, 0, 0, none, 0, 0⟩ : Req)) 5 (.string (ba sl)) rfl)
  have Q := Lib.hid (show DQ w w1.heap.size A n c s4 (⟨4, (se : Int), 0, 0, (ba be), (ba sl), false, ⟨#[]⟩, none, 0, 0, none, 0, 0⟩ : Req) ({ rq0 with kind := 4, ses := (se : Int), bef := ba be, sel := ba sl } : Rq) _ from ⟨D4.out, ⟨RI.nil _ _, sb_nil _, ⟨rfl, rfl, rfl, rfl, rfl, rfl, rfl, rfl, rfl, rfl, rfl⟩, (by simp; try omega), (by simp; try omega), (by show (ba be).size ≤ _; rw [ba_len]; omega), (by show (ba sl).size ≤ _; rw [ba_len]; omega), Nat.zero_le _, (by simp; try omega)⟩, (fun ad h => by cases h), (fun ad h => by cases h), Nat.zero_le _⟩)
  clear D4
  obtain ⟨a, b⟩ := s4
  rcases b with _ | _
  · have y2 : w4.cell? ⟨w.heap.size + 1, 2, none⟩ = some (.bool false) := Blk.cell D3'.out.rd 2
    have y1 : w4.cell? ⟨w.heap.size + 1, 1, none⟩ = some (.int .i64 (a : Int)) := Blk.cell D3'.out.rd 1
    by_cases ha : a = n
    · subst ha
      have x1 : w4.cell? ⟨w1.heap.size, 1, none⟩ = some (.int .i64 (se : Int)) := Blk.cell D3'.out.rq 1
      have x2 : w4.cell? ⟨w1.heap.size, 2, none⟩ = some (.int .i64 0) := Blk.cell D3'.out.rq 2
      have x3 : w4.cell? ⟨w1.heap.size, 3, none⟩ = some (.int .u8 0) := Blk.cell D3'.out.rq 3
      have x4 : w4.cell? ⟨w1.heap.size, 4, none⟩ = some (.string (ba be)) := Blk.cell D3'.out.rq 4
      have x6 : w4.cell? ⟨w1.heap.size, 6, none⟩ = some (.bool false) := Blk.cell D3'.out.rq 6
      have x7 : w4.cell? ⟨w1.heap.size, 7, none⟩ = some (.string ⟨#[]⟩) := Blk.cell D3'.out.rq 7
      have x8 : w4.cell? ⟨w1.heap.size, 8, none⟩ = some (.slice none 0 0) := Blk.cell D3'.out.rq 8
      have x9 : w4.cell? ⟨w1.heap.size, 9, none⟩ = some (.slice none 0 0) := Blk.cell D3'.out.rq 9
      have hc := check_any (⟨4, (se : Int), 0, 0, (ba be), (ba sl), false, ⟨#[]⟩, none, 0, 0, none, 0, 0⟩ : Req) ({ rq0 with kind := 4, ses := (se : Int), bef := ba be, sel := ba sl } : Rq) _ _ (HT.out.keep Q.out.de.bel) Q.out.q.seen Q.out.q.n7 Q.out.q.is Q.out.q.bef Q.out.q.sel Q.out.q.sur
      have HC := Lib.hid hc
      clear hc
      go_wp2_with fail
      refine HC.out.mono ?_
      rintro e wc ⟨rfl, hbc⟩
      clear HC
      have DC := Lib.hid (Q.out.de.keep hbc)
      have QC := Lib.hid (Q.out.q.keep hbc)
      clear hbc
      have z0 : wc.cell? ⟨w.heap.size, 0, none⟩ = some (.int .i64 0) := Blk.cell DC.out.res 0
      have g0 := Blk.frozen DC.out.res 0
      have z1 : wc.cell? ⟨w.heap.size, 1, none⟩ = some (.int .i64 0) := Blk.cell DC.out.res 1
      have g1 := Blk.frozen DC.out.res 1
      have z2 : wc.cell? ⟨w.heap.size, 2, none⟩ = some (.int .i64 0) := Blk.cell DC.out.res 2
      have g2 := Blk.frozen DC.out.res 2
      have z3 : wc.cell? ⟨w.heap.size, 3, none⟩ = some (.int .u8 0) := Blk.cell DC.out.res 3
      have g3 := Blk.frozen DC.out.res 3
      have z4 : wc.cell? ⟨w.heap.size, 4, none⟩ = some (.string ⟨#[]⟩) := Blk.cell DC.out.res 4
      have g4 := Blk.frozen DC.out.res 4
      have z5 : wc.cell? ⟨w.heap.size, 5, none⟩ = some (.string ⟨#[]⟩) := Blk.cell DC.out.res 5
      have g5 := Blk.frozen DC.out.res 5
      have z6 : wc.cell? ⟨w.heap.size, 6, none⟩ = some (.bool false) := Blk.cell DC.out.res 6
      have g6 := Blk.frozen DC.out.res 6
      have z7 : wc.cell? ⟨w.heap.size, 7, none⟩ = some (.string ⟨#[]⟩) := Blk.cell DC.out.res 7
      have g7 := Blk.frozen DC.out.res 7
      have z8 : wc.cell? ⟨w.heap.size, 8, none⟩ = some (.slice none 0 0) := Blk.cell DC.out.res 8
      have g8 := Blk.frozen DC.out.res 8
      have z9 : wc.cell? ⟨w.heap.size, 9, none⟩ = some (.slice none 0 0) := Blk.cell DC.out.res 9
      have g9 := Blk.frozen DC.out.res 9
      rcases hk0 : chkR ({ rq0 with kind := 4, ses := (se : Int), bef := ba be, sel := ba sl } : Rq) with _ | z
      · have x0 : wc.cell? ⟨w1.heap.size, 0, none⟩ = some (.int .i64 4) := Blk.cell DC.out.rq 0
        have x1 : wc.cell? ⟨w1.heap.size, 1, none⟩ = some (.int .i64 (se : Int)) := Blk.cell DC.out.rq 1
        have x2 : wc.cell? ⟨w1.heap.size, 2, none⟩ = some (.int .i64 0) := Blk.cell DC.out.rq 2
        have x3 : wc.cell? ⟨w1.heap.size, 3, none⟩ = some (.int .u8 0) := Blk.cell DC.out.rq 3
        have x4 : wc.cell? ⟨w1.heap.size, 4, none⟩ = some (.string (ba be)) := Blk.cell DC.out.rq 4
        have x5 : wc.cell? ⟨w1.heap.size, 5, none⟩ = some (.string (ba sl)) := Blk.cell DC.out.rq 5
        have x6 : wc.cell? ⟨w1.heap.size, 6, none⟩ = some (.bool false) := Blk.cell DC.out.rq 6
        have x7 : wc.cell? ⟨w1.heap.size, 7, none⟩ = some (.string ⟨#[]⟩) := Blk.cell DC.out.rq 7
        have x8 : wc.cell? ⟨w1.heap.size, 8, none⟩ = some (.slice none 0 0) := Blk.cell DC.out.rq 8
        have x9 : wc.cell? ⟨w1.heap.size, 9, none⟩ = some (.slice none 0 0) := Blk.cell DC.out.rq 9
        have HK := Lib.hid hk0
        clear hk0
        go_wp2_with fail
        exact bodyPost_ret (v := .tuple #[.agg #[.int .i64 4, .int .i64 (se : Int), .int .i64 0, .int .u8 0, .string (ba be), .string (ba sl), .bool false, .string ⟨#[]⟩, .slice none 0 0, .slice none 0 0], .int .i64 0]) (by simp [results, Tryd.results16, go_sem, *]) rfl (DPost.good Q.out (((((((((((DC.out.bel).setCell (p := ⟨w.heap.size, 0, none⟩) (Nat.le_refl _) _).setCell (p := ⟨w.heap.size, 1, none⟩) (Nat.le_refl _) _).setCell (p := ⟨w.heap.size, 2, none⟩) (Nat.le_refl _) _).setCell (p := ⟨w.heap.size, 3, none⟩) (Nat.le_refl _) _).setCell (p := ⟨w.heap.size, 4, none⟩) (Nat.le_refl _) _).setCell (p := ⟨w.heap.size, 5, none⟩) (Nat.le_refl _) _).setCell (p := ⟨w.heap.size, 6, none⟩) (Nat.le_refl _) _).setCell (p := ⟨w.heap.size, 7, none⟩) (Nat.le_refl _) _).setCell (p := ⟨w.heap.size, 8, none⟩) (Nat.le_refl _) _).setCell (p := ⟨w.heap.size, 9, none⟩) (Nat.le_refl _) _) (QC.out.upd (((((((((((Upd.refl w.heap.size _).set_ 0 _).set_ 1 _).set_ 2 _).set_ 3 _).set_ 4 _).set_ 5 _).set_ 6 _).set_ 7 _).set_ 8 _).set_ 9 _) (fun ad e => Nat.ne_of_gt (Q.out.f7 ad e)) (fun ad e => Nat.ne_of_gt (Q.out.f8 ad e))) (HD.out.1 ⟨by rw [LL.out], HK.out⟩))
      · have hne : (((z + 1 : Nat) : Int) != 0) = true := by rw [bne_iff_ne]; omega
        have HK := Lib.hid hk0
        clear hk0
        generalize hzz : z + 1 = y at hne HK
        have HZ := Lib.hid hzz
        clear hzz
        go_wp2_with fail
        exact bodyPost_ret (v := .tuple #[.agg #[.int .i64 0, .int .i64 0, .int .i64 0, .int .u8 0, .string ⟨#[]⟩, .string ⟨#[]⟩, .bool false, .string ⟨#[]⟩, .slice none 0 0, .slice none 0 0], .int .i64 5]) (by simp [results, Tryd.results16, go_sem, *]) rfl (DPost.bad (((((((((((DC.out.bel).setCell (p := ⟨w.heap.size, 0, none⟩) (Nat.le_refl _) _).setCell (p := ⟨w.heap.size, 1, none⟩) (Nat.le_refl _) _).setCell (p := ⟨w.heap.size, 2, none⟩) (Nat.le_refl _) _).setCell (p := ⟨w.heap.size, 3, none⟩) (Nat.le_refl _) _).setCell (p := ⟨w.heap.size, 4, none⟩) (Nat.le_refl _) _).setCell (p := ⟨w.heap.size, 5, none⟩) (Nat.le_refl _) _).setCell (p := ⟨w.heap.size, 6, none⟩) (Nat.le_refl _) _).setCell (p := ⟨w.heap.size, 7, none⟩) (Nat.le_refl _) _).setCell (p := ⟨w.heap.size, 8, none⟩) (Nat.le_refl _) _).setCell (p := ⟨w.heap.size, 9, none⟩) (Nat.le_refl _) _) (HD.out.2 (fun h => by have h2 := h.2; rw [HK.out, ← HZ.out] at h2; cases h2)))
    · have hne : ((a : Int) != (n : Int)) = true := by rw [bne_iff_ne]; omega
      have HA := Lib.hid ha
      clear ha
      have z0 : w4.cell? ⟨w.heap.size, 0, none⟩ = some (.int .i64 0) := Blk.cell D3'.out.res 0
      have g0 := Blk.frozen D3'.out.res 0
      have z1 : w4.cell? ⟨w.heap.size, 1, none⟩ = some (.int .i64 0) := Blk.cell D3'.out.res 1
      have g1 := Blk.frozen D3'.out.res 1
      have z2 : w4.cell? ⟨w.heap.size, 2, none⟩ = some (.int .i64 0) := Blk.cell D3'.out.res 2
      have g2 := Blk.frozen D3'.out.res 2
      have z3 : w4.cell? ⟨w.heap.size, 3, none⟩ = some (.int .u8 0) := Blk.cell D3'.out.res 3
      have g3 := Blk.frozen D3'.out.res 3
      have z4 : w4.cell? ⟨w.heap.size, 4, none⟩ = some (.string ⟨#[]⟩) := Blk.cell D3'.out.res 4
      have g4 := Blk.frozen D3'.out.res 4
      have z5 : w4.cell? ⟨w.heap.size, 5, none⟩ = some (.string ⟨#[]⟩) := Blk.cell D3'.out.res 5
      have g5 := Blk.frozen D3'.out.res 5
      have z6 : w4.cell? ⟨w.heap.size, 6, none⟩ = some (.bool false) := Blk.cell D3'.out.res 6
      have g6 := Blk.frozen D3'.out.res 6
      have z7 : w4.cell? ⟨w.heap.size, 7, none⟩ = some (.string ⟨#[]⟩) := Blk.cell D3'.out.res 7
      have g7 := Blk.frozen D3'.out.res 7
      have z8 : w4.cell? ⟨w.heap.size, 8, none⟩ = some (.slice none 0 0) := Blk.cell D3'.out.res 8
      have g8 := Blk.frozen D3'.out.res 8
      have z9 : w4.cell? ⟨w.heap.size, 9, none⟩ = some (.slice none 0 0) := Blk.cell D3'.out.res 9
      have g9 := Blk.frozen D3'.out.res 9
      go_wp2_with fail
      exact bodyPost_ret (v := .tuple #[.agg #[.int .i64 0, .int .i64 0, .int .i64 0, .int .u8 0, .string ⟨#[]⟩, .string ⟨#[]⟩, .bool false, .string ⟨#[]⟩, .slice none 0 0, .slice none 0 0], .int .i64 5]) (by simp [results, Tryd.results16, go_sem, *]) rfl (DPost.bad (((((((((((Q.out.de.bel).setCell (p := ⟨w.heap.size, 0, none⟩) (Nat.le_refl _) _).setCell (p := ⟨w.heap.size, 1, none⟩) (Nat.le_refl _) _).setCell (p := ⟨w.heap.size, 2, none⟩) (Nat.le_refl _) _).setCell (p := ⟨w.heap.size, 3, none⟩) (Nat.le_refl _) _).setCell (p := ⟨w.heap.size, 4, none⟩) (Nat.le_refl _) _).setCell (p := ⟨w.heap.size, 5, none⟩) (Nat.le_refl _) _).setCell (p := ⟨w.heap.size, 6, none⟩) (Nat.le_refl _) _).setCell (p := ⟨w.heap.size, 7, none⟩) (Nat.le_refl _) _).setCell (p := ⟨w.heap.size, 8, none⟩) (Nat.le_refl _) _).setCell (p := ⟨w.heap.size, 9, none⟩) (Nat.le_refl _) _) (HD.out.2 (fun h => HA.out (by have h1 := congrArg Prod.fst h.1; simp only at h1; rw [h1]; exact LL.out))))
  · have z0 : w4.cell? ⟨w.heap.size, 0, none⟩ = some (.int .i64 0) := Blk.cell D3'.out.res 0
    have g0 := Blk.frozen D3'.out.res 0
    have z1 : w4.cell? ⟨w.heap.size, 1, none⟩ = some (.int .i64 0) := Blk.cell D3'.out.res 1
    have g1 := Blk.frozen D3'.out.res 1
    have z2 : w4.cell? ⟨w.heap.size, 2, none⟩ = some (.int .i64 0) := Blk.cell D3'.out.res 2
    have g2 := Blk.frozen D3'.out.res 2
    have z3 : w4.cell? ⟨w.heap.size, 3, none⟩ = some (.int .u8 0) := Blk.cell D3'.out.res 3
    have g3 := Blk.frozen D3'.out.res 3
    have z4 : w4.cell? ⟨w.heap.size, 4, none⟩ = some (.string ⟨#[]⟩) := Blk.cell D3'.out.res 4
    have g4 := Blk.frozen D3'.out.res 4
    have z5 : w4.cell? ⟨w.heap.size, 5, none⟩ = some (.string ⟨#[]⟩) := Blk.cell D3'.out.res 5
    have g5 := Blk.frozen D3'.out.res 5
    have z6 : w4.cell? ⟨w.heap.size, 6, none⟩ = some (.bool false) := Blk.cell D3'.out.res 6
    have g6 := Blk.frozen D3'.out.res 6
    have z7 : w4.cell? ⟨w.heap.size, 7, none⟩ = some (.string ⟨#[]⟩) := Blk.cell D3'.out.res 7
    have g7 := Blk.frozen D3'.out.res 7
    have z8 : w4.cell? ⟨w.heap.size, 8, none⟩ = some (.slice none 0 0) := Blk.cell D3'.out.res 8
    have g8 := Blk.frozen D3'.out.res 8
    have z9 : w4.cell? ⟨w.heap.size, 9, none⟩ = some (.slice none 0 0) := Blk.cell D3'.out.res 9
    have g9 := Blk.frozen D3'.out.res 9
    have y2 : w4.cell? ⟨w.heap.size + 1, 2, none⟩ = some (.bool true) := Blk.cell D3'.out.rd 2
    go_wp2_with fail
    exact bodyPost_ret (v := .tuple #[.agg #[.int .i64 0, .int .i64 0, .int .i64 0, .int .u8 0, .string ⟨#[]⟩, .string ⟨#[]⟩, .bool false, .string ⟨#[]⟩, .slice none 0 0, .slice none 0 0], .int .i64 5]) (by simp [results, Tryd.results16, go_sem, *]) rfl (DPost.bad (((((((((((Q.out.de.bel).setCell (p := ⟨w.heap.size, 0, none⟩) (Nat.le_refl _) _).setCell (p := ⟨w.heap.size, 1, none⟩) (Nat.le_refl _) _).setCell (p := ⟨w.heap.size, 2, none⟩) (Nat.le_refl _) _).setCell (p := ⟨w.heap.size, 3, none⟩) (Nat.le_refl _) _).setCell (p := ⟨w.heap.size, 4, none⟩) (Nat.le_refl _) _).setCell (p := ⟨w.heap.size, 5, none⟩) (Nat.le_refl _) _).setCell (p := ⟨w.heap.size, 6, none⟩) (Nat.le_refl _) _).setCell (p := ⟨w.heap.size, 7, none⟩) (Nat.le_refl _) _).setCell (p := ⟨w.heap.size, 8, none⟩) (Nat.le_refl _) _).setCell (p := ⟨w.heap.size, 9, none⟩) (Nat.le_refl _) _) (HD.out.2 (fun h => by have h1 := congrArg Prod.snd h.1; cases h1)))
end Go.Proofs.YtkllfnaofapfnaaDoor.Prot
