/-
  The contract of DecodeRequest of package protocol at the kinds 7. Conditions: the bytes can be read, within the form's reach; the two tables of unicode/utf8 lie as their initialisers lay them. (Printed by gen/protdec.py.)
-/
import Derived.Test.YtkllfnaofapfnaaDoorProtDec
import Derived.Deep.RegionHeld3
import Derived.Deep.RegionLaw
namespace Go.Proofs.YtkllfnaofapfnaaDoor.Prot
open Go.RowKit Wd Utf Cod

theorem rReq_7 {l : List UInt8} {s1 s2 s3 : St} {cnt : Nat} {zs : List Int} (h1 : rU l 9 ((0, false) : St) = (7, s1)) (h2 : rU l 8 s1 = (cnt, s2)) (h3 : rMany l 1099511627776 cnt s2 = (zs, s3)) : rReq l limP (rMany l limP.seen) = (({ rq0 with kind := 7, ses := 0, seen := zs } : Rq), s3) := by
  have hS : hasS ((7 : Nat) : Int) = false := by decide
  unfold rReq rTail rSes
  simp only [limP, h1, hS]
  simp [h2, h3]
set_option maxRecDepth 100000 in
set_option maxHeartbeats 4000000 in
theorem dec_7 (A : Option Addr) (n c : Nat) (l : List UInt8) (w : World) (hT : Tabs w) (hs : SB w A n c l) (hn : n ≤ 100000) (hk : (rU l 9 (0, false)).1 = 7) :
    Calls Tryd.prog 16 #[.slice A n c] w (DPost w l) := by
  have hl := hs.rb.len
  have LL := Lib.hid hl
  have L0 := Lib.hid (show ((0, false) : St).1 ≤ n from Nat.zero_le _)
  obtain ⟨s1, e1⟩ : ∃ s1, rU l 9 (0, false) = (7, s1) := ⟨_, Prod.ext hk rfl⟩
  have L1 : Hid (s1.1 ≤ n) := Lib.hid (by have := rU_le (most := 9) (l := l) (s := (0, false)) (by have := L0.out; omega); rw [e1] at this; simp only at this; omega)
  obtain ⟨cnt, s2, e2⟩ : ∃ cnt s2, rU l 8 s1 = (cnt, s2) := ⟨_, _, rfl⟩
  have L2 : Hid (s2.1 ≤ n) := Lib.hid (by have := rU_le (most := 8) (l := l) (s := s1) (by have := L1.out; omega); rw [e2] at this; simp only at this; omega)
  have M2 : cnt ≤ 8 := by have := rU_most (l := l) (most := 8) (s := s1); rw [e2] at this; exact this
  obtain ⟨zs, s3, e3⟩ : ∃ zs s3, rMany l 1099511627776 cnt s2 = (zs, s3) := ⟨_, _, rfl⟩
  have L3 : Hid (s3.1 ≤ n) := Lib.hid (by have := rMany_le (most := 1099511627776) (k := cnt) (l := l) (s := s2) (by have := L2.out; omega); rw [e3] at this; simp only at this; omega)
  have M3 : zs.length = cnt := by have := rMany_len (l := l) (most := 1099511627776) cnt s2; rw [e3] at this; exact this
  have HD := Lib.hid (decR_prog (rReq_7 e1 e2 e3))
  have E1 := Lib.hid e1
  clear e1
  have E2 := Lib.hid e2
  clear e2
  have E3 := Lib.hid e3
  clear e3
  clear hk
  have HT := Lib.hid hT
  have HS := Lib.hid hs
  clear hT hs
  have hw0 : (w.alloc (.cells req0.cells 27)).heap.size = w.heap.size + 1 := by simp
  have R0 : Hid (Rd ((w.alloc (.cells req0.cells 27)).alloc (.cells #[.slice A n c, .int .i64 0, .bool false] 77)) (w.heap.size + 1) A n c (0, false)) := Lib.hid (by have := Blk.new (w.alloc (.cells req0.cells 27)) 77 #[.slice A n c, .int .i64 0, .bool false]; rw [hw0] at this; exact this)
  have B0 : Hid (Below w.heap.size w ((w.alloc (.cells req0.cells 27)).alloc (.cells #[.slice A n c, .int .i64 0, .bool false] 77))) := Lib.hid (((Below.refl _ _).alloc (Nat.le_refl _) _).alloc (by simp) _)
  have Q0 : Hid (RqB w.heap.size req0 ((w.alloc (.cells req0.cells 27)).alloc (.cells #[.slice A n c, .int .i64 0, .bool false] 77))) := Lib.hid ((Blk.new w _ _).alloc _)
  clear hw0
  go_enter Tryd.func16, Tryd.ntmps16
  have hc := count_any (w.heap.size + 1) A n c l (0, false) 9 _ R0.out (HS.out.keep B0.out).rb (by omega) (by omega) (by decide)
  rw [E1.out] at hc
  have HC := Lib.hid hc
  clear hc
  go_wp2_with fail
  refine HC.out.mono ?_
  rintro e w1 ⟨rfl, hr1, hu1⟩
  clear HC
  have hz : w.heap.size + 2 ≤ w1.heap.size := by have := hu1.size; simp at this; omega
  have R1 := Lib.hid hr1
  have Q1 := Lib.hid (show RqB w.heap.size req0 w1 from Blk.grown Q0.out hu1 (by simp))
  have D1 : Hid (DE w w1.heap.size A n c s1 (⟨7, 0, 0, 0, ⟨#[]⟩, ⟨#[]⟩, false, ⟨#[]⟩, none, 0, 0, none, 0, 0⟩ : Req) (w1.alloc (.cells (⟨7, 0, 0, 0, ⟨#[]⟩, ⟨#[]⟩, false, ⟨#[]⟩, none, 0, 0, none, 0, 0⟩ : Req).cells 27))) := Lib.hid ⟨(Blk.grown Q0.out hu1 (by simp)).alloc _, Blk.alloc hr1 _, Blk.new w1 _ _, hz, (B0.out.trans (hu1.below (B := w.heap.size) B0.out.size (by omega))).alloc (by omega) _⟩
  clear hr1 hu1 R0 B0 Q0
  unfold Req.cells at D1
  go_wp2_with fail
  refine (session_has 7 _).mono ?_
  rintro e wq ⟨rfl, rfl⟩
  rw [show hasS (7 : Int) = false by decide]
  have hc := count_any (w.heap.size + 1) A n c l s1 8 _ D1.out.rd (HS.out.keep D1.out.bel).rb (by omega) (by have := L1.out; omega) (by decide)
  rw [E2.out] at hc
  have HC := Lib.hid hc
  clear hc
  have hmc : (cnt : Int) ≤ 8 := by omega
  go_wp2_with fail
  refine HC.out.mono ?_
  rintro e w2 ⟨rfl, hr2, hu2⟩
  have D2 := Lib.hid (D1.out.step hu2 hr2)
  clear HC hr2 hu2 D1
  have x0 : w2.cell? ⟨w1.heap.size, 0, none⟩ = some (.int .i64 7) := Blk.cell D2.out.rq 0
  go_wp2_with fail
  go_loopw [54] (fun i wr => P7 w w1.heap.size A n c l cnt zs s3 i wr) (fun i _ => cnt - (intOf i).toNat)
  case atStart => exact ⟨0, none, 0, [], zs, s2, Nat.zero_le _, rfl, D2.out, own_nil _ _ _ _, rfl, E3.out, L2.out⟩
  case round =>
    obtain ⟨j, A7, c7, ys, rest, s, hj, rfl, hde, hown, hzs, hmany, hsn⟩ := hrel
    have DD := Lib.hid hde
    have OWN := Lib.hid hown
    have HZS := Lib.hid hzs
    have LS := Lib.hid hsn
    have hyl : ys.length = j := by have := hown.1; rw [is_length] at this; omega
    clear hde hown hzs hsn D2 x0
    by_cases hlt : j < cnt
    · obtain ⟨m, hm⟩ : ∃ m, cnt - j = m + 1 := ⟨cnt - j - 1, by omega⟩
      rw [hm] at hmany
      unfold rMany at hmany
      obtain ⟨v, s', hv⟩ : ∃ v s', rU l 1099511627776 s = (v, s') := ⟨_, _, rfl⟩
      have hvm : v ≤ 1099511627776 := by have := rU_most (l := l) (most := 1099511627776) (s := s); rw [hv] at this; exact this
      have hsn' : s'.1 ≤ n := by have := rU_le (most := 1099511627776) (l := l) (s := s) (by have := LS.out; omega); rw [hv] at this; simp only at this; omega
      have LS' := Lib.hid hsn'
      rw [hv] at hmany
      obtain ⟨rest', sx, hmx⟩ : ∃ r' sx, rMany l 1099511627776 m s' = (r', sx) := ⟨_, _, rfl⟩
      simp only [hmx] at hmany
      obtain ⟨rfl, rfl⟩ := Prod.mk.inj hmany
      have HMX := Lib.hid hmx
      have HV := Lib.hid hv
      have HM := Lib.hid hm
      clear hmany hv hmx hm hsn'
      have HC := Lib.hid (fun (wz : World) (h1 : Rd wz (w.heap.size + 1) A n c s) (h2 : RB wz A n l) => show Calls Tryd.prog 39 #[.pointer (some ⟨w.heap.size + 1, 0, none⟩), .int .i64 1099511627776] wz (fun e w' => e = .returned (.int .i64 (v : Int)) ∧ Rd w' (w.heap.size + 1) A n c s' ∧ Upd (w.heap.size + 1) wz w') from by
        have := count_any (w.heap.size + 1) A n c l s 1099511627776 wz h1 h2 (by omega) (by have := LS.out; omega) (by decide)
        rw [HV.out] at this
        exact this)
      obtain ⟨i0, hi, hz0, hz1, hz2⟩ := info_parts infoInt
      have HI := Lib.hid hi
      clear hi
      have hlo := DD.out.lo
      have x8 : wr.cell? ⟨w1.heap.size, 8, none⟩ = some (.slice A7 j c7) := Blk.cell DD.out.rq 8
      have f8 := Blk.frozen DD.out.rq 8
      have hgl := DD.out.rq.lt
      go_wp2_with fail
      go_region_law (first
          | (refine step_append_any _ (by rfl) (.tmp 57) (.tmp 60) _ (by rfl) (w1.heap.size + 1) 3 i0 _ 1 8 Tryd.underlying24 HI.out hz0 hz1 hz2 rfl (by decide) _ j (is .i64 ys) (by rfl) (by exact (OA.out.alloc _)) _ _ _ _ [.int .i64 (v : Int)] (by rfl) (by exact Reads.lit _ _ _ _ _ [.int .i64 (v : Int)] rfl rfl) (by intro u hu; simp at hu; subst hu; rfl) (by unfold maxLen; omega) (by omega) (by simp; omega) ?_; intro v4 w4 hown4 hg4 hat4; have D4 := Lib.hid ((DA.out.alloc _).grow (by exact hg4) (fun k hk => by have := ((OA.out.alloc (.cells #[.int .i64 (v : Int)] 3)).lt k hk).1; omega)); obtain ⟨A4, c4, rfl, _, _⟩ := own_slice hown4; have O4 := Lib.hid hown4; have hcc : w4.cell? ⟨w1.heap.size, 8, none⟩ = some (.slice A7 j c7) := Blk.cell D4.out.rq 8; have f8' := Blk.frozen D4.out.rq 8; clear hown4 hg4 hat4)
          | (go_simp; go_at_call 39; (with_reducible refine (HC.out _ ?_ ?_).mono ?_); (· exact DD.out.rd); (· exact (HS.out.keep DD.out.bel).rb); rintro e wa ⟨rfl, hra, hua⟩; have hua2 : Upd (w.heap.size + 1) wr wa := (((Upd.refl (w.heap.size + 1) wr).drew).trans hua); have DA := Lib.hid (DD.out.step hua2 hra); have OA := Lib.hid (own_upd OWN.out hua2 (by omega)); have hcc : wa.cell? ⟨w1.heap.size, 8, none⟩ = some (.slice A7 j c7) := Blk.cell DA.out.rq 8; have hza := hua2.size; have hga : w1.heap.size < wa.heap.size := (by omega); clear hua hua2 hra))
      all_goals
        clear hcc
        go_wp2_with fail
        go_roundw
        case rel => exact ⟨j + 1, A4, c4, ys ++ [(v : Int)], rest', s', by omega, by go_num, D4.out.set_ 8 _ rfl, by rw [is_append]; exact own_upd O4.out ((Upd.refl w1.heap.size _).set_ 8 _) (by omega), by rw [HZS.out, List.append_assoc]; rfl, by rw [show cnt - (j + 1) = m by have := HM.out; omega]; exact HMX.out, LS'.out⟩
        case measure => simp [intOf]; omega
    · have hjc : j = cnt := by omega
      clear hyl
      subst j
      rw [Nat.sub_self] at hmany
      obtain ⟨hr1, hr2⟩ := Prod.mk.inj hmany
      subst hr1
      subst s
      have hyz : ys = zs := by have := HZS.out; rw [List.append_nil] at this; exact this.symm
      subst ys
      clear hmany HZS
      have x0 : wr.cell? ⟨w1.heap.size, 0, none⟩ = some (.int .i64 7) := Blk.cell DD.out.rq 0
      have Q := Lib.hid (show DQ w w1.heap.size A n c s3 (⟨7, 0, 0, 0, ⟨#[]⟩, ⟨#[]⟩, false, ⟨#[]⟩, A7, cnt, c7, none, 0, 0⟩ : Req) ({ rq0 with kind := 7, ses := 0, seen := zs } : Rq) _ from ⟨DD.out, ⟨(RI.of_own OWN.out), sb_nil _, ⟨rfl, rfl, rfl, rfl, rfl, rfl, rfl, rfl, rfl, M3, rfl⟩, (by simp; try omega), (by simp; try omega), Nat.zero_le _, Nat.zero_le _, Nat.zero_le _, (by simp; try omega)⟩, (fun ad h => by have := own_block_le OWN.out ad h; have := DD.out.lo; omega), (fun ad h => by cases h), (by simp; omega)⟩)
      obtain ⟨a, b⟩ := s3
      rcases b with _ | _
      · have y2 : wr.cell? ⟨w.heap.size + 1, 2, none⟩ = some (.bool false) := Blk.cell DD.out.rd 2
        have y1 : wr.cell? ⟨w.heap.size + 1, 1, none⟩ = some (.int .i64 (a : Int)) := Blk.cell DD.out.rd 1
        by_cases ha : a = n
        · subst ha
          have x1 : wr.cell? ⟨w1.heap.size, 1, none⟩ = some (.int .i64 0) := Blk.cell DD.out.rq 1
          have x2 : wr.cell? ⟨w1.heap.size, 2, none⟩ = some (.int .i64 0) := Blk.cell DD.out.rq 2
          have x3 : wr.cell? ⟨w1.heap.size, 3, none⟩ = some (.int .u8 0) := Blk.cell DD.out.rq 3
          have x4 : wr.cell? ⟨w1.heap.size, 4, none⟩ = some (.string ⟨#[]⟩) := Blk.cell DD.out.rq 4
          have x5 : wr.cell? ⟨w1.heap.size, 5, none⟩ = some (.string ⟨#[]⟩) := Blk.cell DD.out.rq 5
          have x6 : wr.cell? ⟨w1.heap.size, 6, none⟩ = some (.bool false) := Blk.cell DD.out.rq 6
          have x7 : wr.cell? ⟨w1.heap.size, 7, none⟩ = some (.string ⟨#[]⟩) := Blk.cell DD.out.rq 7
          have x8 : wr.cell? ⟨w1.heap.size, 8, none⟩ = some (.slice A7 cnt c7) := Blk.cell DD.out.rq 8
          have x9 : wr.cell? ⟨w1.heap.size, 9, none⟩ = some (.slice none 0 0) := Blk.cell DD.out.rq 9
          have hc := check_any (⟨7, 0, 0, 0, ⟨#[]⟩, ⟨#[]⟩, false, ⟨#[]⟩, A7, cnt, c7, none, 0, 0⟩ : Req) ({ rq0 with kind := 7, ses := 0, seen := zs } : Rq) _ _ (HT.out.keep Q.out.de.bel) Q.out.q.seen Q.out.q.n7 Q.out.q.is Q.out.q.bef Q.out.q.sel Q.out.q.sur
          have HC := Lib.hid hc
          clear hc
          go_wp2_with fail
          refine HC.out.mono ?_
          rintro e wc ⟨rfl, hbc⟩
          clear HC
          have DC := Lib.hid (Q.out.de.keep hbc)
          have QC := Lib.hid (Q.out.q.keep hbc)
          clear hbc
          have z0 : wc.cell? ⟨w.heap.size, 0, none⟩ = some (.int .i64 0) := Blk.cell DC.out.res 0
          have g0 := Blk.frozen DC.out.res 0
          have z1 : wc.cell? ⟨w.heap.size, 1, none⟩ = some (.int .i64 0) := Blk.cell DC.out.res 1
          have g1 := Blk.frozen DC.out.res 1
          have z2 : wc.cell? ⟨w.heap.size, 2, none⟩ = some (.int .i64 0) := Blk.cell DC.out.res 2
          have g2 := Blk.frozen DC.out.res 2
          have z3 : wc.cell? ⟨w.heap.size, 3, none⟩ = some (.int .u8 0) := Blk.cell DC.out.res 3
          have g3 := Blk.frozen DC.out.res 3
          have z4 : wc.cell? ⟨w.heap.size, 4, none⟩ = some (.string ⟨#[]⟩) := Blk.cell DC.out.res 4
          have g4 := Blk.frozen DC.out.res 4
          have z5 : wc.cell? ⟨w.heap.size, 5, none⟩ = some (.string ⟨#[]⟩) := Blk.cell DC.out.res 5
          have g5 := Blk.frozen DC.out.res 5
          have z6 : wc.cell? ⟨w.heap.size, 6, none⟩ = some (.bool false) := Blk.cell DC.out.res 6
          have g6 := Blk.frozen DC.out.res 6
          have z7 : wc.cell? ⟨w.heap.size, 7, none⟩ = some (.string ⟨#[]⟩) := Blk.cell DC.out.res 7
          have g7 := Blk.frozen DC.out.res 7
          have z8 : wc.cell? ⟨w.heap.size, 8, none⟩ = some (.slice none 0 0) := Blk.cell DC.out.res 8
          have g8 := Blk.frozen DC.out.res 8
          have z9 : wc.cell? ⟨w.heap.size, 9, none⟩ = some (.slice none 0 0) := Blk.cell DC.out.res 9
          have g9 := Blk.frozen DC.out.res 9
          rcases hk0 : chkR ({ rq0 with kind := 7, ses := 0, seen := zs } : Rq) with _ | z
          · have x0 : wc.cell? ⟨w1.heap.size, 0, none⟩ = some (.int .i64 7) := Blk.cell DC.out.rq 0
            have x1 : wc.cell? ⟨w1.heap.size, 1, none⟩ = some (.int .i64 0) := Blk.cell DC.out.rq 1
            have x2 : wc.cell? ⟨w1.heap.size, 2, none⟩ = some (.int .i64 0) := Blk.cell DC.out.rq 2
            have x3 : wc.cell? ⟨w1.heap.size, 3, none⟩ = some (.int .u8 0) := Blk.cell DC.out.rq 3
            have x4 : wc.cell? ⟨w1.heap.size, 4, none⟩ = some (.string ⟨#[]⟩) := Blk.cell DC.out.rq 4
            have x5 : wc.cell? ⟨w1.heap.size, 5, none⟩ = some (.string ⟨#[]⟩) := Blk.cell DC.out.rq 5
            have x6 : wc.cell? ⟨w1.heap.size, 6, none⟩ = some (.bool false) := Blk.cell DC.out.rq 6
            have x7 : wc.cell? ⟨w1.heap.size, 7, none⟩ = some (.string ⟨#[]⟩) := Blk.cell DC.out.rq 7
            have x8 : wc.cell? ⟨w1.heap.size, 8, none⟩ = some (.slice A7 cnt c7) := Blk.cell DC.out.rq 8
            have x9 : wc.cell? ⟨w1.heap.size, 9, none⟩ = some (.slice none 0 0) := Blk.cell DC.out.rq 9
            have HK := Lib.hid hk0
            clear hk0
            go_wp2_with fail
            exact bodyPost_ret (v := .tuple #[.agg #[.int .i64 7, .int .i64 0, .int .i64 0, .int .u8 0, .string ⟨#[]⟩, .string ⟨#[]⟩, .bool false, .string ⟨#[]⟩, .slice A7 cnt c7, .slice none 0 0], .int .i64 0]) (by simp [results, Tryd.results16, go_sem, *]) rfl (DPost.good Q.out (((((((((((DC.out.bel).setCell (p := ⟨w.heap.size, 0, none⟩) (Nat.le_refl _) _).setCell (p := ⟨w.heap.size, 1, none⟩) (Nat.le_refl _) _).setCell (p := ⟨w.heap.size, 2, none⟩) (Nat.le_refl _) _).setCell (p := ⟨w.heap.size, 3, none⟩) (Nat.le_refl _) _).setCell (p := ⟨w.heap.size, 4, none⟩) (Nat.le_refl _) _).setCell (p := ⟨w.heap.size, 5, none⟩) (Nat.le_refl _) _).setCell (p := ⟨w.heap.size, 6, none⟩) (Nat.le_refl _) _).setCell (p := ⟨w.heap.size, 7, none⟩) (Nat.le_refl _) _).setCell (p := ⟨w.heap.size, 8, none⟩) (Nat.le_refl _) _).setCell (p := ⟨w.heap.size, 9, none⟩) (Nat.le_refl _) _) (QC.out.upd (((((((((((Upd.refl w.heap.size _).set_ 0 _).set_ 1 _).set_ 2 _).set_ 3 _).set_ 4 _).set_ 5 _).set_ 6 _).set_ 7 _).set_ 8 _).set_ 9 _) (fun ad e => Nat.ne_of_gt (Q.out.f7 ad e)) (fun ad e => Nat.ne_of_gt (Q.out.f8 ad e))) (HD.out.1 ⟨by rw [LL.out], HK.out⟩))
          · have hne : (((z + 1 : Nat) : Int) != 0) = true := by rw [bne_iff_ne]; omega
            have HK := Lib.hid hk0
            clear hk0
            generalize hzz : z + 1 = y at hne HK
            have HZ := Lib.hid hzz
            clear hzz
            go_wp2_with fail
            exact bodyPost_ret (v := .tuple #[.agg #[.int .i64 0, .int .i64 0, .int .i64 0, .int .u8 0, .string ⟨#[]⟩, .string ⟨#[]⟩, .bool false, .string ⟨#[]⟩, .slice none 0 0, .slice none 0 0], .int .i64 5]) (by simp [results, Tryd.results16, go_sem, *]) rfl (DPost.bad (((((((((((DC.out.bel).setCell (p := ⟨w.heap.size, 0, none⟩) (Nat.le_refl _) _).setCell (p := ⟨w.heap.size, 1, none⟩) (Nat.le_refl _) _).setCell (p := ⟨w.heap.size, 2, none⟩) (Nat.le_refl _) _).setCell (p := ⟨w.heap.size, 3, none⟩) (Nat.le_refl _) _).setCell (p := ⟨w.heap.size, 4, none⟩) (Nat.le_refl _) _).setCell (p := ⟨w.heap.size, 5, none⟩) (Nat.le_refl _) _).setCell (p := ⟨w.heap.size, 6, none⟩) (Nat.le_refl _) _).setCell (p := ⟨w.heap.size, 7, none⟩) (Nat.le_refl _) _).setCell (p := ⟨w.heap.size, 8, none⟩) (Nat.le_refl _) _).setCell (p := ⟨w.heap.size, 9, none⟩) (Nat.le_refl _) _) (HD.out.2 (fun h => by have h2 := h.2; rw [HK.out, ← HZ.out] at h2; cases h2)))
        · have hne : ((a : Int) != (n : Int)) = true := by rw [bne_iff_ne]; omega
          have HA := Lib.hid ha
          clear ha
          have z0 : wr.cell? ⟨w.heap.size, 0, none⟩ = some (.int .i64 0) := Blk.cell DD.out.res 0
          have g0 := Blk.frozen DD.out.res 0
          have z1 : wr.cell? ⟨w.heap.size, 1, none⟩ = some (.int .i64 0) := Blk.cell DD.out.res 1
          have g1 := Blk.frozen DD.out.res 1
          have z2 : wr.cell? ⟨w.heap.size, 2, none⟩ = some (.int .i64 0) := Blk.cell DD.out.res 2
          have g2 := Blk.frozen DD.out.res 2
          have z3 : wr.cell? ⟨w.heap.size, 3, none⟩ = some (.int .u8 0) := Blk.cell DD.out.res 3
          have g3 := Blk.frozen DD.out.res 3
          have z4 : wr.cell? ⟨w.heap.size, 4, none⟩ = some (.string ⟨#[]⟩) := Blk.cell DD.out.res 4
          have g4 := Blk.frozen DD.out.res 4
          have z5 : wr.cell? ⟨w.heap.size, 5, none⟩ = some (.string ⟨#[]⟩) := Blk.cell DD.out.res 5
          have g5 := Blk.frozen DD.out.res 5
          have z6 : wr.cell? ⟨w.heap.size, 6, none⟩ = some (.bool false) := Blk.cell DD.out.res 6
          have g6 := Blk.frozen DD.out.res 6
          have z7 : wr.cell? ⟨w.heap.size, 7, none⟩ = some (.string ⟨#[]⟩) := Blk.cell DD.out.res 7
          have g7 := Blk.frozen DD.out.res 7
          have z8 : wr.cell? ⟨w.heap.size, 8, none⟩ = some (.slice none 0 0) := Blk.cell DD.out.res 8
          have g8 := Blk.frozen DD.out.res 8
          have z9 : wr.cell? ⟨w.heap.size, 9, none⟩ = some (.slice none 0 0) := Blk.cell DD.out.res 9
          have g9 := Blk.frozen DD.out.res 9
          go_wp2_with fail
          exact bodyPost_ret (v := .tuple #[.agg #[.int .i64 0, .int .i64 0, .int .i64 0, .int .u8 0, .string ⟨#[]⟩, .string ⟨#[]⟩, .bool false, .string ⟨#[]⟩, .slice none 0 0, .slice none 0 0], .int .i64 5]) (by simp [results, Tryd.results16, go_sem, *]) rfl (DPost.bad (((((((((((Q.out.de.bel).setCell (p := ⟨w.heap.size, 0, none⟩) (Nat.le_refl _) _).setCell (p := ⟨w.heap.size, 1, none⟩) (Nat.le_refl _) _).setCell (p := ⟨w.heap.size, 2, none⟩) (Nat.le_refl _) _).setCell (p := ⟨w.heap.size, 3, none⟩) (Nat.le_refl _) _).setCell (p := ⟨w.heap.size, 4, none⟩) (Nat.le_refl _) _).setCell (p := ⟨w.heap.size, 5, none⟩) (Nat.le_refl _) _).setCell (p := ⟨w.heap.size, 6, none⟩) (Nat.le_refl _) _).setCell (p := ⟨w.heap.size, 7, none⟩) (Nat.le_refl _) _).setCell (p := ⟨w.heap.size, 8, none⟩) (Nat.le_refl _) _).setCell (p := ⟨w.heap.size, 9, none⟩) (Nat.le_refl _) _) (HD.out.2 (fun h => HA.out (by have h1 := congrArg Prod.fst h.1; simp only at h1; rw [h1]; exact LL.out))))
      · have z0 : wr.cell? ⟨w.heap.size, 0, none⟩ = some (.int .i64 0) := Blk.cell DD.out.res 0
        have g0 := Blk.frozen DD.out.res 0
        have z1 : wr.cell? ⟨w.heap.size, 1, none⟩ = some (.int .i64 0) := Blk.cell DD.out.res 1
        have g1 := Blk.frozen DD.out.res 1
        have z2 : wr.cell? ⟨w.heap.size, 2, none⟩ = some (.int .i64 0) := Blk.cell DD.out.res 2
        have g2 := Blk.frozen DD.out.res 2
        have z3 : wr.cell? ⟨w.heap.size, 3, none⟩ = some (.int .u8 0) := Blk.cell DD.out.res 3
        have g3 := Blk.frozen DD.out.res 3
        have z4 : wr.cell? ⟨w.heap.size, 4, none⟩ = some (.string ⟨#[]⟩) := Blk.cell DD.out.res 4
        have g4 := Blk.frozen DD.out.res 4
        have z5 : wr.cell? ⟨w.heap.size, 5, none⟩ = some (.string ⟨#[]⟩) := Blk.cell DD.out.res 5
        have g5 := Blk.frozen DD.out.res 5
        have z6 : wr.cell? ⟨w.heap.size, 6, none⟩ = some (.bool false) := Blk.cell DD.out.res 6
        have g6 := Blk.frozen DD.out.res 6
        have z7 : wr.cell? ⟨w.heap.size, 7, none⟩ = some (.string ⟨#[]⟩) := Blk.cell DD.out.res 7
        have g7 := Blk.frozen DD.out.res 7
        have z8 : wr.cell? ⟨w.heap.size, 8, none⟩ = some (.slice none 0 0) := Blk.cell DD.out.res 8
        have g8 := Blk.frozen DD.out.res 8
        have z9 : wr.cell? ⟨w.heap.size, 9, none⟩ = some (.slice none 0 0) := Blk.cell DD.out.res 9
        have g9 := Blk.frozen DD.out.res 9
        have y2 : wr.cell? ⟨w.heap.size + 1, 2, none⟩ = some (.bool true) := Blk.cell DD.out.rd 2
        go_wp2_with fail
        exact bodyPost_ret (v := .tuple #[.agg #[.int .i64 0, .int .i64 0, .int .i64 0, .int .u8 0, .string ⟨#[]⟩, .string ⟨#[]⟩, .bool false, .string ⟨#[]⟩, .slice none 0 0, .slice none 0 0], .int .i64 5]) (by simp [results, Tryd.results16, go_sem, *]) rfl (DPost.bad (((((((((((Q.out.de.bel).setCell (p := ⟨w.heap.size, 0, none⟩) (Nat.le_refl _) _).setCell (p := ⟨w.heap.size, 1, none⟩) (Nat.le_refl _) _).setCell (p := ⟨w.heap.size, 2, none⟩) (Nat.le_refl _) _).setCell (p := ⟨w.heap.size, 3, none⟩) (Nat.le_refl _) _).setCell (p := ⟨w.heap.size, 4, none⟩) (Nat.le_refl _) _).setCell (p := ⟨w.heap.size, 5, none⟩) (Nat.le_refl _) _).setCell (p := ⟨w.heap.size, 6, none⟩) (Nat.le_refl _) _).setCell (p := ⟨w.heap.size, 7, none⟩) (Nat.le_refl _) _).setCell (p := ⟨w.heap.size, 8, none⟩) (Nat.le_refl _) _).setCell (p := ⟨w.heap.size, 9, none⟩) (Nat.le_refl _) _) (HD.out.2 (fun h => by have h1 := congrArg Prod.snd h.1; cases h1)))
end Go.Proofs.YtkllfnaofapfnaaDoor.Prot
