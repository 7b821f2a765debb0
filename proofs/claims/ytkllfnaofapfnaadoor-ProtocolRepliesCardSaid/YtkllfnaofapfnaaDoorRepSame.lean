/-
  The contracts of SameView and SameReply of package henkanref42, of two replies that are the same. Conditions: both can be read. (Printed by gen/repsame.py.)
-/
import Derived.Test.YtkllfnaofapfnaaDoorRepIn
import Derived.Deep.RegionHeld3
namespace Go.Proofs.YtkllfnaofapfnaaDoor.Prot
open Go.RowKit Wd Utf Cod

/-- the memory of SameView -/
structure VE (w : World) (a b : Array Value) (wx : World) : Prop where
  a : Blk wx w.heap.size 32 a
  b : Blk wx (w.heap.size + 1) 32 b
  bel : Below w.heap.size w wx
theorem VE.drew {w wx : World} {a b : Array Value} (h : VE w a b wx) : VE w a b wx.drew := ⟨h.a.drew, h.b.drew, h.bel.drew⟩
theorem VE.start (w : World) (a b : Array Value) : VE w a b ((w.alloc (.cells a 32)).alloc (.cells b 32)) := by
  refine ⟨(Blk.new w _ _).alloc _, ?_, ((Below.refl _ _).alloc (Nat.le_refl _) _).alloc (by simp) _⟩
  have := Blk.new (w.alloc (.cells a 32)) 32 b
  rwa [show (w.alloc (.cells a 32)).heap.size = w.heap.size + 1 by simp] at this
set_option maxRecDepth 100000 in
set_option maxHeartbeats 8000000 in
theorem sameV_walk (Ap Bp Ac Bc : Option Addr) (np cp dp nc cc dc : Nat) (caret chosen erase : Int) (commit : ByteArray) (taken : Bool) (pre : List (ByteArray × Int)) (cands : List ByteArray) (w : World)
    (h0 : RR w Ap np pre) (g0 : RR w Bp np pre) (h2 : RS w Ac nc cands) (g2 : RS w Bc nc cands) (hn : np ≤ 100000) (hc : nc ≤ 100000) :
    Calls Tryd.prog 44 #[.agg #[.slice Ap np cp, .int .i64 caret, .slice Ac nc cc, .int .i64 chosen, .string commit, .int .i64 erase, .bool taken], .agg #[.slice Bp np dp, .int .i64 caret, .slice Bc nc dc, .int .i64 chosen, .string commit, .int .i64 erase, .bool taken]] w fun e w' => e = .returned (.bool true) ∧ Below w.heap.size w w' := by
  have S0 := Lib.hid (VE.start w #[.slice Ap np cp, .int .i64 caret, .slice Ac nc cc, .int .i64 chosen, .string commit, .int .i64 erase, .bool taken] #[.slice Bp np dp, .int .i64 caret, .slice Bc nc dc, .int .i64 chosen, .string commit, .int .i64 erase, .bool taken])
  have H0 := Lib.hid h0
  have G0 := Lib.hid g0
  have H2 := Lib.hid h2
  have G2 := Lib.hid g2
  clear h0 g0 h2 g2
  go_enter Tryd.func44, Tryd.ntmps44
  go_wp2_with fail
  go_loopw [5] (fun i wr => ∃ k : Nat, k ≤ np ∧ i = .int .i64 (k : Int) ∧ VE w #[.slice Ap np cp, .int .i64 caret, .slice Ac nc cc, .int .i64 chosen, .string commit, .int .i64 erase, .bool taken] #[.slice Bp np dp, .int .i64 caret, .slice Bc nc dc, .int .i64 chosen, .string commit, .int .i64 erase, .bool taken] wr) (fun i _ => np - (intOf i).toNat)
  case atStart => exact ⟨0, Nat.zero_le _, rfl, S0.out⟩
  case round =>
    obtain ⟨k, hk, rfl, hse⟩ := hrel
    have S := Lib.hid hse
    clear hse
    by_cases hlt : k < np
    · obtain ⟨a1, ⟨t, z⟩, rfl, hp1, _, c1, c2⟩ := (H0.out.keep S.out.bel).at_ hlt
      obtain ⟨a2, x2, rfl, hp2, _, c3, c4⟩ := (G0.out.keep S.out.bel).at_ hlt
      rw [hp1] at hp2
      injection hp2 with hp2
      subst hp2
      simp only at c1 c2 c3 c4
      have p7 : wr.cell? ⟨w.heap.size, 0, none⟩ = some (.slice (some a1) np cp) := S.out.a.cell 0
      have q7 : wr.cell? ⟨w.heap.size + 1, 0, none⟩ = some (.slice (some a2) np dp) := S.out.b.cell 0
      have KD := Lib.hid (show wr.drew.cell? ⟨w.heap.size, 0, none⟩ = some (.slice (some a1) np cp) ∧ wr.drew.cell? ⟨w.heap.size + 1, 0, none⟩ = some (.slice (some a2) np dp) ∧ wr.drew.cell? (a1.add (k * 2)) = some (.string t) ∧ wr.drew.cell? ⟨(a1.add (k * 2)).block, (a1.add (k * 2)).off + 1, none⟩ = some (.int .i64 z) ∧ wr.drew.cell? (a2.add (k * 2)) = some (.string t) ∧ wr.drew.cell? ⟨(a2.add (k * 2)).block, (a2.add (k * 2)).off + 1, none⟩ = some (.int .i64 z) from ⟨p7, q7, c1, c2, c3, c4⟩)
      clear hp1 c1 c2 c3 c4 q7
      go_wp2_with fail
      go_region_held3 (fun w' => w'.cell? ⟨w.heap.size, 0, none⟩ = some (.slice (some a1) np cp) ∧ w'.cell? ⟨w.heap.size + 1, 0, none⟩ = some (.slice (some a2) np dp) ∧ w'.cell? (a1.add (k * 2)) = some (.string t) ∧ w'.cell? ⟨(a1.add (k * 2)).block, (a1.add (k * 2)).off + 1, none⟩ = some (.int .i64 z) ∧ w'.cell? (a2.add (k * 2)) = some (.string t) ∧ w'.cell? ⟨(a2.add (k * 2)).block, (a2.add (k * 2)).off + 1, none⟩ = some (.int .i64 z)) (first | exact KD.out | go_keep) (fail)
      go_wp2_with fail
      go_roundw
      case rel => exact ⟨k + 1, by omega, by go_num, (by exact S.out.drew)⟩
      case measure => simp [intOf]; omega
    · have hkn : k = np := by omega
      subst k
      have p0 : wr.cell? ⟨w.heap.size, 0, none⟩ = some (.slice Ap np cp) := S.out.a.cell 0
      clear S0
      go_wp2_with fail
      go_loopw [6] (fun i wr => ∃ k : Nat, k ≤ nc ∧ i = .int .i64 (k : Int) ∧ VE w #[.slice Ap np cp, .int .i64 caret, .slice Ac nc cc, .int .i64 chosen, .string commit, .int .i64 erase, .bool taken] #[.slice Bp np dp, .int .i64 caret, .slice Bc nc dc, .int .i64 chosen, .string commit, .int .i64 erase, .bool taken] wr) (fun i _ => nc - (intOf i).toNat)
      case atStart => exact ⟨0, Nat.zero_le _, rfl, S.out⟩
      case round =>
        obtain ⟨k, hk, rfl, hse⟩ := hrel
        clear S p0
        rename World => wq
        have S := Lib.hid hse
        clear hse
        by_cases hlt : k < nc
        · obtain ⟨a1, rfl, _, c1⟩ := (H2.out.keep S.out.bel).at_ hlt
          obtain ⟨a2, rfl, _, c3⟩ := (G2.out.keep S.out.bel).at_ hlt
          generalize cands.getD k ByteArray.empty = t at c1 c3
          have p7 : wq.cell? ⟨w.heap.size, 2, none⟩ = some (.slice (some a1) nc cc) := S.out.a.cell 2
          have q7 : wq.cell? ⟨w.heap.size + 1, 2, none⟩ = some (.slice (some a2) nc dc) := S.out.b.cell 2
          have KD := Lib.hid (show wq.drew.cell? ⟨w.heap.size, 2, none⟩ = some (.slice (some a1) nc cc) ∧ wq.drew.cell? ⟨w.heap.size + 1, 2, none⟩ = some (.slice (some a2) nc dc) ∧ wq.drew.cell? (a1.add k) = some (.string t) ∧ wq.drew.cell? (a2.add k) = some (.string t) from ⟨p7, q7, c1, c3⟩)
          clear c1 c3 q7
          go_wp2_with fail
          go_region_held3 (fun w' => w'.cell? ⟨w.heap.size, 2, none⟩ = some (.slice (some a1) nc cc) ∧ w'.cell? ⟨w.heap.size + 1, 2, none⟩ = some (.slice (some a2) nc dc) ∧ w'.cell? (a1.add k) = some (.string t) ∧ w'.cell? (a2.add k) = some (.string t)) (first | exact KD.out | go_keep) (fail)
          go_wp2_with fail
          go_roundw
          case rel => exact ⟨k + 1, by omega, by go_num, (by exact S.out.drew)⟩
          case measure => simp [intOf]; omega
        · have hkn : k = nc := by omega
          subst k
          have p2 : wq.cell? ⟨w.heap.size, 2, none⟩ = some (.slice Ac nc cc) := S.out.a.cell 2
          have a1 : wq.cell? ⟨w.heap.size, 1, none⟩ = some (.int .i64 caret) := S.out.a.cell 1
          have b1 : wq.cell? ⟨w.heap.size + 1, 1, none⟩ = some (.int .i64 caret) := S.out.b.cell 1
          have a3 : wq.cell? ⟨w.heap.size, 3, none⟩ = some (.int .i64 chosen) := S.out.a.cell 3
          have b3 : wq.cell? ⟨w.heap.size + 1, 3, none⟩ = some (.int .i64 chosen) := S.out.b.cell 3
          have a4 : wq.cell? ⟨w.heap.size, 4, none⟩ = some (.string commit) := S.out.a.cell 4
          have b4 : wq.cell? ⟨w.heap.size + 1, 4, none⟩ = some (.string commit) := S.out.b.cell 4
          have a5 : wq.cell? ⟨w.heap.size, 5, none⟩ = some (.int .i64 erase) := S.out.a.cell 5
          have b5 : wq.cell? ⟨w.heap.size + 1, 5, none⟩ = some (.int .i64 erase) := S.out.b.cell 5
          have a6 : wq.cell? ⟨w.heap.size, 6, none⟩ = some (.bool taken) := S.out.a.cell 6
          have b6 : wq.cell? ⟨w.heap.size + 1, 6, none⟩ = some (.bool taken) := S.out.b.cell 6
          go_wp2_with fail
          go_ret
          exact ⟨rfl, S.out.bel⟩
set_option maxRecDepth 100000 in
set_option maxHeartbeats 8000000 in
theorem sameP_walk (Ap Bp Ac Bc Ad Bd : Option Addr) (np cp dp nc cc dc nd cd dd : Nat) (err ses caret chosen erase : Int) (commit : ByteArray) (taken : Bool) (pre : List (ByteArray × Int)) (cands : List ByteArray) (data : List UInt8) (w : World)
    (h0 : RR w Ap np pre) (g0 : RR w Bp np pre) (h2 : RS w Ac nc cands) (g2 : RS w Bc nc cands) (h9 : RB w Ad nd data) (g9 : RB w Bd nd data) (hn : np ≤ 100000) (hc : nc ≤ 100000) :
    Calls Tryd.prog 21 #[.agg #[.int .i64 err, .int .i64 ses, .slice Ap np cp, .int .i64 caret, .slice Ac nc cc, .int .i64 chosen, .string commit, .int .i64 erase, .bool taken, .slice Ad nd cd], .agg #[.int .i64 err, .int .i64 ses, .slice Bp np dp, .int .i64 caret, .slice Bc nc dc, .int .i64 chosen, .string commit, .int .i64 erase, .bool taken, .slice Bd nd dd]] w fun e w' => e = .returned (.bool true) ∧ Below w.heap.size w w' := by
  have hb0 : Below w.heap.size w ((w.alloc (.cells #[.int .i64 err, .int .i64 ses, .slice Ap np cp, .int .i64 caret, .slice Ac nc cc, .int .i64 chosen, .string commit, .int .i64 erase, .bool taken, .slice Ad nd cd] 48)).alloc (.cells #[.int .i64 err, .int .i64 ses, .slice Bp np dp, .int .i64 caret, .slice Bc nc dc, .int .i64 chosen, .string commit, .int .i64 erase, .bool taken, .slice Bd nd dd] 48)) := ((Below.refl _ _).alloc (Nat.le_refl _) _).alloc (by simp) _
  have K1 : Hid (Blk ((w.alloc (.cells #[.int .i64 err, .int .i64 ses, .slice Ap np cp, .int .i64 caret, .slice Ac nc cc, .int .i64 chosen, .string commit, .int .i64 erase, .bool taken, .slice Ad nd cd] 48)).alloc (.cells #[.int .i64 err, .int .i64 ses, .slice Bp np dp, .int .i64 caret, .slice Bc nc dc, .int .i64 chosen, .string commit, .int .i64 erase, .bool taken, .slice Bd nd dd] 48)) w.heap.size 48 #[.int .i64 err, .int .i64 ses, .slice Ap np cp, .int .i64 caret, .slice Ac nc cc, .int .i64 chosen, .string commit, .int .i64 erase, .bool taken, .slice Ad nd cd]) := Lib.hid ((Blk.new w _ _).alloc _)
  have K2 : Hid (Blk ((w.alloc (.cells #[.int .i64 err, .int .i64 ses, .slice Ap np cp, .int .i64 caret, .slice Ac nc cc, .int .i64 chosen, .string commit, .int .i64 erase, .bool taken, .slice Ad nd cd] 48)).alloc (.cells #[.int .i64 err, .int .i64 ses, .slice Bp np dp, .int .i64 caret, .slice Bc nc dc, .int .i64 chosen, .string commit, .int .i64 erase, .bool taken, .slice Bd nd dd] 48)) (w.heap.size + 1) 48 #[.int .i64 err, .int .i64 ses, .slice Bp np dp, .int .i64 caret, .slice Bc nc dc, .int .i64 chosen, .string commit, .int .i64 erase, .bool taken, .slice Bd nd dd]) := Lib.hid (by
    have := Blk.new (w.alloc (.cells #[.int .i64 err, .int .i64 ses, .slice Ap np cp, .int .i64 caret, .slice Ac nc cc, .int .i64 chosen, .string commit, .int .i64 erase, .bool taken, .slice Ad nd cd] 48)) 48 #[.int .i64 err, .int .i64 ses, .slice Bp np dp, .int .i64 caret, .slice Bc nc dc, .int .i64 chosen, .string commit, .int .i64 erase, .bool taken, .slice Bd nd dd]
    rwa [show (w.alloc (.cells #[.int .i64 err, .int .i64 ses, .slice Ap np cp, .int .i64 caret, .slice Ac nc cc, .int .i64 chosen, .string commit, .int .i64 erase, .bool taken, .slice Ad nd cd] 48)).heap.size = w.heap.size + 1 by simp] at this)
  have HV := Lib.hid (sameV_walk Ap Bp Ac Bc np cp dp nc cc dc caret chosen erase commit taken pre cands _ (h0.keep hb0) (g0.keep hb0) (h2.keep hb0) (g2.keep hb0) hn hc)
  have H9 := Lib.hid h9
  have G9 := Lib.hid g9
  have B0 := Lib.hid hb0
  clear h0 g0 h2 g2 h9 g9 hb0
  go_enter Tryd.func21, Tryd.ntmps21
  go_wp2_with fail
  refine HV.out.mono ?_
  rintro e w1 ⟨rfl, hb1⟩
  have B1 : Hid (Below w.heap.size w w1) := Lib.hid (B0.out.trans (hb1.mono B0.out.size))
  have X1 := Lib.hid (K1.out.below hb1 K1.out.lt)
  have X2 := Lib.hid (K2.out.below hb1 K2.out.lt)
  clear hb1 K1 K2 B0 HV
  have c1 := (RB.keep H9.out B1.out).run_string (P := Tryd.prog) cd 25 5 9 Tryd.underlying25 Tryd.underlying5 Tryd.underlying9
  have c2 := (RB.keep G9.out B1.out).run_string (P := Tryd.prog) dd 25 5 9 Tryd.underlying25 Tryd.underlying5 Tryd.underlying9
  generalize (⟨data.toArray⟩ : ByteArray) = D at c1 c2
  have a9 : w1.cell? ⟨w.heap.size, 9, none⟩ = some (.slice Ad nd cd) := X1.out.cell 9
  have b9 : w1.cell? ⟨w.heap.size + 1, 9, none⟩ = some (.slice Bd nd dd) := X2.out.cell 9
  go_wp2_with fail
  go_ret
  exact ⟨rfl, B1.out⟩
theorem sameRep_any (r1 r2 : Rep) (q : Rp) (w : World) (h1 : RpIn w r1 q) (h2 : RpIn w r2 q) :
    Calls Tryd.prog 21 #[.agg r1.cells, .agg r2.cells] w fun e w' => e = .returned (.bool true) ∧ Below w.heap.size w w' := by
  obtain ⟨err, ses, Ap, np, cp, caret, Ac, nc, cc, chosen, commit, erase, taken, Ad, nd, cd⟩ := r1
  obtain ⟨err', ses', Bp, mp, dp, caret', Bc, mc, dc, chosen', commit', erase', taken', Bd, md, dd⟩ := r2
  obtain rfl := h1.err.symm.trans h2.err
  obtain rfl := h1.ses.symm.trans h2.ses
  obtain rfl := h1.caret.symm.trans h2.caret
  obtain rfl := h1.chosen.symm.trans h2.chosen
  obtain rfl := h1.commit.symm.trans h2.commit
  obtain rfl := h1.erase.symm.trans h2.erase
  obtain rfl := h1.taken.symm.trans h2.taken
  obtain rfl := h1.pre.len.symm.trans h2.pre.len
  obtain rfl := h1.cands.len.symm.trans h2.cands.len
  obtain rfl := h1.data.rb.len.symm.trans h2.data.rb.len
  exact sameP_walk _ _ _ _ _ _ _ _ _ _ _ _ _ _ _ _ _ _ _ _ _ _ q.pre q.cands q.data w h1.pre h2.pre h1.cands h2.cands h1.data.rb h2.data.rb (Nat.le_trans h1.np (by decide)) (Nat.le_trans h1.nc (by decide))
end Go.Proofs.YtkllfnaofapfnaaDoor.Prot
