/-
  The contracts of the words of sameness of packages henkanref08 and henkanref40, of what is the same. Conditions: both can be read. (Printed by gen/undsame.py.)
-/
import Derived.Test.YtebjfigjfhghcaaDoorUndSteps
import Derived.Deep.RegionHeld3
namespace Go.Proofs.YtebjfigjfhghcaaDoor.Und
open Go.RowKit Wd Utf

set_option maxRecDepth 100000 in
set_option maxHeartbeats 8000000 in
theorem sameTexts_any (A A' : Option Addr) (n c c' : Nat) (l : List ByteArray) (w : World) (h1 : RS w A n l) (h2 : RS w A' n l) (hn : n ≤ 1048576) :
    Calls Tryd.prog 36 #[.slice A n c, .slice A' n c'] w fun e w' => e = .returned (.bool true) ∧ Below w.heap.size w w' := by
  have H1 := Lib.hid h1
  have H2 := Lib.hid h2
  clear h1 h2
  go_enter Tryd.func36, Tryd.ntmps36
  go_wp2_with fail
  go_loopw [5] (fun i wr => ∃ k : Nat, k ≤ n ∧ i = .int .i64 (k : Int) ∧ Below w.heap.size w wr) (fun i _ => n - (intOf i).toNat)
  case atStart => exact ⟨0, Nat.zero_le _, rfl, Below.refl _ _⟩
  case round =>
    obtain ⟨k, hk, rfl, hbl⟩ := hrel
    have B := Lib.hid hbl
    clear hbl
    by_cases hlt : k < n
    · obtain ⟨a1, rfl, _, c1⟩ := (H1.out.keep B.out).at_ hlt
      obtain ⟨a2, rfl, _, c3⟩ := (H2.out.keep B.out).at_ hlt
      generalize l.getD k ByteArray.empty = t at c1 c3
      have KD := Lib.hid (show wr.drew.cell? (a1.add k) = some (.string t) ∧ wr.drew.cell? (a2.add k) = some (.string t) from ⟨c1, c3⟩)
      clear c1 c3
      go_wp2_with fail
      go_region_held3 (fun w' => w'.cell? (a1.add k) = some (.string t) ∧ w'.cell? (a2.add k) = some (.string t)) (first | exact KD.out | go_keep) (fail)
      go_wp2_with fail
      go_roundw
      case rel => exact ⟨k + 1, by omega, by go_num, (by exact B.out.drew)⟩
      case measure => simp [intOf]; omega
    · have hkn : k = n := by omega
      subst k
      go_wp2_with fail
      go_ret
      exact ⟨rfl, B.out⟩
set_option maxRecDepth 100000 in
set_option maxHeartbeats 8000000 in
theorem samePlan_any (Ab Af Bb Bf : Option Addr) (nb cb db nf cf df : Nat) (bl : List Int) (fl : List Bool) (w : World) (h1 : RI .i64 w Ab nb bl) (h2 : RI .i64 w Bb nb bl) (g1 : RO w Af nf fl) (g2 : RO w Bf nf fl) (hn : nb ≤ 1048576) (hf : nf ≤ 1048576) :
    Calls Tryd.prog 35 #[.agg #[.slice Ab nb cb, .slice Af nf cf], .agg #[.slice Bb nb db, .slice Bf nf df]] w fun e w' => e = .returned (.bool true) ∧ Below w.heap.size w w' := by
  have B0 : Hid (Below w.heap.size w ((w.alloc (.cells #[.slice Ab nb cb, .slice Af nf cf] 37)).alloc (.cells #[.slice Bb nb db, .slice Bf nf df] 37))) := Lib.hid (((Below.refl _ _).alloc (Nat.le_refl _) _).alloc (by simp) _)
  have K01 : Hid (Blk ((w.alloc (.cells #[.slice Ab nb cb, .slice Af nf cf] 37)).alloc (.cells #[.slice Bb nb db, .slice Bf nf df] 37)) w.heap.size 37 #[.slice Ab nb cb, .slice Af nf cf]) := Lib.hid ((Blk.new w _ _).alloc _)
  have K02 : Hid (Blk ((w.alloc (.cells #[.slice Ab nb cb, .slice Af nf cf] 37)).alloc (.cells #[.slice Bb nb db, .slice Bf nf df] 37)) (w.heap.size + 1) 37 #[.slice Bb nb db, .slice Bf nf df]) := Lib.hid (by have h := Blk.new (w.alloc (.cells #[.slice Ab nb cb, .slice Af nf cf] 37)) 37 #[.slice Bb nb db, .slice Bf nf df]; rwa [show (w.alloc (.cells #[.slice Ab nb cb, .slice Af nf cf] 37)).heap.size = w.heap.size + 1 by simp] at h)
  have H1 := Lib.hid h1
  have H2 := Lib.hid h2
  have G1 := Lib.hid g1
  have G2 := Lib.hid g2
  clear h1 h2 g1 g2
  go_enter Tryd.func35, Tryd.ntmps35
  go_wp2_with fail
  go_loopw [5] (fun i wr => ∃ k : Nat, k ≤ nb ∧ i = .int .i64 (k : Int) ∧ Blk wr w.heap.size 37 #[.slice Ab nb cb, .slice Af nf cf] ∧ Blk wr (w.heap.size + 1) 37 #[.slice Bb nb db, .slice Bf nf df] ∧ Below w.heap.size w wr) (fun i _ => nb - (intOf i).toNat)
  case atStart => exact ⟨0, Nat.zero_le _, rfl, K01.out, K02.out, B0.out⟩
  case round =>
    obtain ⟨k, hk, rfl, hk1, hk2, hbl⟩ := hrel
    have B := Lib.hid hbl
    have K1 := Lib.hid hk1
    have K2 := Lib.hid hk2
    clear hbl hk1 hk2 B0 K01 K02
    by_cases hlt : k < nb
    · obtain ⟨a1, rfl, _, c1⟩ := (H1.out.keep B.out).at_ hlt
      obtain ⟨a2, rfl, _, c3⟩ := (H2.out.keep B.out).at_ hlt
      generalize bl.getD k 0 = t at c1 c3
      have p7 : wr.cell? ⟨w.heap.size, 0, none⟩ = some (.slice (some a1) nb cb) := K1.out.cell 0
      have q7 : wr.cell? ⟨w.heap.size + 1, 0, none⟩ = some (.slice (some a2) nb db) := K2.out.cell 0
      have KD := Lib.hid (show wr.drew.cell? ⟨w.heap.size, 0, none⟩ = some (.slice (some a1) nb cb) ∧ wr.drew.cell? ⟨w.heap.size + 1, 0, none⟩ = some (.slice (some a2) nb db) ∧ wr.drew.cell? (a1.add k) = some (.int .i64 t) ∧ wr.drew.cell? (a2.add k) = some (.int .i64 t) from ⟨p7, q7, c1, c3⟩)
      clear c1 c3 q7
      go_wp2_with fail
      go_region_held3 (fun w' => w'.cell? ⟨w.heap.size, 0, none⟩ = some (.slice (some a1) nb cb) ∧ w'.cell? ⟨w.heap.size + 1, 0, none⟩ = some (.slice (some a2) nb db) ∧ w'.cell? (a1.add k) = some (.int .i64 t) ∧ w'.cell? (a2.add k) = some (.int .i64 t)) (first | exact KD.out | go_keep) (fail)
      go_wp2_with fail
      go_roundw
      case rel => exact ⟨k + 1, by omega, by go_num, (by exact K1.out), (by exact K2.out), (by exact B.out.drew)⟩
      case measure => simp [intOf]; omega
    · have hkn : k = nb := by omega
      subst k
      have p0 : wr.cell? ⟨w.heap.size, 0, none⟩ = some (.slice Ab nb cb) := K1.out.cell 0
      go_wp2_with fail
      go_loopw [6] (fun i wr => ∃ k : Nat, k ≤ nf ∧ i = .int .i64 (k : Int) ∧ Blk wr w.heap.size 37 #[.slice Ab nb cb, .slice Af nf cf] ∧ Blk wr (w.heap.size + 1) 37 #[.slice Bb nb db, .slice Bf nf df] ∧ Below w.heap.size w wr) (fun i _ => nf - (intOf i).toNat)
      case atStart => exact ⟨0, Nat.zero_le _, rfl, K1.out, K2.out, B.out⟩
      case round =>
        obtain ⟨k, hk, rfl, hk1, hk2, hbl⟩ := hrel
        clear p0 B K1 K2
        rename World => wq
        have B := Lib.hid hbl
        have K1 := Lib.hid hk1
        have K2 := Lib.hid hk2
        clear hbl hk1 hk2
        by_cases hlt : k < nf
        · obtain ⟨a1, rfl, _, c1⟩ := (G1.out.keep B.out).at_ hlt
          obtain ⟨a2, rfl, _, c3⟩ := (G2.out.keep B.out).at_ hlt
          generalize fl.getD k false = t at c1 c3
          have p7 : wq.cell? ⟨w.heap.size, 1, none⟩ = some (.slice (some a1) nf cf) := K1.out.cell 1
          have q7 : wq.cell? ⟨w.heap.size + 1, 1, none⟩ = some (.slice (some a2) nf df) := K2.out.cell 1
          have KD := Lib.hid (show wq.drew.cell? ⟨w.heap.size, 1, none⟩ = some (.slice (some a1) nf cf) ∧ wq.drew.cell? ⟨w.heap.size + 1, 1, none⟩ = some (.slice (some a2) nf df) ∧ wq.drew.cell? (a1.add k) = some (.bool t) ∧ wq.drew.cell? (a2.add k) = some (.bool t) from ⟨p7, q7, c1, c3⟩)
          clear c1 c3 q7
          go_wp2_with fail
          go_region_held3 (fun w' => w'.cell? ⟨w.heap.size, 1, none⟩ = some (.slice (some a1) nf cf) ∧ w'.cell? ⟨w.heap.size + 1, 1, none⟩ = some (.slice (some a2) nf df) ∧ w'.cell? (a1.add k) = some (.bool t) ∧ w'.cell? (a2.add k) = some (.bool t)) (first | exact KD.out | go_keep) (fail)
          go_wp2_with fail
          go_roundw
          case rel => exact ⟨k + 1, by omega, by go_num, (by exact K1.out), (by exact K2.out), (by exact B.out.drew)⟩
          case measure => simp [intOf]; omega
        · have hkn : k = nf := by omega
          subst k
          have p2 : wq.cell? ⟨w.heap.size, 1, none⟩ = some (.slice Af nf cf) := K1.out.cell 1
          go_wp2_with fail
          go_ret
          exact ⟨rfl, B.out⟩
set_option maxRecDepth 100000 in
set_option maxHeartbeats 8000000 in
theorem sameBuf_any (Ai Bi : Option Addr) (ni ci di : Nat) (caret : Int) (pend : ByteArray) (l : List (ByteArray × ByteArray)) (w : World) (h1 : RT w Ai ni l) (h2 : RT w Bi ni l) (hn : ni ≤ 1048576) :
    Calls Tryd.prog 34 #[.agg #[.slice Ai ni ci, .int .i64 caret, .string pend], .agg #[.slice Bi ni di, .int .i64 caret, .string pend]] w fun e w' => e = .returned (.bool true) ∧ Below w.heap.size w w' := by
  have B0 : Hid (Below w.heap.size w ((w.alloc (.cells #[.slice Ai ni ci, .int .i64 caret, .string pend] 36)).alloc (.cells #[.slice Bi ni di, .int .i64 caret, .string pend] 36))) := Lib.hid (((Below.refl _ _).alloc (Nat.le_refl _) _).alloc (by simp) _)
  have K01 : Hid (Blk ((w.alloc (.cells #[.slice Ai ni ci, .int .i64 caret, .string pend] 36)).alloc (.cells #[.slice Bi ni di, .int .i64 caret, .string pend] 36)) w.heap.size 36 #[.slice Ai ni ci, .int .i64 caret, .string pend]) := Lib.hid ((Blk.new w _ _).alloc _)
  have K02 : Hid (Blk ((w.alloc (.cells #[.slice Ai ni ci, .int .i64 caret, .string pend] 36)).alloc (.cells #[.slice Bi ni di, .int .i64 caret, .string pend] 36)) (w.heap.size + 1) 36 #[.slice Bi ni di, .int .i64 caret, .string pend]) := Lib.hid (by have h := Blk.new (w.alloc (.cells #[.slice Ai ni ci, .int .i64 caret, .string pend] 36)) 36 #[.slice Bi ni di, .int .i64 caret, .string pend]; rwa [show (w.alloc (.cells #[.slice Ai ni ci, .int .i64 caret, .string pend] 36)).heap.size = w.heap.size + 1 by simp] at h)
  have H1 := Lib.hid h1
  have H2 := Lib.hid h2
  clear h1 h2
  go_enter Tryd.func34, Tryd.ntmps34
  go_wp2_with fail
  go_loopw [5] (fun i wr => ∃ k : Nat, k ≤ ni ∧ i = .int .i64 (k : Int) ∧ Blk wr w.heap.size 36 #[.slice Ai ni ci, .int .i64 caret, .string pend] ∧ Blk wr (w.heap.size + 1) 36 #[.slice Bi ni di, .int .i64 caret, .string pend] ∧ Below w.heap.size w wr) (fun i _ => ni - (intOf i).toNat)
  case atStart => exact ⟨0, Nat.zero_le _, rfl, K01.out, K02.out, B0.out⟩
  case round =>
    obtain ⟨k, hk, rfl, hk1, hk2, hbl⟩ := hrel
    have B := Lib.hid hbl
    have K1 := Lib.hid hk1
    have K2 := Lib.hid hk2
    clear hbl hk1 hk2 B0 K01 K02
    by_cases hlt : k < ni
    · obtain ⟨a1, ⟨t, z⟩, rfl, hp1, _, c1, c2⟩ := (H1.out.keep B.out).at_ hlt
      obtain ⟨a2, x2, rfl, hp2, _, c3, c4⟩ := (H2.out.keep B.out).at_ hlt
      rw [hp1] at hp2
      injection hp2 with hp2
      subst hp2
      simp only at c1 c2 c3 c4
      have p7 : wr.cell? ⟨w.heap.size, 0, none⟩ = some (.slice (some a1) ni ci) := K1.out.cell 0
      have q7 : wr.cell? ⟨w.heap.size + 1, 0, none⟩ = some (.slice (some a2) ni di) := K2.out.cell 0
      have KD := Lib.hid (show wr.drew.cell? ⟨w.heap.size, 0, none⟩ = some (.slice (some a1) ni ci) ∧ wr.drew.cell? ⟨w.heap.size + 1, 0, none⟩ = some (.slice (some a2) ni di) ∧ wr.drew.cell? (a1.add (k * 2)) = some (.string t) ∧ wr.drew.cell? ⟨(a1.add (k * 2)).block, (a1.add (k * 2)).off + 1, none⟩ = some (.string z) ∧ wr.drew.cell? (a2.add (k * 2)) = some (.string t) ∧ wr.drew.cell? ⟨(a2.add (k * 2)).block, (a2.add (k * 2)).off + 1, none⟩ = some (.string z) from ⟨p7, q7, c1, c2, c3, c4⟩)
      clear hp1 c1 c2 c3 c4 q7
      go_wp2_with fail
      go_region_held3 (fun w' => w'.cell? ⟨w.heap.size, 0, none⟩ = some (.slice (some a1) ni ci) ∧ w'.cell? ⟨w.heap.size + 1, 0, none⟩ = some (.slice (some a2) ni di) ∧ w'.cell? (a1.add (k * 2)) = some (.string t) ∧ w'.cell? ⟨(a1.add (k * 2)).block, (a1.add (k * 2)).off + 1, none⟩ = some (.string z) ∧ w'.cell? (a2.add (k * 2)) = some (.string t) ∧ w'.cell? ⟨(a2.add (k * 2)).block, (a2.add (k * 2)).off + 1, none⟩ = some (.string z)) (first | exact KD.out | go_keep) (fail)
      go_wp2_with fail
      go_roundw
      case rel => exact ⟨k + 1, by omega, by go_num, (by exact K1.out), (by exact K2.out), (by exact B.out.drew)⟩
      case measure => simp [intOf]; omega
    · have hkn : k = ni := by omega
      subst k
      have p0 : wr.cell? ⟨w.heap.size, 0, none⟩ = some (.slice Ai ni ci) := K1.out.cell 0
      go_wp2_with fail
      go_ret
      exact ⟨rfl, B.out⟩
set_option maxRecDepth 100000 in
set_option maxHeartbeats 8000000 in
theorem same_any (r s : Sp) (q : Stp) (w : World) (h1 : SpIn w r q) (h2 : SpIn w s q) :
    Calls Tryd.prog 19 #[.agg r.cells, .agg s.cells] w fun e w' => e = .returned (.bool true) ∧ Below w.heap.size w w' := by
  obtain ⟨Ai, ni, ci, caret, pend, mode, conv, Ab, nb, cb, Af, nf, cf, At, nt, ct, focus, prev, commit⟩ := r
  obtain ⟨Bi, mi, di, caret', pend', mode', conv', Bb, mb, db, Bf, mf, df, Bt, mt, dt, focus', prev', commit'⟩ := s
  obtain rfl := h1.caret.symm.trans h2.caret
  obtain rfl := h1.pend.symm.trans h2.pend
  obtain rfl := h1.mode.symm.trans h2.mode
  obtain rfl := h1.conv.symm.trans h2.conv
  obtain rfl := h1.focus.symm.trans h2.focus
  obtain rfl := h1.prev.symm.trans h2.prev
  obtain rfl := h1.commit.symm.trans h2.commit
  obtain rfl := h1.items.len.symm.trans h2.items.len
  obtain rfl := h1.bounds.len.symm.trans h2.bounds.len
  obtain rfl := h1.fixed.len.symm.trans h2.fixed.len
  obtain rfl := h1.texts.len.symm.trans h2.texts.len
  unfold Sp.cells
  simp only
  have B0 : Hid (Below w.heap.size w ((w.alloc (.cells #[.slice Ai ni ci, .int .i64 caret, .string pend, .int .i64 mode, .bool conv, .slice Ab nb cb, .slice Af nf cf, .slice At nt ct, .int .i64 focus, .string prev, .string commit] 39)).alloc (.cells #[.slice Bi ni di, .int .i64 caret, .string pend, .int .i64 mode, .bool conv, .slice Bb nb db, .slice Bf nf df, .slice Bt nt dt, .int .i64 focus, .string prev, .string commit] 39))) := Lib.hid (((Below.refl _ _).alloc (Nat.le_refl _) _).alloc (by simp) _)
  have K01 : Hid (Blk ((w.alloc (.cells #[.slice Ai ni ci, .int .i64 caret, .string pend, .int .i64 mode, .bool conv, .slice Ab nb cb, .slice Af nf cf, .slice At nt ct, .int .i64 focus, .string prev, .string commit] 39)).alloc (.cells #[.slice Bi ni di, .int .i64 caret, .string pend, .int .i64 mode, .bool conv, .slice Bb nb db, .slice Bf nf df, .slice Bt nt dt, .int .i64 focus, .string prev, .string commit] 39)) w.heap.size 39 #[.slice Ai ni ci, .int .i64 caret, .string pend, .int .i64 mode, .bool conv, .slice Ab nb cb, .slice Af nf cf, .slice At nt ct, .int .i64 focus, .string prev, .string commit]) := Lib.hid ((Blk.new w _ _).alloc _)
  have K02 : Hid (Blk ((w.alloc (.cells #[.slice Ai ni ci, .int .i64 caret, .string pend, .int .i64 mode, .bool conv, .slice Ab nb cb, .slice Af nf cf, .slice At nt ct, .int .i64 focus, .string prev, .string commit] 39)).alloc (.cells #[.slice Bi ni di, .int .i64 caret, .string pend, .int .i64 mode, .bool conv, .slice Bb nb db, .slice Bf nf df, .slice Bt nt dt, .int .i64 focus, .string prev, .string commit] 39)) (w.heap.size + 1) 39 #[.slice Bi ni di, .int .i64 caret, .string pend, .int .i64 mode, .bool conv, .slice Bb nb db, .slice Bf nf df, .slice Bt nt dt, .int .i64 focus, .string prev, .string commit]) := Lib.hid (by have h := Blk.new (w.alloc (.cells #[.slice Ai ni ci, .int .i64 caret, .string pend, .int .i64 mode, .bool conv, .slice Ab nb cb, .slice Af nf cf, .slice At nt ct, .int .i64 focus, .string prev, .string commit] 39)) 39 #[.slice Bi ni di, .int .i64 caret, .string pend, .int .i64 mode, .bool conv, .slice Bb nb db, .slice Bf nf df, .slice Bt nt dt, .int .i64 focus, .string prev, .string commit]; rwa [show (w.alloc (.cells #[.slice Ai ni ci, .int .i64 caret, .string pend, .int .i64 mode, .bool conv, .slice Ab nb cb, .slice Af nf cf, .slice At nt ct, .int .i64 focus, .string prev, .string commit] 39)).heap.size = w.heap.size + 1 by simp] at h)
  have HB := Lib.hid (fun (W : World) (hW : Below w.heap.size w W) => sameBuf_any Ai Bi ni ci di caret pend q.items W (h1.keep hW).items (h2.keep hW).items h1.ni)
  have HP := Lib.hid (fun (W : World) (hW : Below w.heap.size w W) => samePlan_any Ab Af Bb Bf nb cb db nf cf df q.bounds q.fixed W (h1.keep hW).bounds (h2.keep hW).bounds (h1.keep hW).fixed (h2.keep hW).fixed h1.nb h1.nf)
  have HT := Lib.hid (fun (W : World) (hW : Below w.heap.size w W) => sameTexts_any At Bt nt ct dt q.texts W (h1.keep hW).texts (h2.keep hW).texts h1.nt)
  clear h1 h2
  go_enter Tryd.func19, Tryd.ntmps19
  have K1 := K01
  have K2 := K02
  clear K01 K02
  generalize hW0 : ((w.alloc (.cells #[.slice Ai ni ci, .int .i64 caret, .string pend, .int .i64 mode, .bool conv, .slice Ab nb cb, .slice Af nf cf, .slice At nt ct, .int .i64 focus, .string prev, .string commit] 39)).alloc (.cells #[.slice Bi ni di, .int .i64 caret, .string pend, .int .i64 mode, .bool conv, .slice Bb nb db, .slice Bf nf df, .slice Bt nt dt, .int .i64 focus, .string prev, .string commit] 39)) = W0 at K1 K2 B0
  have x0 : W0.cell? ⟨w.heap.size, 0, none⟩ = some (.slice Ai ni ci) := K1.out.cell 0
  have y0 : W0.cell? ⟨w.heap.size + 1, 0, none⟩ = some (.slice Bi ni di) := K2.out.cell 0
  have x1 : W0.cell? ⟨w.heap.size, 1, none⟩ = some (.int .i64 caret) := K1.out.cell 1
  have y1 : W0.cell? ⟨w.heap.size + 1, 1, none⟩ = some (.int .i64 caret) := K2.out.cell 1
  have x2 : W0.cell? ⟨w.heap.size, 2, none⟩ = some (.string pend) := K1.out.cell 2
  have y2 : W0.cell? ⟨w.heap.size + 1, 2, none⟩ = some (.string pend) := K2.out.cell 2
  go_wp2_with fail
  try rw [hW0]
  with_reducible refine (HB.out _ B0.out).mono ?_
  rintro e w1 ⟨rfl, hb1⟩
  clear hW0
  clear x0 y0 x1 y1 x2 y2
  have K1 := Lib.hid (K1.out.below hb1 K1.out.lt)
  have K2 := Lib.hid (K2.out.below hb1 K2.out.lt)
  have B0 := Lib.hid (B0.out.trans (hb1.mono B0.out.size))
  clear hb1
  have x3 : w1.cell? ⟨w.heap.size, 3, none⟩ = some (.int .i64 mode) := K1.out.cell 3
  have y3 : w1.cell? ⟨w.heap.size + 1, 3, none⟩ = some (.int .i64 mode) := K2.out.cell 3
  have x4 : w1.cell? ⟨w.heap.size, 4, none⟩ = some (.bool conv) := K1.out.cell 4
  have y4 : w1.cell? ⟨w.heap.size + 1, 4, none⟩ = some (.bool conv) := K2.out.cell 4
  have x5 : w1.cell? ⟨w.heap.size, 5, none⟩ = some (.slice Ab nb cb) := K1.out.cell 5
  have y5 : w1.cell? ⟨w.heap.size + 1, 5, none⟩ = some (.slice Bb nb db) := K2.out.cell 5
  have x6 : w1.cell? ⟨w.heap.size, 6, none⟩ = some (.slice Af nf cf) := K1.out.cell 6
  have y6 : w1.cell? ⟨w.heap.size + 1, 6, none⟩ = some (.slice Bf nf df) := K2.out.cell 6
  go_wp2_with fail
  with_reducible refine (HP.out _ B0.out).mono ?_
  rintro e w2 ⟨rfl, hb2⟩
  clear x3 y3 x4 y4 x5 y5 x6 y6
  have K1 := Lib.hid (K1.out.below hb2 K1.out.lt)
  have K2 := Lib.hid (K2.out.below hb2 K2.out.lt)
  have B0 := Lib.hid (B0.out.trans (hb2.mono B0.out.size))
  clear hb2
  have x7 : w2.cell? ⟨w.heap.size, 7, none⟩ = some (.slice At nt ct) := K1.out.cell 7
  have y7 : w2.cell? ⟨w.heap.size + 1, 7, none⟩ = some (.slice Bt nt dt) := K2.out.cell 7
  go_wp2_with fail
  with_reducible refine (HT.out _ B0.out).mono ?_
  rintro e w3 ⟨rfl, hb3⟩
  clear x7 y7
  have K1 := Lib.hid (K1.out.below hb3 K1.out.lt)
  have K2 := Lib.hid (K2.out.below hb3 K2.out.lt)
  have B0 := Lib.hid (B0.out.trans (hb3.mono B0.out.size))
  clear hb3
  have x8 : w3.cell? ⟨w.heap.size, 8, none⟩ = some (.int .i64 focus) := K1.out.cell 8
  have y8 : w3.cell? ⟨w.heap.size + 1, 8, none⟩ = some (.int .i64 focus) := K2.out.cell 8
  have x9 : w3.cell? ⟨w.heap.size, 9, none⟩ = some (.string prev) := K1.out.cell 9
  have y9 : w3.cell? ⟨w.heap.size + 1, 9, none⟩ = some (.string prev) := K2.out.cell 9
  have x10 : w3.cell? ⟨w.heap.size, 10, none⟩ = some (.string commit) := K1.out.cell 10
  have y10 : w3.cell? ⟨w.heap.size + 1, 10, none⟩ = some (.string commit) := K2.out.cell 10
  go_wp2_with fail
  go_ret
  exact ⟨rfl, B0.out⟩
set_option maxRecDepth 100000 in
set_option maxHeartbeats 8000000 in
theorem sameAll_any (A A' : Option Addr) (n c m c' : Nat) (ps rs : List (Sp × Stp)) (w : World) (h1 : RP w A n ps) (h2 : RP w A' m rs) (hm : ps.map (·.2) = rs.map (·.2)) (hn : n ≤ 1048576) :
    Calls Tryd.prog 17 #[.slice A n c, .slice A' m c'] w fun e w' => e = .returned (.bool true) ∧ Below w.heap.size w w' := by
  have hnm : m = n := by have := congrArg List.length hm; rw [List.length_map, List.length_map, h1.len, h2.len] at this; exact this.symm
  subst hnm
  have H1 := Lib.hid h1
  have H2 := Lib.hid h2
  have HM := Lib.hid hm
  clear h1 h2 hm
  go_enter Tryd.func17, Tryd.ntmps17
  go_wp2_with fail
  go_loopw [5] (fun i wr => ∃ k : Nat, k ≤ m ∧ i = .int .i64 (k : Int) ∧ Below w.heap.size w wr) (fun i _ => m - (intOf i).toNat)
  case atStart => exact ⟨0, Nat.zero_le _, rfl, Below.refl _ _⟩
  case round =>
    obtain ⟨k, hk, rfl, hbl⟩ := hrel
    have B := Lib.hid hbl
    clear hbl
    by_cases hlt : k < m
    · obtain ⟨a1, ⟨r, q⟩, rfl, hp1, _, i1, x0, x1, x2, x3, x4, x5, x6, x7, x8, x9, x10⟩ := (H1.out.keep B.out).at_ hlt
      obtain ⟨a2, ⟨s, q2⟩, rfl, hp2, _, i2, y0, y1, y2, y3, y4, y5, y6, y7, y8, y9, y10⟩ := (H2.out.keep B.out).at_ hlt
      have hq : q = q2 := by
        have := congrArg (fun z => z[k]?) HM.out
        simp only [List.getElem?_map, hp1, hp2, Option.map_some, Option.some.injEq] at this
        exact this
      subst hq
      have HS := Lib.hid (same_any r s q wr.drew (i1.keep (Below.refl _ _).drew) (i2.keep (Below.refl _ _).drew))
      obtain ⟨Ai, ni, ci, caret, pend, mode, conv, Ab, nb, cb, Af, nf, cf, At, nt, ct, focus, prev, commit⟩ := r
      obtain ⟨Bi, mi, di, caret', pend', mode', conv', Bb, mb, db, Bf, mf, df, Bt, mt, dt, focus', prev', commit'⟩ := s
      unfold Sp.cells at HS
      simp only at HS x0 x1 x2 x3 x4 x5 x6 x7 x8 x9 x10 y0 y1 y2 y3 y4 y5 y6 y7 y8 y9 y10
      clear hp1 hp2 i1 i2
      go_wp2_with fail
      go_region_law (first
        | (go_simp; go_at_call 19; (with_reducible refine (HS.out).mono ?_); rintro e w2 ⟨rfl, hb2⟩; have B2 := Lib.hid (B.out.drew.trans (hb2.mono (by have := B.out.size; simpa using this))); clear hb2))
      all_goals
        go_wp2_with fail
        go_roundw
        case rel => exact ⟨k + 1, by omega, by go_num, B2.out⟩
        case measure => simp [intOf]; omega
    · have hkn : k = m := by omega
      subst k
      go_wp2_with fail
      go_ret
      exact ⟨rfl, B.out⟩
end Go.Proofs.YtebjfigjfhghcaaDoor.Und
