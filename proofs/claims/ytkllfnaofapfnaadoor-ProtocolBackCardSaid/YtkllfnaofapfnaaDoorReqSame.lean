/-
  The contract of SameRequest of package henkanref42, of two requests that are the same. Conditions: both can be read.
-/
import Derived.Test.YtkllfnaofapfnaaDoorReqRef
import Derived.Deep.RegionHeld3
namespace Go.Proofs.YtkllfnaofapfnaaDoor.Prot
open Go.RowKit Wd Utf Cod

/-- the memory of SameRequest -/
structure SE (w : World) (r1 r2 : Req) (wx : World) : Prop where
  a : Blk wx w.heap.size 42 r1.cells
  b : Blk wx (w.heap.size + 1) 42 r2.cells
  bel : Below w.heap.size w wx
theorem SE.drew {w wx : World} {r1 r2 : Req} (h : SE w r1 r2 wx) : SE w r1 r2 wx.drew := ⟨h.a.drew, h.b.drew, h.bel.drew⟩
theorem SE.start (w : World) (r1 r2 : Req) : SE w r1 r2 ((w.alloc (.cells r1.cells 42)).alloc (.cells r2.cells 42)) := by
  refine ⟨(Blk.new w _ _).alloc _, ?_, ((Below.refl _ _).alloc (Nat.le_refl _) _).alloc (by simp) _⟩
  have := Blk.new (w.alloc (.cells r1.cells 42)) 42 r2.cells
  rwa [show (w.alloc (.cells r1.cells 42)).heap.size = w.heap.size + 1 by simp] at this
set_option maxRecDepth 100000 in
set_option maxHeartbeats 8000000 in
theorem same_walk (kind se kk : Int) (kc : Nat) (be sl : ByteArray) (on : Bool) (su : ByteArray) (A7 A8 B7 B8 : Option Addr) (n7 c7 n8 c8 d7 d8 : Nat) (seen : List Int) (data : List UInt8) (w : World)
    (h7 : RI .i64 w A7 n7 seen) (g7 : RI .i64 w B7 n7 seen) (h8 : RB w A8 n8 data) (g8 : RB w B8 n8 data) (hn : n7 ≤ 100000) :
    Calls Tryd.prog 17 #[.agg (Req.cells ⟨kind, se, kk, kc, be, sl, on, su, A7, n7, c7, A8, n8, c8⟩), .agg (Req.cells ⟨kind, se, kk, kc, be, sl, on, su, B7, n7, d7, B8, n8, d8⟩)] w fun e w' => e = .returned (.bool true) ∧ Below w.heap.size w w' := by
  have S0 := Lib.hid (SE.start w ⟨kind, se, kk, kc, be, sl, on, su, A7, n7, c7, A8, n8, c8⟩ ⟨kind, se, kk, kc, be, sl, on, su, B7, n7, d7, B8, n8, d8⟩)
  have H7 := Lib.hid h7
  have G7 := Lib.hid g7
  have H8 := Lib.hid h8
  have G8 := Lib.hid g8
  clear h7 g7 h8 g8
  unfold Req.cells at S0 ⊢
  go_enter Tryd.func17, Tryd.ntmps17
  go_wp2_with fail
  generalize ((w.alloc (.cells #[.int .i64 kind, .int .i64 se, .int .i64 kk, .int .u8 (kc : Int), .string be, .string sl, .bool on, .string su, .slice A7 n7 c7, .slice A8 n8 c8] 42)).alloc (.cells #[.int .i64 kind, .int .i64 se, .int .i64 kk, .int .u8 (kc : Int), .string be, .string sl, .bool on, .string su, .slice B7 n7 d7, .slice B8 n8 d8] 42)) = W at S0 ⊢
  go_loopw [5] (fun i wr => ∃ k : Nat, k ≤ n7 ∧ i = .int .i64 (k : Int) ∧ SE w ⟨kind, se, kk, kc, be, sl, on, su, A7, n7, c7, A8, n8, c8⟩ ⟨kind, se, kk, kc, be, sl, on, su, B7, n7, d7, B8, n8, d8⟩ wr) (fun i _ => n7 - (intOf i).toNat)
  case atStart => exact ⟨0, Nat.zero_le _, rfl, S0.out⟩
  case round =>
    obtain ⟨k, hk, rfl, hse⟩ := hrel
    have S := Lib.hid hse
    clear hse
    by_cases hlt : k < n7
    · obtain ⟨a1, hA, _, hc1⟩ := (H7.out.keep S.out.bel).at_ hlt
      obtain ⟨a2, hB, _, hc2⟩ := (G7.out.keep S.out.bel).at_ hlt
      have p7 : wr.cell? ⟨w.heap.size, 8, none⟩ = some (.slice A7 n7 c7) := S.out.a.cell 8
      have q7 : wr.cell? ⟨w.heap.size + 1, 8, none⟩ = some (.slice B7 n7 d7) := S.out.b.cell 8
      rw [hA] at p7
      rw [hB] at q7
      generalize seen.getD k 0 = z at hc1 hc2
      have KD := Lib.hid (show wr.drew.cell? ⟨w.heap.size, 8, none⟩ = some (.slice (some a1) n7 c7) ∧ wr.drew.cell? ⟨w.heap.size + 1, 8, none⟩ = some (.slice (some a2) n7 d7) ∧ wr.drew.cell? (a1.add k) = some (.int .i64 z) ∧ wr.drew.cell? (a2.add k) = some (.int .i64 z) from ⟨p7, q7, hc1, hc2⟩)
      have p8 : wr.cell? ⟨w.heap.size, 8, none⟩ = some (.slice (some a1) n7 c7) := p7
      clear hA hB hc1 hc2 p7 q7
      go_wp2_with fail
      go_region_held3 (fun w' => w'.cell? ⟨w.heap.size, 8, none⟩ = some (.slice (some a1) n7 c7) ∧ w'.cell? ⟨w.heap.size + 1, 8, none⟩ = some (.slice (some a2) n7 d7) ∧ w'.cell? (a1.add k) = some (.int .i64 z) ∧ w'.cell? (a2.add k) = some (.int .i64 z)) (first | exact KD.out | go_keep) (fail)
      go_wp2_with fail
      go_roundw
      case rel => exact ⟨k + 1, by omega, by go_num, (by exact S.out.drew)⟩
      case measure => simp [intOf]; omega
    · obtain rfl : k = n7 := by omega
      have p0 : wr.cell? ⟨w.heap.size, 8, none⟩ = some (.slice A7 k c7) := S.out.a.cell 8
      go_upto_region 8 with fail
      have c1 := (H8.out.keep S.out.bel).run_string (P := Tryd.prog) c8 25 5 9 Tryd.underlying25 Tryd.underlying5 Tryd.underlying9
      have c2 := (G8.out.keep S.out.bel).run_string (P := Tryd.prog) d8 25 5 9 Tryd.underlying25 Tryd.underlying5 Tryd.underlying9
      generalize (⟨data.toArray⟩ : ByteArray) = D at c1 c2
      have a0 : wr.cell? ⟨w.heap.size, 0, none⟩ = some (.int .i64 kind) := S.out.a.cell 0
      have a1 : wr.cell? ⟨w.heap.size, 1, none⟩ = some (.int .i64 se) := S.out.a.cell 1
      have a2 : wr.cell? ⟨w.heap.size, 2, none⟩ = some (.int .i64 kk) := S.out.a.cell 2
      have a3 : wr.cell? ⟨w.heap.size, 3, none⟩ = some (.int .u8 (kc : Int)) := S.out.a.cell 3
      have a4 : wr.cell? ⟨w.heap.size, 4, none⟩ = some (.string be) := S.out.a.cell 4
      have a5 : wr.cell? ⟨w.heap.size, 5, none⟩ = some (.string sl) := S.out.a.cell 5
      have a6 : wr.cell? ⟨w.heap.size, 6, none⟩ = some (.bool on) := S.out.a.cell 6
      have a7 : wr.cell? ⟨w.heap.size, 7, none⟩ = some (.string su) := S.out.a.cell 7
      have a9 : wr.cell? ⟨w.heap.size, 9, none⟩ = some (.slice A8 n8 c8) := S.out.a.cell 9
      have b0 : wr.cell? ⟨w.heap.size + 1, 0, none⟩ = some (.int .i64 kind) := S.out.b.cell 0
      have b1 : wr.cell? ⟨w.heap.size + 1, 1, none⟩ = some (.int .i64 se) := S.out.b.cell 1
      have b2 : wr.cell? ⟨w.heap.size + 1, 2, none⟩ = some (.int .i64 kk) := S.out.b.cell 2
      have b3 : wr.cell? ⟨w.heap.size + 1, 3, none⟩ = some (.int .u8 (kc : Int)) := S.out.b.cell 3
      have b4 : wr.cell? ⟨w.heap.size + 1, 4, none⟩ = some (.string be) := S.out.b.cell 4
      have b5 : wr.cell? ⟨w.heap.size + 1, 5, none⟩ = some (.string sl) := S.out.b.cell 5
      have b6 : wr.cell? ⟨w.heap.size + 1, 6, none⟩ = some (.bool on) := S.out.b.cell 6
      have b7 : wr.cell? ⟨w.heap.size + 1, 7, none⟩ = some (.string su) := S.out.b.cell 7
      have b9 : wr.cell? ⟨w.heap.size + 1, 9, none⟩ = some (.slice B8 n8 d8) := S.out.b.cell 9
      go_wp2_with fail
      go_ret
      exact ⟨rfl, S.out.bel⟩
theorem sameReq_any (r1 r2 : Req) (q : Rq) (w : World) (h1 : RqIn w r1 q) (h2 : RqIn w r2 q) :
    Calls Tryd.prog 17 #[.agg r1.cells, .agg r2.cells] w fun e w' => e = .returned (.bool true) ∧ Below w.heap.size w w' := by
  obtain ⟨kind, se, kk, kc, be, sl, on, su, A7, n7, c7, A8, n8, c8⟩ := r1
  obtain ⟨kind', se', kk', kc', be', sl', on', su', B7, m7, d7, B8, m8, d8⟩ := r2
  obtain ⟨a1, a2, a3, a4, a5, a6, a7, a8, a9, a10, a11⟩ := h1.is
  obtain ⟨b1, b2, b3, b4, b5, b6, b7, b8, b9, b10, b11⟩ := h2.is
  obtain rfl := a1.symm.trans b1
  obtain rfl := a2.symm.trans b2
  obtain rfl := a3.symm.trans b3
  obtain rfl := a4.symm.trans b4
  obtain rfl := a5.symm.trans b5
  obtain rfl := a6.symm.trans b6
  obtain rfl := a7.symm.trans b7
  obtain rfl := a8.symm.trans b8
  obtain rfl := a10.symm.trans b10
  obtain rfl := a11.symm.trans b11
  exact same_walk _ _ _ _ _ _ _ _ _ _ _ _ _ _ _ _ _ _ q.seen q.data w h1.seen h2.seen h1.data.rb h2.data.rb h1.n7
end Go.Proofs.YtkllfnaofapfnaaDoor.Prot
