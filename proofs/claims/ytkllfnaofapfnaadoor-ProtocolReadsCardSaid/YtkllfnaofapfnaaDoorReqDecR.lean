/-
  The contract of DecodeRequest of package henkanref42. Conditions: the bytes can be read, at most 100,000. (Printed by gen/reqdecr.py.)
-/
import Derived.Test.YtkllfnaofapfnaaDoorRdrR
import Derived.Test.YtkllfnaofapfnaaDoorReqEncR
import Derived.Test.YtkllfnaofapfnaaDoorProtDec
import Derived.Test.YtkllfnaofapfnaaDoorDecMath
import Derived.Deep.RegionHeld3
import Derived.Deep.RegionLaw
import Derived.Deep.DeepCutAuto
import Derived.Deep.CutBlock
namespace Go.Proofs.YtkllfnaofapfnaaDoor.Prot
open Go.RowKit Wd Utf Cod

/-- the memory of the reference's DecodeRequest: the result, the reader, the request that is read -/
structure DX (w : World) (g : Nat) (A : Option Addr) (n c : Nat) (s : St) (r : Req) (wx : World) : Prop where
  res : RqR w.heap.size req0 wx
  rd : RdR wx (w.heap.size + 1) A n c s
  rq : RqR g r wx
  lo : w.heap.size + 1 + 1 ≤ g
  bel : Below w.heap.size w wx
section
variable {w wx wy : World} {g : Nat} {A : Option Addr} {n c : Nat} {s s' : St} {r r' : Req}
theorem DX.step (h : DX w g A n c s r wx) (hu : Upd (w.heap.size + 1) wx wy) (hr : RdR wy (w.heap.size + 1) A n c s') : DX w g A n c s' r wy :=
  ⟨Blk.grown h.res hu (by simp), hr, Blk.grown h.rq hu (by have := h.lo; simp; omega), h.lo, h.bel.trans (hu.below (B := w.heap.size) h.bel.size (by omega))⟩
theorem DX.set_ (h : DX w g A n c s r wx) (i : Nat) (u : Value) (hr : r'.cells = r.cells.setIfInBounds i u) : DX w g A n c s r' (wx.setCell ⟨g, i, none⟩ u) := by
  have hlo := h.lo
  refine ⟨Blk.far h.res (by simp; omega) u, Blk.far h.rd (by simp; omega) u, ?_, h.lo, h.bel.setCell (p := ⟨g, i, none⟩) (by simp; omega) u⟩
  unfold RqR
  rw [hr]
  exact Blk.set_ h.rq i u
theorem DX.keep (h : DX w g A n c s r wx) (hb : Below wx.heap.size wx wy) : DX w g A n c s r wy := ⟨h.res.keep hb, h.rd.keep hb, h.rq.keep hb, h.lo, h.bel.trans (hb.mono h.bel.size)⟩
theorem DX.grow (h : DX w g A n c s r wx) {row : Option Nat} (hg : wx.grownBy wy row) (hr : ∀ k, row = some k → g < k) : DX w g A n c s r wy := by
  have hlo := h.lo
  refine ⟨Blk.grown h.res hg ?_, Blk.grown h.rd hg ?_, Blk.grown h.rq hg ?_, h.lo, h.bel.grown hg h.bel.size (fun k hk => by have := hr k hk; omega)⟩
  all_goals
    intro e
    have := hr _ e.symm
    omega
theorem DX.alloc (h : DX w g A n c s r wx) (o : Obj) : DX w g A n c s r (wx.alloc o) := h.keep ((Below.refl _ _).alloc (Nat.le_refl _) o)
end
/-- what a round of reading numbers keeps -/
def P7R (w : World) (g : Nat) (A : Option Addr) (n c : Nat) (l : List UInt8) (se : Nat) (zs : List Int) (s3 : St) (i : Value) (wr : World) : Prop :=
  ∃ (m j : Nat) (A7 : Option Addr) (c7 : Nat) (ys rest : List Int) (s : St), m ≤ 1099511627776 ∧ i = .int .i64 (m : Int) ∧ DX w g A n c s ⟨7, (se : Int), 0, 0, ⟨#[]⟩, ⟨#[]⟩, false, ⟨#[]⟩, A7, j, c7, none, 0, 0⟩ wr ∧
    wr.ownsRow (g + 1) 3 1 (.slice A7 j c7) j (is .i64 ys) ∧ zs = ys ++ rest ∧ rManyR l 1099511627776 m s = (rest, s3) ∧ s.1 ≤ n ∧ Paid j s
/-- what the reading leaves -/
def DXQ (w : World) (g : Nat) (A : Option Addr) (n c : Nat) (l : List UInt8) (wx : World) : Prop :=
  ∃ (r : Req) (q : Rq) (s : St), DX w g A n c s r wx ∧ RqIn wx r q ∧ (∀ ad, r.A7 = some ad → w.heap.size < ad.block) ∧ (∀ ad, r.A8 = some ad → w.heap.size < ad.block) ∧ rReq l limR (rManyR l limR.seen) = (q, s) ∧ r.bef.size ≤ 100000 ∧ r.sel.size ≤ 100000 ∧ r.sur.size ≤ 100000
theorem paid_first {l : List UInt8} {most : Nat} : Paid 0 (rU l most (0, false)).2 := by
  refine ⟨Nat.zero_le _, fun h => ?_⟩
  have := rU_moved h
  simp only at this
  omega
/-- how the reference's DecodeRequest ends -/
def DPostR (w : World) (l : List UInt8) (e : Ending) (w' : World) : Prop :=
  Below w.heap.size w w' ∧ ∃ (r : Req) (q : Rq) (c : Nat), e = .returned (.tuple #[.agg r.cells, .int .i64 (c : Int)]) ∧ RqIn w' r q ∧ DecR l c q
theorem DPostR.bad {w w' : World} {l : List UInt8} (hb : Below w.heap.size w w') (h : DecR l 5 rq0) : DPostR w l (.returned (.tuple #[.agg req0.cells, .int .i64 5])) w' :=
  ⟨hb, req0, rq0, 5, rfl, rqIn0 _, h⟩
theorem DPostR.good {w w' : World} {l : List UInt8} {r : Req} {q : Rq} (hb : Below w.heap.size w w') (hq : RqIn w' r q) (h : DecR l 0 q) : DPostR w l (.returned (.tuple #[.agg r.cells, .int .i64 0])) w' :=
  ⟨hb, r, q, 0, rfl, hq, h⟩
set_option maxRecDepth 100000 in
set_option maxHeartbeats 16000000 in
theorem decRef_any (A : Option Addr) (n c : Nat) (l : List UInt8) (w : World) (hs : SB w A n c l) (hn : n ≤ 100000) :
    Calls Tryd.prog 25 #[.slice A n c] w (DPostR w l) := by
  have hl := hs.rb.len
  have LL := Lib.hid hl
  obtain ⟨k, s1, e1⟩ : ∃ k s1, rU l 1099511627776 (0, false) = (k, s1) := ⟨_, _, rfl⟩
  have hkm : k ≤ 1099511627776 := by have := rU_most (l := l) (most := 1099511627776) (s := (0, false)); rw [e1] at this; exact this
  have L1 : Hid (s1.1 ≤ n) := Lib.hid (by have := rU_le (most := 1099511627776) (l := l) (s := (0, false)) (Nat.zero_le _); rw [e1] at this; simp only at this; omega)
  have PD1 : Hid (Paid 0 s1) := Lib.hid (by have := paid_first (l := l) (most := 1099511627776); rw [e1] at this; exact this)
  obtain ⟨se, s2, e2⟩ : ∃ se s2, rSes l limR k s1 = (se, s2) := ⟨_, _, rfl⟩
  have HR : Hid (rReq l limR (rManyR l limR.seen) = rTail l limR (rManyR l limR.seen) k se s2) := Lib.hid (by
    have e1' : rU l limR.kind (0, false) = (k, s1) := e1
    unfold rReq
    rw [e1']
    simp only
    rw [e2])
  have L2P : s2.1 ≤ n ∧ Paid 0 s2 := by
    unfold rSes at e2
    split at e2
    · have h1 := rU_le (most := limR.ses) (l := l) (s := s1) (by have := L1.out; omega)
      have h2 := Paid.more (l := l) (most := limR.ses) PD1.out
      rw [e2] at h1 h2
      exact ⟨by simp only at h1; omega, h2⟩
    · obtain ⟨_, rfl⟩ := Prod.mk.inj e2
      exact ⟨L1.out, PD1.out⟩
  have L2 := Lib.hid L2P.1
  have PD2 := Lib.hid L2P.2
  clear L2P
  have E1 := Lib.hid e1
  have E2 := Lib.hid e2
  have HS := Lib.hid hs
  clear e1 e2 hs
  have hw0 : (w.alloc (.cells req0.cells 42)).heap.size = w.heap.size + 1 := by simp
  have R0 : Hid (RdR ((w.alloc (.cells req0.cells 42)).alloc (.cells #[.slice A n c, .int .i64 0, .bool false] 89)) (w.heap.size + 1) A n c (0, false)) := Lib.hid (by have := Blk.new (w.alloc (.cells req0.cells 42)) 89 #[.slice A n c, .int .i64 0, .bool false]; rw [hw0] at this; exact this)
  have B0 : Hid (Below w.heap.size w ((w.alloc (.cells req0.cells 42)).alloc (.cells #[.slice A n c, .int .i64 0, .bool false] 89))) := Lib.hid (((Below.refl _ _).alloc (Nat.le_refl _) _).alloc (by simp) _)
  have Q0 : Hid (RqR w.heap.size req0 ((w.alloc (.cells req0.cells 42)).alloc (.cells #[.slice A n c, .int .i64 0, .bool false] 89))) := Lib.hid ((Blk.new w _ _).alloc _)
  clear hw0
  go_enter Tryd.func25, Tryd.ntmps25
  have hc := uintR_read (w.heap.size + 1) A n c l (0, false) _ R0.out (HS.out.keep B0.out).rb (by omega) (by omega)
  rw [E1.out] at hc
  have HC := Lib.hid hc
  clear hc
  go_wp2_with fail
  refine HC.out.mono ?_
  rintro e w1 ⟨rfl, hr1, hu1⟩
  clear HC
  have hz : w.heap.size + 2 ≤ w1.heap.size := by have := hu1.size; simp at this; omega
  have D1 : Hid (DX w w1.heap.size A n c s1 (⟨(k : Int), 0, 0, 0, ⟨#[]⟩, ⟨#[]⟩, false, ⟨#[]⟩, none, 0, 0, none, 0, 0⟩ : Req) (w1.alloc (.cells (⟨(k : Int), 0, 0, 0, ⟨#[]⟩, ⟨#[]⟩, false, ⟨#[]⟩, none, 0, 0, none, 0, 0⟩ : Req).cells 42))) := Lib.hid ⟨(Blk.grown Q0.out hu1 (by simp)).alloc _, Blk.alloc hr1 _, Blk.new w1 _ _, hz, (B0.out.trans (hu1.below (B := w.heap.size) B0.out.size (by omega))).alloc (by omega) _⟩
  clear hr1 hu1 R0 B0 Q0
  unfold Req.cells at D1
  go_upto_if 17 with (go_at_call 47; refine (has_any _ _).mono ?_; rintro e wq ⟨rfl, rfl⟩)
  go_cut [] (fun wx => DX w w1.heap.size A n c s2 (⟨(k : Int), (se : Int), 0, 0, ⟨#[]⟩, ⟨#[]⟩, false, ⟨#[]⟩, none, 0, 0, none, 0, 0⟩ : Req) wx)
  case first =>
    have e2 := E2.out
    unfold rSes at e2
    rcases hS : hasS (k : Int) with _ | _
    · rw [hS] at e2
      obtain ⟨rfl, rfl⟩ := Prod.mk.inj e2
      clear e2
      go_wp2_with fail
      go_meet
      exact D1.out
    · rw [hS, if_pos rfl] at e2
      have e2' : rU l 1099511627776 s1 = (se, s2) := e2
      have hc := uintR_read (w.heap.size + 1) A n c l s1 _ D1.out.rd (HS.out.keep D1.out.bel).rb (by omega) (by have := L1.out; omega)
      rw [e2'] at hc
      have HC := Lib.hid hc
      clear hc e2 e2' hS
      go_wp2_with fail
      refine HC.out.mono ?_
      rintro e w2 ⟨rfl, hr2, hu2⟩
      have D1' := Lib.hid (D1.out.step hu2 hr2)
      clear HC hr2 hu2 D1
      have x1 : w2.cell? ⟨w1.heap.size, 1, none⟩ = some (.int .i64 0) := Blk.cell D1'.out.rq 1
      have f1 := Blk.frozen D1'.out.rq 1
      have D2 := Lib.hid (D1'.out.set_ (r' := (⟨(k : Int), (se : Int), 0, 0, ⟨#[]⟩, ⟨#[]⟩, false, ⟨#[]⟩, none, 0, 0, none, 0, 0⟩ : Req)) 1 (.int .i64 (se : Int)) rfl)
      go_wp2_with fail
      go_meet
      exact D2.out
  have D2 := Lib.hid hcut
  clear hcut D1 E1 E2
  rename World => wc
  have x0 : wc.cell? ⟨w1.heap.size, 0, none⟩ = some (.int .i64 (k : Int)) := Blk.cell D2.out.rq 0
  go_upto_block 0 with fail
  go_cut [] (fun wx => DXQ w w1.heap.size A n c l wx)
  case first =>
    by_cases k3 : k = 3
    · subst k3
      obtain ⟨kk, s3, e3⟩ : ∃ kk s3, rU l 1099511627776 s2 = (kk, s3) := ⟨_, _, rfl⟩
      have L3 : Hid (s3.1 ≤ n) := Lib.hid (by have := rU_le (most := 1099511627776) (l := l) (s := s2) (by have := L2.out; omega); rw [e3] at this; simp only at this; omega)
      obtain ⟨kc, s4, e4⟩ : ∃ kc s4, rU l 1099511627776 s3 = (kc, s4) := ⟨_, _, rfl⟩
      have M4 : kc ≤ 1099511627776 := by have := rU_most (l := l) (most := 1099511627776) (s := s3); rw [e4] at this; exact this
      have HQ : Hid (rReq l limR (rManyR l limR.seen) = (({ rq0 with kind := (((3) : Nat) : Int), ses := (se : Int), kk := (kk : Int), kc := kc % 256 } : Rq), s4)) := Lib.hid (by
        have e3' : rU l limR.kk s2 = (kk, s3) := e3
        have e4' : rU l limR.kc s3 = (kc, s4) := e4
        rw [HR.out]; unfold rTail; rw [if_pos rfl, e3']; simp only; rw [e4'])
      have E3 := Lib.hid e3
      have E4 := Lib.hid e4
      clear e3 e4
      have wkc : IntKind.u8.wrap (kc : Int) = ((kc % 256 : Nat) : Int) := by rw [IntKind.wrap_u8]; omega
      have hc := uintR_read (w.heap.size + 1) A n c l s2 _ D2.out.rd (HS.out.keep D2.out.bel).rb (by omega) (by have := L2.out; omega)
      rw [E3.out] at hc
      have HC := Lib.hid hc
      clear hc
      go_wp2_with fail
      refine HC.out.mono ?_
      rintro e w3 ⟨rfl, hr, hu⟩
      have D2' := Lib.hid (D2.out.step hu hr)
      clear HC hr hu D2
      have x2 := Blk.cell D2'.out.rq 2
      have f2 := Blk.frozen D2'.out.rq 2
      simp [Req.cells] at x2
      have D3 := Lib.hid (D2'.out.set_ (r' := (⟨((3 : Nat) : Int), (se : Int), (kk : Int), 0, ⟨#[]⟩, ⟨#[]⟩, false, ⟨#[]⟩, none, 0, 0, none, 0, 0⟩ : Req)) 2 (.int .i64 (kk : Int)) rfl)
      have hc := uintR_read (w.heap.size + 1) A n c l s3 _ D3.out.rd (HS.out.keep D3.out.bel).rb (by omega) (by have := L3.out; omega)
      rw [E4.out] at hc
      have HC := Lib.hid hc
      clear hc
      go_wp2_with fail
      refine HC.out.mono ?_
      rintro e w4 ⟨rfl, hr, hu⟩
      have D3' := Lib.hid (D3.out.step hu hr)
      clear HC hr hu D3
      have x3 := Blk.cell D3'.out.rq 3
      have f3 := Blk.frozen D3'.out.rq 3
      simp [Req.cells] at x3
      have D4 := Lib.hid (D3'.out.set_ (r' := (⟨((3 : Nat) : Int), (se : Int), (kk : Int), (kc % 256), ⟨#[]⟩, ⟨#[]⟩, false, ⟨#[]⟩, none, 0, 0, none, 0, 0⟩ : Req)) 3 (.int .u8 ((kc % 256 : Nat) : Int)) rfl)
      obtain ⟨y, hy⟩ : ∃ y, y = kc % 256 := ⟨_, rfl⟩
      have hy2 : y < 256 := by omega
      rw [← hy] at wkc D4
      have HY := Lib.hid hy
      clear hy M4
      go_wp2_with fail
      go_meet
      exact ⟨_, _, _, D4.out, ⟨RI.nil _ _, sb_nil _, ⟨rfl, rfl, rfl, HY.out.symm, rfl, rfl, rfl, rfl, rfl, rfl, rfl⟩, Nat.zero_le _, Nat.zero_le _, Nat.zero_le _, Nat.zero_le _, Nat.zero_le _, (by simp; omega)⟩, (fun ad h => by cases h), (fun ad h => by cases h), HQ.out, Nat.zero_le _, Nat.zero_le _, Nat.zero_le _⟩
    by_cases k4 : k = 4
    · subst k4
      obtain ⟨be, s3, e3⟩ : ∃ be s3, rT l s2 = (be, s3) := ⟨_, _, rfl⟩
      have L3 : Hid (s3.1 ≤ n) := Lib.hid (by have := rT_le (l := l) (s := s2) (by have := L2.out; omega); rw [e3] at this; simp only at this; omega)
      have M3 : be.length ≤ n := by have := rT_len (l := l) (s := s2) (by have := L2.out; omega); rw [e3] at this; simp only at this; omega
      obtain ⟨sl, s4, e4⟩ : ∃ sl s4, rT l s3 = (sl, s4) := ⟨_, _, rfl⟩
      have M4 : sl.length ≤ n := by have := rT_len (l := l) (s := s3) (by have := L3.out; omega); rw [e4] at this; simp only at this; omega
      have HQ : Hid (rReq l limR (rManyR l limR.seen) = (({ rq0 with kind := (((4) : Nat) : Int), ses := (se : Int), bef := ba be, sel := ba sl } : Rq), s4)) := Lib.hid (by
        rw [HR.out]; unfold rTail; rw [if_neg (by decide), if_pos rfl, e3]; simp only; rw [e4])
      have E3 := Lib.hid e3
      have E4 := Lib.hid e4
      clear e3 e4
      have hc := textQ_read (w.heap.size + 1) A n c l s2 _ D2.out.rd (HS.out.keep D2.out.bel) (by omega) (by have := L2.out; omega)
      rw [E3.out] at hc
      have HC := Lib.hid hc
      clear hc
      go_wp2_with fail
      refine HC.out.mono ?_
      rintro e w3 ⟨rfl, hr, hu⟩
      have D2' := Lib.hid (D2.out.step hu hr)
      clear HC hr hu D2
      have x4 := Blk.cell D2'.out.rq 4
      have f4 := Blk.frozen D2'.out.rq 4
      simp [Req.cells] at x4
      have D3 := Lib.hid (D2'.out.set_ (r' := (⟨((4 : Nat) : Int), (se : Int), 0, 0, ba be, ⟨#[]⟩, false, ⟨#[]⟩, none, 0, 0, none, 0, 0⟩ : Req)) 4 (.string (ba be)) rfl)
      have hc := textQ_read (w.heap.size + 1) A n c l s3 _ D3.out.rd (HS.out.keep D3.out.bel) (by omega) (by have := L3.out; omega)
      rw [E4.out] at hc
      have HC := Lib.hid hc
      clear hc
      go_wp2_with fail
      refine HC.out.mono ?_
      rintro e w4 ⟨rfl, hr, hu⟩
      have D3' := Lib.hid (D3.out.step hu hr)
      clear HC hr hu D3
      have x5 := Blk.cell D3'.out.rq 5
      have f5 := Blk.frozen D3'.out.rq 5
      simp [Req.cells] at x5
      have D4 := Lib.hid (D3'.out.set_ (r' := (⟨((4 : Nat) : Int), (se : Int), 0, 0, ba be, ba sl, false, ⟨#[]⟩, none, 0, 0, none, 0, 0⟩ : Req)) 5 (.string (ba sl)) rfl)
      go_wp2_with fail
      go_meet
      exact ⟨_, _, _, D4.out, ⟨RI.nil _ _, sb_nil _, ⟨rfl, rfl, rfl, rfl, rfl, rfl, rfl, rfl, rfl, rfl, rfl⟩, Nat.zero_le _, Nat.zero_le _, (by show (ba be).size ≤ _; rw [ba_len]; omega), (by show (ba sl).size ≤ _; rw [ba_len]; omega), Nat.zero_le _, (show (0 : Nat) < 256 by decide)⟩, (fun ad h => by cases h), (fun ad h => by cases h), HQ.out, (by show (ba be).size ≤ _; rw [ba_len]; omega), (by show (ba sl).size ≤ _; rw [ba_len]; omega), Nat.zero_le _⟩
    by_cases k5 : k = 5
    · subst k5
      obtain ⟨o, s3, e3⟩ : ∃ o s3, rU l 1099511627776 s2 = (o, s3) := ⟨_, _, rfl⟩
      have HQ : Hid (rReq l limR (rManyR l limR.seen) = (({ rq0 with kind := (((5) : Nat) : Int), ses := (se : Int), on := o == 1 } : Rq), s3)) := Lib.hid (by
        have e3' : rU l limR.on s2 = (o, s3) := e3
        rw [HR.out]; unfold rTail; rw [if_neg (by decide), if_neg (by decide), if_pos rfl, e3'])
      have E3 := Lib.hid e3
      clear e3
      have hc := uintR_read (w.heap.size + 1) A n c l s2 _ D2.out.rd (HS.out.keep D2.out.bel).rb (by omega) (by have := L2.out; omega)
      rw [E3.out] at hc
      have HC := Lib.hid hc
      clear hc
      go_wp2_with fail
      refine HC.out.mono ?_
      rintro e w3 ⟨rfl, hr, hu⟩
      have D2' := Lib.hid (D2.out.step hu hr)
      clear HC hr hu D2
      have x6 := Blk.cell D2'.out.rq 6
      have f6 := Blk.frozen D2'.out.rq 6
      simp [Req.cells] at x6
      have D3 := Lib.hid (D2'.out.set_ (r' := (⟨((5 : Nat) : Int), (se : Int), 0, 0, ⟨#[]⟩, ⟨#[]⟩, ((o : Int) == 1), ⟨#[]⟩, none, 0, 0, none, 0, 0⟩ : Req)) 6 (.bool ((o : Int) == 1)) rfl)
      go_wp2_with fail
      go_meet
      exact ⟨_, _, _, D3.out, ⟨RI.nil _ _, sb_nil _, ⟨rfl, rfl, rfl, rfl, rfl, rfl, (by rw [Bool.eq_iff_iff]; simp; omega), rfl, rfl, rfl, rfl⟩, Nat.zero_le _, Nat.zero_le _, Nat.zero_le _, Nat.zero_le _, Nat.zero_le _, (show (0 : Nat) < 256 by decide)⟩, (fun ad h => by cases h), (fun ad h => by cases h), HQ.out, Nat.zero_le _, Nat.zero_le _, Nat.zero_le _⟩
    by_cases k6 : k = 6
    · subst k6
      obtain ⟨su, s3, e3⟩ : ∃ su s3, rT l s2 = (su, s3) := ⟨_, _, rfl⟩
      have M3 : su.length ≤ n := by have := rT_len (l := l) (s := s2) (by have := L2.out; omega); rw [e3] at this; simp only at this; omega
      have HQ : Hid (rReq l limR (rManyR l limR.seen) = (({ rq0 with kind := (((6) : Nat) : Int), ses := (se : Int), sur := ba su } : Rq), s3)) := Lib.hid (by
        rw [HR.out]; unfold rTail; rw [if_neg (by decide), if_neg (by decide), if_neg (by decide), if_pos rfl, e3])
      have E3 := Lib.hid e3
      clear e3
      have hc := textQ_read (w.heap.size + 1) A n c l s2 _ D2.out.rd (HS.out.keep D2.out.bel) (by omega) (by have := L2.out; omega)
      rw [E3.out] at hc
      have HC := Lib.hid hc
      clear hc
      go_wp2_with fail
      refine HC.out.mono ?_
      rintro e w3 ⟨rfl, hr, hu⟩
      have D2' := Lib.hid (D2.out.step hu hr)
      clear HC hr hu D2
      have x7 := Blk.cell D2'.out.rq 7
      have f7 := Blk.frozen D2'.out.rq 7
      simp [Req.cells] at x7
      have D3 := Lib.hid (D2'.out.set_ (r' := (⟨((6 : Nat) : Int), (se : Int), 0, 0, ⟨#[]⟩, ⟨#[]⟩, false, ba su, none, 0, 0, none, 0, 0⟩ : Req)) 7 (.string (ba su)) rfl)
      go_wp2_with fail
      go_meet
      exact ⟨_, _, _, D3.out, ⟨RI.nil _ _, sb_nil _, ⟨rfl, rfl, rfl, rfl, rfl, rfl, rfl, rfl, rfl, rfl, rfl⟩, Nat.zero_le _, Nat.zero_le _, Nat.zero_le _, Nat.zero_le _, (by show (ba su).size ≤ _; rw [ba_len]; omega), (show (0 : Nat) < 256 by decide)⟩, (fun ad h => by cases h), (fun ad h => by cases h), HQ.out, Nat.zero_le _, Nat.zero_le _, (by show (ba su).size ≤ _; rw [ba_len]; omega)⟩
    by_cases k7 : k = 7
    · subst k7
      obtain ⟨cnt, s3, e3⟩ : ∃ cnt s3, rU l 1099511627776 s2 = (cnt, s3) := ⟨_, _, rfl⟩
      have L3 : Hid (s3.1 ≤ n) := Lib.hid (by have := rU_le (most := 1099511627776) (l := l) (s := s2) (by have := L2.out; omega); rw [e3] at this; simp only at this; omega)
      have PD3 : Hid (Paid 0 s3) := Lib.hid (by have := Paid.more (l := l) (most := 1099511627776) PD2.out; rw [e3] at this; exact this)
      have M3 : cnt ≤ 1099511627776 := by have := rU_most (l := l) (most := 1099511627776) (s := s2); rw [e3] at this; exact this
      obtain ⟨zs, s4, e4⟩ : ∃ zs s4, rManyR l 1099511627776 cnt s3 = (zs, s4) := ⟨_, _, rfl⟩
      have HQ : Hid (rReq l limR (rManyR l limR.seen) = (({ rq0 with kind := (((7) : Nat) : Int), ses := (se : Int), seen := zs } : Rq), s4)) := Lib.hid (by
        have e3' : rU l limR.cnt s2 = (cnt, s3) := e3
        have e4' : rManyR l limR.seen cnt s3 = (zs, s4) := e4
        rw [HR.out]; unfold rTail; rw [if_neg (by decide), if_neg (by decide), if_neg (by decide), if_neg (by decide), if_pos rfl, e3']; simp only; rw [e4'])
      have E3 := Lib.hid e3
      have E4 := Lib.hid e4
      clear e3 e4
      have hc := uintR_read (w.heap.size + 1) A n c l s2 _ D2.out.rd (HS.out.keep D2.out.bel).rb (by omega) (by have := L2.out; omega)
      rw [E3.out] at hc
      have HC := Lib.hid hc
      clear hc
      go_wp2_with fail
      refine HC.out.mono ?_
      rintro e w3 ⟨rfl, hr, hu⟩
      have D3 := Lib.hid (D2.out.step hu hr)
      clear HC hr hu D2 x0
      go_wp2_with fail
      go_loopw [6] (fun i wr => P7R w w1.heap.size A n c l se zs s4 i wr) (fun i _ => (intOf i).toNat)
      case atStart => exact ⟨cnt, 0, none, 0, [], zs, s3, M3, rfl, D3.out, own_nil _ _ _ _, rfl, E4.out, L3.out, PD3.out⟩
      case round =>
        obtain ⟨m, j, A7, c7, ys, rest, s, hm, rfl, hde, hown, hzs, hmany, hsn, hpd⟩ := hrel
        have DD := Lib.hid hde
        have OWN := Lib.hid hown
        have HZS := Lib.hid hzs
        have LS := Lib.hid hsn
        have PD := Lib.hid hpd
        have hjn : j ≤ n := Nat.le_trans hpd.1 hsn
        have hyl : ys.length = j := by have := hown.1; rw [is_length] at this; omega
        clear hde hown hzs hsn hpd D3
        rcases m with _ | m
        · obtain ⟨hr1, hr2⟩ := Prod.mk.inj hmany
          subst hr1
          subst s
          have hyz : ys = zs := by have := HZS.out; rw [List.append_nil] at this; exact this.symm
          subst ys
          clear hmany HZS
          go_wp2_with fail
          go_meet
          exact ⟨_, _, _, DD.out, ⟨(RI.of_own OWN.out), sb_nil _, ⟨rfl, rfl, rfl, rfl, rfl, rfl, rfl, rfl, rfl, hyl, rfl⟩, (by simp only; omega), Nat.zero_le _, Nat.zero_le _, Nat.zero_le _, Nat.zero_le _, (show (0 : Nat) < 256 by decide)⟩, (fun ad h => by have := own_block_le OWN.out ad h; have := DD.out.lo; omega), (fun ad h => by cases h), HQ.out, Nat.zero_le _, Nat.zero_le _, Nat.zero_le _⟩
        · rcases hb : s.2 with _ | _
          · rw [rManyR_good hb] at hmany
            obtain ⟨v, s', hv⟩ : ∃ v s', rU l 1099511627776 s = (v, s') := ⟨_, _, rfl⟩
            have hvm : v ≤ 1099511627776 := by have := rU_most (l := l) (most := 1099511627776) (s := s); rw [hv] at this; exact this
            have hsn' : s'.1 ≤ n := by have := rU_le (most := 1099511627776) (l := l) (s := s) (by have := LS.out; omega); rw [hv] at this; simp only at this; omega
            have PD' : Hid (Paid (j + 1) s') := Lib.hid (by have := Paid.uint (l := l) (most := 1099511627776) PD.out hb; rw [hv] at this; exact this)
            have LS' := Lib.hid hsn'
            rw [hv] at hmany
            obtain ⟨rest', sx, hmx⟩ : ∃ r' sx, rManyR l 1099511627776 m s' = (r', sx) := ⟨_, _, rfl⟩
            simp only [hmx] at hmany
            obtain ⟨rfl, rfl⟩ := Prod.mk.inj hmany
            have HMX := Lib.hid hmx
            have HV := Lib.hid hv
            clear hmany hv hmx hsn' PD
            have y2 : wr.cell? ⟨w.heap.size + 1, 2, none⟩ = some (.bool false) := by have := Blk.cell DD.out.rd 2; rw [hb] at this; exact this
            clear hb
            have HC := Lib.hid (fun (wz : World) (h1 : RdR wz (w.heap.size + 1) A n c s) (h2 : RB wz A n l) => show Calls Tryd.prog 50 #[.pointer (some ⟨w.heap.size + 1, 0, none⟩)] wz (fun e w' => e = .returned (.int .i64 (v : Int)) ∧ RdR w' (w.heap.size + 1) A n c s' ∧ Upd (w.heap.size + 1) wz w') from by
              have := uintR_read (w.heap.size + 1) A n c l s wz h1 h2 (by omega) (by have := LS.out; omega)
              rw [HV.out] at this
              exact this)
            obtain ⟨i0, hi, hz0, hz1, hz2⟩ := info_parts infoInt
            have HI := Lib.hid hi
            clear hi
            have hlo := DD.out.lo
            have x8 : wr.cell? ⟨w1.heap.size, 8, none⟩ = some (.slice A7 j c7) := Blk.cell DD.out.rq 8
            have f8 := Blk.frozen DD.out.rq 8
            have hgl := DD.out.rq.lt
            go_wp2_with fail
            go_region_law (first
                | (refine step_append_any _ (by rfl) (.tmp 69) (.tmp 72) _ (by rfl) (w1.heap.size + 1) 3 i0 _ 1 8 Tryd.underlying24 HI.out hz0 hz1 hz2 rfl (by decide) _ j (is .i64 ys) (by rfl) (by exact (OA.out.alloc _)) _ _ _ _ [.int .i64 (v : Int)] (by rfl) (by exact Reads.lit _ _ _ _ _ [.int .i64 (v : Int)] rfl rfl) (by intro u hu; simp at hu; subst hu; rfl) (by unfold maxLen; omega) (by omega) (by simp; omega) ?_; intro v4 w4 hown4 hg4 hat4; have D4 := Lib.hid ((DA.out.alloc _).grow (by exact hg4) (fun k hk => by have := ((OA.out.alloc (.cells #[.int .i64 (v : Int)] 3)).lt k hk).1; omega)); obtain ⟨A4, c4, rfl, _, _⟩ := own_slice hown4; have O4 := Lib.hid hown4; have hcc : w4.cell? ⟨w1.heap.size, 8, none⟩ = some (.slice A7 j c7) := Blk.cell D4.out.rq 8; have f8' := Blk.frozen D4.out.rq 8; clear hown4 hg4 hat4)
                | (go_simp; go_at_call 50; (with_reducible refine (HC.out _ ?_ ?_).mono ?_); (· exact DD.out.rd); (· exact (HS.out.keep DD.out.bel).rb); rintro e wa ⟨rfl, hra, hua⟩; have hua2 : Upd (w.heap.size + 1) wr wa := (((Upd.refl (w.heap.size + 1) wr).drew).trans hua); have DA := Lib.hid (DD.out.step hua2 hra); have OA := Lib.hid (own_upd OWN.out hua2 (by omega)); have hcc : wa.cell? ⟨w1.heap.size, 8, none⟩ = some (.slice A7 j c7) := Blk.cell DA.out.rq 8; have hza := hua2.size; have hga : w1.heap.size < wa.heap.size := (by omega); clear hua hua2 hra))
            all_goals
              clear hcc
              go_wp2_with fail
              go_roundw
              case rel => exact ⟨m, j + 1, A4, c4, ys ++ [(v : Int)], rest', s', by omega, by go_num, D4.out.set_ 8 _ rfl, by rw [is_append]; exact own_upd O4.out ((Upd.refl w1.heap.size _).set_ 8 _) (by omega), by rw [HZS.out, List.append_assoc]; rfl, HMX.out, LS'.out, PD'.out⟩
              case measure => simp [intOf]
          · rw [rManyR_bad hb] at hmany
            obtain ⟨hr1, hr2⟩ := Prod.mk.inj hmany
            subst hr1
            subst hr2
            have hyz : ys = zs := by have := HZS.out; rw [List.append_nil] at this; exact this.symm
            subst ys
            have y2 : wr.cell? ⟨w.heap.size + 1, 2, none⟩ = some (.bool true) := by have := Blk.cell DD.out.rd 2; rw [hb] at this; exact this
            clear hmany HZS hb
            go_wp2_with fail
            go_meet
            exact ⟨_, _, _, DD.out, ⟨(RI.of_own OWN.out), sb_nil _, ⟨rfl, rfl, rfl, rfl, rfl, rfl, rfl, rfl, rfl, hyl, rfl⟩, (by simp only; omega), Nat.zero_le _, Nat.zero_le _, Nat.zero_le _, Nat.zero_le _, (show (0 : Nat) < 256 by decide)⟩, (fun ad h => by have := own_block_le OWN.out ad h; have := DD.out.lo; omega), (fun ad h => by cases h), HQ.out, Nat.zero_le _, Nat.zero_le _, Nat.zero_le _⟩
    by_cases k8 : k = 8
    · subst k8
      obtain ⟨da, s3, e3⟩ : ∃ da s3, rT l s2 = (da, s3) := ⟨_, _, rfl⟩
      have M3 : da.length ≤ n := by have := rT_len (l := l) (s := s2) (by have := L2.out; omega); rw [e3] at this; simp only at this; omega
      have HQ : Hid (rReq l limR (rManyR l limR.seen) = (({ rq0 with kind := (((8) : Nat) : Int), ses := (se : Int), data := da } : Rq), s3)) := Lib.hid (by
        rw [HR.out]; unfold rTail; rw [if_neg (by decide), if_neg (by decide), if_neg (by decide), if_neg (by decide), if_neg (by decide), if_pos rfl, e3])
      have E3 := Lib.hid e3
      clear e3
      have hc := textQ_read (w.heap.size + 1) A n c l s2 _ D2.out.rd (HS.out.keep D2.out.bel) (by omega) (by have := L2.out; omega)
      rw [E3.out] at hc
      have HC := Lib.hid hc
      clear hc
      go_wp2_with fail
      refine HC.out.mono ?_
      rintro e w3 ⟨rfl, hr, hu⟩
      have D2' := Lib.hid (D2.out.step hu hr)
      clear HC hr hu D2
      obtain ⟨W3, c8, hcv, hb3, hsb3⟩ := conv_bytes w3 da
      have hlo8 : w.heap.size < w3.heap.size := by have := D2'.out.rq.lt; have := D2'.out.lo; omega
      have S3 := Lib.hid hsb3
      have D3 := Lib.hid (D2'.out.keep hb3)
      clear hb3 hsb3
      have x9 : W3.cell? ⟨w1.heap.size, 9, none⟩ = some (.slice none 0 0) := Blk.cell D3.out.rq 9
      have f9 := Blk.frozen D3.out.rq 9
      have D4 := Lib.hid (D3.out.set_ (r' := (⟨((8 : Nat) : Int), (se : Int), 0, 0, ⟨#[]⟩, ⟨#[]⟩, false, ⟨#[]⟩, none, 0, 0, (some ⟨w3.heap.size, 0, none⟩), da.length, c8⟩ : Req)) 9 (.slice (some ⟨w3.heap.size, 0, none⟩) da.length c8) rfl)
      have S4 := Lib.hid (SB.upd S3.out ((Upd.refl w1.heap.size _).set_ 9 (.slice (some ⟨w3.heap.size, 0, none⟩) da.length c8)) (fun ad e => by cases e; have := D2'.out.rq.lt; simp; omega))
      clear D2' S3
      go_wp2_with fail
      go_meet
      exact ⟨_, _, _, D4.out, ⟨RI.nil _ _, S4.out, ⟨rfl, rfl, rfl, rfl, rfl, rfl, rfl, rfl, rfl, rfl, rfl⟩, Nat.zero_le _, (by simp; omega), Nat.zero_le _, Nat.zero_le _, Nat.zero_le _, (show (0 : Nat) < 256 by decide)⟩, (fun ad h => by cases h), (fun ad h => by cases h; exact hlo8), HQ.out, Nat.zero_le _, Nat.zero_le _, Nat.zero_le _⟩
    ·
      have b3 : ((k : Int) == 3) = false := by rw [beq_eq_false_iff_ne]; omega
      have b4 : ((k : Int) == 4) = false := by rw [beq_eq_false_iff_ne]; omega
      have b5 : ((k : Int) == 5) = false := by rw [beq_eq_false_iff_ne]; omega
      have b6 : ((k : Int) == 6) = false := by rw [beq_eq_false_iff_ne]; omega
      have b7 : ((k : Int) == 7) = false := by rw [beq_eq_false_iff_ne]; omega
      have b8 : ((k : Int) == 8) = false := by rw [beq_eq_false_iff_ne]; omega
      have HQ : Hid (rReq l limR (rManyR l limR.seen) = (({ rq0 with kind := (k : Int), ses := (se : Int) } : Rq), s2)) := Lib.hid (by
        rw [HR.out]; unfold rTail; rw [if_neg k3, if_neg k4, if_neg k5, if_neg k6, if_neg k7, if_neg k8])
      clear k3 k4 k5 k6 k7 k8
      go_wp2_with fail
      go_meet
      exact ⟨_, _, _, D2.out, ⟨RI.nil _ _, sb_nil _, ⟨rfl, rfl, rfl, rfl, rfl, rfl, rfl, rfl, rfl, rfl, rfl⟩, Nat.zero_le _, Nat.zero_le _, Nat.zero_le _, Nat.zero_le _, Nat.zero_le _, (show (0 : Nat) < 256 by decide)⟩, (fun ad h => by cases h), (fun ad h => by cases h), HQ.out, Nat.zero_le _, Nat.zero_le _, Nat.zero_le _⟩
  obtain ⟨r, q, ⟨a, b⟩, hd, hq, h7, h8, hR, z4, z5, z7⟩ := hcut
  have D := Lib.hid hd
  have Q := Lib.hid hq
  have F7 := Lib.hid h7
  have F8 := Lib.hid h8
  have HD := Lib.hid (decR_ref hR)
  clear hd hq h7 h8 hR x0 D2 hkm
  rename World => wd
  have HE := Lib.hid (encR_any r q wd Q.out (by omega) (by omega) (by omega))
  clear z4 z5 z7
  obtain ⟨kind, ses, kk, kc, be, sl, on, su, A7, n7, c7, A8, n8, c8⟩ := r
  unfold Req.cells at HE
  simp only at HE F7 F8
  have x0 : wd.cell? ⟨w1.heap.size, 0, none⟩ = some (.int .i64 kind) := Blk.cell D.out.rq 0
  have x1 : wd.cell? ⟨w1.heap.size, 1, none⟩ = some (.int .i64 ses) := Blk.cell D.out.rq 1
  have x2 : wd.cell? ⟨w1.heap.size, 2, none⟩ = some (.int .i64 kk) := Blk.cell D.out.rq 2
  have x3 : wd.cell? ⟨w1.heap.size, 3, none⟩ = some (.int .u8 (kc : Int)) := Blk.cell D.out.rq 3
  have x4 : wd.cell? ⟨w1.heap.size, 4, none⟩ = some (.string be) := Blk.cell D.out.rq 4
  have x5 : wd.cell? ⟨w1.heap.size, 5, none⟩ = some (.string sl) := Blk.cell D.out.rq 5
  have x6 : wd.cell? ⟨w1.heap.size, 6, none⟩ = some (.bool on) := Blk.cell D.out.rq 6
  have x7 : wd.cell? ⟨w1.heap.size, 7, none⟩ = some (.string su) := Blk.cell D.out.rq 7
  have x8 : wd.cell? ⟨w1.heap.size, 8, none⟩ = some (.slice A7 n7 c7) := Blk.cell D.out.rq 8
  have x9 : wd.cell? ⟨w1.heap.size, 9, none⟩ = some (.slice A8 n8 c8) := Blk.cell D.out.rq 9
  go_wp2_with fail
  refine HE.out.mono ?_
  rintro e w5 ⟨hb5, hpost⟩
  clear HE x0 x1 x2 x3 x4 x5 x6 x7 x8 x9
  have D5 := Lib.hid (D.out.keep hb5)
  have Q5 := Lib.hid (Q.out.keep hb5)
  clear hb5 D Q
  have z0 : w5.cell? ⟨w.heap.size, 0, none⟩ = some (.int .i64 0) := Blk.cell D5.out.res 0
  have g0 := Blk.frozen D5.out.res 0
  have z1 : w5.cell? ⟨w.heap.size, 1, none⟩ = some (.int .i64 0) := Blk.cell D5.out.res 1
  have g1 := Blk.frozen D5.out.res 1
  have z2 : w5.cell? ⟨w.heap.size, 2, none⟩ = some (.int .i64 0) := Blk.cell D5.out.res 2
  have g2 := Blk.frozen D5.out.res 2
  have z3 : w5.cell? ⟨w.heap.size, 3, none⟩ = some (.int .u8 0) := Blk.cell D5.out.res 3
  have g3 := Blk.frozen D5.out.res 3
  have z4 : w5.cell? ⟨w.heap.size, 4, none⟩ = some (.string ⟨#[]⟩) := Blk.cell D5.out.res 4
  have g4 := Blk.frozen D5.out.res 4
  have z5 : w5.cell? ⟨w.heap.size, 5, none⟩ = some (.string ⟨#[]⟩) := Blk.cell D5.out.res 5
  have g5 := Blk.frozen D5.out.res 5
  have z6 : w5.cell? ⟨w.heap.size, 6, none⟩ = some (.bool false) := Blk.cell D5.out.res 6
  have g6 := Blk.frozen D5.out.res 6
  have z7 : w5.cell? ⟨w.heap.size, 7, none⟩ = some (.string ⟨#[]⟩) := Blk.cell D5.out.res 7
  have g7 := Blk.frozen D5.out.res 7
  have z8 : w5.cell? ⟨w.heap.size, 8, none⟩ = some (.slice none 0 0) := Blk.cell D5.out.res 8
  have g8 := Blk.frozen D5.out.res 8
  have z9 : w5.cell? ⟨w.heap.size, 9, none⟩ = some (.slice none 0 0) := Blk.cell D5.out.res 9
  have g9 := Blk.frozen D5.out.res 9
  have y2 : w5.cell? ⟨w.heap.size + 1, 2, none⟩ = some (.bool b) := Blk.cell D5.out.rd 2
  rcases hpost with ⟨hck, A', n', c', rfl, hs5⟩ | ⟨hck, rfl⟩
  · have CK := Lib.hid hck
    have c1 := hs5.rb.run_string (P := Tryd.prog) c' 25 5 9 Tryd.underlying25 Tryd.underlying5 Tryd.underlying9
    have c2 := (HS.out.keep D5.out.bel).rb.run_string (P := Tryd.prog) c 25 5 9 Tryd.underlying25 Tryd.underlying5 Tryd.underlying9
    clear hck hs5
    rcases b with _ | _
    · by_cases hcl : codeR q = l
      · have HCL := Lib.hid hcl
        rw [hcl] at c1
        clear hcl
        generalize (⟨l.toArray⟩ : ByteArray) = D at c1 c2
        have x0 : w5.cell? ⟨w1.heap.size, 0, none⟩ = some (.int .i64 kind) := Blk.cell D5.out.rq 0
        have x1 : w5.cell? ⟨w1.heap.size, 1, none⟩ = some (.int .i64 ses) := Blk.cell D5.out.rq 1
        have x2 : w5.cell? ⟨w1.heap.size, 2, none⟩ = some (.int .i64 kk) := Blk.cell D5.out.rq 2
        have x3 : w5.cell? ⟨w1.heap.size, 3, none⟩ = some (.int .u8 (kc : Int)) := Blk.cell D5.out.rq 3
        have x4 : w5.cell? ⟨w1.heap.size, 4, none⟩ = some (.string be) := Blk.cell D5.out.rq 4
        have x5 : w5.cell? ⟨w1.heap.size, 5, none⟩ = some (.string sl) := Blk.cell D5.out.rq 5
        have x6 : w5.cell? ⟨w1.heap.size, 6, none⟩ = some (.bool on) := Blk.cell D5.out.rq 6
        have x7 : w5.cell? ⟨w1.heap.size, 7, none⟩ = some (.string su) := Blk.cell D5.out.rq 7
        have x8 : w5.cell? ⟨w1.heap.size, 8, none⟩ = some (.slice A7 n7 c7) := Blk.cell D5.out.rq 8
        have x9 : w5.cell? ⟨w1.heap.size, 9, none⟩ = some (.slice A8 n8 c8) := Blk.cell D5.out.rq 9
        go_wp2_with fail
        exact bodyPost_ret (v := .tuple #[.agg #[.int .i64 kind, .int .i64 ses, .int .i64 kk, .int .u8 (kc : Int), .string be, .string sl, .bool on, .string su, .slice A7 n7 c7, .slice A8 n8 c8], .int .i64 0]) (by simp [results, Tryd.results25, go_sem, *]) rfl (DPostR.good (r := (⟨kind, ses, kk, kc, be, sl, on, su, A7, n7, c7, A8, n8, c8⟩ : Req)) (((((((((((D5.out.bel).setCell (p := ⟨w.heap.size, 0, none⟩) (Nat.le_refl _) _).setCell (p := ⟨w.heap.size, 1, none⟩) (Nat.le_refl _) _).setCell (p := ⟨w.heap.size, 2, none⟩) (Nat.le_refl _) _).setCell (p := ⟨w.heap.size, 3, none⟩) (Nat.le_refl _) _).setCell (p := ⟨w.heap.size, 4, none⟩) (Nat.le_refl _) _).setCell (p := ⟨w.heap.size, 5, none⟩) (Nat.le_refl _) _).setCell (p := ⟨w.heap.size, 6, none⟩) (Nat.le_refl _) _).setCell (p := ⟨w.heap.size, 7, none⟩) (Nat.le_refl _) _).setCell (p := ⟨w.heap.size, 8, none⟩) (Nat.le_refl _) _).setCell (p := ⟨w.heap.size, 9, none⟩) (Nat.le_refl _) _) (Q5.out.upd (((((((((((Upd.refl w.heap.size _).set_ 0 _).set_ 1 _).set_ 2 _).set_ 3 _).set_ 4 _).set_ 5 _).set_ 6 _).set_ 7 _).set_ 8 _).set_ 9 _) (fun ad e => Nat.ne_of_gt (F7.out ad e)) (fun ad e => Nat.ne_of_gt (F8.out ad e))) (HD.out.1 ⟨by trivial, CK.out, HCL.out⟩))
      · have hne : ((⟨(codeR q).toArray⟩ : ByteArray).toList == (⟨l.toArray⟩ : ByteArray).toList) = false := by
          rw [ByteArray.toList_eq, ByteArray.toList_eq, beq_eq_false_iff_ne]
          exact hcl
        have HCL := Lib.hid hcl
        clear hcl
        generalize (⟨(codeR q).toArray⟩ : ByteArray) = D1 at c1 hne
        generalize (⟨l.toArray⟩ : ByteArray) = D2 at c2 hne
        go_wp2_with fail
        exact bodyPost_ret (v := .tuple #[.agg #[.int .i64 0, .int .i64 0, .int .i64 0, .int .u8 0, .string ⟨#[]⟩, .string ⟨#[]⟩, .bool false, .string ⟨#[]⟩, .slice none 0 0, .slice none 0 0], .int .i64 5]) (by simp [results, Tryd.results25, go_sem, *]) rfl (DPostR.bad (((((((((((D5.out.bel).setCell (p := ⟨w.heap.size, 0, none⟩) (Nat.le_refl _) _).setCell (p := ⟨w.heap.size, 1, none⟩) (Nat.le_refl _) _).setCell (p := ⟨w.heap.size, 2, none⟩) (Nat.le_refl _) _).setCell (p := ⟨w.heap.size, 3, none⟩) (Nat.le_refl _) _).setCell (p := ⟨w.heap.size, 4, none⟩) (Nat.le_refl _) _).setCell (p := ⟨w.heap.size, 5, none⟩) (Nat.le_refl _) _).setCell (p := ⟨w.heap.size, 6, none⟩) (Nat.le_refl _) _).setCell (p := ⟨w.heap.size, 7, none⟩) (Nat.le_refl _) _).setCell (p := ⟨w.heap.size, 8, none⟩) (Nat.le_refl _) _).setCell (p := ⟨w.heap.size, 9, none⟩) (Nat.le_refl _) _) (HD.out.2 (fun h => HCL.out h.2.2)))
    · go_wp2_with fail
      exact bodyPost_ret (v := .tuple #[.agg #[.int .i64 0, .int .i64 0, .int .i64 0, .int .u8 0, .string ⟨#[]⟩, .string ⟨#[]⟩, .bool false, .string ⟨#[]⟩, .slice none 0 0, .slice none 0 0], .int .i64 5]) (by simp [results, Tryd.results25, go_sem, *]) rfl (DPostR.bad (((((((((((D5.out.bel).setCell (p := ⟨w.heap.size, 0, none⟩) (Nat.le_refl _) _).setCell (p := ⟨w.heap.size, 1, none⟩) (Nat.le_refl _) _).setCell (p := ⟨w.heap.size, 2, none⟩) (Nat.le_refl _) _).setCell (p := ⟨w.heap.size, 3, none⟩) (Nat.le_refl _) _).setCell (p := ⟨w.heap.size, 4, none⟩) (Nat.le_refl _) _).setCell (p := ⟨w.heap.size, 5, none⟩) (Nat.le_refl _) _).setCell (p := ⟨w.heap.size, 6, none⟩) (Nat.le_refl _) _).setCell (p := ⟨w.heap.size, 7, none⟩) (Nat.le_refl _) _).setCell (p := ⟨w.heap.size, 8, none⟩) (Nat.le_refl _) _).setCell (p := ⟨w.heap.size, 9, none⟩) (Nat.le_refl _) _) (HD.out.2 (fun h => by cases h.1)))
  · have CK := Lib.hid hck
    have hne : (((chkR q : Nat) : Int) != 0) = true := by rw [bne_iff_ne]; omega
    clear hck
    generalize hz9 : chkR q = z9 at hne
    have HZ9 := Lib.hid hz9
    clear hz9
    rcases b with _ | _
    all_goals
      go_wp2_with fail
      exact bodyPost_ret (v := .tuple #[.agg #[.int .i64 0, .int .i64 0, .int .i64 0, .int .u8 0, .string ⟨#[]⟩, .string ⟨#[]⟩, .bool false, .string ⟨#[]⟩, .slice none 0 0, .slice none 0 0], .int .i64 5]) (by simp [results, Tryd.results25, go_sem, *]) rfl (DPostR.bad (((((((((((D5.out.bel).setCell (p := ⟨w.heap.size, 0, none⟩) (Nat.le_refl _) _).setCell (p := ⟨w.heap.size, 1, none⟩) (Nat.le_refl _) _).setCell (p := ⟨w.heap.size, 2, none⟩) (Nat.le_refl _) _).setCell (p := ⟨w.heap.size, 3, none⟩) (Nat.le_refl _) _).setCell (p := ⟨w.heap.size, 4, none⟩) (Nat.le_refl _) _).setCell (p := ⟨w.heap.size, 5, none⟩) (Nat.le_refl _) _).setCell (p := ⟨w.heap.size, 6, none⟩) (Nat.le_refl _) _).setCell (p := ⟨w.heap.size, 7, none⟩) (Nat.le_refl _) _).setCell (p := ⟨w.heap.size, 8, none⟩) (Nat.le_refl _) _).setCell (p := ⟨w.heap.size, 9, none⟩) (Nat.le_refl _) _) (HD.out.2 (fun h => CK.out h.2.1)))
end Go.Proofs.YtkllfnaofapfnaaDoor.Prot
