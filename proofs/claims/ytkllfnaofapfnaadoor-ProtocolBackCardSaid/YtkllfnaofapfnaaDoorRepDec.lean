/-
  The contract of DecodeReply of package protocol. Conditions: the bytes can be read, within the form's reach; the two tables of unicode/utf8 lie as their initialisers lay them. (Printed by gen/repdec.py.)
-/
import Derived.Test.YtkllfnaofapfnaaDoorRepDecW
import Derived.Test.YtkllfnaofapfnaaDoorRdrR
import Derived.Test.YtkllfnaofapfnaaDoorRepChk
import Derived.Deep.RegionHeld3
import Derived.Deep.RegionLaw
namespace Go.Proofs.YtkllfnaofapfnaaDoor.Prot
open Go.RowKit Wd Utf Cod
/-- the memory of DecodeReply: the result, the reader, the reply that is read -/
structure DR (w : World) (g : Nat) (A : Option Addr) (n c : Nat) (s : St) (r : Rep) (wx : World) : Prop where
  res : Blk wx w.heap.size 34 repZ.cells
  rd : Rd wx (w.heap.size + 1) A n c s
  rp : Blk wx g 34 r.cells
  lo : w.heap.size + 1 + 1 ≤ g
  bel : Below w.heap.size w wx
section
variable {w wx wy : World} {g : Nat} {A : Option Addr} {n c : Nat} {s s' : St} {r r' : Rep}
theorem DR.step (h : DR w g A n c s r wx) (hu : Upd (w.heap.size + 1) wx wy) (hr : Rd wy (w.heap.size + 1) A n c s') : DR w g A n c s' r wy :=
  ⟨Blk.grown h.res hu (by simp), hr, Blk.grown h.rp hu (by have := h.lo; simp; omega), h.lo, h.bel.trans (hu.below (B := w.heap.size) h.bel.size (by omega))⟩
theorem DR.set_ (h : DR w g A n c s r wx) (i : Nat) (u : Value) (hr : r'.cells = r.cells.setIfInBounds i u) : DR w g A n c s r' (wx.setCell ⟨g, i, none⟩ u) := by
  have hlo := h.lo
  refine ⟨Blk.far h.res (by simp; omega) u, Blk.far h.rd (by simp; omega) u, ?_, h.lo, h.bel.setCell (p := ⟨g, i, none⟩) (by simp; omega) u⟩
  rw [hr]
  exact Blk.set_ h.rp i u
theorem DR.keep (h : DR w g A n c s r wx) (hb : Below wx.heap.size wx wy) : DR w g A n c s r wy := ⟨h.res.below hb h.res.lt, Rd.keep h.rd hb, h.rp.below hb h.rp.lt, h.lo, h.bel.trans (hb.mono h.bel.size)⟩
theorem DR.grow (h : DR w g A n c s r wx) {row : Option Nat} (hg : wx.grownBy wy row) (hr : ∀ k, row = some k → g < k) : DR w g A n c s r wy := by
  have hlo := h.lo
  refine ⟨Blk.grown h.res hg ?_, Blk.grown h.rd hg ?_, Blk.grown h.rp hg ?_, h.lo, h.bel.grown hg h.bel.size (fun k hk => by have := hr k hk; omega)⟩
  all_goals
    intro e
    have := hr _ e.symm
    omega
theorem DR.alloc (h : DR w g A n c s r wx) (o : Obj) : DR w g A n c s r (wx.alloc o) := h.keep ((Below.refl _ _).alloc (Nat.le_refl _) o)
end
/-- what a round of reading runs keeps -/
def PRP (w : World) (g : Nat) (A : Option Addr) (n c : Nat) (l : List UInt8) (en sn cnt : Nat) (ps : List (ByteArray × Int)) (s4 : St) (i : Value) (wr : World) : Prop :=
  ∃ (j m : Nat) (A2 : Option Addr) (c2 : Nat) (ys rest : List (ByteArray × Int)) (s : St), j + m = cnt ∧ i = .int .i64 (j : Int) ∧ DR w g A n c s (⟨(en : Int), (sn : Int), A2, j, c2, 0, none, 0, 0, 0, ⟨#[]⟩, 0, false, none, 0, 0⟩ : Rep) wr ∧
    wr.ownsRow (g + 1) 69 2 (.slice A2 j c2) j (rc ys) ∧ ps = ys ++ rest ∧ rRuns l 4 m s = (rest, s4) ∧ s.1 ≤ n
/-- what a round of reading strings keeps -/
def PTP (w : World) (g : Nat) (A : Option Addr) (n c : Nat) (l : List UInt8) (en sn ca np : Nat) (A2 : Option Addr) (c2 : Nat) (ps : List (ByteArray × Int)) (cm : Nat) (ss : List ByteArray) (s7 : St) (i : Value) (wr : World) : Prop :=
  ∃ (j m : Nat) (A4 : Option Addr) (c4 : Nat) (ys rest : List ByteArray) (s : St), j + m = cm ∧ i = .int .i64 (j : Int) ∧ DR w g A n c s (⟨(en : Int), (sn : Int), A2, np, c2, (ca : Int), A4, j, c4, 0, ⟨#[]⟩, 0, false, none, 0, 0⟩ : Rep) wr ∧
    wr.ownsRow (g + 1) 69 2 (.slice A2 np c2) np (rc ps) ∧ wr.ownsRow (g + 1) 9 1 (.slice A4 j c4) j (vs ys) ∧ ss = ys ++ rest ∧ rTxts l m s = (rest, s7) ∧ s.1 ≤ n
set_option maxRecDepth 100000 in
set_option maxHeartbeats 16000000 in
theorem decRep_any (A : Option Addr) (n c : Nat) (l : List UInt8) (w : World) (hT : Tabs w) (hs : SB w A n c l) (hn : n ≤ 100000000) :
    Calls Tryd.prog 20 #[.slice A n c] w (DPostP w l) := by
  have hl := hs.rb.len
  have LL := Lib.hid hl
  have L0 := Lib.hid (show ((0, false) : St).1 ≤ n from Nat.zero_le _)
  obtain ⟨en, s1, e1⟩ : ∃ en s1, rU l 2147483647 (0, false) = (en, s1) := ⟨_, _, rfl⟩
  have L1 : Hid (s1.1 ≤ n) := Lib.hid (by have := rU_le (most := 2147483647) (l := l) (s := (0, false)) (by have := L0.out; omega); rw [e1] at this; simp only at this; omega)
  have M1 : en ≤ 2147483647 := by have := rU_most (l := l) (most := 2147483647) (s := (0, false)); rw [e1] at this; exact this
  obtain ⟨sn, s2, e2⟩ : ∃ sn s2, rU l 2147483647 s1 = (sn, s2) := ⟨_, _, rfl⟩
  have L2 : Hid (s2.1 ≤ n) := Lib.hid (by have := rU_le (most := 2147483647) (l := l) (s := s1) (by have := L1.out; omega); rw [e2] at this; simp only at this; omega)
  have M2 : sn ≤ 2147483647 := by have := rU_most (l := l) (most := 2147483647) (s := s1); rw [e2] at this; exact this
  obtain ⟨cnt, s3, e3⟩ : ∃ cnt s3, rU l 1000 s2 = (cnt, s3) := ⟨_, _, rfl⟩
  have L3 : Hid (s3.1 ≤ n) := Lib.hid (by have := rU_le (most := 1000) (l := l) (s := s2) (by have := L2.out; omega); rw [e3] at this; simp only at this; omega)
  have M3 : cnt ≤ 1000 := by have := rU_most (l := l) (most := 1000) (s := s2); rw [e3] at this; exact this
  obtain ⟨ps, s4, e4⟩ : ∃ ps s4, rRuns l 4 cnt s3 = (ps, s4) := ⟨_, _, rfl⟩
  have L4 : Hid (s4.1 ≤ n) := Lib.hid (by have := rRuns_le (most := 4) (l := l) cnt s3 (by have := L3.out; omega); rw [e4] at this; simp only at this; omega)
  have SZ4 : Hid (∀ x ∈ ps, x.1.size ≤ n) := Lib.hid (by have := rRuns_sz (most := 4) (l := l) cnt s3 (by have := L3.out; omega); rw [e4, LL.out] at this; exact this)
  obtain ⟨ca, s5, e5⟩ : ∃ ca s5, rU l 2147483647 s4 = (ca, s5) := ⟨_, _, rfl⟩
  have L5 : Hid (s5.1 ≤ n) := Lib.hid (by have := rU_le (most := 2147483647) (l := l) (s := s4) (by have := L4.out; omega); rw [e5] at this; simp only at this; omega)
  have M5 : ca ≤ 2147483647 := by have := rU_most (l := l) (most := 2147483647) (s := s4); rw [e5] at this; exact this
  obtain ⟨cm, s6, e6⟩ : ∃ cm s6, rU l 60 s5 = (cm, s6) := ⟨_, _, rfl⟩
  have L6 : Hid (s6.1 ≤ n) := Lib.hid (by have := rU_le (most := 60) (l := l) (s := s5) (by have := L5.out; omega); rw [e6] at this; simp only at this; omega)
  have M6 : cm ≤ 60 := by have := rU_most (l := l) (most := 60) (s := s5); rw [e6] at this; exact this
  obtain ⟨ss, s7, e7⟩ : ∃ ss s7, rTxts l cm s6 = (ss, s7) := ⟨_, _, rfl⟩
  have L7 : Hid (s7.1 ≤ n) := Lib.hid (by have := rTxts_le (l := l) cm s6 (by have := L6.out; omega); rw [e7] at this; simp only at this; omega)
  have SZ7 : Hid (∀ x ∈ ss, x.size ≤ n) := Lib.hid (by have := rTxts_sz (l := l) cm s6 (by have := L6.out; omega); rw [e7, LL.out] at this; exact this)
  obtain ⟨ch, s8, e8⟩ : ∃ ch s8, rI l s7 = (ch, s8) := ⟨_, _, rfl⟩
  have L8 : Hid (s8.1 ≤ n) := Lib.hid (by have := rI_le (l := l) (s := s7) (by have := L7.out; omega); rw [e8] at this; simp only at this; omega)
  obtain ⟨co, s9, e9⟩ : ∃ co s9, rT l s8 = (co, s9) := ⟨_, _, rfl⟩
  have L9 : Hid (s9.1 ≤ n) := Lib.hid (by have := rT_le (l := l) (s := s8) (by have := L8.out; omega); rw [e9] at this; simp only at this; omega)
  have M9 : co.length ≤ n := by have := rT_len (l := l) (s := s8) (by have := L8.out; omega); rw [e9] at this; simp only at this; omega
  obtain ⟨er, s10, e10⟩ : ∃ er s10, rU l 2147483647 s9 = (er, s10) := ⟨_, _, rfl⟩
  have L10 : Hid (s10.1 ≤ n) := Lib.hid (by have := rU_le (most := 2147483647) (l := l) (s := s9) (by have := L9.out; omega); rw [e10] at this; simp only at this; omega)
  have M10 : er ≤ 2147483647 := by have := rU_most (l := l) (most := 2147483647) (s := s9); rw [e10] at this; exact this
  obtain ⟨tk, s11, e11⟩ : ∃ tk s11, rU l 1 s10 = (tk, s11) := ⟨_, _, rfl⟩
  have L11 : Hid (s11.1 ≤ n) := Lib.hid (by have := rU_le (most := 1) (l := l) (s := s10) (by have := L10.out; omega); rw [e11] at this; simp only at this; omega)
  have M11 : tk ≤ 1 := by have := rU_most (l := l) (most := 1) (s := s10); rw [e11] at this; exact this
  obtain ⟨da, s12, e12⟩ : ∃ da s12, rT l s11 = (da, s12) := ⟨_, _, rfl⟩
  have L12 : Hid (s12.1 ≤ n) := Lib.hid (by have := rT_le (l := l) (s := s11) (by have := L11.out; omega); rw [e12] at this; simp only at this; omega)
  have M12 : da.length ≤ n := by have := rT_len (l := l) (s := s11) (by have := L11.out; omega); rw [e12] at this; simp only at this; omega
  have HX : Hid (rRep l limPP (rRuns l limPP.attr) (rTxts l) = ((⟨(en : Int), (sn : Int), ps, (ca : Int), ss, ch, ba co, (er : Int), tk == 1, da⟩ : Rp), s12)) := Lib.hid (by
    unfold rRep
    simp only [limPP, e1, e2, e3, e4, e5, e6, e7, e8, e9, e10, e11, e12])
  have HD := Lib.hid (decP_prog HX.out)
  clear HX
  have E1 := Lib.hid e1
  have E2 := Lib.hid e2
  have E3 := Lib.hid e3
  have E4 := Lib.hid e4
  have E5 := Lib.hid e5
  have E6 := Lib.hid e6
  have E7 := Lib.hid e7
  have E8 := Lib.hid e8
  have E9 := Lib.hid e9
  have E10 := Lib.hid e10
  have E11 := Lib.hid e11
  have E12 := Lib.hid e12
  clear e1 e2 e3 e4 e5 e6 e7 e8 e9 e10 e11 e12
  have HT := Lib.hid hT
  clear hT
  have HS := Lib.hid hs
  clear hs
  have hw0 : (w.alloc (.cells repZ.cells 34)).heap.size = w.heap.size + 1 := by simp
  have R0 : Hid (Rd ((w.alloc (.cells repZ.cells 34)).alloc (.cells #[.slice A n c, .int .i64 0, .bool false] 77)) (w.heap.size + 1) A n c (0, false)) := Lib.hid (by have := Blk.new (w.alloc (.cells repZ.cells 34)) 77 #[.slice A n c, .int .i64 0, .bool false]; rw [hw0] at this; exact this)
  have B0 : Hid (Below w.heap.size w ((w.alloc (.cells repZ.cells 34)).alloc (.cells #[.slice A n c, .int .i64 0, .bool false] 77))) := Lib.hid (((Below.refl _ _).alloc (Nat.le_refl _) _).alloc (by simp) _)
  have Q0 : Hid (Blk ((w.alloc (.cells repZ.cells 34)).alloc (.cells #[.slice A n c, .int .i64 0, .bool false] 77)) w.heap.size 34 repZ.cells) := Lib.hid ((Blk.new w _ _).alloc _)
  clear hw0
  go_enter Tryd.func20, Tryd.ntmps20
  have hc := count_any (w.heap.size + 1) A n c l (0, false) 2147483647 _ R0.out (HS.out.keep B0.out).rb (by omega) (by omega) (by decide)
  rw [E1.out] at hc
  have HC := Lib.hid hc
  clear hc
  go_wp2_with fail
  refine HC.out.mono ?_
  rintro e w1 ⟨rfl, hr1, hu1⟩
  have R1 := Lib.hid hr1
  have B1 := Lib.hid (B0.out.trans (hu1.below (B := w.heap.size) B0.out.size (by omega)))
  have Q1 : Hid (Blk w1 w.heap.size 34 repZ.cells) := Lib.hid (Blk.grown Q0.out hu1 (by simp))
  clear HC hr1 hu1 R0 B0 Q0
  have hc := count_any (w.heap.size + 1) A n c l s1 2147483647 _ R1.out (HS.out.keep B1.out).rb (by omega) (by have := L1.out; omega) (by decide)
  rw [E2.out] at hc
  have HC := Lib.hid hc
  clear hc
  go_wp2_with fail
  refine HC.out.mono ?_
  rintro e w2 ⟨rfl, hr2, hu2⟩
  have hz : w.heap.size + 2 ≤ w2.heap.size := by have h1 := hu2.size; have h2 := Blk.lt R1.out; omega
  have D2 : Hid (DR w w2.heap.size A n c s2 (⟨(en : Int), (sn : Int), none, 0, 0, 0, none, 0, 0, 0, ⟨#[]⟩, 0, false, none, 0, 0⟩ : Rep) (w2.alloc (.cells (⟨(en : Int), (sn : Int), none, 0, 0, 0, none, 0, 0, 0, ⟨#[]⟩, 0, false, none, 0, 0⟩ : Rep).cells 34))) := Lib.hid ⟨(Blk.grown Q1.out hu2 (by simp)).alloc _, Blk.alloc hr2 _, Blk.new w2 _ _, hz, (B1.out.trans (hu2.below (B := w.heap.size) B1.out.size (by omega))).alloc (by omega) _⟩
  clear HC hr2 hu2 R1 B1 Q1
  unfold Rep.cells at D2
  simp only at D2
  have hc := count_any (w.heap.size + 1) A n c l s2 1000 _ D2.out.rd (HS.out.keep D2.out.bel).rb (by omega) (by have := L2.out; omega) (by decide)
  rw [E3.out] at hc
  have HC := Lib.hid hc
  clear hc
  go_wp2_with fail
  refine HC.out.mono ?_
  rintro e w3 ⟨rfl, hr3, hu3⟩
  have D3 := Lib.hid (D2.out.step hu3 hr3)
  clear HC hr3 hu3 D2
  obtain ⟨i0, hi, hz0, hz1, hz2⟩ := info_parts infoRun
  obtain ⟨i1, hi1, hy0, hy1, hy2⟩ := info_parts infoStr
  have HI := Lib.hid hi
  have HI1 := Lib.hid hi1
  clear hi hi1
  go_wp2_with fail
  go_loopw [19] (fun i wr => PRP w w2.heap.size A n c l en sn cnt ps s4 i wr) (fun i _ => cnt - (intOf i).toNat)
  case atStart => exact ⟨0, cnt, none, 0, [], ps, s3, by omega, rfl, D3.out, World.ownsRow_nil _ _ _ _, rfl, E4.out, L3.out⟩
  case round =>
    obtain ⟨j, m, A2, c2, ys, rest, s, hm, rfl, hde, hown, hzs, hmany, hsn⟩ := hrel
    have DD := Lib.hid hde
    have OWN := Lib.hid hown
    have HZS := Lib.hid hzs
    have LS := Lib.hid hsn
    clear hde hown hzs hsn D3
    have hlo := DD.out.lo
    rcases m with _ | m
    · obtain ⟨hr1, hr2⟩ := Prod.mk.inj hmany
      subst hr1
      subst hr2
      have hyz : ys = ps := by have := HZS.out; rw [List.append_nil] at this; exact this.symm
      subst hyz
      clear hmany HZS
      have hjc : j = cnt := by omega
      subst hjc
      have hc := count_any (w.heap.size + 1) A n c l s 2147483647 _ DD.out.rd (HS.out.keep DD.out.bel).rb (by omega) (by have := LS.out; omega) (by decide)
      rw [E5.out] at hc
      have HC := Lib.hid hc
      clear hc
      go_wp2_with fail
      refine HC.out.mono ?_
      rintro e w5 ⟨rfl, hr5, hu5⟩
      have D5' := Lib.hid (DD.out.step hu5 hr5)
      have O5' := Lib.hid (own_upd OWN.out hu5 (by omega))
      clear HC hr5 hu5 DD OWN
      have x3 : w5.cell? ⟨w2.heap.size, 3, none⟩ = some (.int .i64 0) := D5'.out.rp.cell 3
      have f3 := D5'.out.rp.frozen 3
      have D5 := Lib.hid (D5'.out.set_ (r' := (⟨(en : Int), (sn : Int), A2, j, c2, (ca : Int), none, 0, 0, 0, ⟨#[]⟩, 0, false, none, 0, 0⟩ : Rep)) 3 (.int .i64 (ca : Int)) rfl)
      have O5 := Lib.hid (own_upd O5'.out ((Upd.refl w2.heap.size w5).set_ 3 (.int .i64 (ca : Int))) (by omega))
      clear O5'
      have hc := count_any (w.heap.size + 1) A n c l s5 60 _ D5.out.rd (HS.out.keep D5.out.bel).rb (by omega) (by have := L5.out; omega) (by decide)
      rw [E6.out] at hc
      have HC := Lib.hid hc
      clear hc
      go_wp2_with fail
      refine HC.out.mono ?_
      rintro e w6 ⟨rfl, hr6, hu6⟩
      have D6 := Lib.hid (D5.out.step hu6 hr6)
      have O6 := Lib.hid (own_upd O5.out hu6 (by omega))
      clear HC hr6 hu6 D5 D5' O5 x3 f3
      go_wp2_with fail
      go_loopw [44] (fun i wr => PTP w w2.heap.size A n c l en sn ca j A2 c2 ys cm ss s7 i wr) (fun i _ => cm - (intOf i).toNat)
      case atStart => exact ⟨0, cm, none, 0, [], ss, s6, by omega, rfl, D6.out, O6.out, own_nil _ _ _ _, rfl, E7.out, L6.out⟩
      case round =>
        obtain ⟨j2, m2, A4, c4, zs, rest2, s9', hm2, rfl, hde, hown, hown2, hzs, hmany, hsn⟩ := hrel
        have DD := Lib.hid hde
        have OWN := Lib.hid hown
        have OW2 := Lib.hid hown2
        have HZS := Lib.hid hzs
        have LS2 := Lib.hid hsn
        rename World => wq
        clear hde hown hown2 hzs hsn D6 O6
        rcases m2 with _ | m2
        · obtain ⟨hr1, hr2⟩ := Prod.mk.inj hmany
          subst hr1
          subst hr2
          have hyz2 : zs = ss := by have := HZS.out; rw [List.append_nil] at this; exact this.symm
          subst hyz2
          clear hmany HZS
          have hjc2 : j2 = cm := by omega
          subst hjc2
          have D7 := DD
          have O7 := OWN
          have P7 := OW2
          clear DD OWN OW2
          have hc := signed_any (w.heap.size + 1) A n c l s9' _ D7.out.rd (HS.out.keep D7.out.bel).rb (by omega) (by have := LS2.out; omega)
          rw [E8.out] at hc
          have HC := Lib.hid hc
          clear hc
          go_wp2_with fail
          refine HC.out.mono ?_
          rintro e w8 ⟨rfl, hr, hu⟩
          have D8' := Lib.hid (D7.out.step hu hr)
          have O8' := Lib.hid (own_upd O7.out hu (by omega))
          have P8' := Lib.hid (own_upd P7.out hu (by omega))
          clear HC hr hu D7 O7 P7
          have x5 : w8.cell? ⟨w2.heap.size, 5, none⟩ = some (.int .i64 0) := D8'.out.rp.cell 5
          have f5 := D8'.out.rp.frozen 5
          have D8 := Lib.hid (D8'.out.set_ (r' := (⟨(en : Int), (sn : Int), A2, j, c2, (ca : Int), A4, j2, c4, ch, ⟨#[]⟩, 0, false, none, 0, 0⟩ : Rep)) 5 (.int .i64 ch) rfl)
          have O8 := Lib.hid (own_upd O8'.out ((Upd.refl w2.heap.size w8).set_ 5 (.int .i64 ch)) (by omega))
          have P8 := Lib.hid (own_upd P8'.out ((Upd.refl w2.heap.size w8).set_ 5 (.int .i64 ch)) (by omega))
          clear D8' O8' P8'
          have hc := textR_read (w.heap.size + 1) A n c l s8 _ D8.out.rd (HS.out.keep D8.out.bel) (by omega) (by have := L8.out; omega)
          rw [E9.out] at hc
          have HC := Lib.hid hc
          clear hc
          go_wp2_with fail
          refine HC.out.mono ?_
          rintro e w9 ⟨rfl, hr, hu⟩
          have D9' := Lib.hid (D8.out.step hu hr)
          have O9' := Lib.hid (own_upd O8.out hu (by omega))
          have P9' := Lib.hid (own_upd P8.out hu (by omega))
          clear HC hr hu D8 O8 P8
          have x6 : w9.cell? ⟨w2.heap.size, 6, none⟩ = some (.string ⟨#[]⟩) := D9'.out.rp.cell 6
          have f6 := D9'.out.rp.frozen 6
          have D9 := Lib.hid (D9'.out.set_ (r' := (⟨(en : Int), (sn : Int), A2, j, c2, (ca : Int), A4, j2, c4, ch, (ba co), 0, false, none, 0, 0⟩ : Rep)) 6 (.string (ba co)) rfl)
          have O9 := Lib.hid (own_upd O9'.out ((Upd.refl w2.heap.size w9).set_ 6 (.string (ba co))) (by omega))
          have P9 := Lib.hid (own_upd P9'.out ((Upd.refl w2.heap.size w9).set_ 6 (.string (ba co))) (by omega))
          clear D9' O9' P9'
          have hc := count_any (w.heap.size + 1) A n c l s9 2147483647 _ D9.out.rd (HS.out.keep D9.out.bel).rb (by omega) (by have := L9.out; omega) (by decide)
          rw [E10.out] at hc
          have HC := Lib.hid hc
          clear hc
          go_wp2_with fail
          refine HC.out.mono ?_
          rintro e w10 ⟨rfl, hr, hu⟩
          have D10' := Lib.hid (D9.out.step hu hr)
          have O10' := Lib.hid (own_upd O9.out hu (by omega))
          have P10' := Lib.hid (own_upd P9.out hu (by omega))
          clear HC hr hu D9 O9 P9
          have x7 : w10.cell? ⟨w2.heap.size, 7, none⟩ = some (.int .i64 0) := D10'.out.rp.cell 7
          have f7 := D10'.out.rp.frozen 7
          have D10 := Lib.hid (D10'.out.set_ (r' := (⟨(en : Int), (sn : Int), A2, j, c2, (ca : Int), A4, j2, c4, ch, (ba co), (er : Int), false, none, 0, 0⟩ : Rep)) 7 (.int .i64 (er : Int)) rfl)
          have O10 := Lib.hid (own_upd O10'.out ((Upd.refl w2.heap.size w10).set_ 7 (.int .i64 (er : Int))) (by omega))
          have P10 := Lib.hid (own_upd P10'.out ((Upd.refl w2.heap.size w10).set_ 7 (.int .i64 (er : Int))) (by omega))
          clear D10' O10' P10'
          have hc := count_any (w.heap.size + 1) A n c l s10 1 _ D10.out.rd (HS.out.keep D10.out.bel).rb (by omega) (by have := L10.out; omega) (by decide)
          rw [E11.out] at hc
          have HC := Lib.hid hc
          clear hc
          go_wp2_with fail
          refine HC.out.mono ?_
          rintro e w11 ⟨rfl, hr, hu⟩
          have D11' := Lib.hid (D10.out.step hu hr)
          have O11' := Lib.hid (own_upd O10.out hu (by omega))
          have P11' := Lib.hid (own_upd P10.out hu (by omega))
          clear HC hr hu D10 O10 P10
          have x8 : w11.cell? ⟨w2.heap.size, 8, none⟩ = some (.bool false) := D11'.out.rp.cell 8
          have f8 := D11'.out.rp.frozen 8
          have D11 := Lib.hid (D11'.out.set_ (r' := (⟨(en : Int), (sn : Int), A2, j, c2, (ca : Int), A4, j2, c4, ch, (ba co), (er : Int), ((tk : Int) == 1), none, 0, 0⟩ : Rep)) 8 (.bool ((tk : Int) == 1)) rfl)
          have O11 := Lib.hid (own_upd O11'.out ((Upd.refl w2.heap.size w11).set_ 8 (.bool ((tk : Int) == 1))) (by omega))
          have P11 := Lib.hid (own_upd P11'.out ((Upd.refl w2.heap.size w11).set_ 8 (.bool ((tk : Int) == 1))) (by omega))
          clear D11' O11' P11'
          have hc := textR_read (w.heap.size + 1) A n c l s11 _ D11.out.rd (HS.out.keep D11.out.bel) (by omega) (by have := L11.out; omega)
          rw [E12.out] at hc
          have HC := Lib.hid hc
          clear hc
          go_wp2_with fail
          refine HC.out.mono ?_
          rintro e w12 ⟨rfl, hr, hu⟩
          have D12' := Lib.hid (D11.out.step hu hr)
          have O12' := Lib.hid (own_upd O11.out hu (by omega))
          have P12' := Lib.hid (own_upd P11.out hu (by omega))
          clear HC hr hu D11 O11 P11
          obtain ⟨W3, c9, hcv, hb3, hsb3⟩ := conv_bytes w12 da
          have hlo9 : w.heap.size < w12.heap.size := by have := D12'.out.rp.lt; omega
          have S3 := Lib.hid hsb3
          have D12k := Lib.hid (D12'.out.keep hb3)
          have O12k := Lib.hid (own_keep O12'.out hb3)
          have P12k := Lib.hid (own_keep P12'.out hb3)
          clear hb3 hsb3 O12' P12'
          have x9 : W3.cell? ⟨w2.heap.size, 9, none⟩ = some (.slice none 0 0) := D12k.out.rp.cell 9
          have f9 := D12k.out.rp.frozen 9
          have D12 := Lib.hid (D12k.out.set_ (r' := (⟨(en : Int), (sn : Int), A2, j, c2, (ca : Int), A4, j2, c4, ch, (ba co), (er : Int), ((tk : Int) == 1), (some ⟨w12.heap.size, 0, none⟩), da.length, c9⟩ : Rep)) 9 (.slice (some ⟨w12.heap.size, 0, none⟩) da.length c9) rfl)
          have O12 := Lib.hid (own_upd O12k.out ((Upd.refl w2.heap.size W3).set_ 9 (.slice (some ⟨w12.heap.size, 0, none⟩) da.length c9)) (by omega))
          have P12 := Lib.hid (own_upd P12k.out ((Upd.refl w2.heap.size W3).set_ 9 (.slice (some ⟨w12.heap.size, 0, none⟩) da.length c9)) (by omega))
          have S12 := Lib.hid (SB.upd S3.out ((Upd.refl w2.heap.size W3).set_ 9 (.slice (some ⟨w12.heap.size, 0, none⟩) da.length c9)) (fun ad e => by cases e; have := D12'.out.rp.lt; simp; omega))
          have FP : Hid (∀ ad, A2 = some ad → w.heap.size < ad.block) := Lib.hid (fun ad e => by have := own_block_le O12.out ad e; omega)
          have FC : Hid (∀ ad, A4 = some ad → w.heap.size < ad.block) := Lib.hid (fun ad e => by have := own_block_le P12.out ad e; omega)
          clear D12' O12k P12k S3
          have hgW : w2.heap.size < W3.heap.size := D12k.out.rp.lt
          have Q12 := Lib.hid (show RpIn _ (⟨(en : Int), (sn : Int), A2, j, c2, (ca : Int), A4, j2, c4, ch, (ba co), (er : Int), ((tk : Int) == 1), (some ⟨w12.heap.size, 0, none⟩), da.length, c9⟩ : Rep) (⟨(en : Int), (sn : Int), ys, (ca : Int), zs, ch, ba co, (er : Int), tk == 1, da⟩ : Rp) from ⟨rfl, rfl, rfl, rfl, rfl, rfl, (by rw [Bool.eq_iff_iff]; simp; omega), RR.of_own O12.out, RS.of_own P12.out, S12.out, (by simp only; omega), (by simp only; omega), (by simp only; omega), (fun x hx => Nat.le_trans (SZ4.out x hx) (by omega)), (fun x hx => Nat.le_trans (SZ7.out x hx) (by omega)), (by show (ba co).size ≤ _; rw [ba_len]; omega)⟩)
          clear O12 P12 S12
          obtain ⟨a, b⟩ := s12
          rcases b with _ | _
          · have y2 : W3.cell? ⟨w.heap.size + 1, 2, none⟩ = some (.bool false) := Blk.cell D12k.out.rd 2
            have y1 : W3.cell? ⟨w.heap.size + 1, 1, none⟩ = some (.int .i64 (a : Int)) := Blk.cell D12k.out.rd 1
            by_cases ha : a = n
            · subst ha
              have x0 : W3.cell? ⟨w2.heap.size, 0, none⟩ = some (.int .i64 (en : Int)) := D12k.out.rp.cell 0
              have x1 : W3.cell? ⟨w2.heap.size, 1, none⟩ = some (.int .i64 (sn : Int)) := D12k.out.rp.cell 1
              have x2 : W3.cell? ⟨w2.heap.size, 2, none⟩ = some (.slice A2 j c2) := D12k.out.rp.cell 2
              have x3 : W3.cell? ⟨w2.heap.size, 3, none⟩ = some (.int .i64 (ca : Int)) := D12k.out.rp.cell 3
              have x4 : W3.cell? ⟨w2.heap.size, 4, none⟩ = some (.slice A4 j2 c4) := D12k.out.rp.cell 4
              have x5 : W3.cell? ⟨w2.heap.size, 5, none⟩ = some (.int .i64 ch) := D12k.out.rp.cell 5
              have x6 : W3.cell? ⟨w2.heap.size, 6, none⟩ = some (.string (ba co)) := D12k.out.rp.cell 6
              have x7 : W3.cell? ⟨w2.heap.size, 7, none⟩ = some (.int .i64 (er : Int)) := D12k.out.rp.cell 7
              have x8 : W3.cell? ⟨w2.heap.size, 8, none⟩ = some (.bool ((tk : Int) == 1)) := D12k.out.rp.cell 8
              have hc := checkP_any (⟨(en : Int), (sn : Int), A2, j, c2, (ca : Int), A4, j2, c4, ch, (ba co), (er : Int), ((tk : Int) == 1), (some ⟨w12.heap.size, 0, none⟩), da.length, c9⟩ : Rep) (⟨(en : Int), (sn : Int), ys, (ca : Int), zs, ch, ba co, (er : Int), tk == 1, da⟩ : Rp) _ (HT.out.keep D12.out.bel) Q12.out
              have HC := Lib.hid hc
              clear hc
              unfold Rep.cells at HC
              simp only at HC
              go_wp2_with fail
              refine HC.out.mono ?_
              rintro e wc ⟨rfl, hbc⟩
              clear HC
              have DC := Lib.hid (D12.out.keep hbc)
              have QC := Lib.hid (Q12.out.keep hbc)
              clear hbc x0 x1 x2 x3 x4 x5 x6 x7 x8 x9
              have z0 : wc.cell? ⟨w.heap.size, 0, none⟩ = some (.int .i64 0) := DC.out.res.cell 0
              have g0 := DC.out.res.frozen 0
              have z1 : wc.cell? ⟨w.heap.size, 1, none⟩ = some (.int .i64 0) := DC.out.res.cell 1
              have g1 := DC.out.res.frozen 1
              have z2 : wc.cell? ⟨w.heap.size, 2, none⟩ = some (.slice none 0 0) := DC.out.res.cell 2
              have g2 := DC.out.res.frozen 2
              have z3 : wc.cell? ⟨w.heap.size, 3, none⟩ = some (.int .i64 0) := DC.out.res.cell 3
              have g3 := DC.out.res.frozen 3
              have z4 : wc.cell? ⟨w.heap.size, 4, none⟩ = some (.slice none 0 0) := DC.out.res.cell 4
              have g4 := DC.out.res.frozen 4
              have z5 : wc.cell? ⟨w.heap.size, 5, none⟩ = some (.int .i64 0) := DC.out.res.cell 5
              have g5 := DC.out.res.frozen 5
              have z6 : wc.cell? ⟨w.heap.size, 6, none⟩ = some (.string ⟨#[]⟩) := DC.out.res.cell 6
              have g6 := DC.out.res.frozen 6
              have z7 : wc.cell? ⟨w.heap.size, 7, none⟩ = some (.int .i64 0) := DC.out.res.cell 7
              have g7 := DC.out.res.frozen 7
              have z8 : wc.cell? ⟨w.heap.size, 8, none⟩ = some (.bool false) := DC.out.res.cell 8
              have g8 := DC.out.res.frozen 8
              have z9 : wc.cell? ⟨w.heap.size, 9, none⟩ = some (.slice none 0 0) := DC.out.res.cell 9
              have g9 := DC.out.res.frozen 9
              rcases hk0 : chkP (⟨(en : Int), (sn : Int), ys, (ca : Int), zs, ch, ba co, (er : Int), tk == 1, da⟩ : Rp) with _ | z
              · have x0 : wc.cell? ⟨w2.heap.size, 0, none⟩ = some (.int .i64 (en : Int)) := DC.out.rp.cell 0
                have x1 : wc.cell? ⟨w2.heap.size, 1, none⟩ = some (.int .i64 (sn : Int)) := DC.out.rp.cell 1
                have x2 : wc.cell? ⟨w2.heap.size, 2, none⟩ = some (.slice A2 j c2) := DC.out.rp.cell 2
                have x3 : wc.cell? ⟨w2.heap.size, 3, none⟩ = some (.int .i64 (ca : Int)) := DC.out.rp.cell 3
                have x4 : wc.cell? ⟨w2.heap.size, 4, none⟩ = some (.slice A4 j2 c4) := DC.out.rp.cell 4
                have x5 : wc.cell? ⟨w2.heap.size, 5, none⟩ = some (.int .i64 ch) := DC.out.rp.cell 5
                have x6 : wc.cell? ⟨w2.heap.size, 6, none⟩ = some (.string (ba co)) := DC.out.rp.cell 6
                have x7 : wc.cell? ⟨w2.heap.size, 7, none⟩ = some (.int .i64 (er : Int)) := DC.out.rp.cell 7
                have x8 : wc.cell? ⟨w2.heap.size, 8, none⟩ = some (.bool ((tk : Int) == 1)) := DC.out.rp.cell 8
                have x9 : wc.cell? ⟨w2.heap.size, 9, none⟩ = some (.slice (some ⟨w12.heap.size, 0, none⟩) da.length c9) := DC.out.rp.cell 9
                have HK := Lib.hid hk0
                clear hk0
                go_wp2_with fail
                exact bodyPost_ret (v := .tuple #[.agg #[.int .i64 (en : Int), .int .i64 (sn : Int), .slice A2 j c2, .int .i64 (ca : Int), .slice A4 j2 c4, .int .i64 ch, .string (ba co), .int .i64 (er : Int), .bool ((tk : Int) == 1), .slice (some ⟨w12.heap.size, 0, none⟩) da.length c9], .int .i64 0]) (by simp [results, Tryd.results20, go_sem, *]) rfl (DPostP.good (r := (⟨(en : Int), (sn : Int), A2, j, c2, (ca : Int), A4, j2, c4, ch, (ba co), (er : Int), ((tk : Int) == 1), (some ⟨w12.heap.size, 0, none⟩), da.length, c9⟩ : Rep)) (((((((((((DC.out.bel).setCell (p := ⟨w.heap.size, 0, none⟩) (Nat.le_refl _) _).setCell (p := ⟨w.heap.size, 1, none⟩) (Nat.le_refl _) _).setCell (p := ⟨w.heap.size, 2, none⟩) (Nat.le_refl _) _).setCell (p := ⟨w.heap.size, 3, none⟩) (Nat.le_refl _) _).setCell (p := ⟨w.heap.size, 4, none⟩) (Nat.le_refl _) _).setCell (p := ⟨w.heap.size, 5, none⟩) (Nat.le_refl _) _).setCell (p := ⟨w.heap.size, 6, none⟩) (Nat.le_refl _) _).setCell (p := ⟨w.heap.size, 7, none⟩) (Nat.le_refl _) _).setCell (p := ⟨w.heap.size, 8, none⟩) (Nat.le_refl _) _).setCell (p := ⟨w.heap.size, 9, none⟩) (Nat.le_refl _) _) (QC.out.upd (((((((((((Upd.refl w.heap.size _).set_ 0 _).set_ 1 _).set_ 2 _).set_ 3 _).set_ 4 _).set_ 5 _).set_ 6 _).set_ 7 _).set_ 8 _).set_ 9 _) (fun ad e => Nat.ne_of_gt (FP.out ad e)) (fun ad e => Nat.ne_of_gt (FC.out ad e)) (fun ad e => by cases e; exact Nat.ne_of_gt hlo9)) (HD.out.1 ⟨by rw [LL.out], HK.out⟩) FP.out FC.out (fun ad e => by cases e; exact hlo9))
              · have hne : (((z + 1 : Nat) : Int) != 0) = true := by rw [bne_iff_ne]; omega
                have HK := Lib.hid hk0
                clear hk0
                generalize hzz : z + 1 = y at hne HK
                have HZ := Lib.hid hzz
                clear hzz
                go_wp2_with fail
                exact bodyPost_ret (v := .tuple #[.agg #[.int .i64 0, .int .i64 0, .slice none 0 0, .int .i64 0, .slice none 0 0, .int .i64 0, .string ⟨#[]⟩, .int .i64 0, .bool false, .slice none 0 0], .int .i64 5]) (by simp [results, Tryd.results20, go_sem, *]) rfl (DPostP.bad (((((((((((DC.out.bel).setCell (p := ⟨w.heap.size, 0, none⟩) (Nat.le_refl _) _).setCell (p := ⟨w.heap.size, 1, none⟩) (Nat.le_refl _) _).setCell (p := ⟨w.heap.size, 2, none⟩) (Nat.le_refl _) _).setCell (p := ⟨w.heap.size, 3, none⟩) (Nat.le_refl _) _).setCell (p := ⟨w.heap.size, 4, none⟩) (Nat.le_refl _) _).setCell (p := ⟨w.heap.size, 5, none⟩) (Nat.le_refl _) _).setCell (p := ⟨w.heap.size, 6, none⟩) (Nat.le_refl _) _).setCell (p := ⟨w.heap.size, 7, none⟩) (Nat.le_refl _) _).setCell (p := ⟨w.heap.size, 8, none⟩) (Nat.le_refl _) _).setCell (p := ⟨w.heap.size, 9, none⟩) (Nat.le_refl _) _) (HD.out.2 (fun h => by have h2 := h.2; rw [HK.out, ← HZ.out] at h2; cases h2)))
            · have hne : ((a : Int) != (n : Int)) = true := by rw [bne_iff_ne]; omega
              have HA := Lib.hid ha
              clear ha
              have z0 : W3.cell? ⟨w.heap.size, 0, none⟩ = some (.int .i64 0) := D12k.out.res.cell 0
              have g0 := D12k.out.res.frozen 0
              have z1 : W3.cell? ⟨w.heap.size, 1, none⟩ = some (.int .i64 0) := D12k.out.res.cell 1
              have g1 := D12k.out.res.frozen 1
              have z2 : W3.cell? ⟨w.heap.size, 2, none⟩ = some (.slice none 0 0) := D12k.out.res.cell 2
              have g2 := D12k.out.res.frozen 2
              have z3 : W3.cell? ⟨w.heap.size, 3, none⟩ = some (.int .i64 0) := D12k.out.res.cell 3
              have g3 := D12k.out.res.frozen 3
              have z4 : W3.cell? ⟨w.heap.size, 4, none⟩ = some (.slice none 0 0) := D12k.out.res.cell 4
              have g4 := D12k.out.res.frozen 4
              have z5 : W3.cell? ⟨w.heap.size, 5, none⟩ = some (.int .i64 0) := D12k.out.res.cell 5
              have g5 := D12k.out.res.frozen 5
              have z6 : W3.cell? ⟨w.heap.size, 6, none⟩ = some (.string ⟨#[]⟩) := D12k.out.res.cell 6
              have g6 := D12k.out.res.frozen 6
              have z7 : W3.cell? ⟨w.heap.size, 7, none⟩ = some (.int .i64 0) := D12k.out.res.cell 7
              have g7 := D12k.out.res.frozen 7
              have z8 : W3.cell? ⟨w.heap.size, 8, none⟩ = some (.bool false) := D12k.out.res.cell 8
              have g8 := D12k.out.res.frozen 8
              have z9 : W3.cell? ⟨w.heap.size, 9, none⟩ = some (.slice none 0 0) := D12k.out.res.cell 9
              have g9 := D12k.out.res.frozen 9
              go_wp2_with fail
              exact bodyPost_ret (v := .tuple #[.agg #[.int .i64 0, .int .i64 0, .slice none 0 0, .int .i64 0, .slice none 0 0, .int .i64 0, .string ⟨#[]⟩, .int .i64 0, .bool false, .slice none 0 0], .int .i64 5]) (by simp [results, Tryd.results20, go_sem, *]) rfl (DPostP.bad (((((((((((D12.out.bel).setCell (p := ⟨w.heap.size, 0, none⟩) (Nat.le_refl _) _).setCell (p := ⟨w.heap.size, 1, none⟩) (Nat.le_refl _) _).setCell (p := ⟨w.heap.size, 2, none⟩) (Nat.le_refl _) _).setCell (p := ⟨w.heap.size, 3, none⟩) (Nat.le_refl _) _).setCell (p := ⟨w.heap.size, 4, none⟩) (Nat.le_refl _) _).setCell (p := ⟨w.heap.size, 5, none⟩) (Nat.le_refl _) _).setCell (p := ⟨w.heap.size, 6, none⟩) (Nat.le_refl _) _).setCell (p := ⟨w.heap.size, 7, none⟩) (Nat.le_refl _) _).setCell (p := ⟨w.heap.size, 8, none⟩) (Nat.le_refl _) _).setCell (p := ⟨w.heap.size, 9, none⟩) (Nat.le_refl _) _) (HD.out.2 (fun h => HA.out (by have h1 := congrArg Prod.fst h.1; simp only at h1; rw [h1]; exact LL.out))))
          · have z0 : W3.cell? ⟨w.heap.size, 0, none⟩ = some (.int .i64 0) := D12k.out.res.cell 0
            have g0 := D12k.out.res.frozen 0
            have z1 : W3.cell? ⟨w.heap.size, 1, none⟩ = some (.int .i64 0) := D12k.out.res.cell 1
            have g1 := D12k.out.res.frozen 1
            have z2 : W3.cell? ⟨w.heap.size, 2, none⟩ = some (.slice none 0 0) := D12k.out.res.cell 2
            have g2 := D12k.out.res.frozen 2
            have z3 : W3.cell? ⟨w.heap.size, 3, none⟩ = some (.int .i64 0) := D12k.out.res.cell 3
            have g3 := D12k.out.res.frozen 3
            have z4 : W3.cell? ⟨w.heap.size, 4, none⟩ = some (.slice none 0 0) := D12k.out.res.cell 4
            have g4 := D12k.out.res.frozen 4
            have z5 : W3.cell? ⟨w.heap.size, 5, none⟩ = some (.int .i64 0) := D12k.out.res.cell 5
            have g5 := D12k.out.res.frozen 5
            have z6 : W3.cell? ⟨w.heap.size, 6, none⟩ = some (.string ⟨#[]⟩) := D12k.out.res.cell 6
            have g6 := D12k.out.res.frozen 6
            have z7 : W3.cell? ⟨w.heap.size, 7, none⟩ = some (.int .i64 0) := D12k.out.res.cell 7
            have g7 := D12k.out.res.frozen 7
            have z8 : W3.cell? ⟨w.heap.size, 8, none⟩ = some (.bool false) := D12k.out.res.cell 8
            have g8 := D12k.out.res.frozen 8
            have z9 : W3.cell? ⟨w.heap.size, 9, none⟩ = some (.slice none 0 0) := D12k.out.res.cell 9
            have g9 := D12k.out.res.frozen 9
            have y2 : W3.cell? ⟨w.heap.size + 1, 2, none⟩ = some (.bool true) := Blk.cell D12k.out.rd 2
            go_wp2_with fail
            exact bodyPost_ret (v := .tuple #[.agg #[.int .i64 0, .int .i64 0, .slice none 0 0, .int .i64 0, .slice none 0 0, .int .i64 0, .string ⟨#[]⟩, .int .i64 0, .bool false, .slice none 0 0], .int .i64 5]) (by simp [results, Tryd.results20, go_sem, *]) rfl (DPostP.bad (((((((((((D12.out.bel).setCell (p := ⟨w.heap.size, 0, none⟩) (Nat.le_refl _) _).setCell (p := ⟨w.heap.size, 1, none⟩) (Nat.le_refl _) _).setCell (p := ⟨w.heap.size, 2, none⟩) (Nat.le_refl _) _).setCell (p := ⟨w.heap.size, 3, none⟩) (Nat.le_refl _) _).setCell (p := ⟨w.heap.size, 4, none⟩) (Nat.le_refl _) _).setCell (p := ⟨w.heap.size, 5, none⟩) (Nat.le_refl _) _).setCell (p := ⟨w.heap.size, 6, none⟩) (Nat.le_refl _) _).setCell (p := ⟨w.heap.size, 7, none⟩) (Nat.le_refl _) _).setCell (p := ⟨w.heap.size, 8, none⟩) (Nat.le_refl _) _).setCell (p := ⟨w.heap.size, 9, none⟩) (Nat.le_refl _) _) (HD.out.2 (fun h => by have h1 := congrArg Prod.snd h.1; cases h1)))
        · unfold rTxts at hmany
          obtain ⟨v, s', hv⟩ : ∃ v s', rT l s9' = (v, s') := ⟨_, _, rfl⟩
          have hvl : v.length ≤ n := by have := rT_len (l := l) (s := s9') (by have := LS2.out; omega); rw [hv] at this; simp only at this; omega
          have hsn' : s'.1 ≤ n := by have := rT_le (l := l) (s := s9') (by have := LS2.out; omega); rw [hv] at this; simp only at this; omega
          have LS' := Lib.hid hsn'
          rw [hv] at hmany
          obtain ⟨rest', sx, hmx⟩ : ∃ r' sx, rTxts l m2 s' = (r', sx) := ⟨_, _, rfl⟩
          simp only [hmx] at hmany
          obtain ⟨rfl, rfl⟩ := Prod.mk.inj hmany
          have HMX := Lib.hid hmx
          have HV := Lib.hid hv
          clear hmany hv hmx hsn'
          have HC := Lib.hid (fun (wz : World) (h1 : Rd wz (w.heap.size + 1) A n c s9') (h2 : SB wz A n c l) => show Calls Tryd.prog 40 #[.pointer (some ⟨w.heap.size + 1, 0, none⟩)] wz (fun e w' => e = .returned (.string (ba v)) ∧ Rd w' (w.heap.size + 1) A n c s' ∧ Upd (w.heap.size + 1) wz w') from by
            have := textR_read (w.heap.size + 1) A n c l s9' wz h1 h2 (by omega) (by have := LS2.out; omega)
            rw [HV.out] at this
            exact this)
          generalize ba v = tv at HC HZS ⊢
          have x4 : wq.cell? ⟨w2.heap.size, 4, none⟩ = some (.slice A4 j2 c4) := DD.out.rp.cell 4
          have f4 := DD.out.rp.frozen 4
          have hgl := DD.out.rp.lt
          go_wp2_with fail
          go_region_law (first
              | (refine step_append_any _ (by rfl) (.tmp 50) (.tmp 53) _ (by rfl) (w2.heap.size + 1) 9 i1 _ 1 16 Tryd.underlying30 HI1.out hy0 hy1 hy2 rfl (by decide) _ j2 (vs zs) (by rfl) (by exact (OA2.out.alloc _)) _ _ _ _ [.string tv] (by rfl) (by exact Reads.lit _ _ _ _ _ [.string tv] rfl rfl) (by intro u hu; simp at hu; subst hu; rfl) (by unfold maxLen; omega) (by omega) (by simp; omega) ?_; intro v4 w4 hown4 hg4 hat4; have D4 := Lib.hid ((DA.out.alloc _).grow (by exact hg4) (fun k hk => by have := ((OA2.out.alloc (.cells #[.string tv] 9)).lt k hk).1; omega)); have P4 := Lib.hid ((OA.out.alloc (.cells #[.string tv] 9)).kept (by exact hg4) (own_diffP OA2.out OA.out (by decide))); obtain ⟨A4', c4', rfl, _, _⟩ := own_slice hown4; have O4 := Lib.hid hown4; have hcc : w4.cell? ⟨w2.heap.size, 4, none⟩ = some (.slice A4 j2 c4) := D4.out.rp.cell 4; have f4' := D4.out.rp.frozen 4; clear hown4 hg4 hat4)
              | (go_simp; go_at_call 40; (with_reducible refine (HC.out _ ?_ ?_).mono ?_); (· exact DD.out.rd); (· exact (HS.out.keep DD.out.bel).drew); rintro e wa ⟨rfl, hra, hua⟩; have hua2 : Upd (w.heap.size + 1) wq wa := (((Upd.refl (w.heap.size + 1) wq).drew).trans hua); have DA := Lib.hid (DD.out.step hua2 hra); have OA := Lib.hid (own_upd OWN.out hua2 (by omega)); have OA2 := Lib.hid (own_upd OW2.out hua2 (by omega)); have hcc : wa.cell? ⟨w2.heap.size, 4, none⟩ = some (.slice A4 j2 c4) := DA.out.rp.cell 4; have hza := hua2.size; have hga : w2.heap.size < wa.heap.size := (by omega); clear hua hua2 hra))
          all_goals
            clear hcc
            go_wp2_with fail
            go_roundw
            case rel => exact ⟨j2 + 1, m2, A4', c4', zs ++ [tv], rest', s', by omega, by go_num, D4.out.set_ 4 _ rfl, own_upd P4.out ((Upd.refl w2.heap.size _).set_ 4 _) (by omega), by rw [show vs (zs ++ [tv]) = vs zs ++ [.string tv] by simp [vs]]; exact own_upd O4.out ((Upd.refl w2.heap.size _).set_ 4 _) (by omega), by rw [HZS.out, List.append_assoc]; rfl, HMX.out, LS'.out⟩
            case measure => simp [intOf]; omega
    · unfold rRuns at hmany
      obtain ⟨v, s5', hv⟩ : ∃ v s', rT l s = (v, s') := ⟨_, _, rfl⟩
      have hvl : v.length ≤ n := by have := rT_len (l := l) (s := s) (by have := LS.out; omega); rw [hv] at this; simp only at this; omega
      have hsn' : s5'.1 ≤ n := by have := rT_le (l := l) (s := s) (by have := LS.out; omega); rw [hv] at this; simp only at this; omega
      have LS' := Lib.hid hsn'
      rw [hv] at hmany
      simp only at hmany
      obtain ⟨a, s6', ha⟩ : ∃ v s', rU l 4 s5' = (v, s') := ⟨_, _, rfl⟩
      have ham : a ≤ 4 := by have := rU_most (l := l) (most := 4) (s := s5'); rw [ha] at this; exact this
      have hsn2 : s6'.1 ≤ n := by have := rU_le (most := 4) (l := l) (s := s5') (by have := LS'.out; omega); rw [ha] at this; simp only at this; omega
      have LS6 := Lib.hid hsn2
      rw [ha] at hmany
      simp only at hmany
      obtain ⟨rest', sx, hmx⟩ : ∃ r' sx, rRuns l 4 m s6' = (r', sx) := ⟨_, _, rfl⟩
      simp only [hmx] at hmany
      obtain ⟨rfl, rfl⟩ := Prod.mk.inj hmany
      have HMX := Lib.hid hmx
      have HV := Lib.hid hv
      have HAA := Lib.hid ha
      clear hmany hv hmx hsn' hsn2 ha
      have hc := textR_read (w.heap.size + 1) A n c l s _ DD.out.rd (HS.out.keep DD.out.bel) (by omega) (by have := LS.out; omega)
      rw [HV.out] at hc
      have HCT := Lib.hid hc
      clear hc
      have HC := Lib.hid (fun (wz : World) (h1 : Rd wz (w.heap.size + 1) A n c s5') (h2 : RB wz A n l) => show Calls Tryd.prog 39 #[.pointer (some ⟨w.heap.size + 1, 0, none⟩), .int .i64 4] wz (fun e w' => e = .returned (.int .i64 (a : Int)) ∧ Rd w' (w.heap.size + 1) A n c s6' ∧ Upd (w.heap.size + 1) wz w') from by
        have := count_any (w.heap.size + 1) A n c l s5' 4 wz h1 h2 (by omega) (by have := LS'.out; omega) (by decide)
        rw [HAA.out] at this
        exact this)
      generalize ba v = tv at HC HCT HZS ⊢
      go_wp2_with fail
      refine HCT.out.mono ?_
      rintro e wt ⟨rfl, hrt, hut⟩
      have DT := Lib.hid (DD.out.step hut hrt)
      have OT := Lib.hid (own_upd OWN.out hut (by omega))
      clear HCT hrt hut DD OWN
      have x2 : wt.cell? ⟨w2.heap.size, 2, none⟩ = some (.slice A2 j c2) := DT.out.rp.cell 2
      have f2 := DT.out.rp.frozen 2
      have hgl := DT.out.rp.lt
      go_wp2_with fail
      go_region_law (first
          | (refine step_append_any _ (by rfl) (.tmp 27) (.tmp 32) _ (by rfl) (w2.heap.size + 1) 69 i0 _ 2 24 Tryd.underlying29 HI.out hz0 hz1 hz2 run_cells (by decide) _ j (rc ys) (by rfl) (by exact (OA.out.alloc _)) _ (some ⟨wa.heap.size, 0, none⟩) 1 1 (rc [(tv, (a : Int))]) (by rfl) (Reads.litP _ _ _ _ 2 1 _ _ rfl (by simp [rc, rc2]) (by simp [rc, rc2])) (rc_one _) (by unfold maxLen; omega) (by omega) (by simp; omega) ?_; intro v4 w4 hown4 hg4 hat4; have D4 := Lib.hid ((DA.out.alloc _).grow (by exact hg4) (fun k hk => by have := ((OA.out.alloc (.cells #[.string tv, .int .i64 (a : Int)] 69)).lt k hk).1; omega)); (obtain ⟨A4, c4, rfl, _⟩ := own_sliceS hown4); have O4 := Lib.hid hown4; have hcc : w4.cell? ⟨w2.heap.size, 2, none⟩ = some (.slice A2 j c2) := D4.out.rp.cell 2; have f2' := D4.out.rp.frozen 2; clear hown4 hg4 hat4)
          | (go_simp; go_at_call 39; (with_reducible refine (HC.out _ ?_ ?_).mono ?_); (· exact DT.out.rd); (· exact (HS.out.keep DT.out.bel).rb); rintro e wa ⟨rfl, hra, hua⟩; have hua2 : Upd (w.heap.size + 1) wt wa := (((Upd.refl (w.heap.size + 1) wt).drew).trans hua); have DA := Lib.hid (DT.out.step hua2 hra); have OA := Lib.hid (own_upd OT.out hua2 (by omega)); have hcc : wa.cell? ⟨w2.heap.size, 2, none⟩ = some (.slice A2 j c2) := DA.out.rp.cell 2; have hza := hua2.size; have hga : w2.heap.size < wa.heap.size := (by omega); clear hua hua2 hra))
      all_goals
        clear hcc
        go_wp2_with fail
        go_roundw
        case rel => exact ⟨j + 1, m, A4, c4, ys ++ [(tv, (a : Int))], rest', s6', by omega, by go_num, D4.out.set_ 2 _ rfl, by rw [rc_append]; exact own_upd O4.out ((Upd.refl w2.heap.size _).set_ 2 _) (by omega), by rw [HZS.out, List.append_assoc]; rfl, HMX.out, LS6.out⟩
        case measure => simp [intOf]; omega
end Go.Proofs.YtkllfnaofapfnaaDoor.Prot
