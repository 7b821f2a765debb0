/-
  The walk of CrcBursts: changes within 32 consecutive bits are detected; it returns true for every input and leaves old memory alone. Conditions: the table of four bits holds its numbers.
-/
import Derived.Test.YtgleaiecdelbbaaDoorCrcWorks
import Derived.Test.YtgleaiecdelbbaaDoorCrcSums
import Derived.Deep.RegionHeld3
import Derived.WalkLawsBesides
import Derived.WalkSpells
import Derived.IntWalk
namespace Go.Proofs.YtgleaiecdelbbaaDoor.Crc
open Go.RowKit Wd

theorem nat_bit (bt k : Nat) : (((bt : Int) / 2 ^ k).tmod 2 == 1) = bt.testBit k := by
  have e : (bt : Int) / 2 ^ k = ((bt / 2 ^ k : Nat) : Int) := by rw [Int.natCast_ediv, Int.natCast_pow]; rfl
  rw [e, Int.tmod_eq_emod_of_nonneg (Int.natCast_nonneg _), Nat.testBit_eq_decide_div_mod_eq, Bool.eq_iff_iff]
  simp only [beq_iff_eq, decide_eq_true_eq]; omega

theorem flip_byte (x : UInt8) (j : Nat) : bits .xor .u8 (x.toNat : Int) (2 ^ j % 256) = ((x ^^^ UInt8.ofNat (2 ^ j)).toNat : Int) := by
  have e : (2 : Int) ^ j % 256 = ((2 ^ j % 256 : Nat) : Int) := by rw [Int.natCast_emod, Int.natCast_pow]; rfl
  rw [e, u8_xor_nat _ _ x.toNat_lt (Nat.mod_lt _ (by decide)), UInt8.toNat_xor, UInt8.toNat_ofNat']
theorem flip_bs (B : List UInt8) (p : Nat) (h : p / 8 < B.length) : (bs B).set (p / 8) (.int .u8 (bits .xor .u8 ((B[p / 8]).toNat : Int) (2 ^ (p % 8) % 256))) = bs (flip B p) := by
  unfold flip bs
  rw [List.map_set, flip_byte]
  simp [List.getD, h]
theorem burst_yes (l : List UInt8) (at0 bt k n : Nat) (hn : l.length = n) (hb : bt.testBit k = true) (h : (at0 + k) / 8 < n) : burst l at0 bt (k + 1) = flip (burst l at0 bt k) (at0 + k) := by
  simp only [burst]
  rw [if_pos (by unfold eff; rw [hb, hn]; simpa using h)]
theorem burst_no (l : List UInt8) (at0 bt k n : Nat) (hn : l.length = n) (h : bt.testBit k = true → ¬ (at0 + k) / 8 < n) : burst l at0 bt (k + 1) = burst l at0 bt k := by
  simp only [burst]
  rw [if_neg (by unfold eff; rw [hn]; cases hb : bt.testBit k <;> simp_all)]

set_option maxHeartbeats 2000000 in
theorem bursts_small (A : Option Addr) (n c : Nat) (l : List UInt8) (at0 bt : Nat) (w : World) (ht : Tab w) (hr : RB w A n l) (hn : n ≤ 1000) (hat : at0 < 65536) :
    Calls Tryd.prog 7 #[.slice A n c, .agg #[.int .u16 (at0 : Int), .int .u32 (bt : Int)]] w fun e w' => e = .returned (.bool true) ∧ Below w.heap.size w w' := by
  obtain ⟨i0, hi, hz0, hz1, hz2⟩ := info_parts Tryd.infoU8
  have HI := Lib.hid hi
  clear hi
  have HT := Lib.hid ht
  have HR := Lib.hid hr
  clear ht hr
  go_enter Tryd.func7, Tryd.ntmps7
  go_wp2_with (at_builtin; refine wpList_append_any _ rfl (.tmp 11) (.tmp 12) _ rfl (w.heap.size + 1) 5 i0 _ 1 1 Tryd.underlying22 HI.out hz0 hz1 hz2 rfl (by decide) _ _ _ rfl (own_empty1 _ _ _) _ A n c (bs l) rfl (Reads.alloc (Reads.alloc HR.out (Nat.le_refl _) _) (by simp) _) (bs_one l) (by unfold maxLen; omega) (by omega) (by simp) ?_; intro v1 w1 hown1 hg1 hat1)
  have hown : w1.ownsRow (w.heap.size + 1) 5 1 v1 n (bs l) := by simpa using hown1
  have hb1 : Below (w.heap.size + 1) (w.alloc (.cells #[.int .u16 (at0 : Int), .int .u32 (bt : Int)] 37)) w1 := own_below ((Below.refl _ _).alloc (by simp) _) (by simp) (own_empty1 _ _ _) (Nat.le_refl _) hg1
  generalize hW0 : w.alloc (.cells #[.int .u16 (at0 : Int), .int .u32 (bt : Int)] 37) = W0 at hb1
  have hsz : W0.heap.size = w.heap.size + 1 := by rw [← hW0]; simp
  have c0 : W0.cell? ⟨w.heap.size, 0, none⟩ = some (.int .u16 (at0 : Int)) := by rw [← hW0, cell_new]; rfl
  have c1' : W0.cell? ⟨w.heap.size, 1, none⟩ = some (.int .u32 (bt : Int)) := by rw [← hW0, cell_new]; rfl
  have BB : Hid (Below w.heap.size w W0 ∧ W0.heap.size = w.heap.size + 1) := Lib.hid ⟨by rw [← hW0]; exact (Below.refl _ _).alloc (Nat.le_refl _) _, hsz⟩
  have C0 := Lib.hid c0
  have C1 := Lib.hid c1'
  clear hown1 hg1 hat1 hW0 hsz c0 c1'
  obtain ⟨Ac, cc, rfl, _, _⟩ := own_bytes hown
  go_loopw [6] (fun i wr => ∃ k : Nat, k ≤ 32 ∧ i = .int .i64 k ∧ wr.ownsRow (w.heap.size + 1) 5 1 (.slice Ac n cc) n (bs (burst l at0 bt k)) ∧ Below (w.heap.size + 1) W0 wr) (fun i _ => 32 - (intOf i).toNat)
  case atStart => exact ⟨0, by omega, rfl, hown, hb1⟩
  case round =>
    clear hown hb1
    obtain ⟨k, hk, rfl, hown, hbel⟩ := hrel
    by_cases hlt : k < 32
    · have d0 : wr.cell? ⟨w.heap.size, 0, none⟩ = some (.int .u16 (at0 : Int)) := (hbel.cell (p := ⟨w.heap.size, 0, none⟩) (Nat.lt_succ_self _)).trans C0.out
      have d1 : wr.cell? ⟨w.heap.size, 1, none⟩ = some (.int .u32 (bt : Int)) := (hbel.cell (p := ⟨w.heap.size, 1, none⟩) (Nat.lt_succ_self _)).trans C1.out
      have hbit := nat_bit bt k
      by_cases hb : bt.testBit k = true
      · rw [hb] at hbit
        by_cases hlen : (at0 + k) / 8 < n
        · obtain ⟨g, cap, e, hg0, hg1⟩ := hown.form (show 0 < n by omega)
          cases e
          have hbl : (burst l at0 bt k).length = n := by have := hown.1; rw [bs_length] at this; omega
          have hcell := hown.cellAt ((at0 + k) / 8) (by omega)
          rw [bs_at _ _ (by omega)] at hcell
          have hfz := hown.frozenAt ((at0 + k) / 8)
          have hst := hown.stored ((at0 + k) / 8) (.int .u8 (bits .xor .u8 (((burst l at0 bt k)[(at0 + k) / 8]).toNat : Int) (2 ^ ((at0 + k) % 8) % 256)))
          rw [flip_bs _ _ (by omega), ← burst_yes l at0 bt k n HR.out.len hb hlen] at hst
          generalize (burst l at0 bt k)[(at0 + k) / 8] = x at hcell hst
          have ST := Lib.hid hst
          clear hst hbl
          go_wp2_with fail
          go_roundw
          case rel => exact ⟨k + 1, by omega, by go_num, ST.out.1, hbel.setCell (p := ⟨g, (at0 + k) / 8, none⟩) hg0 _⟩
          case measure => simp [intOf]; omega
        · have hno := Lib.hid (burst_no l at0 bt k n HR.out.len (fun _ => hlen))
          have hge : (n : Int) ≤ ((at0 : Int) + (k : Int)) / 8 := by omega
          go_wp2_with fail
          go_roundw
          case rel => exact ⟨k + 1, by omega, by go_num, by rw [hno.out]; exact hown, hbel⟩
          case measure => simp [intOf]; omega
      · have hno := Lib.hid (burst_no l at0 bt k n HR.out.len (fun h => absurd h hb))
        rw [Bool.not_eq_true] at hb
        rw [hb] at hbit
        go_wp2_with fail
        go_roundw
        case rel => exact ⟨k + 1, by omega, by go_num, by rw [hno.out]; exact hown, hbel⟩
        case measure => simp [intOf]; omega
    · obtain rfl : k = 32 := by omega
      have hbw : Below w.heap.size w wr := BB.out.1.trans (hbel.mono (Nat.le_succ _))
      have RC := Lib.hid (RB.of_own hown)
      have RA := Lib.hid (HR.out.keep hbw)
      have TW := Lib.hid (HT.out.keep' hbw)
      have BW := Lib.hid hbw
      have hs1 := fun (w' : World) (h : RB w' A n l) => h.run_string (P := Tryd.prog) c 22 5 9 Tryd.underlying22 Tryd.underlying5 Tryd.underlying9
      have hs2 := fun (w' : World) (h : RB w' Ac n (burst l at0 bt 32)) => h.run_string (P := Tryd.prog) cc 22 5 9 Tryd.underlying22 Tryd.underlying5 Tryd.underlying9
      have S1 := Lib.hid hs1
      have hdet := burst_detected 0#32 l at0 bt
      have D := Lib.hid hdet
      clear hdet hown hbel hbw
      generalize burst l at0 bt 32 = L at RC hs2 D
      have S2 := Lib.hid hs2
      clear hs1 hs2
      by_cases heq : l = L
      · subst heq
        go_wp2_with fail
        go_region_held3 (fun w' => (convert 22 9 (.slice A n c)).run Tryd.prog w' = .ok (.string ⟨l.toArray⟩) w' ∧ (convert 22 9 (.slice Ac n cc)).run Tryd.prog w' = .ok (.string ⟨l.toArray⟩) w') (first | assumption | exact ⟨S1.out _ RA.out, S2.out _ RC.out⟩ | exact ⟨S1.out _ ra2, S2.out _ rc2⟩)
          (first
            | (go_at_call 11; (with_reducible refine (sum_any A n c l _ ?_ ?_ ?_).mono ?_); (· exact TW.out); (· exact RA.out); (· omega); rintro e w' ⟨rfl, rfl⟩)
            | (go_at_call 11; (with_reducible refine (sum_any Ac n cc l _ ?_ ?_ ?_).mono ?_); (· exact TW.out); (· exact RC.out); (· omega); rintro e w' ⟨rfl, rfl⟩)
            | (go_at_call 15; refine (works_any _ (by exact TW.out)).mono ?_; rintro e w2 ⟨rfl, hb2⟩; have ra2 : RB w2 A n l := RB.keep (by exact RA.out) hb2; have rc2 : RB w2 Ac n l := RB.keep (by exact RC.out) hb2))
        go_wp2_with fail
        go_ret
        exact ⟨rfl, BW.out.trans ((show Below wr.heap.size wr w2 from by exact ((Below.refl _ _).drew).trans hb2).mono BW.out.size)⟩
      · have hne : (((add 0#32 l).toNat : Int) == ((add 0#32 L).toNat : Int)) = false := by
          rw [b_eq]; simp only [decide_eq_false_iff_not]; intro h; exact heq (D.out.1 h)
        have hll : (l == L) = false := by simpa using heq
        go_wp2_with fail
        go_region_held3 (fun w' => (convert 22 9 (.slice A n c)).run Tryd.prog w' = .ok (.string ⟨l.toArray⟩) w' ∧ (convert 22 9 (.slice Ac n cc)).run Tryd.prog w' = .ok (.string ⟨L.toArray⟩) w') (first | assumption | exact ⟨S1.out _ RA.out, S2.out _ RC.out⟩ | exact ⟨S1.out _ ra2, S2.out _ rc2⟩)
          (first
            | (go_at_call 11; (with_reducible refine (sum_any A n c l _ ?_ ?_ ?_).mono ?_); (· exact TW.out); (· exact RA.out); (· omega); rintro e w' ⟨rfl, rfl⟩)
            | (go_at_call 11; (with_reducible refine (sum_any Ac n cc L _ ?_ ?_ ?_).mono ?_); (· exact TW.out); (· exact RC.out); (· omega); rintro e w' ⟨rfl, rfl⟩)
            | (go_at_call 15; refine (works_any _ (by exact TW.out)).mono ?_; rintro e w2 ⟨rfl, hb2⟩; have ra2 : RB w2 A n l := RB.keep (by exact RA.out) hb2; have rc2 : RB w2 Ac n L := RB.keep (by exact RC.out) hb2))
        go_wp2_with fail
        go_ret
        exact ⟨rfl, BW.out.trans ((show Below wr.heap.size wr w2 from by exact ((Below.refl _ _).drew).trans hb2).mono BW.out.size)⟩

theorem bursts_big (A : Option Addr) (n c : Nat) (x y : Value) (w : World) (hn : 1000 < n) :
    Calls Tryd.prog 7 #[.slice A n c, .agg #[x, y]] w fun e w' => e = .returned (.bool true) ∧ Below w.heap.size w w' := by
  go_enter Tryd.func7, Tryd.ntmps7
  go_wp2
  go_ret
  exact ⟨rfl, (Below.refl _ _).alloc (Nat.le_refl _) _⟩

theorem bursts_any (A : Option Addr) (n c : Nat) (l : List UInt8) (at0 bt : Nat) (w : World) (ht : Tab w) (hr : RB w A n l) (hat : at0 < 65536) :
    Calls Tryd.prog 7 #[.slice A n c, .agg #[.int .u16 (at0 : Int), .int .u32 (bt : Int)]] w fun e w' => e = .returned (.bool true) ∧ Below w.heap.size w w' := by
  rcases Nat.lt_or_ge 1000 n with h | h
  · exact bursts_big A n c _ _ w h
  · exact bursts_small A n c l at0 bt w ht hr h hat
end Go.Proofs.YtgleaiecdelbbaaDoor.Crc
