/-
  The walk of CrcXors: the check sum of the exclusive or of three sequences; it returns true for every input and leaves old memory alone. Conditions: the table of four bits holds its numbers.
-/
import Derived.Test.YtgleaiecdelbbaaDoorCrcWorks
import Derived.Test.YtgleaiecdelbbaaDoorCrcSums
import Derived.Deep.RegionHeld3
import Derived.WalkLawsBesides
import Derived.WalkSpells
import Derived.IntWalk
namespace Go.Proofs.YtgleaiecdelbbaaDoor.Crc
open Go.RowKit Wd

theorem xor3_take (l1 l2 l3 : List UInt8) (k : Nat) (h1 : k < l1.length) (h2 : k < l2.length) (h3 : k < l3.length) :
    xor3 (l1.take (k + 1)) (l2.take (k + 1)) (l3.take (k + 1)) = xor3 (l1.take k) (l2.take k) (l3.take k) ++ [l1.getD k 0 ^^^ l2.getD k 0 ^^^ l3.getD k 0] := by
  rw [take_snoc l1 k h1, take_snoc l2 k h2, take_snoc l3 k h3]
  unfold xor3
  rw [List.zip_append (by simp; omega), List.zip_append (by simp; omega)]
  simp
theorem b8_xor (a b : UInt8) : bits .xor .u8 (a.toNat : Int) (b.toNat : Int) = ((a ^^^ b).toNat : Int) := by
  rw [u8_xor_nat _ _ a.toNat_lt b.toNat_lt, UInt8.toNat_xor]

set_option maxHeartbeats 4000000 in
theorem xors_small (A1 A2 A3 : Option Addr) (n1 c1 n2 c2 n3 c3 : Nat) (l1 l2 l3 : List UInt8) (w : World) (ht : Tab w) (hr1 : RB w A1 n1 l1) (hr2 : RB w A2 n2 l2) (hr3 : RB w A3 n3 l3)
    (n : Nat) (hn : n ≤ 1000) (hmin : min (min (n1 : Int) (n2 : Int)) (n3 : Int) = (n : Int)) (h1 : n ≤ n1) (h2 : n ≤ n2) (h3 : n ≤ n3) (hc1 : n1 ≤ c1) (hc2 : n2 ≤ c2) (hc3 : n3 ≤ c3) :
    Calls Tryd.prog 8 #[.slice A1 n1 c1, .slice A2 n2 c2, .slice A3 n3 c3] w fun e w' => e = .returned (.bool true) ∧ Below w.heap.size w w' := by
  obtain ⟨i0, hi, hz0, hz1, hz2⟩ := info_parts Tryd.infoU8
  have HI := Lib.hid hi
  clear hi
  have HT := Lib.hid ht
  have R1 := Lib.hid hr1
  have R2 := Lib.hid hr2
  have R3 := Lib.hid hr3
  clear ht hr1 hr2 hr3
  go_enter Tryd.func8, Tryd.ntmps8
  go_wp2_with fail
  all_goals
    first
    | rw [show ((n3 : Nat) : Int) = (n : Int) from by omega]
    | rw [show ((n2 : Nat) : Int) = (n : Int) from by omega]
    | rw [show ((n1 : Nat) : Int) = (n : Int) from by omega]
  all_goals
    go_loopw [8, 9] (fun v i wr => ∃ k : Nat, k ≤ n ∧ i = .int .i64 k ∧ wr.ownsRow w.heap.size 5 1 v k (bs (xor3 (l1.take k) (l2.take k) (l3.take k))) ∧ Below w.heap.size w wr) (fun _ i _ => n - (intOf i).toNat)
    case atStart => exact ⟨0, by omega, rfl, World.ownsRow_nil _ _ _ _, Below.refl _ _⟩
    case round =>
      obtain ⟨k, hk, rfl, hown, hbel⟩ := hrel
      by_cases hlt : k < n
      · obtain ⟨ad1, rfl, hb1, hx1⟩ := R1.out.at_ (show k < n1 by omega)
        obtain ⟨ad2, rfl, hb2, hx2⟩ := R2.out.at_ (show k < n2 by omega)
        obtain ⟨ad3, rfl, hb3, hx3⟩ := R3.out.at_ (show k < n3 by omega)
        have hnext := xor3_take l1 l2 l3 k (by have := R1.out.len; omega) (by have := R2.out.len; omega) (by have := R3.out.len; omega)
        generalize l1.getD k 0 = x1 at hx1 hnext
        generalize l2.getD k 0 = x2 at hx2 hnext
        generalize l3.getD k 0 = x3 at hx3 hnext
        have e1 := b8_xor x1 x2
        have e2 := b8_xor (x1 ^^^ x2) x3
        generalize x1 ^^^ x2 = y at e1 e2 hnext
        generalize y ^^^ x3 = z at e2 hnext
        have N := Lib.hid hnext
        have X1 := Lib.hid hx1
        have X2 := Lib.hid hx2
        have X3 := Lib.hid hx3
        clear hnext hx1 hx2 hx3
        have g1 : wr.cell? (ad1.add k) = some (.int .u8 (x1.toNat : Int)) := (hbel.cell (by rw [block_of_add]; exact hb1)).trans X1.out
        have g2 : wr.cell? (ad2.add k) = some (.int .u8 (x2.toNat : Int)) := (hbel.cell (by rw [block_of_add]; exact hb2)).trans X2.out
        have g3 : wr.cell? (ad3.add k) = some (.int .u8 (x3.toNat : Int)) := (hbel.cell (by rw [block_of_add]; exact hb3)).trans X3.out
        have i1 : (k : Int) < (n1 : Int) := by omega
        have i2 : (k : Int) < (n2 : Int) := by omega
        have i3 : (k : Int) < (n3 : Int) := by omega
        have i0' : (0 : Int) ≤ (k : Int) := by omega
        go_wp2_with fail
        go_region_held3 (fun w' => w'.cell? (ad1.add k) = some (.int .u8 (x1.toNat : Int)) ∧ w'.cell? (ad2.add k) = some (.int .u8 (x2.toNat : Int)) ∧ w'.cell? (ad3.add k) = some (.int .u8 (x3.toNat : Int))) (first | go_keep | exact ⟨g1', g2', g3'⟩)
          ((refine step_append_any _ (by rfl) (.tmp 24) (.tmp 39) _ (by rfl) w.heap.size 5 i0 _ 1 1 Tryd.underlying22 HI.out hz0 hz1 hz2 rfl (by decide) _ _ _ (by rfl) (hown.alloc _) _ _ _ _ [.int .u8 (z.toNat : Int)] (by rfl) (by exact Reads.lit _ _ _ _ _ [.int .u8 (z.toNat : Int)] rfl rfl) (by intro u hu; simp at hu; subst hu; rfl) (by unfold maxLen; omega) (by omega) (by have := hbel.size; simp; omega) ?_; intro v' w1 hown' hg hat; have hbw1 : Below w.heap.size w w1 := own_below (by exact (hbel.drew).alloc (by simpa using hbel.size) _) (Nat.le_refl _) (by exact hown.alloc _) (Nat.le_refl _) hg; have g1' := (hbw1.cell (by rw [block_of_add]; exact hb1)).trans X1.out; have g2' := (hbw1.cell (by rw [block_of_add]; exact hb2)).trans X2.out; have g3' := (hbw1.cell (by rw [block_of_add]; exact hb3)).trans X3.out))
        have ho1 : w1.ownsRow w.heap.size 5 1 v' (k + 1) (bs (xor3 (l1.take (k + 1)) (l2.take (k + 1)) (l3.take (k + 1)))) := by rw [N.out, bs_append]; exact hown'
        clear hown' hg hat g1' g2' g3' g1 g2 g3 hown hbel
        go_wp2_with fail
        go_roundw
        case rel => exact ⟨k + 1, by omega, by go_num, ho1, hbw1⟩
        case measure => simp [intOf]; omega
      · obtain rfl : k = n := by omega
        have hlen : (xor3 (l1.take k) (l2.take k) (l3.take k)).length = k := by have := hown.1; rw [bs_length] at this; omega
        obtain ⟨A, c, rfl, hr, _⟩ := own_bytes hown
        have RD := Lib.hid hr
        have S1 := Lib.hid (show RB wr A1 k (l1.take k) by have := (R1.out.keep hbel).upto h1; rw [Nat.mul_one, bs_take] at this; exact this)
        have S2 := Lib.hid (show RB wr A2 k (l2.take k) by have := (R2.out.keep hbel).upto h2; rw [Nat.mul_one, bs_take] at this; exact this)
        have S3 := Lib.hid (show RB wr A3 k (l3.take k) by have := (R3.out.keep hbel).upto h3; rw [Nat.mul_one, bs_take] at this; exact this)
        have TW := Lib.hid (HT.out.keep' hbel)
        have BW := Lib.hid hbel
        have hx1 := b_xor (add 0#32 (l1.take k)) (add 0#32 (l2.take k))
        have hx2 := b_xor (add 0#32 (l1.take k) ^^^ add 0#32 (l2.take k)) (add 0#32 (l3.take k))
        have hfin : add 0#32 (xor3 (l1.take k) (l2.take k) (l3.take k)) = add 0#32 (l1.take k) ^^^ add 0#32 (l2.take k) ^^^ add 0#32 (l3.take k) :=
          add_xor3 _ _ _ (by have a := S1.out.len; have b := S2.out.len; omega) (by have a := S1.out.len; have b := S3.out.len; omega)
        rw [← hfin] at hx2
        clear hfin hown hr hbel hlen
        generalize hq : add 0#32 (l1.take k) ^^^ add 0#32 (l2.take k) = q at hx1 hx2
        clear hq
        have j1 : (k : Int) ≤ (c1 : Int) := by omega
        have j2 : (k : Int) ≤ (c2 : Int) := by omega
        have j3 : (k : Int) ≤ (c3 : Int) := by omega
        have j0 : (0 : Int) ≤ (k : Int) := by omega
        go_wp2_with fail
        go_region_held3 (fun _ => True) (exact trivial)
          (first
            | (go_at_call 11; (with_reducible refine (sum_any A k c (xor3 (l1.take k) (l2.take k) (l3.take k)) _ ?_ ?_ ?_).mono ?_); (· exact TW.out); (· exact RD.out); (· omega); rintro e w' ⟨rfl, rfl⟩)
            | (go_at_call 11; (with_reducible refine (sum_any A1 k c1 (l1.take k) _ ?_ ?_ ?_).mono ?_); (· exact TW.out); (· exact S1.out); (· omega); rintro e w' ⟨rfl, rfl⟩)
            | (go_at_call 11; (with_reducible refine (sum_any A2 k c2 (l2.take k) _ ?_ ?_ ?_).mono ?_); (· exact TW.out); (· exact S2.out); (· omega); rintro e w' ⟨rfl, rfl⟩)
            | (go_at_call 11; (with_reducible refine (sum_any A3 k c3 (l3.take k) _ ?_ ?_ ?_).mono ?_); (· exact TW.out); (· exact S3.out); (· omega); rintro e w' ⟨rfl, rfl⟩)
            | (go_at_call 15; refine (works_any _ (by exact TW.out)).mono ?_; rintro e w2 ⟨rfl, hb2⟩))
        go_wp2_with fail
        go_ret
        exact ⟨rfl, BW.out.trans ((show Below wr.heap.size wr w2 from by exact ((Below.refl _ _).drew).trans hb2).mono BW.out.size)⟩

theorem xors_big (A1 A2 A3 : Option Addr) (n1 c1 n2 c2 n3 c3 : Nat) (w : World) (h1 : 1000 < n1) (h2 : 1000 < n2) (h3 : 1000 < n3) :
    Calls Tryd.prog 8 #[.slice A1 n1 c1, .slice A2 n2 c2, .slice A3 n3 c3] w fun e w' => e = .returned (.bool true) ∧ Below w.heap.size w w' := by
  go_enter Tryd.func8, Tryd.ntmps8
  go_wp2
  all_goals go_ret
  all_goals exact ⟨rfl, Below.refl _ _⟩

theorem xors_any (A1 A2 A3 : Option Addr) (n1 c1 n2 c2 n3 c3 : Nat) (l1 l2 l3 : List UInt8) (w : World) (ht : Tab w) (hr1 : RB w A1 n1 l1) (hr2 : RB w A2 n2 l2) (hr3 : RB w A3 n3 l3) (hc1 : n1 ≤ c1) (hc2 : n2 ≤ c2) (hc3 : n3 ≤ c3) :
    Calls Tryd.prog 8 #[.slice A1 n1 c1, .slice A2 n2 c2, .slice A3 n3 c3] w fun e w' => e = .returned (.bool true) ∧ Below w.heap.size w w' := by
  by_cases h : 1000 < n1 ∧ 1000 < n2 ∧ 1000 < n3
  · exact xors_big A1 A2 A3 n1 c1 n2 c2 n3 c3 w h.1 h.2.1 h.2.2
  · exact xors_small A1 A2 A3 n1 c1 n2 c2 n3 c3 l1 l2 l3 w ht hr1 hr2 hr3 (min (min n1 n2) n3) (by omega) (by omega) (by omega) (by omega) (by omega) hc1 hc2 hc3
end Go.Proofs.YtgleaiecdelbbaaDoor.Crc
