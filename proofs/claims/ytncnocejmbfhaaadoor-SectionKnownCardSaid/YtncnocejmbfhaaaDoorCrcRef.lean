/-
  The contracts of the reference's check sums (henkanref13): step, invert, Add and Sum compute the plain law's functions and leave memory alone. Conditions: the slice can be read.
-/
import Derived.Test.YtncnocejmbfhaaaDoorCrcWalks
namespace Go.Proofs.YtncnocejmbfhaaaDoor.Crc
open Go.RowKit Wd

theorem rem2 (r : BitVec 32) : ((r.toNat : Int) % (2 : Int) == 1) = r.getLsbD 0 := by
  rw [show r.getLsbD 0 = r.toNat.testBit 0 from rfl, Nat.testBit_zero, Bool.eq_iff_iff]
  simp only [beq_iff_eq, decide_eq_true_eq]; omega
theorem ref_yes (b : BitVec 32) (h : ((b.toNat : Int) % (2 : Int) == 1) = true) : bits .xor .u32 ((b.toNat : Int) / (2 : Int)) 3988292384 = ((step b).toNat : Int) :=
  step_yes b (by rw [low_bit, ← rem2]; exact h)
theorem ref_no (b : BitVec 32) (h : ((b.toNat : Int) % (2 : Int) == 1) = false) : (b.toNat : Int) / (2 : Int) = ((step b).toNat : Int) :=
  step_no b (by rw [low_bit, ← rem2]; exact h)

set_option maxHeartbeats 400000 in
theorem step_ref (r : BitVec 32) (w : World) :
    Calls Tryd.prog 51 #[.int .u32 (r.toNat : Int)] w fun e w' => e = .returned (.int .u32 ((stepN 8 r).toNat : Int)) ∧ w = w' := by
  go_enter Tryd.func51, Tryd.ntmps51
  go_wp2
  go_loop [0, 3] (fun r1 i => ∃ k : Nat, k ≤ 8 ∧ i = .int .i64 k ∧ r1 = .int .u32 ((stepN k r).toNat : Int)) (fun _ i => 8 - (intOf i).toNat)
  case atStart => exact ⟨0, by omega, rfl, rfl⟩
  case round =>
    obtain ⟨k, hk, rfl, rfl⟩ := hrel
    have hs := stepN_succ' k r
    by_cases hlt : k < 8
    · generalize stepN k r = R at hs
      have HS := Lib.hid hs
      clear hs
      go_wp2
      · go_round
        case rel => exact ⟨k + 1, by omega, by go_num, by rw [HS.out, ref_yes _ ‹_›]⟩
        case measure => simp [intOf]; omega
      · go_round
        case rel => exact ⟨k + 1, by omega, by go_num, by rw [HS.out, ← ref_no R ‹_›]⟩
        case measure => simp [intOf]; omega
    · obtain rfl : k = 8 := by omega
      clear hs
      go_wp2
      go_ret
      exact ⟨rfl, rfl⟩

theorem invert_ref (r : BitVec 32) (w : World) :
    Calls Tryd.prog 50 #[.int .u32 (r.toNat : Int)] w fun e w' => e = .returned (.int .u32 ((~~~ r).toNat : Int)) ∧ w = w' := by
  have hnot := b_not' r
  obtain ⟨ns, hns⟩ : ∃ ns, ns = ~~~ r := ⟨_, rfl⟩
  rw [← hns] at hnot
  have NS := Lib.hid hns
  clear hns
  go_enter Tryd.func50, Tryd.ntmps50
  go_wp2
  go_ret
  obtain rfl := NS.out
  exact ⟨rfl, rfl⟩

set_option maxHeartbeats 400000 in
theorem addR_any (s : BitVec 32) (A : Option Addr) (n c : Nat) (l : List UInt8) (w : World) (hr : RB w A n l) (hn : n ≤ 9223372036854775807) :
    Calls Tryd.prog 41 #[.int .u32 (s.toNat : Int), .slice A n c] w fun e w' => e = .returned (.int .u32 ((add s l).toNat : Int)) ∧ w = w' := by
  have hl := hr.len
  have HL := Lib.hid hl
  clear hl
  go_enter Tryd.func41, Tryd.ntmps41
  go_wp2_with fail
  refine (invert_ref _ _).mono ?_
  rintro e w' ⟨rfl, rfl⟩
  obtain ⟨ns, hns⟩ : ∃ ns, ns = ~~~ s := ⟨_, rfl⟩
  rw [← hns]
  have NS := Lib.hid hns
  clear hns
  go_wp2_with fail
  go_loop [5, 6] (fun r i => ∃ k : Nat, k ≤ n ∧ i = .int .i64 k ∧ r = .int .u32 ((run ns (l.take k)).toNat : Int)) (fun _ i => n - (intOf i).toNat)
  case atStart => exact ⟨0, Nat.zero_le _, rfl, rfl⟩
  case round =>
    obtain ⟨k, hk, rfl, rfl⟩ := hrel
    by_cases hlt : k < n
    · obtain ⟨ad, rfl, hbl, hcell⟩ := hr.at_ hlt
      have hrn : run ns (l.take (k + 1)) = byte (run ns (l.take k)) (l.getD k 0) := by rw [take_snoc l k (by have := HL.out; omega), run_snoc]
      generalize hx : l.getD k 0 = x at hcell hrn
      generalize hR : run ns (l.take k) = R at hrn
      have hcx : x.toNat < 256 := x.toNat_lt
      have h1 : bits .xor .u32 (R.toNat : Int) (x.toNat : Int) = ((R ^^^ BitVec.ofNat 32 x.toNat).toNat : Int) := by
        rw [← b_xor, BitVec.toNat_ofNat, Nat.mod_eq_of_lt (by omega)]
      have F : Hid (run ns (l.take (k + 1)) = stepN 8 (R ^^^ BitVec.ofNat 32 x.toNat)) := hrn
      clear hrn hx hR
      generalize R ^^^ BitVec.ofNat 32 x.toNat = r1 at h1 F
      go_wp2_with fail
      refine (step_ref _ _).mono ?_
      rintro e w' ⟨rfl, rfl⟩
      go_wp2_with fail
      go_round
      case rel => exact ⟨k + 1, by omega, by go_num, by rw [F.out]⟩
      case measure => simp [intOf]; omega
    · have e : l.take k = l := List.take_of_length_le (by have := HL.out; omega)
      rw [e]
      go_wp2_with fail
      refine (invert_ref _ _).mono ?_
      rintro e w' ⟨rfl, rfl⟩
      have hadd : ~~~ run ns l = add s l := by unfold add; rw [NS.out]
      rw [hadd]
      clear hadd
      go_wp2_with fail
      go_ret
      exact ⟨rfl, rfl⟩

theorem sumR_any (A : Option Addr) (n c : Nat) (l : List UInt8) (w : World) (hr : RB w A n l) (hn : n ≤ 9223372036854775807) :
    Calls Tryd.prog 30 #[.slice A n c] w fun e w' => e = .returned (.int .u32 ((add 0#32 l).toNat : Int)) ∧ w = w' := by
  have H := Lib.hid (addR_any 0#32 A n c l w hr hn)
  clear hr
  go_enter Tryd.func30, Tryd.ntmps30
  go_wp2_with fail
  refine H.out.mono ?_
  rintro e w' ⟨rfl, rfl⟩
  go_wp2_with fail
  go_ret
  exact ⟨rfl, rfl⟩

end Go.Proofs.YtncnocejmbfhaaaDoor.Crc
