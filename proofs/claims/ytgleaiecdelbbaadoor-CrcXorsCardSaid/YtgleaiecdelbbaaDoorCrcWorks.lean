/-
  The chapter's example about check sums holds: henkanlaw13.works returns true and leaves old memory alone. Conditions: the table of four bits holds its numbers.
-/
import Derived.Test.YtgleaiecdelbbaaDoorCrcWalks
namespace Go.Proofs.YtgleaiecdelbbaaDoor.Crc
open Go.RowKit Wd

def lit19 : List UInt8 := [49, 50, 51, 52, 53, 54, 55, 56, 57]
def lit14 : List UInt8 := [49, 50, 51, 52]
def lit59 : List UInt8 := [53, 54, 55, 56, 57]
theorem val19 : ((add 0#32 lit19).toNat : Int) = 3421780262 := by decide +kernel
theorem val59 : ((add (add 0#32 lit14) lit59).toNat : Int) = 3421780262 := by decide +kernel
theorem valJ : ((join (add 0#32 lit14) (add 0#32 lit59) 5).toNat : Int) = 3421780262 := by decide +kernel
set_option maxHeartbeats 400000 in
theorem works_any (w : World) (ht : Tab w) :
    Calls Tryd.prog 15 #[] w fun e w' => e = .returned (.bool true) ∧ Below w.heap.size w w' := by
  have HT := Lib.hid ht
  clear ht
  have kc := fun (w : World) (C : Array Value) (n c : Nat) => Lib.run_convert_bytes_const (P := Tryd.prog) w 22 5 C n c Tryd.underlying22 Tryd.underlying5
  go_enter Tryd.func15, Tryd.ntmps15
  go_wp2_with fail
  refine (sum_any _ _ _ lit19 _ (HT.out.alloc _) (RB.lit _ _ _ _ _ _ rfl rfl) (by decide)).mono ?_
  rintro e w1 ⟨rfl, hw⟩
  have T1 : Hid (Tab w1 ∧ Below w.heap.size w w1) := Lib.hid (by rw [← hw]; exact ⟨HT.out.alloc _, (Below.refl _ _).alloc (Nat.le_refl _) _⟩)
  clear hw
  rw [val19]
  go_wp2_with fail
  refine (sum_any _ _ _ lit14 _ (T1.out.1.alloc _) (RB.lit _ _ _ _ _ _ rfl rfl) (by decide)).mono ?_
  rintro e w2 ⟨rfl, hw⟩
  have T2 : Hid (Tab w2 ∧ Below w.heap.size w w2) := Lib.hid (by rw [← hw]; exact ⟨T1.out.1.alloc _, T1.out.2.alloc T1.out.2.size _⟩)
  clear hw
  go_wp2_with fail
  refine (add_any _ _ _ _ lit59 _ (T2.out.1.alloc _) (RB.lit _ _ _ _ _ _ rfl rfl) (by decide)).mono ?_
  rintro e w3 ⟨rfl, hw⟩
  have T3 : Hid (Tab w3 ∧ Below w.heap.size w w3) := Lib.hid (by rw [← hw]; exact ⟨T2.out.1.alloc _, T2.out.2.alloc T2.out.2.size _⟩)
  clear hw
  rw [val59]
  go_wp2_with fail
  refine (sum_any _ _ _ lit14 _ (T3.out.1.alloc _) (RB.lit _ _ _ _ _ _ rfl rfl) (by decide)).mono ?_
  rintro e w4 ⟨rfl, hw⟩
  have T4 : Hid (Tab w4 ∧ Below w.heap.size w w4) := Lib.hid (by rw [← hw]; exact ⟨T3.out.1.alloc _, T3.out.2.alloc T3.out.2.size _⟩)
  clear hw
  go_wp2_with fail
  refine (sum_any _ _ _ lit59 _ (T4.out.1.alloc _) (RB.lit _ _ _ _ _ _ rfl rfl) (by decide)).mono ?_
  rintro e w5 ⟨rfl, hw⟩
  have T5 : Hid (Tab w5 ∧ Below w.heap.size w w5) := Lib.hid (by rw [← hw]; exact ⟨T4.out.1.alloc _, T4.out.2.alloc T4.out.2.size _⟩)
  clear hw
  go_wp2_with fail
  refine (join_any _ _ 5 _ (by decide) (by decide)).mono ?_
  rintro e w6 ⟨rfl, rfl⟩
  rw [show (5 : Int).toNat = 5 from rfl, valJ]
  go_wp2_with fail
  go_ret
  exact ⟨rfl, T5.out.2⟩
end Go.Proofs.YtgleaiecdelbbaaDoor.Crc
