/-
  The walk of CrcGroups: three check sums are joined to the same one, whichever two are joined first; it returns true for every input and leaves old memory alone. Conditions: the table of four bits holds its numbers.
-/
import Derived.Test.YtgleaiecdelbbaaDoorCrcWorks
import Derived.Deep.RegionHeld3
import Derived.IntWalk
namespace Go.Proofs.YtgleaiecdelbbaaDoor.Crc
open Go.RowKit Wd

theorem join_nat (a b : BitVec 32) (n : Nat) (w : World) (h2 : n ≤ 9223372036854775807) :
    Calls Tryd.prog 16 #[.int .u32 (a.toNat : Int), .int .u32 (b.toNat : Int), .int .i64 (n : Int)] w fun e w' => e = .returned (.int .u32 ((join a b n).toNat : Int)) ∧ w = w' :=
  join_any a b n w (by omega) (by omega)

set_option maxHeartbeats 1000000 in
theorem groups_any (a b c : BitVec 32) (m n : Nat) (w : World) (ht : Tab w) (hm : m ≤ 18446744073709551615) (hn : n ≤ 18446744073709551615) :
    Calls Tryd.prog 6 #[.agg #[.int .u32 (a.toNat : Int), .int .u32 (b.toNat : Int), .int .u32 (c.toNat : Int), .int .u64 (m : Int), .int .u64 (n : Int)]] w fun e w' => e = .returned (.bool true) ∧ Below w.heap.size w w' := by
  have HT := Lib.hid ht
  clear ht
  go_enter Tryd.func6, Tryd.ntmps6
  go_wp2_with fail
  obtain ⟨i, hi⟩ : ∃ i : Nat, (m : Int) % 1099511627777 = i := ⟨m % 1099511627777, by omega⟩
  obtain ⟨k, hk⟩ : ∃ k : Nat, (n : Int) % 1099511627777 = k := ⟨n % 1099511627777, by omega⟩
  have hib : i ≤ 1099511627776 := by omega
  have hkb : k ≤ 1099511627776 := by omega
  rw [hi, hk]
  clear hi hk
  obtain ⟨t, ht⟩ : ∃ t : Nat, t = i + k := ⟨_, rfl⟩
  have htb : t ≤ 2199023255552 := by omega
  have hsum : IntKind.i64.wrap ((i : Int) + (k : Int)) = (t : Int) := by rw [IntWalk.i64_in _ (by omega)]; omega
  have heq : join (join a b i) c k = join a (join b c k) t := by rw [ht, join_assoc]
  clear ht hm hn
  go_region_held3 (fun w' => w'.cell? ⟨w.heap.size, 0, none⟩ = some (.int .u32 (a.toNat : Int)) ∧ w'.cell? ⟨w.heap.size, 1, none⟩ = some (.int .u32 (b.toNat : Int)) ∧ w'.cell? ⟨w.heap.size, 2, none⟩ = some (.int .u32 (c.toNat : Int))) (go_keep)
    (first
      | (go_at_call 16; refine (join_nat _ _ _ _ (by omega)).mono ?_; rintro e w' ⟨rfl, rfl⟩)
      | (go_at_call 15; refine (works_any _ (by exact HT.out.alloc _)).mono ?_; rintro e w2 ⟨rfl, hb2⟩; have hc2 := bcell hb2))
  clear hc2
  go_wp2_with fail
  go_ret
  exact ⟨rfl, (((Below.refl _ _).alloc (Nat.le_refl _) _).drew).trans (hb2.mono (by simp))⟩
end Go.Proofs.YtgleaiecdelbbaaDoor.Crc
