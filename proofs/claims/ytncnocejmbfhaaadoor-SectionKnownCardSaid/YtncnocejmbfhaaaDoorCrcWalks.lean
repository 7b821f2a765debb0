/-
  The contracts of package crc: Add and Sum compute the plain law's functions and leave memory alone. Conditions: the table of four bits holds its numbers (Add, Sum); the slice can be read.
-/
import Derived.Test.YtncnocejmbfhaaaDoorCrcBits
import Derived.Test.YtncnocejmbfhaaaDoorWords
import Derived.Lib.SlBytesConst
namespace Go.Proofs.YtncnocejmbfhaaaDoor.Crc
open Go.RowKit Wd

/-- the table of four bits lies in its variable -/
def Tab (w : World) : Prop := ∀ j, j < 16 → w.cell? ⟨0, j, none⟩ = some (.int .u32 (tab.getD j 0 : Int))
theorem Tab.keep {w w' : World} (h : Tab w) (hb : Below (0 + 1) w w') : Tab w' := fun j hj => (hb.cell (p := ⟨0, j, none⟩) (Nat.lt_succ_self _)).trans (h j hj)

theorem Tab.lt {w : World} (h : Tab w) : 0 < w.heap.size := by
  have h0 := h 0 (by decide)
  rcases Nat.lt_or_ge 0 w.heap.size with h' | h'
  · exact h'
  · simp [World.cell?, Array.getElem?_eq_none h'] at h0
theorem Tab.keep' {w w' : World} (h : Tab w) (hb : Below w.heap.size w w') : Tab w' := h.keep (hb.mono h.lt)
theorem Tab.alloc {w : World} (h : Tab w) (o : Obj) : Tab (w.alloc o) := fun j hj => Lib.cell?_alloc_marked o (h j hj)

/-- one look into the table -/
theorem Tab.look {w : World} (h : Tab w) (r : BitVec 32) : ∃ (j : Nat) (t : BitVec 32), j < 16 ∧ bits .and .u32 (r.toNat : Int) 15 = (j : Int) ∧ w.cell? ⟨0, j, none⟩ = some (.int .u32 (t.toNat : Int)) ∧ (r >>> 4) ^^^ t = stepN 4 r := by
  have hlt : (r &&& 15#32).toNat < 16 := by
    rw [BitVec.toNat_and]
    exact Nat.lt_of_le_of_lt Nat.and_le_right (by decide)
  have hb : ∀ n : Fin 16, tab.getD n.val 0 < 4294967296 := by decide +kernel
  refine ⟨(r &&& 15#32).toNat, BitVec.ofNat 32 (tab.getD (r &&& 15#32).toNat 0), hlt, b_and15 r, ?_, (nibble r).symm⟩
  rw [h _ hlt, BitVec.toNat_ofNat, Nat.mod_eq_of_lt (hb ⟨_, hlt⟩)]

theorem take_snoc (l : List UInt8) (k : Nat) (h : k < l.length) : l.take (k + 1) = l.take k ++ [l.getD k 0] := by
  rw [List.take_succ_eq_append_getElem h]; simp [List.getD, h]

set_option maxHeartbeats 400000 in
theorem add_any (s : BitVec 32) (A : Option Addr) (n c : Nat) (l : List UInt8) (w : World) (ht : Tab w) (hr : RB w A n l) (hn : n ≤ 9223372036854775807) :
    Calls Tryd.prog 49 #[.int .u32 (s.toNat : Int), .slice A n c] w fun e w' => e = .returned (.int .u32 ((add s l).toNat : Int)) ∧ w = w' := by
  have hl := hr.len
  have HL := Lib.hid hl
  clear hl
  have hnot := b_notm s
  obtain ⟨ns, hns⟩ : ∃ ns, ns = ~~~ s := ⟨_, rfl⟩
  rw [← hns] at hnot
  have NS := Lib.hid hns
  clear hns
  go_enter Tryd.func49, Tryd.ntmps49
  go_wp2
  go_loop [5, 12] (fun r i => ∃ k : Nat, k ≤ n ∧ i = .int .i64 k ∧ r = .int .u32 ((run ns (l.take k)).toNat : Int)) (fun _ i => n - (intOf i).toNat)
  case atStart => exact ⟨0, Nat.zero_le _, rfl, rfl⟩
  case round =>
    obtain ⟨k, hk, rfl, rfl⟩ := hrel
    clear hnot
    by_cases hlt : k < n
    · obtain ⟨ad, rfl, hbl, hcell⟩ := hr.at_ hlt
      have hrn : run ns (l.take (k + 1)) = byte (run ns (l.take k)) (l.getD k 0) := by rw [take_snoc l k (by have := HL.out; omega), run_snoc]
      generalize hx : l.getD k 0 = x at hcell hrn
      generalize hR : run ns (l.take k) = R at hrn
      have hcx : x.toNat < 256 := x.toNat_lt
      have h1 : bits .xor .u32 (R.toNat : Int) (x.toNat : Int) = ((R ^^^ BitVec.ofNat 32 x.toNat).toNat : Int) := by
        rw [← b_xor, BitVec.toNat_ofNat, Nat.mod_eq_of_lt (by omega)]
      have hby := byte_nibbles R x
      generalize R ^^^ BitVec.ofNat 32 x.toNat = r1 at h1 hby
      obtain ⟨j1, t1, hj1, ha1, hc1, he1⟩ := ht.look r1
      have hs1 := b_shr4 r1
      have hx1 := b_xor (r1 >>> 4) t1
      rw [he1] at hx1
      generalize r1 >>> 4 = q1 at hs1 hx1 he1
      generalize stepN 4 r1 = r2 at hx1 he1 hby
      obtain ⟨j2, t2, hj2, ha2, hc2, he2⟩ := ht.look r2
      have hs2 := b_shr4 r2
      have hx2 := b_xor (r2 >>> 4) t2
      rw [he2] at hx2
      generalize r2 >>> 4 = q2 at hs2 hx2 he2
      generalize stepN 4 r2 = r3 at hx2 he2 hby
      have F : Hid (run ns (l.take (k + 1)) = r3) := hrn.trans hby
      have hr2 := b_lt r2
      have hr1 := b_lt r1
      clear hrn hby he1 he2 hx hR
      go_wp2
      go_round
      case rel => exact ⟨k + 1, by omega, by go_num, by rw [F.out]⟩
      case measure => simp [intOf]; omega
    · have e : l.take k = l := List.take_of_length_le (by have := HL.out; omega)
      rw [e]
      have hadd : add s l = ~~~ run ns l := by unfold add; rw [NS.out]
      have hnot := b_notm (run ns l)
      rw [← hadd] at hnot
      clear hadd
      obtain ⟨out, hout⟩ : ∃ out, out = add s l := ⟨_, rfl⟩
      rw [← hout] at hnot
      have OUT := Lib.hid hout
      clear hout
      go_wp2
      go_ret
      obtain rfl := OUT.out
      exact ⟨rfl, rfl⟩

theorem sum_any (A : Option Addr) (n c : Nat) (l : List UInt8) (w : World) (ht : Tab w) (hr : RB w A n l) (hn : n ≤ 9223372036854775807) :
    Calls Tryd.prog 39 #[.slice A n c] w fun e w' => e = .returned (.int .u32 ((add 0#32 l).toNat : Int)) ∧ w = w' := by
  have H := Lib.hid (add_any 0#32 A n c l w ht hr hn)
  clear ht hr
  go_enter Tryd.func39, Tryd.ntmps39
  go_wp2_with fail
  refine H.out.mono ?_
  rintro e w' ⟨rfl, rfl⟩
  go_wp2_with fail
  go_ret
  exact ⟨rfl, rfl⟩

end Go.Proofs.YtncnocejmbfhaaaDoor.Crc
