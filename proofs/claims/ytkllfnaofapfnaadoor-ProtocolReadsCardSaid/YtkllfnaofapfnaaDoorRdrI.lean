/-
  The contract of signed of package protocol's reader. Conditions: the reader lies in a block of its own, above the bytes that it reads, which are within the form's reach. (Printed by gen/rdr.py.)
-/
import Derived.Test.YtkllfnaofapfnaaDoorProtRdr
import Derived.Test.YtkllfnaofapfnaaDoorCodRefI
import Derived.Deep.RegionHeld3
namespace Go.Proofs.YtkllfnaofapfnaaDoor.Prot
open Go.RowKit Wd Utf Cod

theorem rI_none {l : List UInt8} {s : St} (h : uOf l s.1 = none) : rI l s = (0, (s.1, true)) := by
  unfold rI; rw [h]; cases s.2 <;> rfl
theorem rI_some {l : List UInt8} {v k : Nat} {s : St} (h : uOf l s.1 = some (v, k)) (hs : s.2 = false) : rI l s = (zag v, (s.1 + k, false)) := by
  unfold rI; rw [h, hs]
theorem sint_none {A : Option Addr} {n c a : Nat} {l : List UInt8} (hR : uOf l a = none) (w : World) (hs : RB w A n l) (hn : n ≤ 140737488355328) (ha : a ≤ 140737488355328) :
    Calls Tryd.prog 64 #[.slice A n c, .int .i64 (a : Int)] w fun e w' => Below w.heap.size w w' ∧ e = .returned (.tuple #[.int .i64 0, .int .i64 0, .bool false]) := by
  have := int_any A n c (a : Int) l w hs hn (by omega)
  unfold IPost at this
  rw [uintOf_uOf, hR] at this
  exact this
theorem sint_some {A : Option Addr} {n c a v k : Nat} {l : List UInt8} (hR : uOf l a = some (v, k)) (w : World) (hs : RB w A n l) (hn : n ≤ 140737488355328) (ha : a ≤ 140737488355328) :
    Calls Tryd.prog 64 #[.slice A n c, .int .i64 (a : Int)] w fun e w' => Below w.heap.size w w' ∧ e = .returned (.tuple #[.int .i64 (zag v), .int .i64 ((a + k : Nat) : Int), .bool true]) := by
  have := int_any A n c (a : Int) l w hs hn (by omega)
  unfold IPost at this
  rw [uintOf_uOf, hR] at this
  exact this
set_option maxRecDepth 100000 in
set_option maxHeartbeats 2000000 in
theorem signed_any (g : Nat) (A : Option Addr) (n c : Nat) (l : List UInt8) (s : St) (w : World) (h : Rd w g A n c s) (hs : RB w A n l) (hn : n ≤ 140737488355328) (ha : s.1 ≤ 140737488355328) :
    Calls Tryd.prog 43 #[.pointer (some ⟨g, 0, none⟩)] w fun e w' => e = .returned (.int .i64 (rI l s).1) ∧ Rd w' g A n c (rI l s).2 ∧ Upd g w w' := by
  have k0 : w.cell? ⟨g, 0, none⟩ = some (.slice A n c) := Blk.cell h 0
  have k1 : w.cell? ⟨g, 1, none⟩ = some (.int .i64 (s.1 : Int)) := Blk.cell h 1
  obtain ⟨a, b⟩ := s
  simp only at ha k1
  have HR := Lib.hid h
  have HS := Lib.hid hs
  clear h hs
  rcases hu : uOf l a with _ | ⟨v, k⟩
  · have HU := Lib.hid hu
    have HX := Lib.hid (rI_none (s := (a, b)) hu)
    clear hu
    go_enter Tryd.func43, Tryd.ntmps43
    go_wp2_with fail
    go_region_held3 (fun w' => w'.cell? ⟨g, 0, none⟩ = some (.slice A n c) ∧ w'.cell? ⟨g, 1, none⟩ = some (.int .i64 (a : Int))) (first | exact hcc | go_keep)
      (first
        | (go_at_call 64; (with_reducible refine (sint_none HU.out _ ?_ (by omega) (by omega)).mono ?_); (· exact HS.out); rintro e w1 ⟨hb1, rfl⟩; have R1 := Lib.hid (Rd.keep (wx := w.drew) (by exact HR.out) hb1); have U1 : Hid (Upd g w w1) := Lib.hid (((Upd.refl g w).drew).trans (upd_below hb1)); have hcc : w1.cell? ⟨g, 0, none⟩ = some (.slice A n c) ∧ w1.cell? ⟨g, 1, none⟩ = some (.int .i64 (a : Int)) := ⟨Blk.cell R1.out 0, Blk.cell R1.out 1⟩; clear hb1)
        | fail)
    clear hcc k0 k1
    have k2 : w1.cell? ⟨g, 2, none⟩ = some (.bool b) := Blk.cell R1.out 2
    have f2 := Blk.frozen R1.out 2
    go_wp2_with fail
    go_ret
    exact ⟨by rw [HX.out]; rfl, by rw [HX.out]; exact R1.out.bad, U1.out.set_ 2 _⟩
  · have HU := Lib.hid hu
    have HX0 := Lib.hid (rI_some (s := (a, false)) hu rfl)
    clear hu
    generalize hz : zag v = z at HX0
    have HZ := Lib.hid hz
    clear hz
    go_enter Tryd.func43, Tryd.ntmps43
    go_wp2_with fail
    go_region_held3 (fun w' => w'.cell? ⟨g, 0, none⟩ = some (.slice A n c) ∧ w'.cell? ⟨g, 1, none⟩ = some (.int .i64 (a : Int))) (first | exact hcc | go_keep)
      (first
        | (go_at_call 64; (with_reducible refine (sint_some HU.out _ ?_ (by omega) (by omega)).mono ?_); (· exact HS.out); rw [HZ.out]; rintro e w1 ⟨hb1, rfl⟩; have R1 := Lib.hid (Rd.keep (wx := w.drew) (by exact HR.out) hb1); have U1 : Hid (Upd g w w1) := Lib.hid (((Upd.refl g w).drew).trans (upd_below hb1)); have hcc : w1.cell? ⟨g, 0, none⟩ = some (.slice A n c) ∧ w1.cell? ⟨g, 1, none⟩ = some (.int .i64 (a : Int)) := ⟨Blk.cell R1.out 0, Blk.cell R1.out 1⟩; clear hb1)
        | fail)
    clear hcc k0 k1
    have k2 : w1.cell? ⟨g, 2, none⟩ = some (.bool b) := Blk.cell R1.out 2
    have k1 : w1.cell? ⟨g, 1, none⟩ = some (.int .i64 (a : Int)) := Blk.cell R1.out 1
    have f2 := Blk.frozen R1.out 2
    have f1 := Blk.frozen R1.out 1
    rcases b with _ | _
    · go_wp2_with fail
      go_ret
      exact ⟨by rw [HX0.out]; rfl, by rw [HX0.out]; exact R1.out.at_ (a + k), U1.out.set_ 1 _⟩
    · have HX := Lib.hid (rI_bad (l := l) (s := (a, true)) rfl)
      go_wp2_with fail
      go_ret
      exact ⟨by rw [HX.out]; rfl, by rw [HX.out]; exact R1.out.bad, U1.out.set_ 2 _⟩
end Go.Proofs.YtkllfnaofapfnaaDoor.Prot
