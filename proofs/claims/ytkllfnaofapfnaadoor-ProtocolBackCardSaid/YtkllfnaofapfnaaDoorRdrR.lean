/-
  The contracts of signed of package protocol's reader, and of the reference's reader: uint, text, int. Conditions: the reader lies in a block of its own, above the bytes that it reads, which are within the form's reach. (Printed by gen/rdr.py.)
-/
import Derived.Test.YtkllfnaofapfnaaDoorProtRdr
import Derived.Test.YtkllfnaofapfnaaDoorCodRefI
import Derived.Test.YtkllfnaofapfnaaDoorCodRef
import Derived.Deep.RegionHeld3
namespace Go.Proofs.YtkllfnaofapfnaaDoor.Prot
open Go.RowKit Wd Utf Cod

theorem rI_none {l : List UInt8} {s : St} (h : uOf l s.1 = none) : rI l s = (0, (s.1, true)) := by
  unfold rI; rw [h]; cases s.2 <;> rfl
theorem rI_some {l : List UInt8} {v k : Nat} {s : St} (h : uOf l s.1 = some (v, k)) (hs : s.2 = false) : rI l s = (zag v, (s.1 + k, false)) := by
  unfold rI; rw [h, hs]
theorem sint_none {A : Option Addr} {n c a : Nat} {l : List UInt8} (hR : uOf l a = none) (w : World) (hs : RB w A n l) (hn : n ≤ 140737488355328) (ha : a ≤ 140737488355328) :
    Calls Tryd.prog 64 #[.slice A n c, .int .i64 (a : Int)] w fun e w' => Below w.heap.size w w' ∧ e = .returned (.tuple #[.int .i64 0, .int .i64 0, .bool false]) := by
  have := int_any A n c (a : Int) l w hs hn (by omega)
  unfold IPost at this
  rw [uintOf_uOf, hR] at this
  exact this
theorem sint_some {A : Option Addr} {n c a v k : Nat} {l : List UInt8} (hR : uOf l a = some (v, k)) (w : World) (hs : RB w A n l) (hn : n ≤ 140737488355328) (ha : a ≤ 140737488355328) :
    Calls Tryd.prog 64 #[.slice A n c, .int .i64 (a : Int)] w fun e w' => Below w.heap.size w w' ∧ e = .returned (.tuple #[.int .i64 (zag v), .int .i64 ((a + k : Nat) : Int), .bool true]) := by
  have := int_any A n c (a : Int) l w hs hn (by omega)
  unfold IPost at this
  rw [uintOf_uOf, hR] at this
  exact this
set_option maxRecDepth 100000 in
set_option maxHeartbeats 2000000 in
theorem signed_any (g : Nat) (A : Option Addr) (n c : Nat) (l : List UInt8) (s : St) (w : World) (h : Rd w g A n c s) (hs : RB w A n l) (hn : n ≤ 140737488355328) (ha : s.1 ≤ 140737488355328) :
    Calls Tryd.prog 43 #[.pointer (some ⟨g, 0, none⟩)] w fun e w' => e = .returned (.int .i64 (rI l s).1) ∧ Rd w' g A n c (rI l s).2 ∧ Upd g w w' := by
  have k0 : w.cell? ⟨g, 0, none⟩ = some (.slice A n c) := Blk.cell h 0
  have k1 : w.cell? ⟨g, 1, none⟩ = some (.int .i64 (s.1 : Int)) := Blk.cell h 1
  obtain ⟨a, b⟩ := s
  simp only at ha k1
  have HR := Lib.hid h
  have HS := Lib.hid hs
  clear h hs
  rcases hu : uOf l a with _ | ⟨v, k⟩
  · have HU := Lib.hid hu
    have HX := Lib.hid (rI_none (s := (a, b)) hu)
    clear hu
    go_enter Tryd.func43, Tryd.ntmps43
    go_wp2_with fail
    go_region_held3 (fun w' => w'.cell? ⟨g, 0, none⟩ = some (.slice A n c) ∧ w'.cell? ⟨g, 1, none⟩ = some (.int .i64 (a : Int))) (first | exact hcc | go_keep)
      (first
        | (go_at_call 64; (with_reducible refine (sint_none HU.out _ ?_ (by omega) (by omega)).mono ?_); (· exact HS.out); rintro e w1 ⟨hb1, rfl⟩; have R1 := Lib.hid (Rd.keep (wx := w.drew) (by exact HR.out) hb1); have U1 : Hid (Upd g w w1) := Lib.hid (((Upd.refl g w).drew).trans (upd_below hb1)); have hcc : w1.cell? ⟨g, 0, none⟩ = some (.slice A n c) ∧ w1.cell? ⟨g, 1, none⟩ = some (.int .i64 (a : Int)) := ⟨Blk.cell R1.out 0, Blk.cell R1.out 1⟩; clear hb1)
        | fail)
    clear hcc k0 k1
    have k2 : w1.cell? ⟨g, 2, none⟩ = some (.bool b) := Blk.cell R1.out 2
    have f2 := Blk.frozen R1.out 2
    go_wp2_with fail
    go_ret
    exact ⟨by rw [HX.out]; rfl, by rw [HX.out]; exact R1.out.bad, U1.out.set_ 2 _⟩
  · have HU := Lib.hid hu
    have HX0 := Lib.hid (rI_some (s := (a, false)) hu rfl)
    clear hu
    generalize hz : zag v = z at HX0
    have HZ := Lib.hid hz
    clear hz
    go_enter Tryd.func43, Tryd.ntmps43
    go_wp2_with fail
    go_region_held3 (fun w' => w'.cell? ⟨g, 0, none⟩ = some (.slice A n c) ∧ w'.cell? ⟨g, 1, none⟩ = some (.int .i64 (a : Int))) (first | exact hcc | go_keep)
      (first
        | (go_at_call 64; (with_reducible refine (sint_some HU.out _ ?_ (by omega) (by omega)).mono ?_); (· exact HS.out); rw [HZ.out]; rintro e w1 ⟨hb1, rfl⟩; have R1 := Lib.hid (Rd.keep (wx := w.drew) (by exact HR.out) hb1); have U1 : Hid (Upd g w w1) := Lib.hid (((Upd.refl g w).drew).trans (upd_below hb1)); have hcc : w1.cell? ⟨g, 0, none⟩ = some (.slice A n c) ∧ w1.cell? ⟨g, 1, none⟩ = some (.int .i64 (a : Int)) := ⟨Blk.cell R1.out 0, Blk.cell R1.out 1⟩; clear hb1)
        | fail)
    clear hcc k0 k1
    have k2 : w1.cell? ⟨g, 2, none⟩ = some (.bool b) := Blk.cell R1.out 2
    have k1 : w1.cell? ⟨g, 1, none⟩ = some (.int .i64 (a : Int)) := Blk.cell R1.out 1
    have f2 := Blk.frozen R1.out 2
    have f1 := Blk.frozen R1.out 1
    rcases b with _ | _
    · go_wp2_with fail
      go_ret
      exact ⟨by rw [HX0.out]; rfl, by rw [HX0.out]; exact R1.out.at_ (a + k), U1.out.set_ 1 _⟩
    · have HX := Lib.hid (rI_bad (l := l) (s := (a, true)) rfl)
      go_wp2_with fail
      go_ret
      exact ⟨by rw [HX.out]; rfl, by rw [HX.out]; exact R1.out.bad, U1.out.set_ 2 _⟩
/-- the reference's reader's block -/
def RdR (wx : World) (g : Nat) (A : Option Addr) (n c : Nat) (s : St) : Prop := Blk wx g 89 #[.slice A n c, .int .i64 ((s.1 : Nat) : Int), .bool s.2]
theorem RdR.keep {wx wy : World} {g : Nat} {A : Option Addr} {n c : Nat} {s : St} (h : RdR wx g A n c s) (hb : Below wx.heap.size wx wy) : RdR wy g A n c s := Blk.below h hb (Blk.lt h)
theorem RdR.bad {wx : World} {g : Nat} {A : Option Addr} {n c : Nat} {s : St} (h : RdR wx g A n c s) : RdR (wx.setCell ⟨g, 2, none⟩ (.bool true)) g A n c (s.1, true) := Blk.set_ h 2 (.bool true)
theorem RdR.at_ {wx : World} {g : Nat} {A : Option Addr} {n c : Nat} {s : St} (h : RdR wx g A n c s) (a : Nat) : RdR (wx.setCell ⟨g, 1, none⟩ (.int .i64 (a : Int))) g A n c (a, s.2) := Blk.set_ h 1 (.int .i64 (a : Int))
theorem uintQ_none {A : Option Addr} {n c a : Nat} {l : List UInt8} (hR : uOf l a = none) (w : World) (hs : RB w A n l) (hn : n ≤ 140737488355328) (ha : a ≤ 140737488355328) :
    Calls Tryd.prog 69 #[.slice A n c, .int .i64 (a : Int)] w fun e w' => Below w.heap.size w w' ∧ e = .returned (.tuple #[.int .u64 0, .int .i64 0, .bool false]) := by
  have := readUint_any A n c (a : Int) l w hs hn (by omega)
  unfold UPost RPost at this
  rw [uintOf_uOf, hR] at this
  exact this
theorem uintQ_some {A : Option Addr} {n c a v k : Nat} {l : List UInt8} (hR : uOf l a = some (v, k)) (w : World) (hs : RB w A n l) (hn : n ≤ 140737488355328) (ha : a ≤ 140737488355328) :
    Calls Tryd.prog 69 #[.slice A n c, .int .i64 (a : Int)] w fun e w' => Below w.heap.size w w' ∧ e = .returned (.tuple #[.int .u64 (v : Int), .int .i64 ((a + k : Nat) : Int), .bool true]) := by
  have := readUint_any A n c (a : Int) l w hs hn (by omega)
  unfold UPost RPost at this
  rw [uintOf_uOf, hR] at this
  exact this
theorem textQ_none {A : Option Addr} {n c a : Nat} {l : List UInt8} (hR : tOf l a = none) (w : World) (hs : SB w A n c l) (hn : n ≤ 140737488355328) (ha : a ≤ 140737488355328) :
    Calls Tryd.prog 70 #[.slice A n c, .int .i64 (a : Int)] w fun e w' => Below w.heap.size w w' ∧ e = .returned (.tuple #[.string ⟨#[]⟩, .int .i64 0, .bool false]) := by
  have := readText_any A n c (a : Int) l w hs hn (by omega)
  unfold UTPost RTPost at this
  rw [textOf_tOf, hR] at this
  exact this
theorem textQ_some {A : Option Addr} {n c a k : Nat} {v l : List UInt8} (hR : tOf l a = some (v, k)) (w : World) (hs : SB w A n c l) (hn : n ≤ 140737488355328) (ha : a ≤ 140737488355328) :
    Calls Tryd.prog 70 #[.slice A n c, .int .i64 (a : Int)] w fun e w' => Below w.heap.size w w' ∧ e = .returned (.tuple #[.string ⟨v.toArray⟩, .int .i64 ((a + k : Nat) : Int), .bool true]) := by
  have := readText_any A n c (a : Int) l w hs hn (by omega)
  unfold UTPost RTPost at this
  rw [textOf_tOf, hR] at this
  exact this
set_option maxRecDepth 100000 in
set_option maxHeartbeats 2000000 in
theorem uintR_read (g : Nat) (A : Option Addr) (n c : Nat) (l : List UInt8) (s : St) (w : World) (h : RdR w g A n c s) (hs : RB w A n l) (hn : n ≤ 140737488355328) (ha : s.1 ≤ 140737488355328) :
    Calls Tryd.prog 50 #[.pointer (some ⟨g, 0, none⟩)] w fun e w' => e = .returned (.int .i64 ((rU l 1099511627776 s).1 : Int)) ∧ RdR w' g A n c (rU l 1099511627776 s).2 ∧ Upd g w w' := by
  have k0 : w.cell? ⟨g, 0, none⟩ = some (.slice A n c) := Blk.cell h 0
  have k1 : w.cell? ⟨g, 1, none⟩ = some (.int .i64 (s.1 : Int)) := Blk.cell h 1
  obtain ⟨a, b⟩ := s
  simp only at ha k1
  have HR := Lib.hid h
  have HS := Lib.hid hs
  clear h hs
  rcases hu : uOf l a with _ | ⟨v, k⟩
  · have HU := Lib.hid hu
    have HX := Lib.hid (rU_none (s := (a, b)) (most := 1099511627776) hu)
    clear hu
    go_enter Tryd.func50, Tryd.ntmps50
    go_wp2_with fail
    go_region_held3 (fun w' => w'.cell? ⟨g, 0, none⟩ = some (.slice A n c) ∧ w'.cell? ⟨g, 1, none⟩ = some (.int .i64 (a : Int))) (first | exact hcc | go_keep)
      (first
        | (go_at_call 69; (with_reducible refine (uintQ_none HU.out _ ?_ (by omega) (by omega)).mono ?_); (· exact HS.out); rintro e w1 ⟨hb1, rfl⟩; have R1 := Lib.hid (RdR.keep (wx := w.drew) (by exact HR.out) hb1); have U1 : Hid (Upd g w w1) := Lib.hid (((Upd.refl g w).drew).trans (upd_below hb1)); have hcc : w1.cell? ⟨g, 0, none⟩ = some (.slice A n c) ∧ w1.cell? ⟨g, 1, none⟩ = some (.int .i64 (a : Int)) := ⟨Blk.cell R1.out 0, Blk.cell R1.out 1⟩; clear hb1)
        | fail)
    clear hcc k0 k1
    have k2 : w1.cell? ⟨g, 2, none⟩ = some (.bool b) := Blk.cell R1.out 2
    have f2 := Blk.frozen R1.out 2
    go_wp2_with fail
    go_ret
    exact ⟨by rw [HX.out]; rfl, by rw [HX.out]; exact R1.out.bad, U1.out.set_ 2 _⟩
  · have HU := Lib.hid hu
    have hv64 := (rd_sound _ _ _ hu).1
    have hvb : v ≤ 18446744073709551615 := by
      have e : (2 : Nat) ^ 64 = 18446744073709551616 := by decide
      omega
    clear hu hv64
    go_enter Tryd.func50, Tryd.ntmps50
    go_wp2_with fail
    go_region_held3 (fun w' => w'.cell? ⟨g, 0, none⟩ = some (.slice A n c) ∧ w'.cell? ⟨g, 1, none⟩ = some (.int .i64 (a : Int))) (first | exact hcc | go_keep)
      (first
        | (go_at_call 69; (with_reducible refine (uintQ_some HU.out _ ?_ (by omega) (by omega)).mono ?_); (· exact HS.out); rintro e w1 ⟨hb1, rfl⟩; have R1 := Lib.hid (RdR.keep (wx := w.drew) (by exact HR.out) hb1); have U1 : Hid (Upd g w w1) := Lib.hid (((Upd.refl g w).drew).trans (upd_below hb1)); have hcc : w1.cell? ⟨g, 0, none⟩ = some (.slice A n c) ∧ w1.cell? ⟨g, 1, none⟩ = some (.int .i64 (a : Int)) := ⟨Blk.cell R1.out 0, Blk.cell R1.out 1⟩; clear hb1)
        | fail)
    clear hcc k0 k1
    have k2 : w1.cell? ⟨g, 2, none⟩ = some (.bool b) := Blk.cell R1.out 2
    have k1 : w1.cell? ⟨g, 1, none⟩ = some (.int .i64 (a : Int)) := Blk.cell R1.out 1
    have f2 := Blk.frozen R1.out 2
    have f1 := Blk.frozen R1.out 1
    rcases b with _ | _
    · by_cases hv : v ≤ 1099511627776
      · have hv' : (v : Int) ≤ 1099511627776 := by omega
        have HX := Lib.hid (rU_some (s := (a, false)) HU.out rfl hv)
        go_wp2_with fail
        go_ret
        exact ⟨by rw [HX.out]; rfl, by rw [HX.out]; exact R1.out.at_ (a + k), U1.out.set_ 1 _⟩
      · have hv' : (1099511627776 : Int) < (v : Int) := by omega
        have HX := Lib.hid (rU_over (s := (a, false)) HU.out hv)
        go_wp2_with fail
        go_ret
        exact ⟨by rw [HX.out]; rfl, by rw [HX.out]; exact R1.out.bad, U1.out.set_ 2 _⟩
    · have HX := Lib.hid (rU_bad (l := l) (most := 1099511627776) (s := (a, true)) rfl)
      go_wp2_with fail
      go_ret
      exact ⟨by rw [HX.out]; rfl, by rw [HX.out]; exact R1.out.bad, U1.out.set_ 2 _⟩
set_option maxRecDepth 100000 in
set_option maxHeartbeats 2000000 in
theorem textQ_read (g : Nat) (A : Option Addr) (n c : Nat) (l : List UInt8) (s : St) (w : World) (h : RdR w g A n c s) (hs : SB w A n c l) (hn : n ≤ 140737488355328) (ha : s.1 ≤ 140737488355328) :
    Calls Tryd.prog 51 #[.pointer (some ⟨g, 0, none⟩)] w fun e w' => e = .returned (.string (ba (rT l s).1)) ∧ RdR w' g A n c (rT l s).2 ∧ Upd g w w' := by
  have k0 : w.cell? ⟨g, 0, none⟩ = some (.slice A n c) := Blk.cell h 0
  have k1 : w.cell? ⟨g, 1, none⟩ = some (.int .i64 (s.1 : Int)) := Blk.cell h 1
  obtain ⟨a, b⟩ := s
  simp only at ha k1
  have HR := Lib.hid h
  have HS := Lib.hid hs
  clear h hs
  rcases hu : tOf l a with _ | ⟨v, k⟩
  · have HU := Lib.hid hu
    have HX := Lib.hid (rT_none (s := (a, b)) hu)
    clear hu
    go_enter Tryd.func51, Tryd.ntmps51
    go_wp2_with fail
    go_region_held3 (fun w' => w'.cell? ⟨g, 0, none⟩ = some (.slice A n c) ∧ w'.cell? ⟨g, 1, none⟩ = some (.int .i64 (a : Int))) (first | exact hcc | go_keep)
      (first
        | (go_at_call 70; (with_reducible refine (textQ_none HU.out _ ?_ (by omega) (by omega)).mono ?_); (· exact HS.out.drew); rintro e w1 ⟨hb1, rfl⟩; have R1 := Lib.hid (RdR.keep (wx := w.drew) (by exact HR.out) hb1); have U1 : Hid (Upd g w w1) := Lib.hid (((Upd.refl g w).drew).trans (upd_below hb1)); have hcc : w1.cell? ⟨g, 0, none⟩ = some (.slice A n c) ∧ w1.cell? ⟨g, 1, none⟩ = some (.int .i64 (a : Int)) := ⟨Blk.cell R1.out 0, Blk.cell R1.out 1⟩; clear hb1)
        | fail)
    clear hcc k0 k1
    have k2 : w1.cell? ⟨g, 2, none⟩ = some (.bool b) := Blk.cell R1.out 2
    have f2 := Blk.frozen R1.out 2
    go_wp2_with fail
    go_ret
    exact ⟨by rw [HX.out]; rfl, by rw [HX.out]; exact R1.out.bad, U1.out.set_ 2 _⟩
  · have HU := Lib.hid hu
    clear hu
    go_enter Tryd.func51, Tryd.ntmps51
    go_wp2_with fail
    go_region_held3 (fun w' => w'.cell? ⟨g, 0, none⟩ = some (.slice A n c) ∧ w'.cell? ⟨g, 1, none⟩ = some (.int .i64 (a : Int))) (first | exact hcc | go_keep)
      (first
        | (go_at_call 70; (with_reducible refine (textQ_some HU.out _ ?_ (by omega) (by omega)).mono ?_); (· exact HS.out.drew); rintro e w1 ⟨hb1, rfl⟩; have R1 := Lib.hid (RdR.keep (wx := w.drew) (by exact HR.out) hb1); have U1 : Hid (Upd g w w1) := Lib.hid (((Upd.refl g w).drew).trans (upd_below hb1)); have hcc : w1.cell? ⟨g, 0, none⟩ = some (.slice A n c) ∧ w1.cell? ⟨g, 1, none⟩ = some (.int .i64 (a : Int)) := ⟨Blk.cell R1.out 0, Blk.cell R1.out 1⟩; clear hb1)
        | fail)
    clear hcc k0 k1
    have k2 : w1.cell? ⟨g, 2, none⟩ = some (.bool b) := Blk.cell R1.out 2
    have k1 : w1.cell? ⟨g, 1, none⟩ = some (.int .i64 (a : Int)) := Blk.cell R1.out 1
    have f2 := Blk.frozen R1.out 2
    have f1 := Blk.frozen R1.out 1
    rcases b with _ | _
    · have HX := Lib.hid (rT_some (s := (a, false)) HU.out rfl)
      go_wp2_with fail
      go_ret
      exact ⟨by rw [HX.out]; rfl, by rw [HX.out]; exact R1.out.at_ (a + k), U1.out.set_ 1 _⟩
    · have HX := Lib.hid (rT_bad (l := l) (s := (a, true)) rfl)
      go_wp2_with fail
      go_ret
      exact ⟨by rw [HX.out]; rfl, by rw [HX.out]; exact R1.out.bad, U1.out.set_ 2 _⟩
theorem rint_none {A : Option Addr} {n c a : Nat} {l : List UInt8} (hR : uOf l a = none) (w : World) (hs : RB w A n l) (hn : n ≤ 140737488355328) (ha : a ≤ 140737488355328) :
    Calls Tryd.prog 72 #[.slice A n c, .int .i64 (a : Int)] w fun e w' => Below w.heap.size w w' ∧ e = .returned (.tuple #[.int .i64 0, .int .i64 0, .bool false]) := by
  have := readInt_any A n c (a : Int) l w hs hn (by omega)
  unfold IPost at this
  rw [uintOf_uOf, hR] at this
  exact this
theorem rint_some {A : Option Addr} {n c a v k : Nat} {l : List UInt8} (hR : uOf l a = some (v, k)) (w : World) (hs : RB w A n l) (hn : n ≤ 140737488355328) (ha : a ≤ 140737488355328) :
    Calls Tryd.prog 72 #[.slice A n c, .int .i64 (a : Int)] w fun e w' => Below w.heap.size w w' ∧ e = .returned (.tuple #[.int .i64 (zag v), .int .i64 ((a + k : Nat) : Int), .bool true]) := by
  have := readInt_any A n c (a : Int) l w hs hn (by omega)
  unfold IPost at this
  rw [uintOf_uOf, hR] at this
  exact this
set_option maxRecDepth 100000 in
set_option maxHeartbeats 2000000 in
theorem intR_read (g : Nat) (A : Option Addr) (n c : Nat) (l : List UInt8) (s : St) (w : World) (h : RdR w g A n c s) (hs : RB w A n l) (hn : n ≤ 140737488355328) (ha : s.1 ≤ 140737488355328) :
    Calls Tryd.prog 55 #[.pointer (some ⟨g, 0, none⟩)] w fun e w' => e = .returned (.int .i64 (rI l s).1) ∧ RdR w' g A n c (rI l s).2 ∧ Upd g w w' := by
  have k0 : w.cell? ⟨g, 0, none⟩ = some (.slice A n c) := Blk.cell h 0
  have k1 : w.cell? ⟨g, 1, none⟩ = some (.int .i64 (s.1 : Int)) := Blk.cell h 1
  obtain ⟨a, b⟩ := s
  simp only at ha k1
  have HR := Lib.hid h
  have HS := Lib.hid hs
  clear h hs
  rcases hu : uOf l a with _ | ⟨v, k⟩
  · have HU := Lib.hid hu
    have HX := Lib.hid (rI_none (s := (a, b)) hu)
    clear hu
    go_enter Tryd.func55, Tryd.ntmps55
    go_wp2_with fail
    go_region_held3 (fun w' => w'.cell? ⟨g, 0, none⟩ = some (.slice A n c) ∧ w'.cell? ⟨g, 1, none⟩ = some (.int .i64 (a : Int))) (first | exact hcc | go_keep)
      (first
        | (go_at_call 72; (with_reducible refine (rint_none HU.out _ ?_ (by omega) (by omega)).mono ?_); (· exact HS.out); rintro e w1 ⟨hb1, rfl⟩; have R1 := Lib.hid (RdR.keep (wx := w.drew) (by exact HR.out) hb1); have U1 : Hid (Upd g w w1) := Lib.hid (((Upd.refl g w).drew).trans (upd_below hb1)); have hcc : w1.cell? ⟨g, 0, none⟩ = some (.slice A n c) ∧ w1.cell? ⟨g, 1, none⟩ = some (.int .i64 (a : Int)) := ⟨Blk.cell R1.out 0, Blk.cell R1.out 1⟩; clear hb1)
        | fail)
    clear hcc k0 k1
    have k2 : w1.cell? ⟨g, 2, none⟩ = some (.bool b) := Blk.cell R1.out 2
    have f2 := Blk.frozen R1.out 2
    go_wp2_with fail
    go_ret
    exact ⟨by rw [HX.out]; rfl, by rw [HX.out]; exact R1.out.bad, U1.out.set_ 2 _⟩
  · have HU := Lib.hid hu
    have HX0 := Lib.hid (rI_some (s := (a, false)) hu rfl)
    clear hu
    generalize hz : zag v = z at HX0
    have HZ := Lib.hid hz
    clear hz
    go_enter Tryd.func55, Tryd.ntmps55
    go_wp2_with fail
    go_region_held3 (fun w' => w'.cell? ⟨g, 0, none⟩ = some (.slice A n c) ∧ w'.cell? ⟨g, 1, none⟩ = some (.int .i64 (a : Int))) (first | exact hcc | go_keep)
      (first
        | (go_at_call 72; (with_reducible refine (rint_some HU.out _ ?_ (by omega) (by omega)).mono ?_); (· exact HS.out); rw [HZ.out]; rintro e w1 ⟨hb1, rfl⟩; have R1 := Lib.hid (RdR.keep (wx := w.drew) (by exact HR.out) hb1); have U1 : Hid (Upd g w w1) := Lib.hid (((Upd.refl g w).drew).trans (upd_below hb1)); have hcc : w1.cell? ⟨g, 0, none⟩ = some (.slice A n c) ∧ w1.cell? ⟨g, 1, none⟩ = some (.int .i64 (a : Int)) := ⟨Blk.cell R1.out 0, Blk.cell R1.out 1⟩; clear hb1)
        | fail)
    clear hcc k0 k1
    have k2 : w1.cell? ⟨g, 2, none⟩ = some (.bool b) := Blk.cell R1.out 2
    have k1 : w1.cell? ⟨g, 1, none⟩ = some (.int .i64 (a : Int)) := Blk.cell R1.out 1
    have f2 := Blk.frozen R1.out 2
    have f1 := Blk.frozen R1.out 1
    rcases b with _ | _
    · go_wp2_with fail
      go_ret
      exact ⟨by rw [HX0.out]; rfl, by rw [HX0.out]; exact R1.out.at_ (a + k), U1.out.set_ 1 _⟩
    · have HX := Lib.hid (rI_bad (l := l) (s := (a, true)) rfl)
      go_wp2_with fail
      go_ret
      exact ⟨by rw [HX.out]; rfl, by rw [HX.out]; exact R1.out.bad, U1.out.set_ 2 _⟩
end Go.Proofs.YtkllfnaofapfnaaDoor.Prot
