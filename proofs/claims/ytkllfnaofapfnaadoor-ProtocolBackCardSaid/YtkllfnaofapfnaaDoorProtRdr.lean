/-
  The contracts of the reader of package protocol: count, text. Conditions: the reader lies in a block of its own, above the bytes that it reads, which are within the form's reach.
-/
import Derived.Test.YtkllfnaofapfnaaDoorProtEnc
import Derived.Test.YtkllfnaofapfnaaDoorCodReadS
import Derived.Deep.RegionHeld3
namespace Go.Proofs.YtkllfnaofapfnaaDoor.Prot
open Go.RowKit Wd Utf Cod

/-- the reader's block -/
def Rd (wx : World) (g : Nat) (A : Option Addr) (n c : Nat) (s : St) : Prop := Blk wx g 77 #[.slice A n c, .int .i64 ((s.1 : Nat) : Int), .bool s.2]
theorem upd_below {g : Nat} {w w' : World} (hb : Below w.heap.size w w') : Upd g w w' := ⟨hb.os, hb.tape, hb.output, hb.size, fun i hi _ => hb.block i hi⟩
theorem Rd.keep {wx wy : World} {g : Nat} {A : Option Addr} {n c : Nat} {s : St} (h : Rd wx g A n c s) (hb : Below wx.heap.size wx wy) : Rd wy g A n c s := Blk.below h hb (Blk.lt h)
theorem Rd.bad {wx : World} {g : Nat} {A : Option Addr} {n c : Nat} {s : St} (h : Rd wx g A n c s) : Rd (wx.setCell ⟨g, 2, none⟩ (.bool true)) g A n c (s.1, true) := Blk.set_ h 2 (.bool true)
theorem Rd.at_ {wx : World} {g : Nat} {A : Option Addr} {n c : Nat} {s : St} (h : Rd wx g A n c s) (a : Nat) : Rd (wx.setCell ⟨g, 1, none⟩ (.int .i64 (a : Int))) g A n c (a, s.2) := Blk.set_ h 1 (.int .i64 (a : Int))

theorem uintOf_uOf (l : List UInt8) (a : Nat) : uintOf l (a : Int) = uOf l a := by
  unfold uintOf uOf
  rw [if_neg (by omega)]; rfl
theorem textOf_tOf (l : List UInt8) (a : Nat) : textOf l (a : Int) = tOf l a := by
  unfold textOf tOf
  rw [if_neg (by omega)]; rfl
theorem uint_none {A : Option Addr} {n c a : Nat} {l : List UInt8} (hR : uOf l a = none) (w : World) (hs : RB w A n l) (hn : n ≤ 140737488355328) (ha : a ≤ 140737488355328) :
    Calls Tryd.prog 62 #[.slice A n c, .int .i64 (a : Int)] w fun e w' => Below w.heap.size w w' ∧ e = .returned (.tuple #[.int .u64 0, .int .i64 0, .bool false]) := by
  have := uint_any A n c (a : Int) l w hs hn (by omega)
  unfold UPost RPost at this
  rw [uintOf_uOf, hR] at this
  exact this
theorem uint_some {A : Option Addr} {n c a v k : Nat} {l : List UInt8} (hR : uOf l a = some (v, k)) (w : World) (hs : RB w A n l) (hn : n ≤ 140737488355328) (ha : a ≤ 140737488355328) :
    Calls Tryd.prog 62 #[.slice A n c, .int .i64 (a : Int)] w fun e w' => Below w.heap.size w w' ∧ e = .returned (.tuple #[.int .u64 (v : Int), .int .i64 ((a + k : Nat) : Int), .bool true]) := by
  have := uint_any A n c (a : Int) l w hs hn (by omega)
  unfold UPost RPost at this
  rw [uintOf_uOf, hR] at this
  exact this
theorem text_none {A : Option Addr} {n c a : Nat} {l : List UInt8} (hR : tOf l a = none) (w : World) (hs : SB w A n c l) (hn : n ≤ 140737488355328) (ha : a ≤ 140737488355328) :
    Calls Tryd.prog 63 #[.slice A n c, .int .i64 (a : Int)] w fun e w' => Below w.heap.size w w' ∧ e = .returned (.tuple #[.string ⟨#[]⟩, .int .i64 0, .bool false]) := by
  have := text_fun_any A n c (a : Int) l w hs hn (by omega)
  unfold UTPost RTPost at this
  rw [textOf_tOf, hR] at this
  exact this
theorem text_some {A : Option Addr} {n c a k : Nat} {v l : List UInt8} (hR : tOf l a = some (v, k)) (w : World) (hs : SB w A n c l) (hn : n ≤ 140737488355328) (ha : a ≤ 140737488355328) :
    Calls Tryd.prog 63 #[.slice A n c, .int .i64 (a : Int)] w fun e w' => Below w.heap.size w w' ∧ e = .returned (.tuple #[.string ⟨v.toArray⟩, .int .i64 ((a + k : Nat) : Int), .bool true]) := by
  have := text_fun_any A n c (a : Int) l w hs hn (by omega)
  unfold UTPost RTPost at this
  rw [textOf_tOf, hR] at this
  exact this
theorem rU_none {l : List UInt8} {most : Nat} {s : St} (h : uOf l s.1 = none) : rU l most s = (0, (s.1, true)) := by
  unfold rU; rw [h]; cases s.2 <;> rfl
theorem rU_some {l : List UInt8} {most v k : Nat} {s : St} (h : uOf l s.1 = some (v, k)) (hs : s.2 = false) (hv : v ≤ most) : rU l most s = (v, (s.1 + k, false)) := by
  unfold rU; rw [h, hs]; simp only; rw [if_pos hv]
theorem rT_none {l : List UInt8} {s : St} (h : tOf l s.1 = none) : rT l s = ([], (s.1, true)) := by
  unfold rT; rw [h]; cases s.2 <;> rfl
theorem rT_some {l v : List UInt8} {k : Nat} {s : St} (h : tOf l s.1 = some (v, k)) (hs : s.2 = false) : rT l s = (v, (s.1 + k, false)) := by
  unfold rT; rw [h, hs]
theorem rU_over {l : List UInt8} {most v k : Nat} {s : St} (h : uOf l s.1 = some (v, k)) (hv : ¬ v ≤ most) : rU l most s = (0, (s.1, true)) := by
  unfold rU; rw [h]; cases s.2
  · simp only; rw [if_neg hv]
  · rfl

set_option maxRecDepth 100000 in
set_option maxHeartbeats 2000000 in
theorem count_any (g : Nat) (A : Option Addr) (n c : Nat) (l : List UInt8) (s : St) (most : Nat) (w : World) (h : Rd w g A n c s) (hs : RB w A n l) (hn : n ≤ 140737488355328) (ha : s.1 ≤ 140737488355328) (hm : most ≤ 9223372036854775807) :
    Calls Tryd.prog 39 #[.pointer (some ⟨g, 0, none⟩), .int .i64 (most : Int)] w fun e w' => e = .returned (.int .i64 ((rU l most s).1 : Int)) ∧ Rd w' g A n c (rU l most s).2 ∧ Upd g w w' := by
  have k0 : w.cell? ⟨g, 0, none⟩ = some (.slice A n c) := Blk.cell h 0
  have k1 : w.cell? ⟨g, 1, none⟩ = some (.int .i64 (s.1 : Int)) := Blk.cell h 1
  have hmw : IntKind.u64.wrap (most : Int) = (most : Int) := by rw [IntKind.wrap_u64]; omega
  obtain ⟨a, b⟩ := s
  simp only at ha k1
  have HR := Lib.hid h
  have HS := Lib.hid hs
  clear h hs
  rcases hu : uOf l a with _ | ⟨v, k⟩
  · have HU := Lib.hid hu
    have HX := Lib.hid (rU_none (s := (a, b)) (most := most) hu)
    clear hu
    go_enter Tryd.func39, Tryd.ntmps39
    go_wp2_with fail
    go_region_held3 (fun w' => w'.cell? ⟨g, 0, none⟩ = some (.slice A n c) ∧ w'.cell? ⟨g, 1, none⟩ = some (.int .i64 (a : Int))) (first | exact hcc | go_keep)
      (first
        | (go_at_call 62; (with_reducible refine (uint_none HU.out _ ?_ (by omega) (by omega)).mono ?_); (· exact HS.out); rintro e w1 ⟨hb1, rfl⟩; have R1 := Lib.hid (Rd.keep (wx := w.drew) (by exact HR.out) hb1); have U1 : Hid (Upd g w w1) := Lib.hid (((Upd.refl g w).drew).trans (upd_below hb1)); have hcc : w1.cell? ⟨g, 0, none⟩ = some (.slice A n c) ∧ w1.cell? ⟨g, 1, none⟩ = some (.int .i64 (a : Int)) := ⟨Blk.cell R1.out 0, Blk.cell R1.out 1⟩; clear hb1)
        | fail)
    clear hcc k0 k1
    have k2 : w1.cell? ⟨g, 2, none⟩ = some (.bool b) := Blk.cell R1.out 2
    have f2 := Blk.frozen R1.out 2
    go_wp2_with fail
    go_ret
    exact ⟨by rw [HX.out]; rfl, by rw [HX.out]; exact R1.out.bad, U1.out.set_ 2 _⟩
  · have HU := Lib.hid hu
    have hv64 := (rd_sound _ _ _ hu).1
    have hvb : v ≤ 18446744073709551615 := by
      have e : (2 : Nat) ^ 64 = 18446744073709551616 := by decide
      omega
    clear hu hv64
    go_enter Tryd.func39, Tryd.ntmps39
    go_wp2_with fail
    go_region_held3 (fun w' => w'.cell? ⟨g, 0, none⟩ = some (.slice A n c) ∧ w'.cell? ⟨g, 1, none⟩ = some (.int .i64 (a : Int))) (first | exact hcc | go_keep)
      (first
        | (go_at_call 62; (with_reducible refine (uint_some HU.out _ ?_ (by omega) (by omega)).mono ?_); (· exact HS.out); rintro e w1 ⟨hb1, rfl⟩; have R1 := Lib.hid (Rd.keep (wx := w.drew) (by exact HR.out) hb1); have U1 : Hid (Upd g w w1) := Lib.hid (((Upd.refl g w).drew).trans (upd_below hb1)); have hcc : w1.cell? ⟨g, 0, none⟩ = some (.slice A n c) ∧ w1.cell? ⟨g, 1, none⟩ = some (.int .i64 (a : Int)) := ⟨Blk.cell R1.out 0, Blk.cell R1.out 1⟩; clear hb1)
        | fail)
    clear hcc k0 k1
    have k2 : w1.cell? ⟨g, 2, none⟩ = some (.bool b) := Blk.cell R1.out 2
    have k1 : w1.cell? ⟨g, 1, none⟩ = some (.int .i64 (a : Int)) := Blk.cell R1.out 1
    have f2 := Blk.frozen R1.out 2
    have f1 := Blk.frozen R1.out 1
    rcases b with _ | _
    · by_cases hv : v ≤ most
      · have hv' : (v : Int) ≤ (most : Int) := by omega
        have HX := Lib.hid (rU_some (s := (a, false)) HU.out rfl hv)
        go_wp2_with fail
        go_ret
        exact ⟨by rw [HX.out]; rfl, by rw [HX.out]; exact R1.out.at_ (a + k), U1.out.set_ 1 _⟩
      · have hv' : (most : Int) < (v : Int) := by omega
        have HX := Lib.hid (rU_over (s := (a, false)) HU.out hv)
        go_wp2_with fail
        go_ret
        exact ⟨by rw [HX.out]; rfl, by rw [HX.out]; exact R1.out.bad, U1.out.set_ 2 _⟩
    · have HX := Lib.hid (rU_bad (l := l) (most := most) (s := (a, true)) rfl)
      go_wp2_with fail
      go_ret
      exact ⟨by rw [HX.out]; rfl, by rw [HX.out]; exact R1.out.bad, U1.out.set_ 2 _⟩
set_option maxRecDepth 100000 in
set_option maxHeartbeats 2000000 in
theorem textR_read (g : Nat) (A : Option Addr) (n c : Nat) (l : List UInt8) (s : St) (w : World) (h : Rd w g A n c s) (hs : SB w A n c l) (hn : n ≤ 140737488355328) (ha : s.1 ≤ 140737488355328) :
    Calls Tryd.prog 40 #[.pointer (some ⟨g, 0, none⟩)] w fun e w' => e = .returned (.string (ba (rT l s).1)) ∧ Rd w' g A n c (rT l s).2 ∧ Upd g w w' := by
  have k0 : w.cell? ⟨g, 0, none⟩ = some (.slice A n c) := Blk.cell h 0
  have k1 : w.cell? ⟨g, 1, none⟩ = some (.int .i64 (s.1 : Int)) := Blk.cell h 1
  obtain ⟨a, b⟩ := s
  simp only at ha k1
  have HR := Lib.hid h
  have HS := Lib.hid hs
  clear h hs
  rcases hu : tOf l a with _ | ⟨v, k⟩
  · have HU := Lib.hid hu
    have HX := Lib.hid (rT_none (s := (a, b)) hu)
    clear hu
    go_enter Tryd.func40, Tryd.ntmps40
    go_wp2_with fail
    go_region_held3 (fun w' => w'.cell? ⟨g, 0, none⟩ = some (.slice A n c) ∧ w'.cell? ⟨g, 1, none⟩ = some (.int .i64 (a : Int))) (first | exact hcc | go_keep)
      (first
        | (go_at_call 63; (with_reducible refine (text_none HU.out _ ?_ (by omega) (by omega)).mono ?_); (· exact HS.out.drew); rintro e w1 ⟨hb1, rfl⟩; have R1 := Lib.hid (Rd.keep (wx := w.drew) (by exact HR.out) hb1); have U1 : Hid (Upd g w w1) := Lib.hid (((Upd.refl g w).drew).trans (upd_below hb1)); have hcc : w1.cell? ⟨g, 0, none⟩ = some (.slice A n c) ∧ w1.cell? ⟨g, 1, none⟩ = some (.int .i64 (a : Int)) := ⟨Blk.cell R1.out 0, Blk.cell R1.out 1⟩; clear hb1)
        | fail)
    clear hcc k0 k1
    have k2 : w1.cell? ⟨g, 2, none⟩ = some (.bool b) := Blk.cell R1.out 2
    have f2 := Blk.frozen R1.out 2
    go_wp2_with fail
    go_ret
    exact ⟨by rw [HX.out]; rfl, by rw [HX.out]; exact R1.out.bad, U1.out.set_ 2 _⟩
  · have HU := Lib.hid hu
    clear hu
    go_enter Tryd.func40, Tryd.ntmps40
    go_wp2_with fail
    go_region_held3 (fun w' => w'.cell? ⟨g, 0, none⟩ = some (.slice A n c) ∧ w'.cell? ⟨g, 1, none⟩ = some (.int .i64 (a : Int))) (first | exact hcc | go_keep)
      (first
        | (go_at_call 63; (with_reducible refine (text_some HU.out _ ?_ (by omega) (by omega)).mono ?_); (· exact HS.out.drew); rintro e w1 ⟨hb1, rfl⟩; have R1 := Lib.hid (Rd.keep (wx := w.drew) (by exact HR.out) hb1); have U1 : Hid (Upd g w w1) := Lib.hid (((Upd.refl g w).drew).trans (upd_below hb1)); have hcc : w1.cell? ⟨g, 0, none⟩ = some (.slice A n c) ∧ w1.cell? ⟨g, 1, none⟩ = some (.int .i64 (a : Int)) := ⟨Blk.cell R1.out 0, Blk.cell R1.out 1⟩; clear hb1)
        | fail)
    clear hcc k0 k1
    have k2 : w1.cell? ⟨g, 2, none⟩ = some (.bool b) := Blk.cell R1.out 2
    have k1 : w1.cell? ⟨g, 1, none⟩ = some (.int .i64 (a : Int)) := Blk.cell R1.out 1
    have f2 := Blk.frozen R1.out 2
    have f1 := Blk.frozen R1.out 1
    rcases b with _ | _
    · have HX := Lib.hid (rT_some (s := (a, false)) HU.out rfl)
      go_wp2_with fail
      go_ret
      exact ⟨by rw [HX.out]; rfl, by rw [HX.out]; exact R1.out.at_ (a + k), U1.out.set_ 1 _⟩
    · have HX := Lib.hid (rT_bad (l := l) (s := (a, true)) rfl)
      go_wp2_with fail
      go_ret
      exact ⟨by rw [HX.out]; rfl, by rw [HX.out]; exact R1.out.bad, U1.out.set_ 2 _⟩
end Go.Proofs.YtkllfnaofapfnaaDoor.Prot
