/-
  The contracts of read[string] and Text of package coding: a reader is made, its method is called, and a panic with 'failure' is recovered. Conditions: the bytes can be read.
-/
import Derived.Test.YtkllfnaofapfnaaDoorCodRead
import Derived.Test.YtkllfnaofapfnaaDoorCodText
import Derived.Defers
import Derived.Recover
import Derived.Laws.Pointers
namespace Go.Proofs.YtkllfnaofapfnaaDoor.Cod
open Go.RowKit Wd

theorem catch_idle_str (p q r : Addr) (w : World) :
    CallsD Tryd.prog 84 #[.pointer (some p), .pointer (some q), .pointer (some r)] .returning w fun e u' w' => e = .returned (.tuple #[]) ∧ u' = .returning ∧ w' = w := by
  refine callsD_of_wpS Tryd.func84 rfl fun c₀ cs hu => ?_
  apply wpS_seq
  apply wpS_region
  simp [wpOpsS, go_sem, recoverD, hu, Tryd.ntmps84, Exit.thenS]
  refine wpS_of_wp ?_
  go_wp2
  cases c₀
  simp_all [bodyPostS, results, Tryd.results84]

set_option maxHeartbeats 1000000 in
theorem catch_fail_str (b : Nat) (x y z : Value) (older : List PanicEntry) (w : World) (hp : Blk w b 9 #[x]) (hq : Blk w (b + 1) 3 #[y]) (hr : Blk w (b + 2) 4 #[z]) :
    CallsD Tryd.prog 84 #[.pointer (some ⟨b, 0, none⟩), .pointer (some ⟨b + 1, 0, none⟩), .pointer (some ⟨b + 2, 0, none⟩)] (.panicking ({ v := .iface 124 (.agg #[]), recovered := false } :: older)) w fun e u' w' =>
      e = .returned (.tuple #[]) ∧ u' = .panicking ({ v := .iface 124 (.agg #[]), recovered := true } :: older) ∧ Blk w' b 9 #[.string ⟨#[]⟩] ∧ Blk w' (b + 1) 3 #[.int .i64 0] ∧ Blk w' (b + 2) 4 #[.bool false] ∧ Below b w w' := by
  have c0 : (w.alloc (.cells #[] 124)).cell? ⟨b, 0, none⟩ = some x := (hp.alloc _).cell 0
  have c1 : (w.alloc (.cells #[] 124)).cell? ⟨b + 1, 0, none⟩ = some y := (hq.alloc _).cell 0
  have c2 : (w.alloc (.cells #[] 124)).cell? ⟨b + 2, 0, none⟩ = some z := (hr.alloc _).cell 0
  have f0 : (w.alloc (.cells #[] 124)).frozen? ⟨b, 0, none⟩ = false := (hp.alloc _).frozen 0
  have f1 : (w.alloc (.cells #[] 124)).frozen? ⟨b + 1, 0, none⟩ = false := (hq.alloc _).frozen 0
  have f2 : (w.alloc (.cells #[] 124)).frozen? ⟨b + 2, 0, none⟩ = false := (hr.alloc _).frozen 0
  have HP := Lib.hid hp
  have HQ := Lib.hid hq
  have HR := Lib.hid hr
  have hlt := hr.lt
  clear hp hq hr
  have hta : ∀ w : World, (Instr.typeAssert (.iface 124 (.agg #[])) 20 124 true).run Tryd.prog w = .ok (.tuple #[.agg #[], .bool true]) w := fun w => by kernel_rfl
  refine callsD_of_wpS Tryd.func84 rfl fun c₀ cs hu => ?_
  apply wpS_seq
  apply wpS_region
  simp [wpOpsS, go_sem, recoverD, hu, Tryd.ntmps84, Exit.thenS]
  refine wpS_of_wp (a := { tmps := #[.pointer (some ⟨b, 0, none⟩), .pointer (some ⟨b + 1, 0, none⟩), .pointer (some ⟨b + 2, 0, none⟩), undef, undef, undef, undef, .iface 124 (.agg #[]), undef, undef, undef, undef, undef, undef], defers := [] }) ?_
  go_wp2
  refine ⟨rfl, _, rfl, .tuple #[], by simp [results, Tryd.results84], rfl, rfl, ?_, ?_, ?_, ?_⟩
  · exact (((HP.out.alloc _).set_ 0 _).far (by simp) _).far (by simp) _
  · exact (((HQ.out.alloc _).far (by simp) _).set_ 0 _).far (by simp) _
  · exact (((HR.out.alloc _).far (by simp) _).far (by simp) _).set_ 0 _
  · exact ((((Below.refl b w).alloc (by omega) _).setCell (p := ⟨b, 0, none⟩) (Nat.le_refl _) _).setCell (p := ⟨b + 1, 0, none⟩) (Nat.le_succ _) _).setCell (p := ⟨b + 2, 0, none⟩) (by simp) _

/-- how 'read' of a string ends -/
def RTPost (w : World) (R : Option (List UInt8 × Nat)) (at0 : Nat) (e : Ending) (w' : World) : Prop :=
  Below w.heap.size w w' ∧ match R with
  | none => e = .returned (.tuple #[.string ⟨#[]⟩, .int .i64 0, .bool false])
  | some (v, k) => e = .returned (.tuple #[.string ⟨v.toArray⟩, .int .i64 ((at0 + k : Nat) : Int), .bool true])

theorem RTPost.bad {w : World} {R : Option (List UInt8 × Nat)} {at0 : Nat} {w' : World} (hR : R = none) (hb : Below w.heap.size w w') : RTPost w R at0 (.returned (.tuple #[.string ⟨#[]⟩, .int .i64 0, .bool false])) w' := by
  subst hR; exact ⟨hb, rfl⟩
theorem RTPost.good {w : World} {R : Option (List UInt8 × Nat)} {at0 k : Nat} {v : List UInt8} {nx : Int} {w' : World} (hR : R = some (v, k)) (hnx : nx = ((at0 + k : Nat) : Int)) (hb : Below w.heap.size w w') : RTPost w R at0 (.returned (.tuple #[.string ⟨v.toArray⟩, .int .i64 nx, .bool true])) w' := by
  subst hR hnx; exact ⟨hb, rfl⟩

set_option maxHeartbeats 1000000 in
theorem read_neg_str (A : Option Addr) (n c : Nat) (at0 : Int) (f : Value) (w : World) (hat : at0 < 0) :
    Calls Tryd.prog 78 #[.slice A n c, .int .i64 at0, f] w fun e w' => e = .returned (.tuple #[.string ⟨#[]⟩, .int .i64 0, .bool false]) ∧ Below w.heap.size w w' := by
  have hmf : ∀ (fn : Fn) (first cap : Array Value) (w : World), (Instr.makeFunc fn first cap).run Tryd.prog w = .ok (.func fn first cap) w := fun _ _ _ _ => rfl
  go_enter_defers Tryd.func78, Tryd.ntmps78
  go_wp2
  refine leaves_cons (f := 84) (args := #[.pointer (some ⟨w.heap.size, 0, none⟩), .pointer (some ⟨w.heap.size + 1, 0, none⟩), .pointer (some ⟨w.heap.size + 1 + 1, 0, none⟩)]) (by simp) (by simp [go_sem]) ?_
  refine (catch_idle_str _ _ _ _).mono ?_
  rintro e u' w'' ⟨rfl, rfl, rfl⟩
  have hb : Below w.heap.size w (((w.alloc (Obj.cells #[.string ⟨#[]⟩] 9)).alloc (Obj.cells #[.int .i64 0] 3)).alloc (Obj.cells #[.bool false] 4)) :=
    (((Below.refl _ _).alloc (Nat.le_refl _) _).alloc (by simp) _).alloc (by simp; omega) _
  simp [Leaves, settle, results, Tryd.results78, go_sem]
  exact hb

set_option maxHeartbeats 1000000 in
theorem read_pos_str (A : Option Addr) (n c at0 : Nat) (l : List UInt8) (w : World) (hs : SB w A n c l) (hn : n ≤ 140737488355328) (hat : at0 ≤ 9223372036854775807) :
    Calls Tryd.prog 78 #[.slice A n c, .int .i64 (at0 : Int), .func (.func 79) #[] #[]] w (RTPost w (rdT (l.drop at0)) at0) := by
  have HS := Lib.hid hs
  clear hs
  have hmf : ∀ (fn : Fn) (first cap : Array Value) (w : World), (Instr.makeFunc fn first cap).run Tryd.prog w = .ok (.func fn first cap) w := fun _ _ _ _ => rfl
  go_enter_defers Tryd.func78, Tryd.ntmps78
  go_wp2_with fail
  have hr4 : Reads ((((w.alloc (Obj.cells #[.string ⟨#[]⟩] 9)).alloc (Obj.cells #[.int .i64 0] 3)).alloc (Obj.cells #[.bool false] 4)).alloc (Obj.cells #[.slice A n c, .int .i64 (at0 : Int)] 126)) (w.heap.size + 1 + 1 + 1) 1 A n (bs l) :=
    ((((Reads.alloc HS.out.rb (Nat.le_refl _) _).alloc (by simp) _).alloc (by simp; omega) _).alloc (by simp; omega) _).more (by omega)
  have hg4 : Rdr ((((w.alloc (Obj.cells #[.string ⟨#[]⟩] 9)).alloc (Obj.cells #[.int .i64 0] 3)).alloc (Obj.cells #[.bool false] 4)).alloc (Obj.cells #[.slice A n c, .int .i64 (at0 : Int)] 126)) (w.heap.size + 1 + 1 + 1) A n c at0 := by
    have := Blk.new (((w.alloc (Obj.cells #[.string ⟨#[]⟩] 9)).alloc (Obj.cells #[.int .i64 0] 3)).alloc (Obj.cells #[.bool false] 4)) 126 #[.slice A n c, .int .i64 (at0 : Int)]
    simpa [Rdr] using this
  have b0 : Blk ((((w.alloc (Obj.cells #[.string ⟨#[]⟩] 9)).alloc (Obj.cells #[.int .i64 0] 3)).alloc (Obj.cells #[.bool false] 4)).alloc (Obj.cells #[.slice A n c, .int .i64 (at0 : Int)] 126)) w.heap.size 9 #[.string ⟨#[]⟩] :=
    (((Blk.new w 9 #[.string ⟨#[]⟩]).alloc _).alloc _).alloc _
  have b1 : Blk ((((w.alloc (Obj.cells #[.string ⟨#[]⟩] 9)).alloc (Obj.cells #[.int .i64 0] 3)).alloc (Obj.cells #[.bool false] 4)).alloc (Obj.cells #[.slice A n c, .int .i64 (at0 : Int)] 126)) (w.heap.size + 1) 3 #[.int .i64 0] := by
    have := ((Blk.new (w.alloc (Obj.cells #[.string ⟨#[]⟩] 9)) 3 #[.int .i64 0]).alloc (Obj.cells #[.bool false] 4)).alloc (Obj.cells #[.slice A n c, .int .i64 (at0 : Int)] 126)
    simpa using this
  have b2 : Blk ((((w.alloc (Obj.cells #[.string ⟨#[]⟩] 9)).alloc (Obj.cells #[.int .i64 0] 3)).alloc (Obj.cells #[.bool false] 4)).alloc (Obj.cells #[.slice A n c, .int .i64 (at0 : Int)] 126)) (w.heap.size + 2) 4 #[.bool false] := by
    have := (Blk.new ((w.alloc (Obj.cells #[.string ⟨#[]⟩] 9)).alloc (Obj.cells #[.int .i64 0] 3)) 4 #[.bool false]).alloc (Obj.cells #[.slice A n c, .int .i64 (at0 : Int)] 126)
    simpa using this
  have hb4 : Below w.heap.size w ((((w.alloc (Obj.cells #[.string ⟨#[]⟩] 9)).alloc (Obj.cells #[.int .i64 0] 3)).alloc (Obj.cells #[.bool false] 4)).alloc (Obj.cells #[.slice A n c, .int .i64 (at0 : Int)] 126)) :=
    ((((Below.refl _ _).alloc (Nat.le_refl _) _).alloc (by simp) _).alloc (by simp; omega) _).alloc (by simp; omega) _
  refine (text_any _ A n c at0 l _ hg4 hr4 HS.out.cap HS.out.nil hn hat).mono ?_
  intro e w1 hpost
  clear hg4 hr4
  generalize hR : rdT (l.drop at0) = R at hpost
  have HRR := Lib.hid hR
  clear hR
  have hup := hpost.upd
  have B0 := Lib.hid (b0.grown hup (by simp; omega))
  have B1 := Lib.hid (b1.grown hup (by simp))
  have B2 := Lib.hid (b2.grown hup (by simp))
  have HB := Lib.hid (hb4.trans (hup.below (B := w.heap.size) (by simp; omega) (by omega)))
  clear b0 b1 b2 hb4 hup
  rcases R with _ | ⟨v, k⟩
  · obtain ⟨rfl, _, _⟩ := hpost
    unfold failed
    refine leaves_cons (f := 84) (args := #[.pointer (some ⟨w.heap.size, 0, none⟩), .pointer (some ⟨w.heap.size + 1, 0, none⟩), .pointer (some ⟨w.heap.size + 1 + 1, 0, none⟩)]) (by simp) (by simp [go_sem]) ?_
    refine (catch_fail_str w.heap.size _ _ _ [] _ B0.out B1.out B2.out).mono ?_
    rintro e u' w'' ⟨rfl, rfl, d0, d1, d2, hb⟩
    have e0 : w''.cell? ⟨w.heap.size, 0, none⟩ = some (.string ⟨#[]⟩) := d0.cell 0
    have e1 : w''.cell? ⟨w.heap.size + 1, 0, none⟩ = some (.int .i64 0) := d1.cell 0
    have e2 : w''.cell? ⟨w.heap.size + 2, 0, none⟩ = some (.bool false) := d2.cell 0
    simp [Leaves, settle, results, Tryd.results78, go_sem, e0, e1, e2]
    exact RTPost.bad rfl (HB.out.trans hb)
  · obtain ⟨rfl, hrd, _⟩ := hpost
    have HRD := Lib.hid hrd
    have c0 : w1.cell? ⟨w.heap.size, 0, none⟩ = some (.string ⟨#[]⟩) := B0.out.cell 0
    have c1 : w1.cell? ⟨w.heap.size + 1, 0, none⟩ = some (.int .i64 0) := B1.out.cell 0
    have c2 : w1.cell? ⟨w.heap.size + 1 + 1, 0, none⟩ = some (.bool false) := B2.out.cell 0
    have c3 : w1.cell? ⟨w.heap.size + 1 + 1 + 1, 1, none⟩ = some (.int .i64 ((at0 + k : Nat) : Int)) := hrd.cell 1
    have f0 := B0.out.frozen 0
    have f1 := B1.out.frozen 0
    have f2 : w1.frozen? ⟨w.heap.size + 1 + 1, 0, none⟩ = false := B2.out.frozen 0
    clear hrd
    obtain ⟨nx, hnx⟩ : ∃ nx : Int, nx = ((at0 + k : Nat) : Int) := ⟨_, rfl⟩
    rw [← hnx] at c3
    have NX := Lib.hid hnx
    clear hnx
    go_wp2_with fail
    go_region
    go_wp2_with fail
    have d0 := ((((B0.out.set_ 0 (.string ⟨v.toArray⟩)).set_ 0 (.string ⟨v.toArray⟩)).far (p := ⟨w.heap.size + 1, 0, none⟩) (by simp) (.int .i64 nx)).far (p := ⟨w.heap.size + 1 + 1, 0, none⟩) (by simp; omega) (.bool true)).drew
    have d1 := ((((B1.out.far (p := ⟨w.heap.size, 0, none⟩) (by simp) (.string ⟨v.toArray⟩)).far (p := ⟨w.heap.size, 0, none⟩) (by simp) (.string ⟨v.toArray⟩)).set_ 0 (.int .i64 nx)).far (p := ⟨w.heap.size + 1 + 1, 0, none⟩) (by simp) (.bool true)).drew
    have d2 := ((((B2.out.far (p := ⟨w.heap.size, 0, none⟩) (by simp) (.string ⟨v.toArray⟩)).far (p := ⟨w.heap.size, 0, none⟩) (by simp) (.string ⟨v.toArray⟩)).far (p := ⟨w.heap.size + 1, 0, none⟩) (by simp) (.int .i64 nx)).set_ 0 (.bool true)).drew
    have hbf : Below w.heap.size w ((((w1.setCell ⟨w.heap.size, 0, none⟩ (.string ⟨v.toArray⟩)).setCell ⟨w.heap.size, 0, none⟩ (.string ⟨v.toArray⟩)).setCell ⟨w.heap.size + 1, 0, none⟩ (.int .i64 nx)).setCell ⟨w.heap.size + 1 + 1, 0, none⟩ (.bool true)).drew :=
      ((((HB.out.setCell (p := ⟨w.heap.size, 0, none⟩) (Nat.le_refl _) _).setCell (p := ⟨w.heap.size, 0, none⟩) (Nat.le_refl _) _).setCell (p := ⟨w.heap.size + 1, 0, none⟩) (Nat.le_succ _) _).setCell (p := ⟨w.heap.size + 1 + 1, 0, none⟩) (by simp; omega) _).drew
    clear c0 c1 c2 c3 f0 f1 f2
    generalize ((((w1.setCell ⟨w.heap.size, 0, none⟩ (.string ⟨v.toArray⟩)).setCell ⟨w.heap.size, 0, none⟩ (.string ⟨v.toArray⟩)).setCell ⟨w.heap.size + 1, 0, none⟩ (.int .i64 nx)).setCell ⟨w.heap.size + 1 + 1, 0, none⟩ (.bool true)).drew = Wf at d0 d1 d2 hbf
    refine leaves_cons (f := 84) (args := #[.pointer (some ⟨w.heap.size, 0, none⟩), .pointer (some ⟨w.heap.size + 1, 0, none⟩), .pointer (some ⟨w.heap.size + 1 + 1, 0, none⟩)]) (by simp) (by simp [go_sem]) ?_
    refine (catch_idle_str _ _ _ _).mono ?_
    rintro e u' w'' ⟨rfl, rfl, rfl⟩
    have e0 : w''.cell? ⟨w.heap.size, 0, none⟩ = some (.string ⟨v.toArray⟩) := d0.cell 0
    have e1 : w''.cell? ⟨w.heap.size + 1, 0, none⟩ = some (.int .i64 nx) := d1.cell 0
    have e2 : w''.cell? ⟨w.heap.size + 1 + 1, 0, none⟩ = some (.bool true) := d2.cell 0
    simp [Leaves, settle, results, Tryd.results78, go_sem, e0, e1, e2]
    exact RTPost.good HRR.out NX.out hbf

/-- coding.Text, for every slice and every index -/
def textOf (l : List UInt8) (at0 : Int) : Option (List UInt8 × Nat) := if at0 < 0 then none else rdT (l.drop at0.toNat)
def UTPost (w : World) (l : List UInt8) (at0 : Int) (e : Ending) (w' : World) : Prop := RTPost w (textOf l at0) at0.toNat e w'

theorem text_fun_any (A : Option Addr) (n c : Nat) (at0 : Int) (l : List UInt8) (w : World) (hs : SB w A n c l) (hn : n ≤ 140737488355328) (hat : at0 ≤ 9223372036854775807) :
    Calls Tryd.prog 63 #[.slice A n c, .int .i64 at0] w (UTPost w l at0) := by
  by_cases h : at0 < 0
  · go_enter Tryd.func63, Tryd.ntmps63
    go_wp2_with fail
    refine (read_neg_str A n c at0 _ w h).mono ?_
    rintro e w1 ⟨rfl, hb⟩
    go_wp2_with fail
    go_ret3
    unfold UTPost textOf
    rw [if_pos h]
    exact ⟨hb, rfl⟩
  · obtain ⟨k, rfl⟩ := Int.eq_ofNat_of_zero_le (by omega : 0 ≤ at0)
    have HP := Lib.hid (read_pos_str A n c k l w hs hn (by omega))
    clear hs
    go_enter Tryd.func63, Tryd.ntmps63
    go_wp2_with fail
    refine HP.out.mono ?_
    intro e w1 hpost
    have hU : textOf l (k : Int) = rdT (l.drop k) := by unfold textOf; rw [if_neg (by omega)]; rfl
    have HU := Lib.hid hU
    clear hU
    generalize hR : rdT (l.drop k) = R at hpost HU
    clear hR
    rcases R with _ | ⟨v, j⟩
    · obtain ⟨hb, rfl⟩ := hpost
      go_wp2_with fail
      go_ret3
      exact RTPost.bad HU.out hb
    · obtain ⟨hb, rfl⟩ := hpost
      go_wp2_with fail
      go_ret3
      exact RTPost.good HU.out rfl hb
end Go.Proofs.YtkllfnaofapfnaaDoor.Cod
