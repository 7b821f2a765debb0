/-
  The contracts of List and Sorted of package coding where the code of the strings stands at the index. Conditions: the bytes can be read; the code is there.
-/
import Derived.Test.YtpcojppadeagiaaCodSorted
import Derived.Test.YtpcojppadeagiaaCodRead
namespace Go.Proofs.Ytpcojppadeagiaa.Cod
open Go.RowKit Wd


theorem catch_idle_sl (p q r : Addr) (w : World) :
    CallsD Try.prog 47 #[.pointer (some p), .pointer (some q), .pointer (some r)] .returning w fun e u' w' => e = .returned (.tuple #[]) ∧ u' = .returning ∧ w' = w := by
  refine callsD_of_wpS Try.func47 rfl fun c₀ cs hu => ?_
  apply wpS_seq
  apply wpS_region
  simp [wpOpsS, go_sem, recoverD, hu, Try.ntmps47, Exit.thenS]
  refine wpS_of_wp ?_
  go_wp2
  cases c₀
  simp_all [bodyPostS, results, Try.results47]

/-- how List and Sorted end -/
def LPost (w : World) (at1 : Nat) (ss : List ByteArray) (e : Ending) (w' : World) : Prop :=
  ∃ Av cv, e = .returned (.tuple #[.slice Av ss.length cv, .int .i64 (at1 : Int), .bool true]) ∧ RS w' Av ss.length ss ∧ Below w.heap.size w w'
theorem LPost.good {w : World} {at1 : Nat} {ss : List ByteArray} {w' : World} {Av : Option Addr} {cv : Nat} {nx : Int} (hnx : nx = (at1 : Int)) (hr : RS w' Av ss.length ss) (hb : Below w.heap.size w w') :
    LPost w at1 ss (.returned (.tuple #[.slice Av ss.length cv, .int .i64 nx, .bool true])) w' := by subst hnx; exact ⟨Av, cv, rfl, hr, hb⟩

set_option maxHeartbeats 1000000 in
theorem read_ok_list (A : Option Addr) (n c at0 k : Nat) (l : List UInt8) (ss : List ByteArray) (w : World) (hs : RB w A n l)
    (hF : ∀ (W : World) (g : Nat), Rdr W g A n c at0 → Reads W g 1 A n (bs l) → Calls Try.prog 42 #[.pointer (some ⟨g, 0, none⟩)] W (GPost W g A n c (at0 + k) ss)) :
    Calls Try.prog 41 #[.slice A n c, .int .i64 (at0 : Int), .func (.func 42) #[] #[]] w (LPost w (at0 + k) ss) := by
  have HS := Lib.hid hs
  have HF := Lib.hid hF
  clear hs hF
  have hmf : ∀ (fn : Fn) (first cap : Array Value) (w : World), (Instr.makeFunc fn first cap).run Try.prog w = .ok (.func fn first cap) w := fun _ _ _ _ => rfl
  go_enter_defers Try.func41, Try.ntmps41
  go_wp2_with fail
  have hr4 : Reads ((((w.alloc (Obj.cells #[.slice none 0 0] 39)).alloc (Obj.cells #[.int .i64 0] 3)).alloc (Obj.cells #[.bool false] 4)).alloc (Obj.cells #[.slice A n c, .int .i64 (at0 : Int)] 70)) (w.heap.size + 1 + 1 + 1) 1 A n (bs l) :=
    ((((Reads.alloc HS.out (Nat.le_refl _) _).alloc (by simp) _).alloc (by simp; omega) _).alloc (by simp; omega) _).more (by omega)
  have hg4 : Rdr ((((w.alloc (Obj.cells #[.slice none 0 0] 39)).alloc (Obj.cells #[.int .i64 0] 3)).alloc (Obj.cells #[.bool false] 4)).alloc (Obj.cells #[.slice A n c, .int .i64 (at0 : Int)] 70)) (w.heap.size + 1 + 1 + 1) A n c at0 := by
    have := Blk.new (((w.alloc (Obj.cells #[.slice none 0 0] 39)).alloc (Obj.cells #[.int .i64 0] 3)).alloc (Obj.cells #[.bool false] 4)) 70 #[.slice A n c, .int .i64 (at0 : Int)]
    simpa [Rdr] using this
  have b0 : Blk ((((w.alloc (Obj.cells #[.slice none 0 0] 39)).alloc (Obj.cells #[.int .i64 0] 3)).alloc (Obj.cells #[.bool false] 4)).alloc (Obj.cells #[.slice A n c, .int .i64 (at0 : Int)] 70)) w.heap.size 39 #[.slice none 0 0] :=
    (((Blk.new w 39 #[.slice none 0 0]).alloc _).alloc _).alloc _
  have b1 : Blk ((((w.alloc (Obj.cells #[.slice none 0 0] 39)).alloc (Obj.cells #[.int .i64 0] 3)).alloc (Obj.cells #[.bool false] 4)).alloc (Obj.cells #[.slice A n c, .int .i64 (at0 : Int)] 70)) (w.heap.size + 1) 3 #[.int .i64 0] := by
    have := ((Blk.new (w.alloc (Obj.cells #[.slice none 0 0] 39)) 3 #[.int .i64 0]).alloc (Obj.cells #[.bool false] 4)).alloc (Obj.cells #[.slice A n c, .int .i64 (at0 : Int)] 70)
    simpa using this
  have b2 : Blk ((((w.alloc (Obj.cells #[.slice none 0 0] 39)).alloc (Obj.cells #[.int .i64 0] 3)).alloc (Obj.cells #[.bool false] 4)).alloc (Obj.cells #[.slice A n c, .int .i64 (at0 : Int)] 70)) (w.heap.size + 2) 4 #[.bool false] := by
    have := (Blk.new ((w.alloc (Obj.cells #[.slice none 0 0] 39)).alloc (Obj.cells #[.int .i64 0] 3)) 4 #[.bool false]).alloc (Obj.cells #[.slice A n c, .int .i64 (at0 : Int)] 70)
    simpa using this
  have hb4 : Below w.heap.size w ((((w.alloc (Obj.cells #[.slice none 0 0] 39)).alloc (Obj.cells #[.int .i64 0] 3)).alloc (Obj.cells #[.bool false] 4)).alloc (Obj.cells #[.slice A n c, .int .i64 (at0 : Int)] 70)) :=
    ((((Below.refl _ _).alloc (Nat.le_refl _) _).alloc (by simp) _).alloc (by simp; omega) _).alloc (by simp; omega) _
  refine (HF.out _ _ hg4 hr4).mono ?_
  rintro e w1 ⟨v0, rfl, hown, hrd, hup⟩
  clear hg4 hr4
  obtain ⟨Av, cv, rfl, _, _⟩ := own_slice hown
  have hown' : w1.ownsRow (w.heap.size + 1 + 1 + 1 + 1) 9 1 (.slice Av ss.length cv) ss.length (vs ss) := by simpa using hown
  have HO := Lib.hid hown'
  clear hown hown'
  have B0 := Lib.hid (b0.grown hup (by simp; omega))
  have B1 := Lib.hid (b1.grown hup (by simp))
  have B2 := Lib.hid (b2.grown hup (by simp))
  have HB := Lib.hid (hb4.trans (hup.below (B := w.heap.size) (by simp; omega) (by omega)))
  clear b0 b1 b2 hb4 hup
  have HRD := Lib.hid hrd
  have c0 : w1.cell? ⟨w.heap.size, 0, none⟩ = some (.slice none 0 0) := B0.out.cell 0
  have c1 : w1.cell? ⟨w.heap.size + 1, 0, none⟩ = some (.int .i64 0) := B1.out.cell 0
  have c2 : w1.cell? ⟨w.heap.size + 1 + 1, 0, none⟩ = some (.bool false) := B2.out.cell 0
  have c3 : w1.cell? ⟨w.heap.size + 1 + 1 + 1, 1, none⟩ = some (.int .i64 ((at0 + k : Nat) : Int)) := hrd.cell 1
  have f0 := B0.out.frozen 0
  have f1 := B1.out.frozen 0
  have f2 : w1.frozen? ⟨w.heap.size + 1 + 1, 0, none⟩ = false := B2.out.frozen 0
  clear hrd
  obtain ⟨nx, hnx⟩ : ∃ nx : Int, nx = ((at0 + k : Nat) : Int) := ⟨_, rfl⟩
  rw [← hnx] at c3
  have NX := Lib.hid hnx
  clear hnx
  go_wp2_with fail
  go_region
  go_wp2_with fail
  have d0 := ((((B0.out.set_ 0 (.slice Av ss.length cv)).set_ 0 (.slice Av ss.length cv)).far (p := ⟨w.heap.size + 1, 0, none⟩) (by simp) (.int .i64 nx)).far (p := ⟨w.heap.size + 1 + 1, 0, none⟩) (by simp; omega) (.bool true)).drew
  have d1 := ((((B1.out.far (p := ⟨w.heap.size, 0, none⟩) (by simp) (.slice Av ss.length cv)).far (p := ⟨w.heap.size, 0, none⟩) (by simp) (.slice Av ss.length cv)).set_ 0 (.int .i64 nx)).far (p := ⟨w.heap.size + 1 + 1, 0, none⟩) (by simp) (.bool true)).drew
  have d2 := ((((B2.out.far (p := ⟨w.heap.size, 0, none⟩) (by simp) (.slice Av ss.length cv)).far (p := ⟨w.heap.size, 0, none⟩) (by simp) (.slice Av ss.length cv)).far (p := ⟨w.heap.size + 1, 0, none⟩) (by simp) (.int .i64 nx)).set_ 0 (.bool true)).drew
  have hbf : Below w.heap.size w ((((w1.setCell ⟨w.heap.size, 0, none⟩ (.slice Av ss.length cv)).setCell ⟨w.heap.size, 0, none⟩ (.slice Av ss.length cv)).setCell ⟨w.heap.size + 1, 0, none⟩ (.int .i64 nx)).setCell ⟨w.heap.size + 1 + 1, 0, none⟩ (.bool true)).drew :=
    ((((HB.out.setCell (p := ⟨w.heap.size, 0, none⟩) (Nat.le_refl _) _).setCell (p := ⟨w.heap.size, 0, none⟩) (Nat.le_refl _) _).setCell (p := ⟨w.heap.size + 1, 0, none⟩) (Nat.le_succ _) _).setCell (p := ⟨w.heap.size + 1 + 1, 0, none⟩) (by simp; omega) _).drew
  have hO1 := HO.out.kept ((Upd.refl w.heap.size w1).set_ 0 (.slice Av ss.length cv)) (.inr (own_apart HO.out (by omega)))
  have hO2 := hO1.kept ((Upd.refl w.heap.size _).set_ 0 (.slice Av ss.length cv)) (.inr (own_apart hO1 (by omega)))
  have hO3 := hO2.kept ((Upd.refl (w.heap.size + 1) _).set_ 0 (.int .i64 nx)) (.inr (own_apart hO2 (by omega)))
  have hO : ((((w1.setCell ⟨w.heap.size, 0, none⟩ (.slice Av ss.length cv)).setCell ⟨w.heap.size, 0, none⟩ (.slice Av ss.length cv)).setCell ⟨w.heap.size + 1, 0, none⟩ (.int .i64 nx)).setCell ⟨w.heap.size + 1 + 1, 0, none⟩ (.bool true)).drew.ownsRow (w.heap.size + 1 + 1 + 1 + 1) 9 1 (.slice Av ss.length cv) ss.length (vs ss) :=
    (hO3.kept ((Upd.refl (w.heap.size + 1 + 1) _).set_ 0 (.bool true)) (.inr (own_apart hO3 (by omega)))).drew
  clear hO1 hO2 hO3
  clear c0 c1 c2 c3 f0 f1 f2
  generalize ((((w1.setCell ⟨w.heap.size, 0, none⟩ (.slice Av ss.length cv)).setCell ⟨w.heap.size, 0, none⟩ (.slice Av ss.length cv)).setCell ⟨w.heap.size + 1, 0, none⟩ (.int .i64 nx)).setCell ⟨w.heap.size + 1 + 1, 0, none⟩ (.bool true)).drew = Wf at d0 d1 d2 hbf hO
  refine leaves_cons (f := 47) (args := #[.pointer (some ⟨w.heap.size, 0, none⟩), .pointer (some ⟨w.heap.size + 1, 0, none⟩), .pointer (some ⟨w.heap.size + 1 + 1, 0, none⟩)]) (by simp) (by simp [go_sem]) ?_
  refine (catch_idle_sl _ _ _ _).mono ?_
  rintro e u' w'' ⟨rfl, rfl, rfl⟩
  have e0 : w''.cell? ⟨w.heap.size, 0, none⟩ = some (.slice Av ss.length cv) := d0.cell 0
  have e1 : w''.cell? ⟨w.heap.size + 1, 0, none⟩ = some (.int .i64 nx) := d1.cell 0
  have e2 : w''.cell? ⟨w.heap.size + 1 + 1, 0, none⟩ = some (.bool true) := d2.cell 0
  simp [Leaves, settle, results, Try.results41, go_sem, e0, e1, e2]
  exact LPost.good NX.out (RS.of_own hO) hbf

set_option maxHeartbeats 1000000 in
theorem read_ok_sorted (A : Option Addr) (n c at0 k : Nat) (l : List UInt8) (ss : List ByteArray) (w : World) (hs : RB w A n l)
    (hF : ∀ (W : World) (g : Nat), Rdr W g A n c at0 → Reads W g 1 A n (bs l) → Calls Try.prog 43 #[.pointer (some ⟨g, 0, none⟩)] W (GPost W g A n c (at0 + k) ss)) :
    Calls Try.prog 41 #[.slice A n c, .int .i64 (at0 : Int), .func (.func 43) #[] #[]] w (LPost w (at0 + k) ss) := by
  have HS := Lib.hid hs
  have HF := Lib.hid hF
  clear hs hF
  have hmf : ∀ (fn : Fn) (first cap : Array Value) (w : World), (Instr.makeFunc fn first cap).run Try.prog w = .ok (.func fn first cap) w := fun _ _ _ _ => rfl
  go_enter_defers Try.func41, Try.ntmps41
  go_wp2_with fail
  have hr4 : Reads ((((w.alloc (Obj.cells #[.slice none 0 0] 39)).alloc (Obj.cells #[.int .i64 0] 3)).alloc (Obj.cells #[.bool false] 4)).alloc (Obj.cells #[.slice A n c, .int .i64 (at0 : Int)] 70)) (w.heap.size + 1 + 1 + 1) 1 A n (bs l) :=
    ((((Reads.alloc HS.out (Nat.le_refl _) _).alloc (by simp) _).alloc (by simp; omega) _).alloc (by simp; omega) _).more (by omega)
  have hg4 : Rdr ((((w.alloc (Obj.cells #[.slice none 0 0] 39)).alloc (Obj.cells #[.int .i64 0] 3)).alloc (Obj.cells #[.bool false] 4)).alloc (Obj.cells #[.slice A n c, .int .i64 (at0 : Int)] 70)) (w.heap.size + 1 + 1 + 1) A n c at0 := by
    have := Blk.new (((w.alloc (Obj.cells #[.slice none 0 0] 39)).alloc (Obj.cells #[.int .i64 0] 3)).alloc (Obj.cells #[.bool false] 4)) 70 #[.slice A n c, .int .i64 (at0 : Int)]
    simpa [Rdr] using this
  have b0 : Blk ((((w.alloc (Obj.cells #[.slice none 0 0] 39)).alloc (Obj.cells #[.int .i64 0] 3)).alloc (Obj.cells #[.bool false] 4)).alloc (Obj.cells #[.slice A n c, .int .i64 (at0 : Int)] 70)) w.heap.size 39 #[.slice none 0 0] :=
    (((Blk.new w 39 #[.slice none 0 0]).alloc _).alloc _).alloc _
  have b1 : Blk ((((w.alloc (Obj.cells #[.slice none 0 0] 39)).alloc (Obj.cells #[.int .i64 0] 3)).alloc (Obj.cells #[.bool false] 4)).alloc (Obj.cells #[.slice A n c, .int .i64 (at0 : Int)] 70)) (w.heap.size + 1) 3 #[.int .i64 0] := by
    have := ((Blk.new (w.alloc (Obj.cells #[.slice none 0 0] 39)) 3 #[.int .i64 0]).alloc (Obj.cells #[.bool false] 4)).alloc (Obj.cells #[.slice A n c, .int .i64 (at0 : Int)] 70)
    simpa using this
  have b2 : Blk ((((w.alloc (Obj.cells #[.slice none 0 0] 39)).alloc (Obj.cells #[.int .i64 0] 3)).alloc (Obj.cells #[.bool false] 4)).alloc (Obj.cells #[.slice A n c, .int .i64 (at0 : Int)] 70)) (w.heap.size + 2) 4 #[.bool false] := by
    have := (Blk.new ((w.alloc (Obj.cells #[.slice none 0 0] 39)).alloc (Obj.cells #[.int .i64 0] 3)) 4 #[.bool false]).alloc (Obj.cells #[.slice A n c, .int .i64 (at0 : Int)] 70)
    simpa using this
  have hb4 : Below w.heap.size w ((((w.alloc (Obj.cells #[.slice none 0 0] 39)).alloc (Obj.cells #[.int .i64 0] 3)).alloc (Obj.cells #[.bool false] 4)).alloc (Obj.cells #[.slice A n c, .int .i64 (at0 : Int)] 70)) :=
    ((((Below.refl _ _).alloc (Nat.le_refl _) _).alloc (by simp) _).alloc (by simp; omega) _).alloc (by simp; omega) _
  refine (HF.out _ _ hg4 hr4).mono ?_
  rintro e w1 ⟨v0, rfl, hown, hrd, hup⟩
  clear hg4 hr4
  obtain ⟨Av, cv, rfl, _, _⟩ := own_slice hown
  have hown' : w1.ownsRow (w.heap.size + 1 + 1 + 1 + 1) 9 1 (.slice Av ss.length cv) ss.length (vs ss) := by simpa using hown
  have HO := Lib.hid hown'
  clear hown hown'
  have B0 := Lib.hid (b0.grown hup (by simp; omega))
  have B1 := Lib.hid (b1.grown hup (by simp))
  have B2 := Lib.hid (b2.grown hup (by simp))
  have HB := Lib.hid (hb4.trans (hup.below (B := w.heap.size) (by simp; omega) (by omega)))
  clear b0 b1 b2 hb4 hup
  have HRD := Lib.hid hrd
  have c0 : w1.cell? ⟨w.heap.size, 0, none⟩ = some (.slice none 0 0) := B0.out.cell 0
  have c1 : w1.cell? ⟨w.heap.size + 1, 0, none⟩ = some (.int .i64 0) := B1.out.cell 0
  have c2 : w1.cell? ⟨w.heap.size + 1 + 1, 0, none⟩ = some (.bool false) := B2.out.cell 0
  have c3 : w1.cell? ⟨w.heap.size + 1 + 1 + 1, 1, none⟩ = some (.int .i64 ((at0 + k : Nat) : Int)) := hrd.cell 1
  have f0 := B0.out.frozen 0
  have f1 := B1.out.frozen 0
  have f2 : w1.frozen? ⟨w.heap.size + 1 + 1, 0, none⟩ = false := B2.out.frozen 0
  clear hrd
  obtain ⟨nx, hnx⟩ : ∃ nx : Int, nx = ((at0 + k : Nat) : Int) := ⟨_, rfl⟩
  rw [← hnx] at c3
  have NX := Lib.hid hnx
  clear hnx
  go_wp2_with fail
  go_region
  go_wp2_with fail
  have d0 := ((((B0.out.set_ 0 (.slice Av ss.length cv)).set_ 0 (.slice Av ss.length cv)).far (p := ⟨w.heap.size + 1, 0, none⟩) (by simp) (.int .i64 nx)).far (p := ⟨w.heap.size + 1 + 1, 0, none⟩) (by simp; omega) (.bool true)).drew
  have d1 := ((((B1.out.far (p := ⟨w.heap.size, 0, none⟩) (by simp) (.slice Av ss.length cv)).far (p := ⟨w.heap.size, 0, none⟩) (by simp) (.slice Av ss.length cv)).set_ 0 (.int .i64 nx)).far (p := ⟨w.heap.size + 1 + 1, 0, none⟩) (by simp) (.bool true)).drew
  have d2 := ((((B2.out.far (p := ⟨w.heap.size, 0, none⟩) (by simp) (.slice Av ss.length cv)).far (p := ⟨w.heap.size, 0, none⟩) (by simp) (.slice Av ss.length cv)).far (p := ⟨w.heap.size + 1, 0, none⟩) (by simp) (.int .i64 nx)).set_ 0 (.bool true)).drew
  have hbf : Below w.heap.size w ((((w1.setCell ⟨w.heap.size, 0, none⟩ (.slice Av ss.length cv)).setCell ⟨w.heap.size, 0, none⟩ (.slice Av ss.length cv)).setCell ⟨w.heap.size + 1, 0, none⟩ (.int .i64 nx)).setCell ⟨w.heap.size + 1 + 1, 0, none⟩ (.bool true)).drew :=
    ((((HB.out.setCell (p := ⟨w.heap.size, 0, none⟩) (Nat.le_refl _) _).setCell (p := ⟨w.heap.size, 0, none⟩) (Nat.le_refl _) _).setCell (p := ⟨w.heap.size + 1, 0, none⟩) (Nat.le_succ _) _).setCell (p := ⟨w.heap.size + 1 + 1, 0, none⟩) (by simp; omega) _).drew
  have hO1 := HO.out.kept ((Upd.refl w.heap.size w1).set_ 0 (.slice Av ss.length cv)) (.inr (own_apart HO.out (by omega)))
  have hO2 := hO1.kept ((Upd.refl w.heap.size _).set_ 0 (.slice Av ss.length cv)) (.inr (own_apart hO1 (by omega)))
  have hO3 := hO2.kept ((Upd.refl (w.heap.size + 1) _).set_ 0 (.int .i64 nx)) (.inr (own_apart hO2 (by omega)))
  have hO : ((((w1.setCell ⟨w.heap.size, 0, none⟩ (.slice Av ss.length cv)).setCell ⟨w.heap.size, 0, none⟩ (.slice Av ss.length cv)).setCell ⟨w.heap.size + 1, 0, none⟩ (.int .i64 nx)).setCell ⟨w.heap.size + 1 + 1, 0, none⟩ (.bool true)).drew.ownsRow (w.heap.size + 1 + 1 + 1 + 1) 9 1 (.slice Av ss.length cv) ss.length (vs ss) :=
    (hO3.kept ((Upd.refl (w.heap.size + 1 + 1) _).set_ 0 (.bool true)) (.inr (own_apart hO3 (by omega)))).drew
  clear hO1 hO2 hO3
  clear c0 c1 c2 c3 f0 f1 f2
  generalize ((((w1.setCell ⟨w.heap.size, 0, none⟩ (.slice Av ss.length cv)).setCell ⟨w.heap.size, 0, none⟩ (.slice Av ss.length cv)).setCell ⟨w.heap.size + 1, 0, none⟩ (.int .i64 nx)).setCell ⟨w.heap.size + 1 + 1, 0, none⟩ (.bool true)).drew = Wf at d0 d1 d2 hbf hO
  refine leaves_cons (f := 47) (args := #[.pointer (some ⟨w.heap.size, 0, none⟩), .pointer (some ⟨w.heap.size + 1, 0, none⟩), .pointer (some ⟨w.heap.size + 1 + 1, 0, none⟩)]) (by simp) (by simp [go_sem]) ?_
  refine (catch_idle_sl _ _ _ _).mono ?_
  rintro e u' w'' ⟨rfl, rfl, rfl⟩
  have e0 : w''.cell? ⟨w.heap.size, 0, none⟩ = some (.slice Av ss.length cv) := d0.cell 0
  have e1 : w''.cell? ⟨w.heap.size + 1, 0, none⟩ = some (.int .i64 nx) := d1.cell 0
  have e2 : w''.cell? ⟨w.heap.size + 1 + 1, 0, none⟩ = some (.bool true) := d2.cell 0
  simp [Leaves, settle, results, Try.results41, go_sem, e0, e1, e2]
  exact LPost.good NX.out (RS.of_own hO) hbf

theorem list_any (A : Option Addr) (n c at0 : Nat) (l rest : List UInt8) (ss : List ByteArray) (w : World) (hs : SB w A n c l) (hn : n ≤ 140737488355328) (hd : l.drop at0 = putL (by_ ss) ++ rest) (hroom : ss.length * 16 ≤ 140737488355328) (hstr : ∀ s ∈ ss, s.size ≤ 140737488355328) :
    Calls Try.prog 27 #[.slice A n c, .int .i64 (at0 : Int)] w (LPost w (at0 + (putL (by_ ss)).length) ss) := by
  have HP := Lib.hid (read_ok_list A n c at0 (putL (by_ ss)).length l ss w hs.rb (fun W g hg hr => list_ok g A n c at0 l rest ss W hg hr hs.cap hs.nil hn hd hroom hstr))
  clear hs hd hstr
  go_enter Try.func27, Try.ntmps27
  go_wp2_with fail
  refine HP.out.mono ?_
  rintro e w1 ⟨Av, cv, rfl, hrs, hb⟩
  go_wp2_with fail
  go_ret3
  exact ⟨Av, cv, rfl, hrs, hb⟩
theorem sorted_any (A : Option Addr) (n c at0 : Nat) (l rest : List UInt8) (ss : List ByteArray) (w : World) (hs : SB w A n c l) (hn : n ≤ 140737488355328) (hd : l.drop at0 = putS (by_ ss) ++ rest) (ha : asc (by_ ss) = true) (hroom : ss.length * 16 ≤ 140737488355328) (hstr : ∀ s ∈ ss, s.size ≤ 140737488355328) :
    Calls Try.prog 29 #[.slice A n c, .int .i64 (at0 : Int)] w (LPost w (at0 + (putS (by_ ss)).length) ss) := by
  have HP := Lib.hid (read_ok_sorted A n c at0 (putS (by_ ss)).length l ss w hs.rb (fun W g hg hr => sorted_ok g A n c at0 l rest ss W hg hr hs.cap hs.nil hn hd ha hroom hstr))
  clear hs hd hstr ha
  go_enter Try.func29, Try.ntmps29
  go_wp2_with fail
  refine HP.out.mono ?_
  rintro e w1 ⟨Av, cv, rfl, hrs, hb⟩
  go_wp2_with fail
  go_ret3
  exact ⟨Av, cv, rfl, hrs, hb⟩
end Go.Proofs.Ytpcojppadeagiaa.Cod
