/-
  The invariant of a region of UndoPushes: copies of the steps and of the step are laid, in whatever order. Conditions: none. (Printed by gen/undput7.py.)
-/
import Derived.Test.YtebjfigjfhghcaaDoorUndMid
import Derived.Test.YtebjfigjfhghcaaDoorRegPut
namespace Go.Proofs.YtebjfigjfhghcaaDoor.Und
open Go.RowKit Wd Utf

section
variable {w w' : World} {lo n c size g : Nat} {e T ity : TypeId} {A : Option Addr} {v : Value} {xs : List Value} {r : Sp} {q : Stp} {ps : List (Sp × Stp)} {cs : Array Value}
theorem own_nbl (h : w.ownsRow lo e size v n xs) (hb : Blk w g T cs) (he : e ≠ T) : v.ownBlock ≠ some g := by
  rcases h.2 with ⟨rfl, _⟩ | ⟨g', cap, cur, rfl, _, hg', _⟩
  · intro hh; cases hh
  · intro hh
    simp only [Value.ownBlock, Option.some.injEq] at hh
    subst hh
    unfold Blk at hb
    rw [hg'] at hb
    injection hb with hb
    injection hb with _ h2
    exact he h2
theorem own_ltg (h : w.ownsRow lo e size v n xs) (hg : w.heap.size ≤ g) : v.ownBlock ≠ some g := fun hh => by have := (h.lt g hh).2; omega
theorem own_geg (h : w.ownsRow lo e size v n xs) (hg : g < lo) : v.ownBlock ≠ some g := by
  rcases h.2 with ⟨rfl, _⟩ | ⟨g', cap, cur, rfl, hb, _⟩
  · intro hh; cases hh
  · intro hh
    simp only [Value.ownBlock, Option.some.injEq] at hh
    omega
theorem Fo.setg (h : Fo w lo e size A n c xs) (hg : w.grownBy w' (some g)) (hb : Blk w g T cs) (he : e ≠ T) : Fo w' lo e size A n c xs := h.imp id fun h => h.kept hg (.inr (own_nbl h hb he))
theorem SpFr.setg (h : SpFr ity lo w r q) (hg : w.grownBy w' (some g)) (hb : Blk w g T cs) (h1 : ity ≠ T) (h2 : 3 ≠ T) (h3 : 4 ≠ T) (h4 : 9 ≠ T) : SpFr ity lo w' r q :=
  SpFr.of_fo h.inn (h.it.setg hg hb h1) (h.bo.setg hg hb h2) (h.fx.setg hg hb h3) (h.tx.setg hg hb h4)
theorem OF.setg {T' : TypeId} (h : OF T' ity lo w v ps) (hg : w.grownBy w' (some g)) (hne : v.ownBlock ≠ some g) (hb : Blk w g T cs) (h1 : ity ≠ T) (h2 : 3 ≠ T) (h3 : 4 ≠ T) (h4 : 9 ≠ T) : OF T' ity lo w' v ps :=
  ⟨h.row.kept hg (.inr hne), fun p hp => (h.els p hp).setg hg hb h1 h2 h3 h4⟩
theorem upd11 (w : World) (g : Nat) (b0 b1 b2 b3 b4 b5 b6 b7 b8 b9 b10 : Value) : w.grownBy (((((((((((w.setCell ⟨g, 0, none⟩ b0).setCell ⟨g, 1, none⟩ b1).setCell ⟨g, 2, none⟩ b2).setCell ⟨g, 3, none⟩ b3).setCell ⟨g, 4, none⟩ b4).setCell ⟨g, 5, none⟩ b5).setCell ⟨g, 6, none⟩ b6).setCell ⟨g, 7, none⟩ b7).setCell ⟨g, 8, none⟩ b8).setCell ⟨g, 9, none⟩ b9).setCell ⟨g, 10, none⟩ b10) (some g) :=
  ((((((((((((Upd.refl g w).set_ 0 b0).set_ 1 b1).set_ 2 b2).set_ 3 b3).set_ 4 b4).set_ 5 b5).set_ 6 b6).set_ 7 b7).set_ 8 b8).set_ 9 b9).set_ 10 b10)
theorem Blk.setup {B : Nat} {t : TypeId} {ds : Array Value} (h : Blk w B t ds) (hg : w.grownBy w' (some g)) (hne : B ≠ g) : Blk w' B t ds := (hg.block B h.lt (fun e => hne (Option.some.inj e))).trans h
end
/-- what the slots of the region hold -/
structure P7 (hi n : Nat) (A : Option Addr) (c : Nat) (L : List Stp) (q : Stp) (cs : Array Value) (l : Nat → Bool) (fv : Nat → Value) (W : World) : Prop where
  f0 : l 0 = true → fv 0 = .slice A n c
  f1 : l 1 = true → ∃ (A5 : Option Addr) (c5 : Nat) (rs5 : List (Sp × Stp)), fv 1 = .slice A5 rs5.length c5 ∧ OF 39 81 hi W (fv 1) rs5 ∧ rs5.map (·.2) = L
  f2 : l 2 = true → fv 2 = .agg cs
  f3 : l 3 = true → ∃ ry : Sp, fv 3 = .agg ry.cells ∧ SpFr 81 hi W ry q
  f4 : l 4 = true → ∃ g, fv 4 = .pointer (some ⟨g, 0, none⟩) ∧ hi ≤ g ∧ (l 1 = true → (fv 1).ownBlock ≠ some g) ∧ (l 6 = false → Blk W g 39 #[.slice none 0 0, .int .i64 0, .string ⟨#[]⟩, .int .i64 0, .bool false, .slice none 0 0, .slice none 0 0, .slice none 0 0, .int .i64 0, .string ⟨#[]⟩, .string ⟨#[]⟩]) ∧ (l 6 = true → ∀ ry : Sp, fv 3 = .agg ry.cells → Blk W g 39 ry.cells) ∧ g < W.heap.size
  f5 : l 5 = true → l 1 = true ∧ fv 5 = fv 1
  f6 : l 6 = true → l 3 = true ∧ l 4 = true
  hh : hi ≤ W.heap.size
section
variable {hi n c : Nat} {A : Option Addr} {L : List Stp} {q : Stp} {cs : Array Value} {l : Nat → Bool} {fv : Nat → Value} {W W' : World}
theorem P7.keep (h : P7 hi n A c L q cs l fv W) (hb : Below W.heap.size W W') : P7 hi n A c L q cs l fv W' := by
  refine ⟨h.f0, fun e => ?_, h.f2, fun e => ?_, fun e => ?_, h.f5, h.f6, Nat.le_trans h.hh hb.size⟩
  · obtain ⟨A5, c5, rs5, h1, h2, h3⟩ := h.f1 e
    exact ⟨A5, c5, rs5, h1, h2.keep hb, h3⟩
  · obtain ⟨ry, h1, h2⟩ := h.f3 e
    exact ⟨ry, h1, h2.keep hb⟩
  · obtain ⟨g, h1, h2, h3, h4, h5, h6⟩ := h.f4 e
    exact ⟨g, h1, h2, h3, fun x => (h4 x).below hb h6, fun x ry hr => (h5 x ry hr).below hb h6, Nat.lt_of_lt_of_le h6 hb.size⟩
/-- an operation has come up -/
abbrev upl (l : Nat → Bool) (i : Nat) : Nat → Bool := fun j => if j = i then true else l j
abbrev upv (fv : Nat → Value) (i : Nat) (v : Value) : Nat → Value := fun j => if j = i then v else fv j
theorem P7.o0 (h : P7 hi n A c L q cs l fv W) : P7 hi n A c L q cs (upl l 0) (upv fv 0 (.slice A n c)) W := ⟨fun _ => rfl, h.f1, h.f2, h.f3, h.f4, h.f5, h.f6, h.hh⟩
theorem P7.o2 (h : P7 hi n A c L q cs l fv W) : P7 hi n A c L q cs (upl l 2) (upv fv 2 (.agg cs)) W := ⟨h.f0, h.f1, fun _ => rfl, h.f3, h.f4, h.f5, h.f6, h.hh⟩
theorem P7.o1 (h : P7 hi n A c L q cs l fv W) (hl : l 1 = false) (hb : Below W.heap.size W W') {A5 : Option Addr} {c5 : Nat} {rs5 : List (Sp × Stp)} (ho : OF 39 81 W.heap.size W' (.slice A5 rs5.length c5) rs5) (hm : rs5.map (·.2) = L) : P7 hi n A c L q cs (upl l 1) (upv fv 1 (.slice A5 rs5.length c5)) W' := by
  have k := h.keep hb
  refine ⟨k.f0, fun _ => ⟨A5, c5, rs5, rfl, ho.lower h.hh, hm⟩, k.f2, k.f3, fun e => ?_, fun e => ?_, k.f6, k.hh⟩
  · obtain ⟨g, h1, h2, h3, h4, h5, h6⟩ := k.f4 e
    obtain ⟨g', h1', _, _, _, _, h6'⟩ := h.f4 e
    have : g = g' := by have := h1.symm.trans h1'; injection this with this; injection this with this; injection this
    subst this
    exact ⟨g, h1, h2, fun _ => own_geg ho.row h6', h4, h5, h6⟩
  · have := (h.f5 e).1
    rw [hl] at this
    cases this
theorem P7.o3 (h : P7 hi n A c L q cs l fv W) (hl : l 3 = false) (hb : Below W.heap.size W W') {ry : Sp} (ho : SpFr 81 W.heap.size W' ry q) : P7 hi n A c L q cs (upl l 3) (upv fv 3 (.agg ry.cells)) W' := by
  have k := h.keep hb
  refine ⟨k.f0, k.f1, k.f2, fun _ => ⟨ry, rfl, ho.lower h.hh⟩, fun e => ?_, k.f5, fun x => ⟨rfl, (k.f6 x).2⟩, k.hh⟩
  obtain ⟨g, h1, h2, h3, h4, h5, h6⟩ := k.f4 e
  refine ⟨g, h1, h2, h3, h4, fun x => ?_, h6⟩
  have := (h.f6 x).1
  rw [hl] at this
  cases this
theorem P7.o4 (h : P7 hi n A c L q cs l fv W) (hl : l 4 = false) : P7 hi n A c L q cs (upl l 4) (upv fv 4 (.pointer (some ⟨W.heap.size, 0, none⟩))) (W.alloc (.cells #[.slice none 0 0, .int .i64 0, .string ⟨#[]⟩, .int .i64 0, .bool false, .slice none 0 0, .slice none 0 0, .slice none 0 0, .int .i64 0, .string ⟨#[]⟩, .string ⟨#[]⟩] 39)) := by
  have hb : Below W.heap.size W (W.alloc (.cells #[.slice none 0 0, .int .i64 0, .string ⟨#[]⟩, .int .i64 0, .bool false, .slice none 0 0, .slice none 0 0, .slice none 0 0, .int .i64 0, .string ⟨#[]⟩, .string ⟨#[]⟩] 39)) := (Below.refl _ _).alloc (Nat.le_refl _) _
  have k := h.keep hb
  refine ⟨k.f0, k.f1, k.f2, k.f3, fun _ => ⟨_, rfl, h.hh, fun e => ?_, fun _ => Blk.new W _ _, fun e => ?_, by simp⟩, k.f5, fun x => ⟨(k.f6 x).1, rfl⟩, k.hh⟩
  · obtain ⟨A5, c5, rs5, h1, h2, h3⟩ := h.f1 e
    exact own_ltg h2.row (Nat.le_refl _)
  · have := (h.f6 e).2
    rw [hl] at this
    cases this
theorem P7.o5 (h : P7 hi n A c L q cs l fv W) (h1 : l 1 = true) : P7 hi n A c L q cs (upl l 5) (upv fv 5 (fv 1)) W := ⟨h.f0, h.f1, h.f2, h.f3, h.f4, fun _ => ⟨h1, rfl⟩, h.f6, h.hh⟩
theorem P7.o6 (h : P7 hi n A c L q cs l fv W) (h3 : l 3 = true) (h6 : l 6 = false) {g : Nat} {ry : Sp} (hv : fv 3 = .agg ry.cells) (hg : fv 4 = .pointer (some ⟨g, 0, none⟩)) (h4 : l 4 = true) : P7 hi n A c L q cs (upl l 6) fv (((((((((((W.setCell ⟨g, 0, none⟩ (.slice ry.Ai ry.ni ry.ci)).setCell ⟨g, 1, none⟩ (.int .i64 ry.caret)).setCell ⟨g, 2, none⟩ (.string ry.pend)).setCell ⟨g, 3, none⟩ (.int .i64 ry.mode)).setCell ⟨g, 4, none⟩ (.bool ry.conv)).setCell ⟨g, 5, none⟩ (.slice ry.Ab ry.nb ry.cb)).setCell ⟨g, 6, none⟩ (.slice ry.Af ry.nf ry.cf)).setCell ⟨g, 7, none⟩ (.slice ry.At ry.nt ry.ct)).setCell ⟨g, 8, none⟩ (.int .i64 ry.focus)).setCell ⟨g, 9, none⟩ (.string ry.prev)).setCell ⟨g, 10, none⟩ (.string ry.commit)) := by
  obtain ⟨g', h1, h2, h7, h8, _, h9⟩ := h.f4 h4
  have : g = g' := by have := hg.symm.trans h1; injection this with this; injection this with this; injection this
  subst this
  have hz := h8 h6
  have hu := upd11 W g (.slice ry.Ai ry.ni ry.ci) (.int .i64 ry.caret) (.string ry.pend) (.int .i64 ry.mode) (.bool ry.conv) (.slice ry.Ab ry.nb ry.cb) (.slice ry.Af ry.nf ry.cf) (.slice ry.At ry.nt ry.ct) (.int .i64 ry.focus) (.string ry.prev) (.string ry.commit)
  refine ⟨h.f0, fun e => ?_, h.f2, fun e => ?_, fun _ => ⟨g, hg, h2, h7, fun x => ?_, fun _ ry' hr => ?_, by simp; exact h9⟩, h.f5, fun _ => ⟨h3, h4⟩, by simp; exact h.hh⟩
  · obtain ⟨A5, c5, rs5, a1, a2, a3⟩ := h.f1 e
    exact ⟨A5, c5, rs5, a1, a2.setg hu (h7 e) hz (by decide) (by decide) (by decide) (by decide), a3⟩
  · obtain ⟨ry', a1, a2⟩ := h.f3 e
    exact ⟨ry', a1, a2.setg hu hz (by decide) (by decide) (by decide) (by decide)⟩
  · exact absurd (show true = false from x) (by decide)
  · rw [hv] at hr
    have hr := Value.agg.inj hr
    rw [← hr]
    exact Blk.set11 hz (.slice ry.Ai ry.ni ry.ci) (.int .i64 ry.caret) (.string ry.pend) (.int .i64 ry.mode) (.bool ry.conv) (.slice ry.Ab ry.nb ry.cb) (.slice ry.Af ry.nf ry.cf) (.slice ry.At ry.nt ry.ct) (.int .i64 ry.focus) (.string ry.prev) (.string ry.commit)
end
/-- the frame of the region -/
def put7 (a : Act) (fv : Nat → Value) : Act := Reg.putL a [(51, fv 0), (52, fv 1), (53, fv 2), (54, fv 3), (10, fv 4), (9, fv 5)]
theorem put7_self (a : Act) : ∃ fv, a = put7 a fv := by
  refine ⟨fun j => a.tmps.getD (match j with | 0 => 51 | 1 => 52 | 2 => 53 | 3 => 54 | 4 => 10 | _ => 9) undef, ?_⟩
  simp only [put7, Reg.putL, Reg.put_self]
/-- the invariant -/
def I7 (hi n : Nat) (A : Option Addr) (c : Nat) (L : List Stp) (q : Stp) (cs : Array Value) (H : Nat) (w : World) (a0 : Act) (listed : Array Bool) (a : Act) (W : World) : Prop :=
  ∃ fv, a = put7 a0 fv ∧ Below w.heap.size w W ∧ P7 hi n A c L q cs (fun j => listed.getD j false) fv W ∧ Blk W H 31 cs ∧ H < hi
theorem I7.up {hi n : Nat} {A : Option Addr} {c : Nat} {L : List Stp} {q : Stp} {cs : Array Value} {H : Nat} {w : World} {a0 : Act} {listed : Array Bool} {a : Act} {W : World} {i : Nat} (hl : i < listed.size) {fv : Nat → Value} (ha : a = put7 a0 fv) (hb : Below w.heap.size w W) (hp : P7 hi n A c L q cs (upl (fun j => listed.getD j false) i) fv W) (hk : Blk W H 31 cs) (hh : H < hi) : I7 hi n A c L q cs H w a0 (listed.setIfInBounds i true) a W :=
  ⟨fv, ha, hb, by rw [Reg.getD_set hl]; exact hp, hk, hh⟩
end Go.Proofs.YtebjfigjfhghcaaDoor.Und
