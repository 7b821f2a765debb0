/-
  The contract of Apply of package henkanref40; its region by an invariant. Conditions: the step can be read, its lengths and the text are bounded. (Printed by gen/undapp.py.)
-/
import Derived.Test.YtebjfigjfhghcaaDoorUndPlain
import Derived.Test.YtebjfigjfhghcaaDoorUndValR
import Derived.Test.YtebjfigjfhghcaaDoorUndApply
import Derived.Test.YtebjfigjfhghcaaDoorRegInv
namespace Go.Proofs.YtebjfigjfhghcaaDoor.Und
open Go.RowKit Wd Utf

theorem str_eq {x y : ByteArray} (h : x.data.toList = y.data.toList) : (x.toList == y.toList) = true := by
  have : x = y := ByteArray.ext (Array.toList_inj.mp h)
  rw [this, beq_self_eq_true]
theorem str_ne {x y : ByteArray} (h : ¬ x.data.toList = y.data.toList) : (x.toList == y.toList) = false := by
  rw [beq_eq_false_iff_ne]
  intro e
  exact h (by have : x = y := by rw [ByteArray.toList_eq, ByteArray.toList_eq] at e; exact ByteArray.ext (Array.toList_inj.mp e)
              rw [this])
theorem applyS_drop {t : ByteArray} {q : Stp} : applyS t q = if okB q && (decide (q.commit.size ≤ t.size) && decide (t.data.toList.drop (t.size - q.commit.size) = q.commit.data.toList)) then (⟨(t.data.toList.take (t.size - q.commit.size)).toArray⟩, true) else (⟨#[]⟩, false) := by
  have hl : t.data.toList.length = t.size := by rw [Array.length_toList]; rfl
  unfold applyS applyL
  rw [hl]
  split <;> rename_i h <;> split at h <;> rename_i h2
  · cases h
  · rw [if_neg h2]
  · injection h with h; subst h; rw [if_pos h2]
  · cases h
/-- what a slot of Apply's region holds: the step is bad -/
def PA (r : Sp) (j : Nat) (v : Value) : Prop :=
  match j with
  | 0 => v = .agg #[.slice r.Ai r.ni r.ci, .int .i64 r.caret, .string r.pend, .int .i64 r.mode, .bool r.conv, .slice r.Ab r.nb r.cb, .slice r.Af r.nf r.cf, .slice r.At r.nt r.ct, .int .i64 r.focus, .string r.prev, .string r.commit]
  | 1 => v = .bool false
  | 2 => v = .bool true
  | 3 => v = .bool true
  | 4 => v = undef
  | 5 => v = undef
  | 6 => v = .bool true
  | 7 => v = .bool true
  | 8 => v = undef
  | 9 => v = undef
  | 10 => v = undef
  | 11 => v = undef
  | 12 => v = undef
  | 13 => v = undef
  | 14 => v = .bool true
  | _ => True
/-- the text is too short -/
def PD (r : Sp) (N : Int) (j : Nat) (v : Value) : Prop :=
  match j with
  | 0 => v = .agg #[.slice r.Ai r.ni r.ci, .int .i64 r.caret, .string r.pend, .int .i64 r.mode, .bool r.conv, .slice r.Ab r.nb r.cb, .slice r.Af r.nf r.cf, .slice r.At r.nt r.ct, .int .i64 r.focus, .string r.prev, .string r.commit]
  | 1 => v = .bool true
  | 2 => v = .bool false
  | 3 => v = .bool false
  | 4 => v = .int .i64 N
  | 5 => v = .bool true
  | 6 => v = .bool true
  | 7 => v = .bool true
  | 8 => v = undef
  | 9 => v = undef
  | 10 => v = undef
  | 11 => v = undef
  | 12 => v = undef
  | 13 => v = undef
  | 14 => v = .bool true
  | _ => True
/-- the texts are compared -/
def PB (H : Nat) (t : ByteArray) (r : Sp) (d : Nat) (b : Bool) (N : Int) (j : Nat) (v : Value) : Prop :=
  match j with
  | 0 => v = .agg #[.slice r.Ai r.ni r.ci, .int .i64 r.caret, .string r.pend, .int .i64 r.mode, .bool r.conv, .slice r.Ab r.nb r.cb, .slice r.Af r.nf r.cf, .slice r.At r.nt r.ct, .int .i64 r.focus, .string r.prev, .string r.commit]
  | 1 => v = .bool true
  | 2 => v = .bool false
  | 3 => v = .bool false
  | 4 => v = .int .i64 N
  | 5 => v = .bool false
  | 6 => v = .bool false
  | 7 => v = .bool false
  | 8 => v = .string t
  | 9 => v = .int .i64 N
  | 10 => v = .string (t.extract d t.size)
  | 11 => v = .pointer (some ⟨H, 10, none⟩)
  | 12 => v = .string r.commit
  | 13 => v = .bool (!b)
  | 14 => v = .bool (!b)
  | _ => True
/-- the frame of Apply's region -/
def frAp (H : Nat) (t : ByteArray) (r : Sp) (N : Int) (fv : Nat → Value) : Act := (⟨#[.string t, .agg #[.slice r.Ai r.ni r.ci, .int .i64 r.caret, .string r.pend, .int .i64 r.mode, .bool r.conv, .slice r.Ab r.nb r.cb, .slice r.Af r.nf r.cf, .slice r.At r.nt r.ct, .int .i64 r.focus, .string r.prev, .string r.commit], undef, .pointer (some ⟨H, 0, none⟩), .string ⟨#[]⟩, .bool false, .int .i64 N, .string t, .int .i64 (t.size : Int), .pointer (some ⟨H, 10, none⟩), .string r.commit, .int .i64 (r.commit.size : Int), .int .i64 N, fv 0, fv 1, fv 2, fv 3, fv 4, fv 5, fv 6, fv 7, fv 8, fv 9, fv 10, fv 11, fv 12, fv 13, fv 14, undef, undef, undef], []⟩ : Act)
/-- the invariant of Apply's region -/
def IAp (w : World) (t : ByteArray) (r : Sp) (N : Int) (PJ : Nat → Value → Prop) (listed : Array Bool) (a : Act) (W : World) : Prop :=
  ∃ fv, a = frAp w.heap.size t r N fv ∧ Below w.heap.size w W ∧ Blk W w.heap.size 39 #[.slice r.Ai r.ni r.ci, .int .i64 r.caret, .string r.pend, .int .i64 r.mode, .bool r.conv, .slice r.Ab r.nb r.cb, .slice r.Af r.nf r.cf, .slice r.At r.nt r.ct, .int .i64 r.focus, .string r.prev, .string r.commit] ∧ ∀ j, j < 15 → listed.getD j false = true → PJ j (fv j)
theorem keepAp {w W : World} {t : ByteArray} {r : Sp} {N : Int} {PJ : Nat → Value → Prop} {listed : Array Bool} {fv : Nat → Value} {i : Nat} {v : Value} {a' : Act} (hF : ∀ j, j < 15 → listed.getD j false = true → PJ j (fv j)) (hB : Below w.heap.size w W) (hK : Blk W w.heap.size 39 #[.slice r.Ai r.ni r.ci, .int .i64 r.caret, .string r.pend, .int .i64 r.mode, .bool r.conv, .slice r.Ab r.nb r.cb, .slice r.Af r.nf r.cf, .slice r.At r.nt r.ct, .int .i64 r.focus, .string r.prev, .string r.commit]) (hv : PJ i v) (ha : a' = frAp w.heap.size t r N (fun k => if k = i then v else fv k)) :
    IAp w t r N PJ (listed.setIfInBounds i true) a' W := by
  refine ⟨_, ha, hB, hK, fun j hj hl => ?_⟩
  by_cases h : j = i
  · subst h; simpa using hv
  · simp only [h, if_false]; exact hF j hj (Reg.getD_set_ne h hl)
set_option maxRecDepth 100000 in
set_option maxHeartbeats 8000000 in
theorem applyR_any (t : ByteArray) (r : Sp) (q : Stp) (w : World) (hq : SpIn w r q) (ht : t.size ≤ 9223372036854775807) :
    Calls Tryd.prog 23 #[.string t, .agg r.cells] w fun e w' => e = .returned (.tuple #[.string (applyS t q).1, .bool (applyS t q).2]) ∧ Below w.heap.size w w' := by
  have hcm := hq.commit
  have hsz := hq.szm
  have HV := Lib.hid (fun (W : World) (hW : Below w.heap.size w W) => validR_any r q W (hq.keep hW))
  have B0 : Hid (Below w.heap.size w (w.alloc (.cells #[.slice r.Ai r.ni r.ci, .int .i64 r.caret, .string r.pend, .int .i64 r.mode, .bool r.conv, .slice r.Ab r.nb r.cb, .slice r.Af r.nf r.cf, .slice r.At r.nt r.ct, .int .i64 r.focus, .string r.prev, .string r.commit] 39))) := Lib.hid ((Below.refl _ _).alloc (Nat.le_refl _) _)
  have K0 : Hid (Blk (w.alloc (.cells #[.slice r.Ai r.ni r.ci, .int .i64 r.caret, .string r.pend, .int .i64 r.mode, .bool r.conv, .slice r.Ab r.nb r.cb, .slice r.Af r.nf r.cf, .slice r.At r.nt r.ct, .int .i64 r.focus, .string r.prev, .string r.commit] 39)) w.heap.size 39 #[.slice r.Ai r.ni r.ci, .int .i64 r.caret, .string r.pend, .int .i64 r.mode, .bool r.conv, .slice r.Ab r.nb r.cb, .slice r.Af r.nf r.cf, .slice r.At r.nt r.ct, .int .i64 r.focus, .string r.prev, .string r.commit]) := Lib.hid (Blk.new w _ _)
  have HA := Lib.hid (applyS_drop (t := t) (q := q))
  clear hq
  unfold Sp.cells at HV
  unfold Sp.cells
  rw [hcm] at HA
  clear hcm
  go_enter Tryd.func23, Tryd.ntmps23
  go_upto_region 1 with fail
  generalize (w.alloc (.cells #[.slice r.Ai r.ni r.ci, .int .i64 r.caret, .string r.pend, .int .i64 r.mode, .bool r.conv, .slice r.Ab r.nb r.cb, .slice r.Af r.nf r.cf, .slice r.At r.nt r.ct, .int .i64 r.focus, .string r.prev, .string r.commit] 39)) = W0 at B0 K0 ⊢
  have k0 : W0.cell? ⟨w.heap.size, 0, none⟩ = some (.slice r.Ai r.ni r.ci) := K0.out.cell 0
  have k1 : W0.cell? ⟨w.heap.size, 1, none⟩ = some (.int .i64 r.caret) := K0.out.cell 1
  have k2 : W0.cell? ⟨w.heap.size, 2, none⟩ = some (.string r.pend) := K0.out.cell 2
  have k3 : W0.cell? ⟨w.heap.size, 3, none⟩ = some (.int .i64 r.mode) := K0.out.cell 3
  have k4 : W0.cell? ⟨w.heap.size, 4, none⟩ = some (.bool r.conv) := K0.out.cell 4
  have k5 : W0.cell? ⟨w.heap.size, 5, none⟩ = some (.slice r.Ab r.nb r.cb) := K0.out.cell 5
  have k6 : W0.cell? ⟨w.heap.size, 6, none⟩ = some (.slice r.Af r.nf r.cf) := K0.out.cell 6
  have k7 : W0.cell? ⟨w.heap.size, 7, none⟩ = some (.slice r.At r.nt r.ct) := K0.out.cell 7
  have k8 : W0.cell? ⟨w.heap.size, 8, none⟩ = some (.int .i64 r.focus) := K0.out.cell 8
  have k9 : W0.cell? ⟨w.heap.size, 9, none⟩ = some (.string r.prev) := K0.out.cell 9
  have k10 : W0.cell? ⟨w.heap.size, 10, none⟩ = some (.string r.commit) := K0.out.cell 10
  have hl : t.data.toList.length = t.size := by rw [Array.length_toList]; rfl
  rcases ho : okB q with _ | _
  · have HA : Hid (applyS t q = (⟨#[]⟩, false)) := Lib.hid (by rw [HA.out, ho]; rfl)
    rw [ho] at HV
    clear ho
    go_upto_region 2 with fail
    clear k0 k1 k2 k3 k4 k5 k6 k7 k8 k9 k10
    generalize hN : (t.size : Int) - (r.commit.size : Int) = N
    refine wp_region_any (by kernel_rfl) ?_
    change wpAny _ _ _ _ _ _ _ (World.drew _)
    refine Reg.wpAny_inv ?hf (IAp w t r N (PA r)) ?hs ?hd _ _ _ _ rfl (Nat.le_of_eq (by kernel_rfl)) ?hI
    case hI => exact ⟨fun _ => undef, rfl, B0.out.drew, K0.out.drew, fun j hj hl => by simp [Array.getD] at hl⟩
    case hf => exact Reg.back_of (by kernel_rfl)
    case hd =>
      intro listed a W hz hall hI
      obtain ⟨fv, rfl, hB, hK, hF⟩ := hI
      have h14 : fv 14 = .bool true := hF 14 (by decide) (by have h := hall 14 (by decide); have hz' : listed.size = 15 := hz; simpa [Array.getD, hz'] using h)
      clear hall hF
      unfold frAp
      rw [h14]
      go_wp2_with fail
      go_ret2
      exact ⟨by rw [HA.out]; try rfl, hB⟩
    case hs =>
      intro i o listed a W ho hz' hl hp hI
      obtain ⟨fv, rfl, hB, hK, hF⟩ := hI
      unfold frAp
      match i, ho with
      | 0, ho =>
        obtain rfl : _ = o := Option.some.inj ho
        have b0 : W.cell? ⟨w.heap.size, 0, none⟩ = some (.slice r.Ai r.ni r.ci) := hK.cell 0
        have b1 : W.cell? ⟨w.heap.size, 1, none⟩ = some (.int .i64 r.caret) := hK.cell 1
        have b2 : W.cell? ⟨w.heap.size, 2, none⟩ = some (.string r.pend) := hK.cell 2
        have b3 : W.cell? ⟨w.heap.size, 3, none⟩ = some (.int .i64 r.mode) := hK.cell 3
        have b4 : W.cell? ⟨w.heap.size, 4, none⟩ = some (.bool r.conv) := hK.cell 4
        have b5 : W.cell? ⟨w.heap.size, 5, none⟩ = some (.slice r.Ab r.nb r.cb) := hK.cell 5
        have b6 : W.cell? ⟨w.heap.size, 6, none⟩ = some (.slice r.Af r.nf r.cf) := hK.cell 6
        have b7 : W.cell? ⟨w.heap.size, 7, none⟩ = some (.slice r.At r.nt r.ct) := hK.cell 7
        have b8 : W.cell? ⟨w.heap.size, 8, none⟩ = some (.int .i64 r.focus) := hK.cell 8
        have b9 : W.cell? ⟨w.heap.size, 9, none⟩ = some (.string r.prev) := hK.cell 9
        have b10 : W.cell? ⟨w.heap.size, 10, none⟩ = some (.string r.commit) := hK.cell 10
        refine wpOp_step rfl (fun K' hK' => ?_)
        go_simp
        refine hK' _ _ (keepAp (i := 0) hF hB hK (v := .agg #[.slice r.Ai r.ni r.ci, .int .i64 r.caret, .string r.pend, .int .i64 r.mode, .bool r.conv, .slice r.Ab r.nb r.cb, .slice r.Af r.nf r.cf, .slice r.At r.nt r.ct, .int .i64 r.focus, .string r.prev, .string r.commit]) rfl ?_)
        first | rfl | simp [frAp, Act.put]
      | 1, ho =>
        obtain rfl : _ = o := Option.some.inj ho
        have h0 : fv 0 = .agg #[.slice r.Ai r.ni r.ci, .int .i64 r.caret, .string r.pend, .int .i64 r.mode, .bool r.conv, .slice r.Ab r.nb r.cb, .slice r.Af r.nf r.cf, .slice r.At r.nt r.ct, .int .i64 r.focus, .string r.prev, .string r.commit] := hF 0 (by decide) (hp ⟨0, .data⟩ (by simp) rfl)
        refine wpOp_step rfl (fun K' hK' => ?_)
        go_simp
        go_at_call 10
        with_reducible refine (HV.out _ hB).mono ?_
        rintro e w1 ⟨rfl, hb1⟩
        try go_simp
        refine hK' _ _ (keepAp (i := 1) hF (hB.trans (hb1.mono hB.size)) (hK.below hb1 hK.lt) (v := .bool false) rfl ?_)
        first | rfl | simp [frAp, h0]
      | 2, ho =>
        obtain rfl : _ = o := Option.some.inj ho
        have h1 : fv 1 = .bool false := hF 1 (by decide) (hp ⟨1, .data⟩ (by simp) rfl)
        refine wpOp_step rfl (fun K' hK' => ?_)
        go_simp
        refine hK' _ _ (keepAp (i := 2) hF hB hK (v := .bool true) rfl ?_)
        first | rfl | simp [frAp, h1]
      | 3, ho =>
        obtain rfl : _ = o := Option.some.inj ho
        have h2 : fv 2 = .bool true := hF 2 (by decide) (hp ⟨2, .data⟩ (by simp) rfl)
        refine wpOp_step rfl (fun K' hK' => ?_)
        go_simp
        refine hK' _ _ (keepAp (i := 3) hF hB hK (v := .bool true) rfl ?_)
        first | rfl | simp [frAp, h2]
      | 4, ho =>
        obtain rfl : _ = o := Option.some.inj ho
        have h3 : fv 3 = .bool true := hF 3 (by decide) (hp ⟨3, .guard⟩ (by simp) rfl)
        refine wpOp_step rfl (fun K' hK' => ?_)
        go_simp
        refine hK' _ _ (keepAp (i := 4) hF hB hK (v := undef) rfl ?_)
        first | rfl | simp [frAp, h3]
      | 5, ho =>
        obtain rfl : _ = o := Option.some.inj ho
        have h4 : fv 4 = undef := hF 4 (by decide) (hp ⟨4, .data⟩ (by simp) rfl)
        have h3 : fv 3 = .bool true := hF 3 (by decide) (hp ⟨3, .guard⟩ (by simp) rfl)
        refine wpOp_step rfl (fun K' hK' => ?_)
        go_simp
        refine hK' _ _ (keepAp (i := 5) hF hB hK (v := undef) rfl ?_)
        first | rfl | simp [frAp, h4, h3]
      | 6, ho =>
        obtain rfl : _ = o := Option.some.inj ho
        have h3 : fv 3 = .bool true := hF 3 (by decide) (hp ⟨3, .data⟩ (by simp) rfl)
        have h5 : fv 5 = undef := hF 5 (by decide) (hp ⟨5, .data⟩ (by simp) rfl)
        refine wpOp_step rfl (fun K' hK' => ?_)
        go_simp
        refine hK' _ _ (keepAp (i := 6) hF hB hK (v := .bool true) rfl ?_)
        first | rfl | simp [frAp, h3, h5]
      | 7, ho =>
        obtain rfl : _ = o := Option.some.inj ho
        have h6 : fv 6 = .bool true := hF 6 (by decide) (hp ⟨6, .data⟩ (by simp) rfl)
        refine wpOp_step rfl (fun K' hK' => ?_)
        go_simp
        refine hK' _ _ (keepAp (i := 7) hF hB hK (v := .bool true) rfl ?_)
        first | rfl | simp [frAp, h6]
      | 8, ho =>
        obtain rfl : _ = o := Option.some.inj ho
        have h7 : fv 7 = .bool true := hF 7 (by decide) (hp ⟨7, .guard⟩ (by simp) rfl)
        refine wpOp_step rfl (fun K' hK' => ?_)
        go_simp
        refine hK' _ _ (keepAp (i := 8) hF hB hK (v := undef) rfl ?_)
        first | rfl | simp [frAp, h7]
      | 9, ho =>
        obtain rfl : _ = o := Option.some.inj ho
        have h7 : fv 7 = .bool true := hF 7 (by decide) (hp ⟨7, .guard⟩ (by simp) rfl)
        refine wpOp_step rfl (fun K' hK' => ?_)
        go_simp
        refine hK' _ _ (keepAp (i := 9) hF hB hK (v := undef) rfl ?_)
        first | rfl | simp [frAp, h7]
      | 10, ho =>
        obtain rfl : _ = o := Option.some.inj ho
        have h8 : fv 8 = undef := hF 8 (by decide) (hp ⟨8, .data⟩ (by simp) rfl)
        have h9 : fv 9 = undef := hF 9 (by decide) (hp ⟨9, .data⟩ (by simp) rfl)
        have h7 : fv 7 = .bool true := hF 7 (by decide) (hp ⟨7, .guard⟩ (by simp) rfl)
        refine wpOp_step rfl (fun K' hK' => ?_)
        go_simp
        refine hK' _ _ (keepAp (i := 10) hF hB hK (v := undef) rfl ?_)
        first | rfl | simp [frAp, h8, h9, h7]
      | 11, ho =>
        obtain rfl : _ = o := Option.some.inj ho
        have h7 : fv 7 = .bool true := hF 7 (by decide) (hp ⟨7, .guard⟩ (by simp) rfl)
        refine wpOp_step rfl (fun K' hK' => ?_)
        go_simp
        refine hK' _ _ (keepAp (i := 11) hF hB hK (v := undef) rfl ?_)
        first | rfl | simp [frAp, h7]
      | 12, ho =>
        obtain rfl : _ = o := Option.some.inj ho
        have h11 : fv 11 = undef := hF 11 (by decide) (hp ⟨11, .data⟩ (by simp) rfl)
        have h7 : fv 7 = .bool true := hF 7 (by decide) (hp ⟨7, .guard⟩ (by simp) rfl)
        have b10 : W.cell? ⟨w.heap.size, 10, none⟩ = some (.string r.commit) := hK.cell 10
        refine wpOp_step rfl (fun K' hK' => ?_)
        go_simp
        refine hK' _ _ (keepAp (i := 12) hF hB hK (v := undef) rfl ?_)
        first | rfl | simp [frAp, h11, h7]
      | 13, ho =>
        obtain rfl : _ = o := Option.some.inj ho
        have h10 : fv 10 = undef := hF 10 (by decide) (hp ⟨10, .data⟩ (by simp) rfl)
        have h12 : fv 12 = undef := hF 12 (by decide) (hp ⟨12, .data⟩ (by simp) rfl)
        have h7 : fv 7 = .bool true := hF 7 (by decide) (hp ⟨7, .guard⟩ (by simp) rfl)
        refine wpOp_step rfl (fun K' hK' => ?_)
        go_simp
        refine hK' _ _ (keepAp (i := 13) hF hB hK (v := undef) rfl ?_)
        first | rfl | simp [frAp, h10, h12, h7]
      | 14, ho =>
        obtain rfl : _ = o := Option.some.inj ho
        have h7 : fv 7 = .bool true := hF 7 (by decide) (hp ⟨7, .data⟩ (by simp) rfl)
        have h13 : fv 13 = undef := hF 13 (by decide) (hp ⟨13, .data⟩ (by simp) rfl)
        refine wpOp_step rfl (fun K' hK' => ?_)
        go_simp
        refine hK' _ _ (keepAp (i := 14) hF hB hK (v := .bool true) rfl ?_)
        first | rfl | simp [frAp, h7, h13]
      | n + 15, ho => exact absurd (Array.getElem?_eq_some_iff.1 ho).1 (by show ¬ n + 15 < 15; omega)
  · by_cases hle : r.commit.size ≤ t.size
    · obtain ⟨d, hd⟩ : ∃ d, t.size - r.commit.size = d := ⟨_, rfl⟩
      have hi : (t.size : Int) - (r.commit.size : Int) = (d : Int) := by omega
      have hdl : d ≤ t.size := by omega
      have hex : (t.extract d t.size).data.toList = t.data.toList.drop d := by rw [Lib.extract_data, List.take_of_length_le]; rw [List.length_drop, hl]; exact Nat.le_refl _
      have hex0 : t.extract 0 d = (⟨(t.data.toList.take d).toArray⟩ : ByteArray) := ByteArray.ext (Array.toList_inj.mp (by rw [Lib.extract_data]; simp))
      rw [ho] at HV
      go_upto_region 2 with fail
      clear k0 k1 k2 k3 k4 k5 k6 k7 k8 k9 k10
      try rw [hi]
      generalize hN : (d : Int) = N
      have hN0 : 0 ≤ N := by omega
      have hN1 : N ≤ (t.size : Int) := by omega
      have hNd : N.toNat = d := by omega
      have hN2 : (N < 0) = False := by simp; omega
      rcases hC : decide (t.data.toList.drop d = r.commit.data.toList) with _ | _
      · have HA : Hid (applyS t q = (⟨#[]⟩, false)) := Lib.hid (by rw [HA.out, ho, hd, decide_eq_true hle, hC]; rfl)
        have hcc : ((t.extract d t.size).toList == r.commit.toList) = false := str_ne (fun h => (of_decide_eq_false hC) (hex.symm.trans h))
        obtain ⟨b, hb⟩ : ∃ b, b = false := ⟨_, rfl⟩
        rw [← hb] at hcc
        clear ho hC hex hd hex0
        refine wp_region_any (by kernel_rfl) ?_
        change wpAny _ _ _ _ _ _ _ (World.drew _)
        refine Reg.wpAny_inv ?hf (IAp w t r N (PB w.heap.size t r d b N)) ?hs ?hd _ _ _ _ rfl (Nat.le_of_eq (by kernel_rfl)) ?hI
        case hI => exact ⟨fun _ => undef, rfl, B0.out.drew, K0.out.drew, fun j hj hl => by simp [Array.getD] at hl⟩
        case hf => exact Reg.back_of (by kernel_rfl)
        case hd =>
          intro listed a W hz hall hI
          obtain ⟨fv, rfl, hB, hK, hF⟩ := hI
          have h14 : fv 14 = .bool (!b) := hF 14 (by decide) (by have h := hall 14 (by decide); have hz' : listed.size = 15 := hz; simpa [Array.getD, hz'] using h)
          clear hall hF
          unfold frAp
          rw [h14, hb]
          go_wp2_with fail
          go_ret2
          exact ⟨by rw [HA.out]; try rfl, hB⟩
        case hs =>
          intro i o listed a W ho hz' hl hp hI
          obtain ⟨fv, rfl, hB, hK, hF⟩ := hI
          unfold frAp
          match i, ho with
          | 0, ho =>
            obtain rfl : _ = o := Option.some.inj ho
            have b0 : W.cell? ⟨w.heap.size, 0, none⟩ = some (.slice r.Ai r.ni r.ci) := hK.cell 0
            have b1 : W.cell? ⟨w.heap.size, 1, none⟩ = some (.int .i64 r.caret) := hK.cell 1
            have b2 : W.cell? ⟨w.heap.size, 2, none⟩ = some (.string r.pend) := hK.cell 2
            have b3 : W.cell? ⟨w.heap.size, 3, none⟩ = some (.int .i64 r.mode) := hK.cell 3
            have b4 : W.cell? ⟨w.heap.size, 4, none⟩ = some (.bool r.conv) := hK.cell 4
            have b5 : W.cell? ⟨w.heap.size, 5, none⟩ = some (.slice r.Ab r.nb r.cb) := hK.cell 5
            have b6 : W.cell? ⟨w.heap.size, 6, none⟩ = some (.slice r.Af r.nf r.cf) := hK.cell 6
            have b7 : W.cell? ⟨w.heap.size, 7, none⟩ = some (.slice r.At r.nt r.ct) := hK.cell 7
            have b8 : W.cell? ⟨w.heap.size, 8, none⟩ = some (.int .i64 r.focus) := hK.cell 8
            have b9 : W.cell? ⟨w.heap.size, 9, none⟩ = some (.string r.prev) := hK.cell 9
            have b10 : W.cell? ⟨w.heap.size, 10, none⟩ = some (.string r.commit) := hK.cell 10
            refine wpOp_step rfl (fun K' hK' => ?_)
            go_simp
            refine hK' _ _ (keepAp (i := 0) hF hB hK (v := .agg #[.slice r.Ai r.ni r.ci, .int .i64 r.caret, .string r.pend, .int .i64 r.mode, .bool r.conv, .slice r.Ab r.nb r.cb, .slice r.Af r.nf r.cf, .slice r.At r.nt r.ct, .int .i64 r.focus, .string r.prev, .string r.commit]) rfl ?_)
            first | rfl | simp [frAp, Act.put]
          | 1, ho =>
            obtain rfl : _ = o := Option.some.inj ho
            have h0 : fv 0 = .agg #[.slice r.Ai r.ni r.ci, .int .i64 r.caret, .string r.pend, .int .i64 r.mode, .bool r.conv, .slice r.Ab r.nb r.cb, .slice r.Af r.nf r.cf, .slice r.At r.nt r.ct, .int .i64 r.focus, .string r.prev, .string r.commit] := hF 0 (by decide) (hp ⟨0, .data⟩ (by simp) rfl)
            refine wpOp_step rfl (fun K' hK' => ?_)
            go_simp
            go_at_call 10
            with_reducible refine (HV.out _ hB).mono ?_
            rintro e w1 ⟨rfl, hb1⟩
            try go_simp
            refine hK' _ _ (keepAp (i := 1) hF (hB.trans (hb1.mono hB.size)) (hK.below hb1 hK.lt) (v := .bool true) rfl ?_)
            first | rfl | simp [frAp, h0]
          | 2, ho =>
            obtain rfl : _ = o := Option.some.inj ho
            have h1 : fv 1 = .bool true := hF 1 (by decide) (hp ⟨1, .data⟩ (by simp) rfl)
            refine wpOp_step rfl (fun K' hK' => ?_)
            go_simp
            refine hK' _ _ (keepAp (i := 2) hF hB hK (v := .bool false) rfl ?_)
            first | rfl | simp [frAp, h1]
          | 3, ho =>
            obtain rfl : _ = o := Option.some.inj ho
            have h2 : fv 2 = .bool false := hF 2 (by decide) (hp ⟨2, .data⟩ (by simp) rfl)
            refine wpOp_step rfl (fun K' hK' => ?_)
            go_simp
            refine hK' _ _ (keepAp (i := 3) hF hB hK (v := .bool false) rfl ?_)
            first | rfl | simp [frAp, h2]
          | 4, ho =>
            obtain rfl : _ = o := Option.some.inj ho
            have h3 : fv 3 = .bool false := hF 3 (by decide) (hp ⟨3, .guard⟩ (by simp) rfl)
            refine wpOp_step rfl (fun K' hK' => ?_)
            go_simp
            refine hK' _ _ (keepAp (i := 4) hF hB hK (v := .int .i64 N) rfl ?_)
            first | rfl | simp [frAp, h3]
          | 5, ho =>
            obtain rfl : _ = o := Option.some.inj ho
            have h4 : fv 4 = .int .i64 N := hF 4 (by decide) (hp ⟨4, .data⟩ (by simp) rfl)
            have h3 : fv 3 = .bool false := hF 3 (by decide) (hp ⟨3, .guard⟩ (by simp) rfl)
            refine wpOp_step rfl (fun K' hK' => ?_)
            go_simp
            refine hK' _ _ (keepAp (i := 5) hF hB hK (v := .bool false) rfl ?_)
            first | rfl | simp [frAp, h4, h3]
          | 6, ho =>
            obtain rfl : _ = o := Option.some.inj ho
            have h3 : fv 3 = .bool false := hF 3 (by decide) (hp ⟨3, .data⟩ (by simp) rfl)
            have h5 : fv 5 = .bool false := hF 5 (by decide) (hp ⟨5, .data⟩ (by simp) rfl)
            refine wpOp_step rfl (fun K' hK' => ?_)
            go_simp
            refine hK' _ _ (keepAp (i := 6) hF hB hK (v := .bool false) rfl ?_)
            first | rfl | simp [frAp, h3, h5]
          | 7, ho =>
            obtain rfl : _ = o := Option.some.inj ho
            have h6 : fv 6 = .bool false := hF 6 (by decide) (hp ⟨6, .data⟩ (by simp) rfl)
            refine wpOp_step rfl (fun K' hK' => ?_)
            go_simp
            refine hK' _ _ (keepAp (i := 7) hF hB hK (v := .bool false) rfl ?_)
            first | rfl | simp [frAp, h6]
          | 8, ho =>
            obtain rfl : _ = o := Option.some.inj ho
            have h7 : fv 7 = .bool false := hF 7 (by decide) (hp ⟨7, .guard⟩ (by simp) rfl)
            refine wpOp_step rfl (fun K' hK' => ?_)
            go_simp
            refine hK' _ _ (keepAp (i := 8) hF hB hK (v := .string t) rfl ?_)
            first | rfl | simp [frAp, h7]
          | 9, ho =>
            obtain rfl : _ = o := Option.some.inj ho
            have h7 : fv 7 = .bool false := hF 7 (by decide) (hp ⟨7, .guard⟩ (by simp) rfl)
            refine wpOp_step rfl (fun K' hK' => ?_)
            go_simp
            refine hK' _ _ (keepAp (i := 9) hF hB hK (v := .int .i64 N) rfl ?_)
            first | rfl | simp [frAp, h7]
          | 10, ho =>
            obtain rfl : _ = o := Option.some.inj ho
            have h8 : fv 8 = .string t := hF 8 (by decide) (hp ⟨8, .data⟩ (by simp) rfl)
            have h9 : fv 9 = .int .i64 N := hF 9 (by decide) (hp ⟨9, .data⟩ (by simp) rfl)
            have h7 : fv 7 = .bool false := hF 7 (by decide) (hp ⟨7, .guard⟩ (by simp) rfl)
            refine wpOp_step rfl (fun K' hK' => ?_)
            go_simp
            refine hK' _ _ (keepAp (i := 10) hF hB hK (v := .string (t.extract d t.size)) rfl ?_)
            first | rfl | simp [frAp, h8, h9, h7]
          | 11, ho =>
            obtain rfl : _ = o := Option.some.inj ho
            have h7 : fv 7 = .bool false := hF 7 (by decide) (hp ⟨7, .guard⟩ (by simp) rfl)
            refine wpOp_step rfl (fun K' hK' => ?_)
            go_simp
            refine hK' _ _ (keepAp (i := 11) hF hB hK (v := .pointer (some ⟨w.heap.size, 10, none⟩)) rfl ?_)
            first | rfl | simp [frAp, h7]
          | 12, ho =>
            obtain rfl : _ = o := Option.some.inj ho
            have h11 : fv 11 = .pointer (some ⟨w.heap.size, 10, none⟩) := hF 11 (by decide) (hp ⟨11, .data⟩ (by simp) rfl)
            have h7 : fv 7 = .bool false := hF 7 (by decide) (hp ⟨7, .guard⟩ (by simp) rfl)
            have b10 : W.cell? ⟨w.heap.size, 10, none⟩ = some (.string r.commit) := hK.cell 10
            refine wpOp_step rfl (fun K' hK' => ?_)
            go_simp
            refine hK' _ _ (keepAp (i := 12) hF hB hK (v := .string r.commit) rfl ?_)
            first | rfl | simp [frAp, h11, h7]
          | 13, ho =>
            obtain rfl : _ = o := Option.some.inj ho
            have h10 : fv 10 = .string (t.extract d t.size) := hF 10 (by decide) (hp ⟨10, .data⟩ (by simp) rfl)
            have h12 : fv 12 = .string r.commit := hF 12 (by decide) (hp ⟨12, .data⟩ (by simp) rfl)
            have h7 : fv 7 = .bool false := hF 7 (by decide) (hp ⟨7, .guard⟩ (by simp) rfl)
            refine wpOp_step rfl (fun K' hK' => ?_)
            go_simp
            refine hK' _ _ (keepAp (i := 13) hF hB hK (v := .bool (!b)) rfl ?_)
            first | rfl | simp [frAp, h10, h12, h7, hb]
          | 14, ho =>
            obtain rfl : _ = o := Option.some.inj ho
            have h7 : fv 7 = .bool false := hF 7 (by decide) (hp ⟨7, .data⟩ (by simp) rfl)
            have h13 : fv 13 = .bool (!b) := hF 13 (by decide) (hp ⟨13, .data⟩ (by simp) rfl)
            refine wpOp_step rfl (fun K' hK' => ?_)
            go_simp
            refine hK' _ _ (keepAp (i := 14) hF hB hK (v := .bool (!b)) rfl ?_)
            first | rfl | simp [frAp, h7, h13, hb]
          | n + 15, ho => exact absurd (Array.getElem?_eq_some_iff.1 ho).1 (by show ¬ n + 15 < 15; omega)
      · have HA : Hid (applyS t q = (⟨(t.data.toList.take d).toArray⟩, true)) := Lib.hid (by rw [HA.out, ho, hd, decide_eq_true hle, hC]; rfl)
        have hcc : ((t.extract d t.size).toList == r.commit.toList) = true := str_eq (hex.trans (of_decide_eq_true hC))
        obtain ⟨b, hb⟩ : ∃ b, b = true := ⟨_, rfl⟩
        rw [← hb] at hcc
        clear ho hC hex hd
        refine wp_region_any (by kernel_rfl) ?_
        change wpAny _ _ _ _ _ _ _ (World.drew _)
        refine Reg.wpAny_inv ?hf (IAp w t r N (PB w.heap.size t r d b N)) ?hs ?hd _ _ _ _ rfl (Nat.le_of_eq (by kernel_rfl)) ?hI
        case hI => exact ⟨fun _ => undef, rfl, B0.out.drew, K0.out.drew, fun j hj hl => by simp [Array.getD] at hl⟩
        case hf => exact Reg.back_of (by kernel_rfl)
        case hd =>
          intro listed a W hz hall hI
          obtain ⟨fv, rfl, hB, hK, hF⟩ := hI
          have h14 : fv 14 = .bool (!b) := hF 14 (by decide) (by have h := hall 14 (by decide); have hz' : listed.size = 15 := hz; simpa [Array.getD, hz'] using h)
          clear hall hF
          unfold frAp
          rw [h14, hb]
          go_wp2_with fail
          go_ret2
          exact ⟨by rw [HA.out]; try rfl, hB⟩
        case hs =>
          intro i o listed a W ho hz' hl hp hI
          obtain ⟨fv, rfl, hB, hK, hF⟩ := hI
          unfold frAp
          match i, ho with
          | 0, ho =>
            obtain rfl : _ = o := Option.some.inj ho
            have b0 : W.cell? ⟨w.heap.size, 0, none⟩ = some (.slice r.Ai r.ni r.ci) := hK.cell 0
            have b1 : W.cell? ⟨w.heap.size, 1, none⟩ = some (.int .i64 r.caret) := hK.cell 1
            have b2 : W.cell? ⟨w.heap.size, 2, none⟩ = some (.string r.pend) := hK.cell 2
            have b3 : W.cell? ⟨w.heap.size, 3, none⟩ = some (.int .i64 r.mode) := hK.cell 3
            have b4 : W.cell? ⟨w.heap.size, 4, none⟩ = some (.bool r.conv) := hK.cell 4
            have b5 : W.cell? ⟨w.heap.size, 5, none⟩ = some (.slice r.Ab r.nb r.cb) := hK.cell 5
            have b6 : W.cell? ⟨w.heap.size, 6, none⟩ = some (.slice r.Af r.nf r.cf) := hK.cell 6
            have b7 : W.cell? ⟨w.heap.size, 7, none⟩ = some (.slice r.At r.nt r.ct) := hK.cell 7
            have b8 : W.cell? ⟨w.heap.size, 8, none⟩ = some (.int .i64 r.focus) := hK.cell 8
            have b9 : W.cell? ⟨w.heap.size, 9, none⟩ = some (.string r.prev) := hK.cell 9
            have b10 : W.cell? ⟨w.heap.size, 10, none⟩ = some (.string r.commit) := hK.cell 10
            refine wpOp_step rfl (fun K' hK' => ?_)
            go_simp
            refine hK' _ _ (keepAp (i := 0) hF hB hK (v := .agg #[.slice r.Ai r.ni r.ci, .int .i64 r.caret, .string r.pend, .int .i64 r.mode, .bool r.conv, .slice r.Ab r.nb r.cb, .slice r.Af r.nf r.cf, .slice r.At r.nt r.ct, .int .i64 r.focus, .string r.prev, .string r.commit]) rfl ?_)
            first | rfl | simp [frAp, Act.put]
          | 1, ho =>
            obtain rfl : _ = o := Option.some.inj ho
            have h0 : fv 0 = .agg #[.slice r.Ai r.ni r.ci, .int .i64 r.caret, .string r.pend, .int .i64 r.mode, .bool r.conv, .slice r.Ab r.nb r.cb, .slice r.Af r.nf r.cf, .slice r.At r.nt r.ct, .int .i64 r.focus, .string r.prev, .string r.commit] := hF 0 (by decide) (hp ⟨0, .data⟩ (by simp) rfl)
            refine wpOp_step rfl (fun K' hK' => ?_)
            go_simp
            go_at_call 10
            with_reducible refine (HV.out _ hB).mono ?_
            rintro e w1 ⟨rfl, hb1⟩
            try go_simp
            refine hK' _ _ (keepAp (i := 1) hF (hB.trans (hb1.mono hB.size)) (hK.below hb1 hK.lt) (v := .bool true) rfl ?_)
            first | rfl | simp [frAp, h0]
          | 2, ho =>
            obtain rfl : _ = o := Option.some.inj ho
            have h1 : fv 1 = .bool true := hF 1 (by decide) (hp ⟨1, .data⟩ (by simp) rfl)
            refine wpOp_step rfl (fun K' hK' => ?_)
            go_simp
            refine hK' _ _ (keepAp (i := 2) hF hB hK (v := .bool false) rfl ?_)
            first | rfl | simp [frAp, h1]
          | 3, ho =>
            obtain rfl : _ = o := Option.some.inj ho
            have h2 : fv 2 = .bool false := hF 2 (by decide) (hp ⟨2, .data⟩ (by simp) rfl)
            refine wpOp_step rfl (fun K' hK' => ?_)
            go_simp
            refine hK' _ _ (keepAp (i := 3) hF hB hK (v := .bool false) rfl ?_)
            first | rfl | simp [frAp, h2]
          | 4, ho =>
            obtain rfl : _ = o := Option.some.inj ho
            have h3 : fv 3 = .bool false := hF 3 (by decide) (hp ⟨3, .guard⟩ (by simp) rfl)
            refine wpOp_step rfl (fun K' hK' => ?_)
            go_simp
            refine hK' _ _ (keepAp (i := 4) hF hB hK (v := .int .i64 N) rfl ?_)
            first | rfl | simp [frAp, h3]
          | 5, ho =>
            obtain rfl : _ = o := Option.some.inj ho
            have h4 : fv 4 = .int .i64 N := hF 4 (by decide) (hp ⟨4, .data⟩ (by simp) rfl)
            have h3 : fv 3 = .bool false := hF 3 (by decide) (hp ⟨3, .guard⟩ (by simp) rfl)
            refine wpOp_step rfl (fun K' hK' => ?_)
            go_simp
            refine hK' _ _ (keepAp (i := 5) hF hB hK (v := .bool false) rfl ?_)
            first | rfl | simp [frAp, h4, h3]
          | 6, ho =>
            obtain rfl : _ = o := Option.some.inj ho
            have h3 : fv 3 = .bool false := hF 3 (by decide) (hp ⟨3, .data⟩ (by simp) rfl)
            have h5 : fv 5 = .bool false := hF 5 (by decide) (hp ⟨5, .data⟩ (by simp) rfl)
            refine wpOp_step rfl (fun K' hK' => ?_)
            go_simp
            refine hK' _ _ (keepAp (i := 6) hF hB hK (v := .bool false) rfl ?_)
            first | rfl | simp [frAp, h3, h5]
          | 7, ho =>
            obtain rfl : _ = o := Option.some.inj ho
            have h6 : fv 6 = .bool false := hF 6 (by decide) (hp ⟨6, .data⟩ (by simp) rfl)
            refine wpOp_step rfl (fun K' hK' => ?_)
            go_simp
            refine hK' _ _ (keepAp (i := 7) hF hB hK (v := .bool false) rfl ?_)
            first | rfl | simp [frAp, h6]
          | 8, ho =>
            obtain rfl : _ = o := Option.some.inj ho
            have h7 : fv 7 = .bool false := hF 7 (by decide) (hp ⟨7, .guard⟩ (by simp) rfl)
            refine wpOp_step rfl (fun K' hK' => ?_)
            go_simp
            refine hK' _ _ (keepAp (i := 8) hF hB hK (v := .string t) rfl ?_)
            first | rfl | simp [frAp, h7]
          | 9, ho =>
            obtain rfl : _ = o := Option.some.inj ho
            have h7 : fv 7 = .bool false := hF 7 (by decide) (hp ⟨7, .guard⟩ (by simp) rfl)
            refine wpOp_step rfl (fun K' hK' => ?_)
            go_simp
            refine hK' _ _ (keepAp (i := 9) hF hB hK (v := .int .i64 N) rfl ?_)
            first | rfl | simp [frAp, h7]
          | 10, ho =>
            obtain rfl : _ = o := Option.some.inj ho
            have h8 : fv 8 = .string t := hF 8 (by decide) (hp ⟨8, .data⟩ (by simp) rfl)
            have h9 : fv 9 = .int .i64 N := hF 9 (by decide) (hp ⟨9, .data⟩ (by simp) rfl)
            have h7 : fv 7 = .bool false := hF 7 (by decide) (hp ⟨7, .guard⟩ (by simp) rfl)
            refine wpOp_step rfl (fun K' hK' => ?_)
            go_simp
            refine hK' _ _ (keepAp (i := 10) hF hB hK (v := .string (t.extract d t.size)) rfl ?_)
            first | rfl | simp [frAp, h8, h9, h7]
          | 11, ho =>
            obtain rfl : _ = o := Option.some.inj ho
            have h7 : fv 7 = .bool false := hF 7 (by decide) (hp ⟨7, .guard⟩ (by simp) rfl)
            refine wpOp_step rfl (fun K' hK' => ?_)
            go_simp
            refine hK' _ _ (keepAp (i := 11) hF hB hK (v := .pointer (some ⟨w.heap.size, 10, none⟩)) rfl ?_)
            first | rfl | simp [frAp, h7]
          | 12, ho =>
            obtain rfl : _ = o := Option.some.inj ho
            have h11 : fv 11 = .pointer (some ⟨w.heap.size, 10, none⟩) := hF 11 (by decide) (hp ⟨11, .data⟩ (by simp) rfl)
            have h7 : fv 7 = .bool false := hF 7 (by decide) (hp ⟨7, .guard⟩ (by simp) rfl)
            have b10 : W.cell? ⟨w.heap.size, 10, none⟩ = some (.string r.commit) := hK.cell 10
            refine wpOp_step rfl (fun K' hK' => ?_)
            go_simp
            refine hK' _ _ (keepAp (i := 12) hF hB hK (v := .string r.commit) rfl ?_)
            first | rfl | simp [frAp, h11, h7]
          | 13, ho =>
            obtain rfl : _ = o := Option.some.inj ho
            have h10 : fv 10 = .string (t.extract d t.size) := hF 10 (by decide) (hp ⟨10, .data⟩ (by simp) rfl)
            have h12 : fv 12 = .string r.commit := hF 12 (by decide) (hp ⟨12, .data⟩ (by simp) rfl)
            have h7 : fv 7 = .bool false := hF 7 (by decide) (hp ⟨7, .guard⟩ (by simp) rfl)
            refine wpOp_step rfl (fun K' hK' => ?_)
            go_simp
            refine hK' _ _ (keepAp (i := 13) hF hB hK (v := .bool (!b)) rfl ?_)
            first | rfl | simp [frAp, h10, h12, h7, hb]
          | 14, ho =>
            obtain rfl : _ = o := Option.some.inj ho
            have h7 : fv 7 = .bool false := hF 7 (by decide) (hp ⟨7, .data⟩ (by simp) rfl)
            have h13 : fv 13 = .bool (!b) := hF 13 (by decide) (hp ⟨13, .data⟩ (by simp) rfl)
            refine wpOp_step rfl (fun K' hK' => ?_)
            go_simp
            refine hK' _ _ (keepAp (i := 14) hF hB hK (v := .bool (!b)) rfl ?_)
            first | rfl | simp [frAp, h7, h13, hb]
          | n + 15, ho => exact absurd (Array.getElem?_eq_some_iff.1 ho).1 (by show ¬ n + 15 < 15; omega)
    · have HA : Hid (applyS t q = (⟨#[]⟩, false)) := Lib.hid (by rw [HA.out, ho, decide_eq_false hle]; rfl)
      rw [ho] at HV
      clear ho
      go_upto_region 2 with fail
      clear k0 k1 k2 k3 k4 k5 k6 k7 k8 k9 k10
      generalize hN : (t.size : Int) - (r.commit.size : Int) = N
      have hneg : N < 0 := by omega
      have hdec : decide (N < 0) = true := decide_eq_true hneg
      refine wp_region_any (by kernel_rfl) ?_
      change wpAny _ _ _ _ _ _ _ (World.drew _)
      refine Reg.wpAny_inv ?hf (IAp w t r N (PD r N)) ?hs ?hd _ _ _ _ rfl (Nat.le_of_eq (by kernel_rfl)) ?hI
      case hI => exact ⟨fun _ => undef, rfl, B0.out.drew, K0.out.drew, fun j hj hl => by simp [Array.getD] at hl⟩
      case hf => exact Reg.back_of (by kernel_rfl)
      case hd =>
        intro listed a W hz hall hI
        obtain ⟨fv, rfl, hB, hK, hF⟩ := hI
        have h14 : fv 14 = .bool true := hF 14 (by decide) (by have h := hall 14 (by decide); have hz' : listed.size = 15 := hz; simpa [Array.getD, hz'] using h)
        clear hall hF
        unfold frAp
        rw [h14]
        go_wp2_with fail
        go_ret2
        exact ⟨by rw [HA.out]; try rfl, hB⟩
      case hs =>
        intro i o listed a W ho hz' hl hp hI
        obtain ⟨fv, rfl, hB, hK, hF⟩ := hI
        unfold frAp
        match i, ho with
        | 0, ho =>
          obtain rfl : _ = o := Option.some.inj ho
          have b0 : W.cell? ⟨w.heap.size, 0, none⟩ = some (.slice r.Ai r.ni r.ci) := hK.cell 0
          have b1 : W.cell? ⟨w.heap.size, 1, none⟩ = some (.int .i64 r.caret) := hK.cell 1
          have b2 : W.cell? ⟨w.heap.size, 2, none⟩ = some (.string r.pend) := hK.cell 2
          have b3 : W.cell? ⟨w.heap.size, 3, none⟩ = some (.int .i64 r.mode) := hK.cell 3
          have b4 : W.cell? ⟨w.heap.size, 4, none⟩ = some (.bool r.conv) := hK.cell 4
          have b5 : W.cell? ⟨w.heap.size, 5, none⟩ = some (.slice r.Ab r.nb r.cb) := hK.cell 5
          have b6 : W.cell? ⟨w.heap.size, 6, none⟩ = some (.slice r.Af r.nf r.cf) := hK.cell 6
          have b7 : W.cell? ⟨w.heap.size, 7, none⟩ = some (.slice r.At r.nt r.ct) := hK.cell 7
          have b8 : W.cell? ⟨w.heap.size, 8, none⟩ = some (.int .i64 r.focus) := hK.cell 8
          have b9 : W.cell? ⟨w.heap.size, 9, none⟩ = some (.string r.prev) := hK.cell 9
          have b10 : W.cell? ⟨w.heap.size, 10, none⟩ = some (.string r.commit) := hK.cell 10
          refine wpOp_step rfl (fun K' hK' => ?_)
          go_simp
          refine hK' _ _ (keepAp (i := 0) hF hB hK (v := .agg #[.slice r.Ai r.ni r.ci, .int .i64 r.caret, .string r.pend, .int .i64 r.mode, .bool r.conv, .slice r.Ab r.nb r.cb, .slice r.Af r.nf r.cf, .slice r.At r.nt r.ct, .int .i64 r.focus, .string r.prev, .string r.commit]) rfl ?_)
          first | rfl | simp [frAp, Act.put]
        | 1, ho =>
          obtain rfl : _ = o := Option.some.inj ho
          have h0 : fv 0 = .agg #[.slice r.Ai r.ni r.ci, .int .i64 r.caret, .string r.pend, .int .i64 r.mode, .bool r.conv, .slice r.Ab r.nb r.cb, .slice r.Af r.nf r.cf, .slice r.At r.nt r.ct, .int .i64 r.focus, .string r.prev, .string r.commit] := hF 0 (by decide) (hp ⟨0, .data⟩ (by simp) rfl)
          refine wpOp_step rfl (fun K' hK' => ?_)
          go_simp
          go_at_call 10
          with_reducible refine (HV.out _ hB).mono ?_
          rintro e w1 ⟨rfl, hb1⟩
          try go_simp
          refine hK' _ _ (keepAp (i := 1) hF (hB.trans (hb1.mono hB.size)) (hK.below hb1 hK.lt) (v := .bool true) rfl ?_)
          first | rfl | simp [frAp, h0]
        | 2, ho =>
          obtain rfl : _ = o := Option.some.inj ho
          have h1 : fv 1 = .bool true := hF 1 (by decide) (hp ⟨1, .data⟩ (by simp) rfl)
          refine wpOp_step rfl (fun K' hK' => ?_)
          go_simp
          refine hK' _ _ (keepAp (i := 2) hF hB hK (v := .bool false) rfl ?_)
          first | rfl | simp [frAp, h1]
        | 3, ho =>
          obtain rfl : _ = o := Option.some.inj ho
          have h2 : fv 2 = .bool false := hF 2 (by decide) (hp ⟨2, .data⟩ (by simp) rfl)
          refine wpOp_step rfl (fun K' hK' => ?_)
          go_simp
          refine hK' _ _ (keepAp (i := 3) hF hB hK (v := .bool false) rfl ?_)
          first | rfl | simp [frAp, h2]
        | 4, ho =>
          obtain rfl : _ = o := Option.some.inj ho
          have h3 : fv 3 = .bool false := hF 3 (by decide) (hp ⟨3, .guard⟩ (by simp) rfl)
          refine wpOp_step rfl (fun K' hK' => ?_)
          go_simp
          refine hK' _ _ (keepAp (i := 4) hF hB hK (v := .int .i64 N) rfl ?_)
          first | rfl | simp [frAp, h3]
        | 5, ho =>
          obtain rfl : _ = o := Option.some.inj ho
          have h4 : fv 4 = .int .i64 N := hF 4 (by decide) (hp ⟨4, .data⟩ (by simp) rfl)
          have h3 : fv 3 = .bool false := hF 3 (by decide) (hp ⟨3, .guard⟩ (by simp) rfl)
          refine wpOp_step rfl (fun K' hK' => ?_)
          go_simp
          refine hK' _ _ (keepAp (i := 5) hF hB hK (v := .bool true) rfl ?_)
          first | rfl | simp [frAp, h4, h3]
        | 6, ho =>
          obtain rfl : _ = o := Option.some.inj ho
          have h3 : fv 3 = .bool false := hF 3 (by decide) (hp ⟨3, .data⟩ (by simp) rfl)
          have h5 : fv 5 = .bool true := hF 5 (by decide) (hp ⟨5, .data⟩ (by simp) rfl)
          refine wpOp_step rfl (fun K' hK' => ?_)
          go_simp
          refine hK' _ _ (keepAp (i := 6) hF hB hK (v := .bool true) rfl ?_)
          first | rfl | simp [frAp, h3, h5]
        | 7, ho =>
          obtain rfl : _ = o := Option.some.inj ho
          have h6 : fv 6 = .bool true := hF 6 (by decide) (hp ⟨6, .data⟩ (by simp) rfl)
          refine wpOp_step rfl (fun K' hK' => ?_)
          go_simp
          refine hK' _ _ (keepAp (i := 7) hF hB hK (v := .bool true) rfl ?_)
          first | rfl | simp [frAp, h6]
        | 8, ho =>
          obtain rfl : _ = o := Option.some.inj ho
          have h7 : fv 7 = .bool true := hF 7 (by decide) (hp ⟨7, .guard⟩ (by simp) rfl)
          refine wpOp_step rfl (fun K' hK' => ?_)
          go_simp
          refine hK' _ _ (keepAp (i := 8) hF hB hK (v := undef) rfl ?_)
          first | rfl | simp [frAp, h7]
        | 9, ho =>
          obtain rfl : _ = o := Option.some.inj ho
          have h7 : fv 7 = .bool true := hF 7 (by decide) (hp ⟨7, .guard⟩ (by simp) rfl)
          refine wpOp_step rfl (fun K' hK' => ?_)
          go_simp
          refine hK' _ _ (keepAp (i := 9) hF hB hK (v := undef) rfl ?_)
          first | rfl | simp [frAp, h7]
        | 10, ho =>
          obtain rfl : _ = o := Option.some.inj ho
          have h8 : fv 8 = undef := hF 8 (by decide) (hp ⟨8, .data⟩ (by simp) rfl)
          have h9 : fv 9 = undef := hF 9 (by decide) (hp ⟨9, .data⟩ (by simp) rfl)
          have h7 : fv 7 = .bool true := hF 7 (by decide) (hp ⟨7, .guard⟩ (by simp) rfl)
          refine wpOp_step rfl (fun K' hK' => ?_)
          go_simp
          refine hK' _ _ (keepAp (i := 10) hF hB hK (v := undef) rfl ?_)
          first | rfl | simp [frAp, h8, h9, h7]
        | 11, ho =>
          obtain rfl : _ = o := Option.some.inj ho
          have h7 : fv 7 = .bool true := hF 7 (by decide) (hp ⟨7, .guard⟩ (by simp) rfl)
          refine wpOp_step rfl (fun K' hK' => ?_)
          go_simp
          refine hK' _ _ (keepAp (i := 11) hF hB hK (v := undef) rfl ?_)
          first | rfl | simp [frAp, h7]
        | 12, ho =>
          obtain rfl : _ = o := Option.some.inj ho
          have h11 : fv 11 = undef := hF 11 (by decide) (hp ⟨11, .data⟩ (by simp) rfl)
          have h7 : fv 7 = .bool true := hF 7 (by decide) (hp ⟨7, .guard⟩ (by simp) rfl)
          have b10 : W.cell? ⟨w.heap.size, 10, none⟩ = some (.string r.commit) := hK.cell 10
          refine wpOp_step rfl (fun K' hK' => ?_)
          go_simp
          refine hK' _ _ (keepAp (i := 12) hF hB hK (v := undef) rfl ?_)
          first | rfl | simp [frAp, h11, h7]
        | 13, ho =>
          obtain rfl : _ = o := Option.some.inj ho
          have h10 : fv 10 = undef := hF 10 (by decide) (hp ⟨10, .data⟩ (by simp) rfl)
          have h12 : fv 12 = undef := hF 12 (by decide) (hp ⟨12, .data⟩ (by simp) rfl)
          have h7 : fv 7 = .bool true := hF 7 (by decide) (hp ⟨7, .guard⟩ (by simp) rfl)
          refine wpOp_step rfl (fun K' hK' => ?_)
          go_simp
          refine hK' _ _ (keepAp (i := 13) hF hB hK (v := undef) rfl ?_)
          first | rfl | simp [frAp, h10, h12, h7]
        | 14, ho =>
          obtain rfl : _ = o := Option.some.inj ho
          have h7 : fv 7 = .bool true := hF 7 (by decide) (hp ⟨7, .data⟩ (by simp) rfl)
          have h13 : fv 13 = undef := hF 13 (by decide) (hp ⟨13, .data⟩ (by simp) rfl)
          refine wpOp_step rfl (fun K' hK' => ?_)
          go_simp
          refine hK' _ _ (keepAp (i := 14) hF hB hK (v := .bool true) rfl ?_)
          first | rfl | simp [frAp, h7, h13]
        | n + 15, ho => exact absurd (Array.getElem?_eq_some_iff.1 ho).1 (by show ¬ n + 15 < 15; omega)
end Go.Proofs.YtebjfigjfhghcaaDoor.Und
