/-
  The contract of Given of package henkanlaw40: a copy of a step; its region by an invariant. Conditions: the step can be read, its lengths are bounded. (Printed by gen/undgiv40.py.)
-/
import Derived.Test.YtebjfigjfhghcaaDoorUndFr
import Derived.Test.YtebjfigjfhghcaaDoorRegInv
namespace Go.Proofs.YtebjfigjfhghcaaDoor.Und
open Go.RowKit Wd Utf

/-- what a slot of Given's region holds -/
def PJ (H : Nat) (r : Sp) (q : Stp) (w : World) (j : Nat) (v : Value) : Prop :=
  match j with
  | 0 => v = .pointer (some ⟨H, 0, none⟩)
  | 1 => v = .agg #[.slice r.Ai r.ni r.ci, .int .i64 r.caret, .string r.pend]
  | 2 => ∃ A c, v = .agg #[.slice A r.ni c, .int .i64 r.caret, .string r.pend] ∧ Fo w (H + 2) 81 2 A r.ni c (ic q.items)
  | 3 => v = .pointer (some ⟨H, 3, none⟩)
  | 4 => v = .int .i64 r.mode
  | 5 => v = .pointer (some ⟨H, 4, none⟩)
  | 6 => v = .bool r.conv
  | 7 => ∃ g, v = .slice (some ⟨g, 0, none⟩) 0 0
  | 8 => v = .pointer (some ⟨H, 5, none⟩)
  | 9 => v = .pointer (some ⟨H, 5, none⟩)
  | 10 => v = .slice r.Ab r.nb r.cb
  | 11 => ∃ A c, v = .slice A r.nb c ∧ Fo w (H + 2) 3 1 A r.nb c (is .i64 q.bounds)
  | 12 => ∃ g, v = .slice (some ⟨g, 0, none⟩) 0 0
  | 13 => v = .pointer (some ⟨H, 5, none⟩)
  | 14 => v = .pointer (some ⟨H, 6, none⟩)
  | 15 => v = .slice r.Af r.nf r.cf
  | 16 => ∃ A c, v = .slice A r.nf c ∧ Fo w (H + 2) 4 1 A r.nf c (os q.fixed)
  | 17 => ∃ A2 c2 A3 c3, v = .agg #[.slice A2 r.nb c2, .slice A3 r.nf c3] ∧ Fo w (H + 2) 3 1 A2 r.nb c2 (is .i64 q.bounds) ∧ Fo w (H + 2) 4 1 A3 r.nf c3 (os q.fixed)
  | 18 => ∃ g, v = .slice (some ⟨g, 0, none⟩) 0 0
  | 19 => v = .pointer (some ⟨H, 7, none⟩)
  | 20 => v = .slice r.At r.nt r.ct
  | 21 => ∃ A c, v = .slice A r.nt c ∧ r.nt ≤ c ∧ Fo w (H + 2) 9 1 A r.nt c (vs q.texts)
  | 22 => v = .pointer (some ⟨H, 8, none⟩)
  | 23 => v = .int .i64 r.focus
  | 24 => v = .pointer (some ⟨H, 9, none⟩)
  | 25 => v = .string r.prev
  | 26 => v = .pointer (some ⟨H, 10, none⟩)
  | 27 => v = .string r.commit
  | 28 => ∃ A1 c1 A2 c2 A3 c3 A4 c4, v = .agg #[.slice A1 r.ni c1, .int .i64 r.caret, .string r.pend, .int .i64 r.mode, .bool r.conv, .slice A2 r.nb c2, .slice A3 r.nf c3, .slice A4 r.nt c4, .int .i64 r.focus, .string r.prev, .string r.commit] ∧ Fo w (H + 2) 81 2 A1 r.ni c1 (ic q.items) ∧ Fo w (H + 2) 3 1 A2 r.nb c2 (is .i64 q.bounds) ∧ Fo w (H + 2) 4 1 A3 r.nf c3 (os q.fixed) ∧ Fo w (H + 2) 9 1 A4 r.nt c4 (vs q.texts) ∧ r.nt ≤ c4
  | _ => True
theorem PJ.mono {H : Nat} {r : Sp} {q : Stp} {w w' : World} {v : Value} (hb : Below w.heap.size w w') : ∀ (j : Nat), j < 29 → PJ H r q w j v → PJ H r q w' j v
  | 0, _, h => h
  | 1, _, h => h
  | 2, _, h => by obtain ⟨A, c, e, h⟩ := h; exact ⟨A, c, e, h.keep hb⟩
  | 3, _, h => h
  | 4, _, h => h
  | 5, _, h => h
  | 6, _, h => h
  | 7, _, h => h
  | 8, _, h => h
  | 9, _, h => h
  | 10, _, h => h
  | 11, _, h => by obtain ⟨A, c, e, h⟩ := h; exact ⟨A, c, e, h.keep hb⟩
  | 12, _, h => h
  | 13, _, h => h
  | 14, _, h => h
  | 15, _, h => h
  | 16, _, h => by obtain ⟨A, c, e, h⟩ := h; exact ⟨A, c, e, h.keep hb⟩
  | 17, _, h => by obtain ⟨A2, c2, A3, c3, e, h1, h2⟩ := h; exact ⟨A2, c2, A3, c3, e, h1.keep hb, h2.keep hb⟩
  | 18, _, h => h
  | 19, _, h => h
  | 20, _, h => h
  | 21, _, h => by obtain ⟨A, c, e, h0, h⟩ := h; exact ⟨A, c, e, h0, h.keep hb⟩
  | 22, _, h => h
  | 23, _, h => h
  | 24, _, h => h
  | 25, _, h => h
  | 26, _, h => h
  | 27, _, h => h
  | 28, _, h => by obtain ⟨A1, c1, A2, c2, A3, c3, A4, c4, e, h1, h2, h3, h4, h5⟩ := h; exact ⟨A1, c1, A2, c2, A3, c3, A4, c4, e, h1.keep hb, h2.keep hb, h3.keep hb, h4.keep hb, h5⟩
  | j + 29, hj, _ => absurd hj (by omega)
/-- the memory of Given's region -/
structure GE (w0 : World) (r : Sp) (w : World) : Prop where
  bel : Below w0.heap.size w0 w
  blk : Blk w w0.heap.size 31 #[.slice r.Ai r.ni r.ci, .int .i64 r.caret, .string r.pend, .int .i64 r.mode, .bool r.conv, .slice r.Ab r.nb r.cb, .slice r.Af r.nf r.cf, .slice r.At r.nt r.ct, .int .i64 r.focus, .string r.prev, .string r.commit]
  zer : Blk w (w0.heap.size + 1) 39 #[.slice none 0 0, .int .i64 0, .string ⟨#[]⟩, .int .i64 0, .bool false, .slice none 0 0, .slice none 0 0, .slice none 0 0, .int .i64 0, .string ⟨#[]⟩, .string ⟨#[]⟩]
theorem GE.keep {w0 w w' : World} {r : Sp} (h : GE w0 r w) (hb : Below w.heap.size w w') : GE w0 r w' := ⟨h.bel.trans (hb.mono h.bel.size), h.blk.below hb h.blk.lt, h.zer.below hb h.zer.lt⟩
/-- the frame of Given's region -/
def frG (w0 : World) (r : Sp) (fv : Nat → Value) : Act := (⟨#[.agg #[.slice r.Ai r.ni r.ci, .int .i64 r.caret, .string r.pend, .int .i64 r.mode, .bool r.conv, .slice r.Ab r.nb r.cb, .slice r.Af r.nf r.cf, .slice r.At r.nt r.ct, .int .i64 r.focus, .string r.prev, .string r.commit], .pointer (some ⟨w0.heap.size, 0, none⟩), .pointer (some ⟨w0.heap.size + 1, 0, none⟩), fv 0, fv 1, fv 2, fv 3, fv 4, fv 5, fv 6, fv 7, fv 8, fv 9, fv 10, fv 11, fv 12, fv 13, fv 14, fv 15, fv 16, fv 17, fv 18, fv 19, fv 20, fv 21, fv 22, fv 23, fv 24, fv 25, fv 26, fv 27, fv 28], []⟩ : Act)
/-- the invariant of Given's region -/
def IG (w0 : World) (r : Sp) (q : Stp) (listed : Array Bool) (a : Act) (w : World) : Prop :=
  ∃ fv, a = frG w0 r fv ∧ (listed.getD 29 false = false → GE w0 r w ∧ ∀ j, j < 29 → listed.getD j false = true → PJ w0.heap.size r q w j (fv j)) ∧
    (listed.getD 29 false = true → (∀ j, j < 29 → listed.getD j false = true) ∧ ∃ A1 c1 A2 c2 A3 c3 A4 c4, Blk w (w0.heap.size + 1) 39 #[.slice A1 r.ni c1, .int .i64 r.caret, .string r.pend, .int .i64 r.mode, .bool r.conv, .slice A2 r.nb c2, .slice A3 r.nf c3, .slice A4 r.nt c4, .int .i64 r.focus, .string r.prev, .string r.commit] ∧ Below w0.heap.size w0 w ∧ Fo w (w0.heap.size + 2) 81 2 A1 r.ni c1 (ic q.items) ∧ Fo w (w0.heap.size + 2) 3 1 A2 r.nb c2 (is .i64 q.bounds) ∧ Fo w (w0.heap.size + 2) 4 1 A3 r.nf c3 (os q.fixed) ∧ Fo w (w0.heap.size + 2) 9 1 A4 r.nt c4 (vs q.texts) ∧ r.nt ≤ c4)
theorem keepI {w0 w w' : World} {r : Sp} {q : Stp} {listed : Array Bool} {fv : Nat → Value} {i : Nat} {v : Value} {a' : Act} (hi : i < 29) (h29 : listed.getD 29 false = false) (hF : ∀ j, j < 29 → listed.getD j false = true → PJ w0.heap.size r q w j (fv j)) (hb : Below w.heap.size w w') (hG : GE w0 r w') (hv : PJ w0.heap.size r q w' i v) (ha : a' = frG w0 r (fun k => if k = i then v else fv k)) :
    IG w0 r q (listed.setIfInBounds i true) a' w' := by
  refine ⟨_, ha, fun _ => ⟨hG, fun j hj hl => ?_⟩, fun h => ?_⟩
  · by_cases hji : j = i
    · subst hji
      simpa using hv
    · simp only [hji, if_false]
      exact (hF j hj (Reg.getD_set_ne hji hl)).mono hb j hj
  · have := Reg.getD_set_ne (by omega) h
    rw [h29] at this
    cases this
set_option maxRecDepth 100000 in
set_option maxHeartbeats 16000000 in
theorem given40_any (r : Sp) (q : Stp) (w0 : World) (hq : SpIn w0 r q) :
    Calls Tryd.prog 11 #[.agg r.cells] w0 fun e w' => ∃ r' : Sp, e = .returned (.agg r'.cells) ∧ SpFr 81 w0.heap.size w' r' q ∧ Below w0.heap.size w0 w' := by
  obtain ⟨iI, hi1, hiI0, hiI1, hiI2⟩ := info_parts info_cloneI
  obtain ⟨iO, hi2, hiO0, hiO1, hiO2⟩ := info_parts info_cloneO
  obtain ⟨iS, hi3, hiS0, hiS1, hiS2⟩ := info_parts info_cloneS
  have HiI := Lib.hid hi1
  have HiO := Lib.hid hi2
  have HiS := Lib.hid hi3
  clear hi1 hi2 hi3
  have G0 : GE w0 r ((w0.alloc (.cells #[.slice r.Ai r.ni r.ci, .int .i64 r.caret, .string r.pend, .int .i64 r.mode, .bool r.conv, .slice r.Ab r.nb r.cb, .slice r.Af r.nf r.cf, .slice r.At r.nt r.ct, .int .i64 r.focus, .string r.prev, .string r.commit] 31)).alloc (.cells #[.slice none 0 0, .int .i64 0, .string ⟨#[]⟩, .int .i64 0, .bool false, .slice none 0 0, .slice none 0 0, .slice none 0 0, .int .i64 0, .string ⟨#[]⟩, .string ⟨#[]⟩] 39)) := by
    refine ⟨((Below.refl _ _).alloc (Nat.le_refl _) _).alloc (by simp) _, (Blk.new w0 _ _).alloc _, ?_⟩
    have h := Blk.new (w0.alloc (.cells #[.slice r.Ai r.ni r.ci, .int .i64 r.caret, .string r.pend, .int .i64 r.mode, .bool r.conv, .slice r.Ab r.nb r.cb, .slice r.Af r.nf r.cf, .slice r.At r.nt r.ct, .int .i64 r.focus, .string r.prev, .string r.commit] 31)) 39 #[.slice none 0 0, .int .i64 0, .string ⟨#[]⟩, .int .i64 0, .bool false, .slice none 0 0, .slice none 0 0, .slice none 0 0, .int .i64 0, .string ⟨#[]⟩, .string ⟨#[]⟩]
    rwa [show (w0.alloc (.cells #[.slice r.Ai r.ni r.ci, .int .i64 r.caret, .string r.pend, .int .i64 r.mode, .bool r.conv, .slice r.Ab r.nb r.cb, .slice r.Af r.nf r.cf, .slice r.At r.nt r.ct, .int .i64 r.focus, .string r.prev, .string r.commit] 31)).heap.size = w0.heap.size + 1 from by simp] at h
  have G1 := Lib.hid (G0.keep (Below.refl _ _).drew)
  clear G0
  unfold Sp.cells
  go_enter Tryd.func11, Tryd.ntmps11
  go_upto_region 1 with fail
  generalize ((w0.alloc (.cells #[.slice r.Ai r.ni r.ci, .int .i64 r.caret, .string r.pend, .int .i64 r.mode, .bool r.conv, .slice r.Ab r.nb r.cb, .slice r.Af r.nf r.cf, .slice r.At r.nt r.ct, .int .i64 r.focus, .string r.prev, .string r.commit] 31)).alloc (.cells #[.slice none 0 0, .int .i64 0, .string ⟨#[]⟩, .int .i64 0, .bool false, .slice none 0 0, .slice none 0 0, .slice none 0 0, .int .i64 0, .string ⟨#[]⟩, .string ⟨#[]⟩] 39)) = W0 at G1 ⊢
  refine wp_region_any (by kernel_rfl) ?_
  change wpAny _ _ _ _ _ _ _ (World.drew _)
  refine Reg.wpAny_inv ?hf (IG w0 r q) ?hs ?hd _ _ _ _ rfl (Nat.le_of_eq (by kernel_rfl)) ?hI
  case hI => exact ⟨fun _ => undef, rfl, fun _ => ⟨G1.out, fun j hj hl => by simp [Array.getD] at hl⟩, fun h => by simp [Array.getD] at h⟩
  case hf => exact Reg.back_of (by kernel_rfl)
  case hd =>
    intro listed a w hz hall hI
    obtain ⟨fv, rfl, _, hI2⟩ := hI
    obtain ⟨_, A1, c1, A2, c2, A3, c3, A4, c4, hk, hb, f1, f2, f3, f4, hc4⟩ := hI2 (by have h := hall 29 (by decide); have hz' : listed.size = 30 := hz; simpa [Array.getD, hz'] using h)
    unfold frG
    have y0 : w.cell? ⟨w0.heap.size + 1, 0, none⟩ = some (.slice A1 r.ni c1) := hk.cell 0
    have y1 : w.cell? ⟨w0.heap.size + 1, 1, none⟩ = some (.int .i64 r.caret) := hk.cell 1
    have y2 : w.cell? ⟨w0.heap.size + 1, 2, none⟩ = some (.string r.pend) := hk.cell 2
    have y3 : w.cell? ⟨w0.heap.size + 1, 3, none⟩ = some (.int .i64 r.mode) := hk.cell 3
    have y4 : w.cell? ⟨w0.heap.size + 1, 4, none⟩ = some (.bool r.conv) := hk.cell 4
    have y5 : w.cell? ⟨w0.heap.size + 1, 5, none⟩ = some (.slice A2 r.nb c2) := hk.cell 5
    have y6 : w.cell? ⟨w0.heap.size + 1, 6, none⟩ = some (.slice A3 r.nf c3) := hk.cell 6
    have y7 : w.cell? ⟨w0.heap.size + 1, 7, none⟩ = some (.slice A4 r.nt c4) := hk.cell 7
    have y8 : w.cell? ⟨w0.heap.size + 1, 8, none⟩ = some (.int .i64 r.focus) := hk.cell 8
    have y9 : w.cell? ⟨w0.heap.size + 1, 9, none⟩ = some (.string r.prev) := hk.cell 9
    have y10 : w.cell? ⟨w0.heap.size + 1, 10, none⟩ = some (.string r.commit) := hk.cell 10
    clear hall
    go_wp2_with fail
    refine bodyPost_ret (by simp [results, Tryd.results11, go_sem, y0, y1, y2, y3, y4, y5, y6, y7, y8, y9, y10]; rfl) rfl ?_
    exact ⟨⟨A1, r.ni, c1, r.caret, r.pend, r.mode, r.conv, A2, r.nb, c2, A3, r.nf, c3, A4, r.nt, c4, r.focus, r.prev, r.commit⟩, rfl, ⟨f1.lower (by omega), f2.lower (by omega), f3.lower (by omega), f4.lower (by omega), ⟨f1.reads hq.items.1, f2.reads hq.bounds.1, f3.reads hq.fixed.1, f4.reads hq.texts.1, hq.caret, hq.pend, hq.mode, hq.conv, hq.focus, hq.prev, hq.commit, hq.ni, hq.nb, hq.nf, hq.nt, hc4, hq.szi, hq.szt, hq.szp, hq.szv, hq.szm⟩⟩, hb⟩
  case hs =>
    intro i o listed a w ho hz' hl hp hI
    have hz : listed.size = 30 := hz'
    obtain ⟨fv, rfl, hI1, hI2⟩ := hI
    have h29 : listed.getD 29 false = false := by
      rcases hb : listed.getD 29 false with _ | _
      · rfl
      · have hi : i < 30 := (Array.getElem?_eq_some_iff.1 ho).1
        rcases Nat.lt_or_ge i 29 with h | h
        · have h1 := (hI2 hb).1 i h
          simp only [Array.getD, show i < listed.size by omega, dif_pos] at h1 hl
          rw [h1] at hl
          cases hl
        · obtain rfl : i = 29 := by omega
          simp only [Array.getD, show 29 < listed.size by omega, dif_pos] at hb hl
          rw [hb] at hl
          cases hl
    obtain ⟨hG, hF⟩ := hI1 h29
    clear hI1 hI2
    unfold frG
    match i, ho with
    | 0, ho =>
      obtain rfl : _ = o := Option.some.inj ho
      refine wpOp_step rfl (fun K' hK => ?_)
      go_simp
      refine hK _ _ (keepI (i := 0) (by decide) h29 hF (Below.refl _ _) hG (v := .pointer (some ⟨w0.heap.size, 0, none⟩)) ?_ rfl)
      exact rfl
    | 1, ho =>
      obtain rfl : _ = o := Option.some.inj ho
      have h0 : fv 0 = .pointer (some ⟨w0.heap.size, 0, none⟩) := hF 0 (by decide) (hp ⟨0, .data⟩ (by simp) rfl)
      have b0 : w.cell? ⟨w0.heap.size, 0, none⟩ = some (.slice r.Ai r.ni r.ci) := hG.blk.cell 0
      have b1 : w.cell? ⟨w0.heap.size, 1, none⟩ = some (.int .i64 r.caret) := hG.blk.cell 1
      have b2 : w.cell? ⟨w0.heap.size, 2, none⟩ = some (.string r.pend) := hG.blk.cell 2
      refine wpOp_step rfl (fun K' hK => ?_)
      go_simp
      refine hK _ _ (keepI (i := 1) (by decide) h29 hF (Below.refl _ _) hG (v := .agg #[.slice r.Ai r.ni r.ci, .int .i64 r.caret, .string r.pend]) ?_ (by simp [frG, h0]))
      exact rfl
    | 2, ho =>
      obtain rfl : _ = o := Option.some.inj ho
      have h1 : fv 1 = .agg #[.slice r.Ai r.ni r.ci, .int .i64 r.caret, .string r.pend] := hF 1 (by decide) (hp ⟨1, .data⟩ (by simp) rfl)
      refine wpOp_step rfl (fun K' hK => ?_)
      go_simp
      go_at_call 28
      with_reducible refine (given8_any r.Ai r.ni r.ci r.caret r.pend q.items w (hq.keep hG.bel).items hq.ni).mono ?_
      rintro e w1 ⟨v1, rfl, hown1, hb⟩
      obtain ⟨A1, c1, rfl, hc1⟩ := own_form hown1
      try go_simp
      refine hK _ _ (keepI (i := 2) (by decide) h29 hF hb (hG.keep hb) (v := .agg #[.slice A1 r.ni c1, .int .i64 r.caret, .string r.pend]) ?_ (by simp [frG, h1]))
      exact ⟨A1, c1, rfl, .inr (own_mono hown1 hG.zer.lt)⟩
    | 3, ho =>
      obtain rfl : _ = o := Option.some.inj ho
      refine wpOp_step rfl (fun K' hK => ?_)
      go_simp
      refine hK _ _ (keepI (i := 3) (by decide) h29 hF (Below.refl _ _) hG (v := .pointer (some ⟨w0.heap.size, 3, none⟩)) ?_ rfl)
      exact rfl
    | 4, ho =>
      obtain rfl : _ = o := Option.some.inj ho
      have h3 : fv 3 = .pointer (some ⟨w0.heap.size, 3, none⟩) := hF 3 (by decide) (hp ⟨3, .data⟩ (by simp) rfl)
      have b3 : w.cell? ⟨w0.heap.size, 3, none⟩ = some (.int .i64 r.mode) := hG.blk.cell 3
      refine wpOp_step rfl (fun K' hK => ?_)
      go_simp
      refine hK _ _ (keepI (i := 4) (by decide) h29 hF (Below.refl _ _) hG (v := .int .i64 r.mode) ?_ (by simp [frG, h3]))
      exact rfl
    | 5, ho =>
      obtain rfl : _ = o := Option.some.inj ho
      refine wpOp_step rfl (fun K' hK => ?_)
      go_simp
      refine hK _ _ (keepI (i := 5) (by decide) h29 hF (Below.refl _ _) hG (v := .pointer (some ⟨w0.heap.size, 4, none⟩)) ?_ rfl)
      exact rfl
    | 6, ho =>
      obtain rfl : _ = o := Option.some.inj ho
      have h5 : fv 5 = .pointer (some ⟨w0.heap.size, 4, none⟩) := hF 5 (by decide) (hp ⟨5, .data⟩ (by simp) rfl)
      have b4 : w.cell? ⟨w0.heap.size, 4, none⟩ = some (.bool r.conv) := hG.blk.cell 4
      refine wpOp_step rfl (fun K' hK => ?_)
      go_simp
      refine hK _ _ (keepI (i := 6) (by decide) h29 hF (Below.refl _ _) hG (v := .bool r.conv) ?_ (by simp [frG, h5]))
      exact rfl
    | 7, ho =>
      obtain rfl : _ = o := Option.some.inj ho
      refine wpOp_step rfl (fun K' hK => ?_)
      go_simp
      refine hK _ _ (keepI (i := 7) (by decide) h29 hF ((Below.refl _ _).alloc (Nat.le_refl _) _) (hG.keep ((Below.refl _ _).alloc (Nat.le_refl _) _)) (v := .slice (some ⟨w.heap.size, 0, none⟩) 0 0) ?_ rfl)
      exact ⟨_, rfl⟩
    | 8, ho =>
      obtain rfl : _ = o := Option.some.inj ho
      refine wpOp_step rfl (fun K' hK => ?_)
      go_simp
      refine hK _ _ (keepI (i := 8) (by decide) h29 hF (Below.refl _ _) hG (v := .pointer (some ⟨w0.heap.size, 5, none⟩)) ?_ rfl)
      exact rfl
    | 9, ho =>
      obtain rfl : _ = o := Option.some.inj ho
      have h8 : fv 8 = .pointer (some ⟨w0.heap.size, 5, none⟩) := hF 8 (by decide) (hp ⟨8, .data⟩ (by simp) rfl)
      refine wpOp_step rfl (fun K' hK => ?_)
      go_simp
      refine hK _ _ (keepI (i := 9) (by decide) h29 hF (Below.refl _ _) hG (v := .pointer (some ⟨w0.heap.size, 5, none⟩)) ?_ (by simp [frG, h8]))
      exact rfl
    | 10, ho =>
      obtain rfl : _ = o := Option.some.inj ho
      have h9 : fv 9 = .pointer (some ⟨w0.heap.size, 5, none⟩) := hF 9 (by decide) (hp ⟨9, .data⟩ (by simp) rfl)
      have b5 : w.cell? ⟨w0.heap.size, 5, none⟩ = some (.slice r.Ab r.nb r.cb) := hG.blk.cell 5
      refine wpOp_step rfl (fun K' hK => ?_)
      go_simp
      refine hK _ _ (keepI (i := 10) (by decide) h29 hF (Below.refl _ _) hG (v := .slice r.Ab r.nb r.cb) ?_ (by simp [frG, h9]))
      exact rfl
    | 11, ho =>
      obtain rfl : _ = o := Option.some.inj ho
      obtain ⟨g7, h7⟩ : ∃ g, fv 7 = .slice (some ⟨g, 0, none⟩) 0 0 := hF 7 (by decide) (hp ⟨7, .data⟩ (by simp) rfl)
      have h10 : fv 10 = .slice r.Ab r.nb r.cb := hF 10 (by decide) (hp ⟨10, .data⟩ (by simp) rfl)
      refine wpOp_step rfl (fun K' hK => ?_)
      refine step_append_empty _ rfl (.tmp 10) (.tmp 13) _ rfl 3 iI _ 1 8 Tryd.underlying25 HiI.out hiI0 hiI1 hiI2 rfl (by decide) _ h7 _ r.Ab r.nb r.cb (is .i64 q.bounds) h10 (Reads.below hq.bounds hG.bel) (is_one _ _) (by have := hq.nb; unfold maxLen; omega) (by have := hq.nb; omega) ?_
      intro A' c' w1 hc' hf hb
      refine hK _ _ (keepI (i := 11) (by decide) h29 hF hb (hG.keep hb) (v := .slice A' r.nb c') ?_ rfl)
      exact ⟨A', c', rfl, hf.lower hG.zer.lt⟩
    | 12, ho =>
      obtain rfl : _ = o := Option.some.inj ho
      refine wpOp_step rfl (fun K' hK => ?_)
      go_simp
      refine hK _ _ (keepI (i := 12) (by decide) h29 hF ((Below.refl _ _).alloc (Nat.le_refl _) _) (hG.keep ((Below.refl _ _).alloc (Nat.le_refl _) _)) (v := .slice (some ⟨w.heap.size, 0, none⟩) 0 0) ?_ rfl)
      exact ⟨_, rfl⟩
    | 13, ho =>
      obtain rfl : _ = o := Option.some.inj ho
      refine wpOp_step rfl (fun K' hK => ?_)
      go_simp
      refine hK _ _ (keepI (i := 13) (by decide) h29 hF (Below.refl _ _) hG (v := .pointer (some ⟨w0.heap.size, 5, none⟩)) ?_ rfl)
      exact rfl
    | 14, ho =>
      obtain rfl : _ = o := Option.some.inj ho
      have h13 : fv 13 = .pointer (some ⟨w0.heap.size, 5, none⟩) := hF 13 (by decide) (hp ⟨13, .data⟩ (by simp) rfl)
      refine wpOp_step rfl (fun K' hK => ?_)
      go_simp
      refine hK _ _ (keepI (i := 14) (by decide) h29 hF (Below.refl _ _) hG (v := .pointer (some ⟨w0.heap.size, 6, none⟩)) ?_ (by simp [frG, h13]))
      exact rfl
    | 15, ho =>
      obtain rfl : _ = o := Option.some.inj ho
      have h14 : fv 14 = .pointer (some ⟨w0.heap.size, 6, none⟩) := hF 14 (by decide) (hp ⟨14, .data⟩ (by simp) rfl)
      have b6 : w.cell? ⟨w0.heap.size, 6, none⟩ = some (.slice r.Af r.nf r.cf) := hG.blk.cell 6
      refine wpOp_step rfl (fun K' hK => ?_)
      go_simp
      refine hK _ _ (keepI (i := 15) (by decide) h29 hF (Below.refl _ _) hG (v := .slice r.Af r.nf r.cf) ?_ (by simp [frG, h14]))
      exact rfl
    | 16, ho =>
      obtain rfl : _ = o := Option.some.inj ho
      obtain ⟨g12, h12⟩ : ∃ g, fv 12 = .slice (some ⟨g, 0, none⟩) 0 0 := hF 12 (by decide) (hp ⟨12, .data⟩ (by simp) rfl)
      have h15 : fv 15 = .slice r.Af r.nf r.cf := hF 15 (by decide) (hp ⟨15, .data⟩ (by simp) rfl)
      refine wpOp_step rfl (fun K' hK => ?_)
      refine step_append_empty _ rfl (.tmp 15) (.tmp 18) _ rfl 4 iO _ 1 1 Tryd.underlying26 HiO.out hiO0 hiO1 hiO2 rfl (by decide) _ h12 _ r.Af r.nf r.cf (os q.fixed) h15 (Reads.below hq.fixed hG.bel) (os_one _) (by have := hq.nf; unfold maxLen; omega) (by have := hq.nf; omega) ?_
      intro A' c' w1 hc' hf hb
      refine hK _ _ (keepI (i := 16) (by decide) h29 hF hb (hG.keep hb) (v := .slice A' r.nf c') ?_ rfl)
      exact ⟨A', c', rfl, hf.lower hG.zer.lt⟩
    | 17, ho =>
      obtain rfl : _ = o := Option.some.inj ho
      obtain ⟨A2, c2, h11, f11⟩ := show ∃ A c, fv 11 = .slice A r.nb c ∧ Fo w (w0.heap.size + 2) 3 1 A r.nb c (is .i64 q.bounds) from hF 11 (by decide) (hp ⟨11, .data⟩ (by simp) rfl)
      obtain ⟨A3, c3, h16, f16⟩ := show ∃ A c, fv 16 = .slice A r.nf c ∧ Fo w (w0.heap.size + 2) 4 1 A r.nf c (os q.fixed) from hF 16 (by decide) (hp ⟨16, .data⟩ (by simp) rfl)
      refine wpOp_step rfl (fun K' hK => ?_)
      go_simp
      refine hK _ _ (keepI (i := 17) (by decide) h29 hF (Below.refl _ _) hG (v := .agg #[.slice A2 r.nb c2, .slice A3 r.nf c3]) ?_ (by simp [frG, h11, h16]))
      exact ⟨A2, c2, A3, c3, rfl, f11, f16⟩
    | 18, ho =>
      obtain rfl : _ = o := Option.some.inj ho
      refine wpOp_step rfl (fun K' hK => ?_)
      go_simp
      refine hK _ _ (keepI (i := 18) (by decide) h29 hF ((Below.refl _ _).alloc (Nat.le_refl _) _) (hG.keep ((Below.refl _ _).alloc (Nat.le_refl _) _)) (v := .slice (some ⟨w.heap.size, 0, none⟩) 0 0) ?_ rfl)
      exact ⟨_, rfl⟩
    | 19, ho =>
      obtain rfl : _ = o := Option.some.inj ho
      refine wpOp_step rfl (fun K' hK => ?_)
      go_simp
      refine hK _ _ (keepI (i := 19) (by decide) h29 hF (Below.refl _ _) hG (v := .pointer (some ⟨w0.heap.size, 7, none⟩)) ?_ rfl)
      exact rfl
    | 20, ho =>
      obtain rfl : _ = o := Option.some.inj ho
      have h19 : fv 19 = .pointer (some ⟨w0.heap.size, 7, none⟩) := hF 19 (by decide) (hp ⟨19, .data⟩ (by simp) rfl)
      have b7 : w.cell? ⟨w0.heap.size, 7, none⟩ = some (.slice r.At r.nt r.ct) := hG.blk.cell 7
      refine wpOp_step rfl (fun K' hK => ?_)
      go_simp
      refine hK _ _ (keepI (i := 20) (by decide) h29 hF (Below.refl _ _) hG (v := .slice r.At r.nt r.ct) ?_ (by simp [frG, h19]))
      exact rfl
    | 21, ho =>
      obtain rfl : _ = o := Option.some.inj ho
      obtain ⟨g18, h18⟩ : ∃ g, fv 18 = .slice (some ⟨g, 0, none⟩) 0 0 := hF 18 (by decide) (hp ⟨18, .data⟩ (by simp) rfl)
      have h20 : fv 20 = .slice r.At r.nt r.ct := hF 20 (by decide) (hp ⟨20, .data⟩ (by simp) rfl)
      refine wpOp_step rfl (fun K' hK => ?_)
      refine step_append_empty _ rfl (.tmp 21) (.tmp 23) _ rfl 9 iS _ 1 16 Tryd.underlying29 HiS.out hiS0 hiS1 hiS2 rfl (by decide) _ h18 _ r.At r.nt r.ct (vs q.texts) h20 (Reads.below hq.texts hG.bel) (vs_one _) (by have := hq.nt; unfold maxLen; omega) (by have := hq.nt; omega) ?_
      intro A' c' w1 hc' hf hb
      refine hK _ _ (keepI (i := 21) (by decide) h29 hF hb (hG.keep hb) (v := .slice A' r.nt c') ?_ rfl)
      exact ⟨A', c', rfl, hc', hf.lower hG.zer.lt⟩
    | 22, ho =>
      obtain rfl : _ = o := Option.some.inj ho
      refine wpOp_step rfl (fun K' hK => ?_)
      go_simp
      refine hK _ _ (keepI (i := 22) (by decide) h29 hF (Below.refl _ _) hG (v := .pointer (some ⟨w0.heap.size, 8, none⟩)) ?_ rfl)
      exact rfl
    | 23, ho =>
      obtain rfl : _ = o := Option.some.inj ho
      have h22 : fv 22 = .pointer (some ⟨w0.heap.size, 8, none⟩) := hF 22 (by decide) (hp ⟨22, .data⟩ (by simp) rfl)
      have b8 : w.cell? ⟨w0.heap.size, 8, none⟩ = some (.int .i64 r.focus) := hG.blk.cell 8
      refine wpOp_step rfl (fun K' hK => ?_)
      go_simp
      refine hK _ _ (keepI (i := 23) (by decide) h29 hF (Below.refl _ _) hG (v := .int .i64 r.focus) ?_ (by simp [frG, h22]))
      exact rfl
    | 24, ho =>
      obtain rfl : _ = o := Option.some.inj ho
      refine wpOp_step rfl (fun K' hK => ?_)
      go_simp
      refine hK _ _ (keepI (i := 24) (by decide) h29 hF (Below.refl _ _) hG (v := .pointer (some ⟨w0.heap.size, 9, none⟩)) ?_ rfl)
      exact rfl
    | 25, ho =>
      obtain rfl : _ = o := Option.some.inj ho
      have h24 : fv 24 = .pointer (some ⟨w0.heap.size, 9, none⟩) := hF 24 (by decide) (hp ⟨24, .data⟩ (by simp) rfl)
      have b9 : w.cell? ⟨w0.heap.size, 9, none⟩ = some (.string r.prev) := hG.blk.cell 9
      refine wpOp_step rfl (fun K' hK => ?_)
      go_simp
      refine hK _ _ (keepI (i := 25) (by decide) h29 hF (Below.refl _ _) hG (v := .string r.prev) ?_ (by simp [frG, h24]))
      exact rfl
    | 26, ho =>
      obtain rfl : _ = o := Option.some.inj ho
      refine wpOp_step rfl (fun K' hK => ?_)
      go_simp
      refine hK _ _ (keepI (i := 26) (by decide) h29 hF (Below.refl _ _) hG (v := .pointer (some ⟨w0.heap.size, 10, none⟩)) ?_ rfl)
      exact rfl
    | 27, ho =>
      obtain rfl : _ = o := Option.some.inj ho
      have h26 : fv 26 = .pointer (some ⟨w0.heap.size, 10, none⟩) := hF 26 (by decide) (hp ⟨26, .data⟩ (by simp) rfl)
      have b10 : w.cell? ⟨w0.heap.size, 10, none⟩ = some (.string r.commit) := hG.blk.cell 10
      refine wpOp_step rfl (fun K' hK => ?_)
      go_simp
      refine hK _ _ (keepI (i := 27) (by decide) h29 hF (Below.refl _ _) hG (v := .string r.commit) ?_ (by simp [frG, h26]))
      exact rfl
    | 28, ho =>
      obtain rfl : _ = o := Option.some.inj ho
      obtain ⟨A1, c1, h2, f2⟩ := show ∃ A c, fv 2 = .agg #[.slice A r.ni c, .int .i64 r.caret, .string r.pend] ∧ Fo w (w0.heap.size + 2) 81 2 A r.ni c (ic q.items) from hF 2 (by decide) (hp ⟨2, .data⟩ (by simp) rfl)
      have h4 : fv 4 = .int .i64 r.mode := hF 4 (by decide) (hp ⟨4, .data⟩ (by simp) rfl)
      have h6 : fv 6 = .bool r.conv := hF 6 (by decide) (hp ⟨6, .data⟩ (by simp) rfl)
      obtain ⟨A2, c2, A3, c3, h17, f11, f16⟩ := show ∃ A2 c2 A3 c3, fv 17 = .agg #[.slice A2 r.nb c2, .slice A3 r.nf c3] ∧ Fo w (w0.heap.size + 2) 3 1 A2 r.nb c2 (is .i64 q.bounds) ∧ Fo w (w0.heap.size + 2) 4 1 A3 r.nf c3 (os q.fixed) from hF 17 (by decide) (hp ⟨17, .data⟩ (by simp) rfl)
      obtain ⟨A4, c4, h21, hc4, f21⟩ := show ∃ A c, fv 21 = .slice A r.nt c ∧ r.nt ≤ c ∧ Fo w (w0.heap.size + 2) 9 1 A r.nt c (vs q.texts) from hF 21 (by decide) (hp ⟨21, .data⟩ (by simp) rfl)
      have h23 : fv 23 = .int .i64 r.focus := hF 23 (by decide) (hp ⟨23, .data⟩ (by simp) rfl)
      have h25 : fv 25 = .string r.prev := hF 25 (by decide) (hp ⟨25, .data⟩ (by simp) rfl)
      have h27 : fv 27 = .string r.commit := hF 27 (by decide) (hp ⟨27, .data⟩ (by simp) rfl)
      refine wpOp_step rfl (fun K' hK => ?_)
      go_simp
      refine hK _ _ (keepI (i := 28) (by decide) h29 hF (Below.refl _ _) hG (v := .agg #[.slice A1 r.ni c1, .int .i64 r.caret, .string r.pend, .int .i64 r.mode, .bool r.conv, .slice A2 r.nb c2, .slice A3 r.nf c3, .slice A4 r.nt c4, .int .i64 r.focus, .string r.prev, .string r.commit]) ?_ (by simp [frG, h2, h4, h6, h17, h21, h23, h25, h27]))
      exact ⟨A1, c1, A2, c2, A3, c3, A4, c4, rfl, f2, f11, f16, f21, hc4⟩
    | 29, ho =>
      obtain rfl : _ = o := Option.some.inj ho
      have hpre : ∀ j, j < 29 → listed.getD j false = true := by
        intro j hj
        match j, hj with
        | 0, _ => first | exact hp ⟨0, .phase⟩ (by simp) rfl | exact hp ⟨0, .data⟩ (by simp) rfl | exact hp ⟨0, .chain⟩ (by simp) rfl
        | 1, _ => first | exact hp ⟨1, .phase⟩ (by simp) rfl | exact hp ⟨1, .data⟩ (by simp) rfl | exact hp ⟨1, .chain⟩ (by simp) rfl
        | 2, _ => first | exact hp ⟨2, .phase⟩ (by simp) rfl | exact hp ⟨2, .data⟩ (by simp) rfl | exact hp ⟨2, .chain⟩ (by simp) rfl
        | 3, _ => first | exact hp ⟨3, .phase⟩ (by simp) rfl | exact hp ⟨3, .data⟩ (by simp) rfl | exact hp ⟨3, .chain⟩ (by simp) rfl
        | 4, _ => first | exact hp ⟨4, .phase⟩ (by simp) rfl | exact hp ⟨4, .data⟩ (by simp) rfl | exact hp ⟨4, .chain⟩ (by simp) rfl
        | 5, _ => first | exact hp ⟨5, .phase⟩ (by simp) rfl | exact hp ⟨5, .data⟩ (by simp) rfl | exact hp ⟨5, .chain⟩ (by simp) rfl
        | 6, _ => first | exact hp ⟨6, .phase⟩ (by simp) rfl | exact hp ⟨6, .data⟩ (by simp) rfl | exact hp ⟨6, .chain⟩ (by simp) rfl
        | 7, _ => first | exact hp ⟨7, .phase⟩ (by simp) rfl | exact hp ⟨7, .data⟩ (by simp) rfl | exact hp ⟨7, .chain⟩ (by simp) rfl
        | 8, _ => first | exact hp ⟨8, .phase⟩ (by simp) rfl | exact hp ⟨8, .data⟩ (by simp) rfl | exact hp ⟨8, .chain⟩ (by simp) rfl
        | 9, _ => first | exact hp ⟨9, .phase⟩ (by simp) rfl | exact hp ⟨9, .data⟩ (by simp) rfl | exact hp ⟨9, .chain⟩ (by simp) rfl
        | 10, _ => first | exact hp ⟨10, .phase⟩ (by simp) rfl | exact hp ⟨10, .data⟩ (by simp) rfl | exact hp ⟨10, .chain⟩ (by simp) rfl
        | 11, _ => first | exact hp ⟨11, .phase⟩ (by simp) rfl | exact hp ⟨11, .data⟩ (by simp) rfl | exact hp ⟨11, .chain⟩ (by simp) rfl
        | 12, _ => first | exact hp ⟨12, .phase⟩ (by simp) rfl | exact hp ⟨12, .data⟩ (by simp) rfl | exact hp ⟨12, .chain⟩ (by simp) rfl
        | 13, _ => first | exact hp ⟨13, .phase⟩ (by simp) rfl | exact hp ⟨13, .data⟩ (by simp) rfl | exact hp ⟨13, .chain⟩ (by simp) rfl
        | 14, _ => first | exact hp ⟨14, .phase⟩ (by simp) rfl | exact hp ⟨14, .data⟩ (by simp) rfl | exact hp ⟨14, .chain⟩ (by simp) rfl
        | 15, _ => first | exact hp ⟨15, .phase⟩ (by simp) rfl | exact hp ⟨15, .data⟩ (by simp) rfl | exact hp ⟨15, .chain⟩ (by simp) rfl
        | 16, _ => first | exact hp ⟨16, .phase⟩ (by simp) rfl | exact hp ⟨16, .data⟩ (by simp) rfl | exact hp ⟨16, .chain⟩ (by simp) rfl
        | 17, _ => first | exact hp ⟨17, .phase⟩ (by simp) rfl | exact hp ⟨17, .data⟩ (by simp) rfl | exact hp ⟨17, .chain⟩ (by simp) rfl
        | 18, _ => first | exact hp ⟨18, .phase⟩ (by simp) rfl | exact hp ⟨18, .data⟩ (by simp) rfl | exact hp ⟨18, .chain⟩ (by simp) rfl
        | 19, _ => first | exact hp ⟨19, .phase⟩ (by simp) rfl | exact hp ⟨19, .data⟩ (by simp) rfl | exact hp ⟨19, .chain⟩ (by simp) rfl
        | 20, _ => first | exact hp ⟨20, .phase⟩ (by simp) rfl | exact hp ⟨20, .data⟩ (by simp) rfl | exact hp ⟨20, .chain⟩ (by simp) rfl
        | 21, _ => first | exact hp ⟨21, .phase⟩ (by simp) rfl | exact hp ⟨21, .data⟩ (by simp) rfl | exact hp ⟨21, .chain⟩ (by simp) rfl
        | 22, _ => first | exact hp ⟨22, .phase⟩ (by simp) rfl | exact hp ⟨22, .data⟩ (by simp) rfl | exact hp ⟨22, .chain⟩ (by simp) rfl
        | 23, _ => first | exact hp ⟨23, .phase⟩ (by simp) rfl | exact hp ⟨23, .data⟩ (by simp) rfl | exact hp ⟨23, .chain⟩ (by simp) rfl
        | 24, _ => first | exact hp ⟨24, .phase⟩ (by simp) rfl | exact hp ⟨24, .data⟩ (by simp) rfl | exact hp ⟨24, .chain⟩ (by simp) rfl
        | 25, _ => first | exact hp ⟨25, .phase⟩ (by simp) rfl | exact hp ⟨25, .data⟩ (by simp) rfl | exact hp ⟨25, .chain⟩ (by simp) rfl
        | 26, _ => first | exact hp ⟨26, .phase⟩ (by simp) rfl | exact hp ⟨26, .data⟩ (by simp) rfl | exact hp ⟨26, .chain⟩ (by simp) rfl
        | 27, _ => first | exact hp ⟨27, .phase⟩ (by simp) rfl | exact hp ⟨27, .data⟩ (by simp) rfl | exact hp ⟨27, .chain⟩ (by simp) rfl
        | 28, _ => first | exact hp ⟨28, .phase⟩ (by simp) rfl | exact hp ⟨28, .data⟩ (by simp) rfl | exact hp ⟨28, .chain⟩ (by simp) rfl
        | n + 29, h => exact absurd h (by omega)
      have hall' : ∀ j, j < 29 → (listed.setIfInBounds 29 true).getD j false = true := fun j hj => Reg.getD_set_up (by omega) (hpre j hj)
      obtain ⟨A1, c1, A2, c2, A3, c3, A4, c4, h28, f1, f2, f3, f4, hc4⟩ := show ∃ A1 c1 A2 c2 A3 c3 A4 c4, fv 28 = .agg #[.slice A1 r.ni c1, .int .i64 r.caret, .string r.pend, .int .i64 r.mode, .bool r.conv, .slice A2 r.nb c2, .slice A3 r.nf c3, .slice A4 r.nt c4, .int .i64 r.focus, .string r.prev, .string r.commit] ∧ Fo w (w0.heap.size + 2) 81 2 A1 r.ni c1 (ic q.items) ∧ Fo w (w0.heap.size + 2) 3 1 A2 r.nb c2 (is .i64 q.bounds) ∧ Fo w (w0.heap.size + 2) 4 1 A3 r.nf c3 (os q.fixed) ∧ Fo w (w0.heap.size + 2) 9 1 A4 r.nt c4 (vs q.texts) ∧ r.nt ≤ c4 from hF 28 (by decide) (hp ⟨28, .data⟩ (by simp) rfl)
      have z0 : w.cell? ⟨w0.heap.size + 1, 0, none⟩ = some (.slice none 0 0) := hG.zer.cell 0
      have g0 : w.frozen? ⟨w0.heap.size + 1, 0, none⟩ = false := hG.zer.frozen 0
      have z1 : w.cell? ⟨w0.heap.size + 1, 1, none⟩ = some (.int .i64 0) := hG.zer.cell 1
      have g1 : w.frozen? ⟨w0.heap.size + 1, 1, none⟩ = false := hG.zer.frozen 1
      have z2 : w.cell? ⟨w0.heap.size + 1, 2, none⟩ = some (.string ⟨#[]⟩) := hG.zer.cell 2
      have g2 : w.frozen? ⟨w0.heap.size + 1, 2, none⟩ = false := hG.zer.frozen 2
      have z3 : w.cell? ⟨w0.heap.size + 1, 3, none⟩ = some (.int .i64 0) := hG.zer.cell 3
      have g3 : w.frozen? ⟨w0.heap.size + 1, 3, none⟩ = false := hG.zer.frozen 3
      have z4 : w.cell? ⟨w0.heap.size + 1, 4, none⟩ = some (.bool false) := hG.zer.cell 4
      have g4 : w.frozen? ⟨w0.heap.size + 1, 4, none⟩ = false := hG.zer.frozen 4
      have z5 : w.cell? ⟨w0.heap.size + 1, 5, none⟩ = some (.slice none 0 0) := hG.zer.cell 5
      have g5 : w.frozen? ⟨w0.heap.size + 1, 5, none⟩ = false := hG.zer.frozen 5
      have z6 : w.cell? ⟨w0.heap.size + 1, 6, none⟩ = some (.slice none 0 0) := hG.zer.cell 6
      have g6 : w.frozen? ⟨w0.heap.size + 1, 6, none⟩ = false := hG.zer.frozen 6
      have z7 : w.cell? ⟨w0.heap.size + 1, 7, none⟩ = some (.slice none 0 0) := hG.zer.cell 7
      have g7 : w.frozen? ⟨w0.heap.size + 1, 7, none⟩ = false := hG.zer.frozen 7
      have z8 : w.cell? ⟨w0.heap.size + 1, 8, none⟩ = some (.int .i64 0) := hG.zer.cell 8
      have g8 : w.frozen? ⟨w0.heap.size + 1, 8, none⟩ = false := hG.zer.frozen 8
      have z9 : w.cell? ⟨w0.heap.size + 1, 9, none⟩ = some (.string ⟨#[]⟩) := hG.zer.cell 9
      have g9 : w.frozen? ⟨w0.heap.size + 1, 9, none⟩ = false := hG.zer.frozen 9
      have z10 : w.cell? ⟨w0.heap.size + 1, 10, none⟩ = some (.string ⟨#[]⟩) := hG.zer.cell 10
      have g10 : w.frozen? ⟨w0.heap.size + 1, 10, none⟩ = false := hG.zer.frozen 10
      refine wpOp_step rfl (fun K' hK => ?_)
      go_simp
      refine hK _ _ ⟨fv, by simp [frG, h28], (fun h => by rw [Reg.getD_set_self (i := 29) (by rw [hz]; decide)] at h; cases h), fun _ => ⟨fun j hj => hall' j hj, ?_⟩⟩
      exact ⟨A1, c1, A2, c2, A3, c3, A4, c4, Blk.set11 hG.zer (.slice A1 r.ni c1) (.int .i64 r.caret) (.string r.pend) (.int .i64 r.mode) (.bool r.conv) (.slice A2 r.nb c2) (.slice A3 r.nf c3) (.slice A4 r.nt c4) (.int .i64 r.focus) (.string r.prev) (.string r.commit), below_set11 hG.bel (Nat.le_succ _) (.slice A1 r.ni c1) (.int .i64 r.caret) (.string r.pend) (.int .i64 r.mode) (.bool r.conv) (.slice A2 r.nb c2) (.slice A3 r.nf c3) (.slice A4 r.nt c4) (.int .i64 r.focus) (.string r.prev) (.string r.commit), f1.set11 (Nat.lt_succ_self _) (.slice A1 r.ni c1) (.int .i64 r.caret) (.string r.pend) (.int .i64 r.mode) (.bool r.conv) (.slice A2 r.nb c2) (.slice A3 r.nf c3) (.slice A4 r.nt c4) (.int .i64 r.focus) (.string r.prev) (.string r.commit), f2.set11 (Nat.lt_succ_self _) (.slice A1 r.ni c1) (.int .i64 r.caret) (.string r.pend) (.int .i64 r.mode) (.bool r.conv) (.slice A2 r.nb c2) (.slice A3 r.nf c3) (.slice A4 r.nt c4) (.int .i64 r.focus) (.string r.prev) (.string r.commit), f3.set11 (Nat.lt_succ_self _) (.slice A1 r.ni c1) (.int .i64 r.caret) (.string r.pend) (.int .i64 r.mode) (.bool r.conv) (.slice A2 r.nb c2) (.slice A3 r.nf c3) (.slice A4 r.nt c4) (.int .i64 r.focus) (.string r.prev) (.string r.commit), f4.set11 (Nat.lt_succ_self _) (.slice A1 r.ni c1) (.int .i64 r.caret) (.string r.pend) (.int .i64 r.mode) (.bool r.conv) (.slice A2 r.nb c2) (.slice A3 r.nf c3) (.slice A4 r.nt c4) (.int .i64 r.focus) (.string r.prev) (.string r.commit), hc4⟩
    | n + 30, ho => exact absurd (Array.getElem?_eq_some_iff.1 ho).1 (by show ¬ n + 30 < 30; omega)
end Go.Proofs.YtebjfigjfhghcaaDoor.Und
