/-
  The contract of the check of a request of package protocol. Conditions: the two tables of unicode/utf8 lie as their initialisers lay them; the strings' lengths are within the form's reach.
-/
import Derived.Test.YtkllfnaofapfnaaDoorProtChk
import Derived.Test.YtkllfnaofapfnaaDoorWordsI
import Derived.Deep.DeepCutAuto
import Derived.Deep.RegionHeld3
import Derived.WalkLawsBesides
import Derived.WalkSpells
import Derived.StillTailTactics
namespace Go.Proofs.YtkllfnaofapfnaaDoor.Prot
open Go.RowKit Wd Utf

/-- a request, as its cells -/
structure Req where
  kind : Int
  ses : Int
  kk : Int
  kc : Nat
  bef : ByteArray
  sel : ByteArray
  on : Bool
  sur : ByteArray
  A7 : Option Addr
  n7 : Nat
  c7 : Nat
  A8 : Option Addr
  n8 : Nat
  c8 : Nat
def Req.cells (r : Req) : Array Value := #[.int .i64 r.kind, .int .i64 r.ses, .int .i64 r.kk, .int .u8 (r.kc : Int), .string r.bef, .string r.sel, .bool r.on, .string r.sur, .slice r.A7 r.n7 r.c7, .slice r.A8 r.n8 r.c8]

/-- the memory of a check: the request, the variable, the map -/
structure Env (w0 : World) (r : Req) (n : Nat) (S : Int → Bool) (wx : World) : Prop where
  req : Blk wx w0.heap.size 27 r.cells
  var : Blk wx (w0.heap.size + 1 + 1) 95 #[.map (some (w0.heap.size + 1))]
  map : CM wx (w0.heap.size + 1) n S
  bel : Below w0.heap.size w0 wx
theorem Env.step {w0 wx wy : World} {r : Req} {n n' : Nat} {S S' : Int → Bool} (h : Env w0 r n S wx) (hm : CM wy (w0.heap.size + 1) n' S') (hu : Upd (w0.heap.size + 1) wx wy) : Env w0 r n' S' wy :=
  ⟨h.req.grown hu (by simp), h.var.grown hu (by simp), hm, h.bel.trans (hu.below (B := w0.heap.size) h.bel.size (by omega))⟩
theorem Env.drewN {w0 wx : World} {r : Req} {n : Nat} {S : Int → Bool} (h : Env w0 r n S wx) (q : Nat) : Env w0 r n S (wx.drewN q) := ⟨h.req.drewN q, h.var.drewN q, h.map, below_drewN h.bel q⟩
theorem Env.drew {w0 wx : World} {r : Req} {n : Nat} {S : Int → Bool} (h : Env w0 r n S wx) : Env w0 r n S wx.drew := ⟨h.req.drew, h.var.drew, h.map, h.bel.drew⟩

set_option maxHeartbeats 1000000 in
theorem only_any (w0 : World) (r : Req) (n : Nat) (S : Int → Bool) (k : Int) (em : Bool) (w : World) (h : Env w0 r n S w) (hn : n ≤ 1000000) :
    Calls Tryd.prog 56 #[.int .i64 k, .bool em, .pointer (some ⟨w0.heap.size + 1 + 1, 0, none⟩), .pointer (some ⟨w0.heap.size, 0, none⟩)] w fun e w' => e = .returned (.tuple #[]) ∧ Env w0 r (n + 1) (noted S 1 (em || r.kind == k)) w' := by
  have c1 : w.cell? ⟨w0.heap.size + 1 + 1, 0, none⟩ = some (.map (some (w0.heap.size + 1))) := h.var.cell 0
  have c2 : w.cell? ⟨w0.heap.size, 0, none⟩ = some (.int .i64 r.kind) := h.req.cell 0
  have HE := Lib.hid h
  clear h
  rcases em with _ | _
  · rcases hk : (r.kind == k) with _ | _
    all_goals
      go_enter Tryd.func56, Tryd.ntmps56
      go_wp2_with fail
      refine (demand_any (w0.heap.size + 1) n S 1 _ _ HE.out.map (by omega) (by decide) (by decide)).mono ?_
      rintro e w2 ⟨rfl, hb2, hu2⟩
      have E2 := Lib.hid (HE.out.step hb2 hu2)
      clear hb2 hu2
      go_wp2_with fail
      go_end0
      exact ⟨rfl, E2.out⟩
  · go_enter Tryd.func56, Tryd.ntmps56
    go_wp2_with fail
    refine (demand_any (w0.heap.size + 1) n S 1 true _ HE.out.map (by omega) (by decide) (by decide)).mono ?_
    rintro e w2 ⟨rfl, hb2, hu2⟩
    have E2 := Lib.hid (HE.out.step hb2 hu2)
    clear hb2 hu2
    go_wp2_with fail
    go_end0
    exact ⟨rfl, E2.out⟩


theorem nb_true {z lo hi : Int} (h1 : lo ≤ z) (h2 : z ≤ hi) : nb z lo hi = true := decide_eq_true ⟨h1, h2⟩
theorem nb_false {z lo hi : Int} (h : ¬ (lo ≤ z ∧ z ≤ hi)) : nb z lo hi = false := decide_eq_false h
section
variable {w0 wx : World} {r : Req} {n : Nat} {S : Int → Bool}
theorem Env.cv (h : Env w0 r n S wx) : wx.cell? ⟨w0.heap.size + 1 + 1, 0, none⟩ = some (.map (some (w0.heap.size + 1))) := h.var.cell 0
theorem Env.c0 (h : Env w0 r n S wx) : wx.cell? ⟨w0.heap.size, 0, none⟩ = some (.int .i64 r.kind) := h.req.cell 0
theorem Env.c1 (h : Env w0 r n S wx) : wx.cell? ⟨w0.heap.size, 1, none⟩ = some (.int .i64 r.ses) := h.req.cell 1
theorem Env.c2 (h : Env w0 r n S wx) : wx.cell? ⟨w0.heap.size, 2, none⟩ = some (.int .i64 r.kk) := h.req.cell 2
theorem Env.c3 (h : Env w0 r n S wx) : wx.cell? ⟨w0.heap.size, 3, none⟩ = some (.int .u8 (r.kc : Int)) := h.req.cell 3
theorem Env.c4 (h : Env w0 r n S wx) : wx.cell? ⟨w0.heap.size, 4, none⟩ = some (.string r.bef) := h.req.cell 4
theorem Env.c5 (h : Env w0 r n S wx) : wx.cell? ⟨w0.heap.size, 5, none⟩ = some (.string r.sel) := h.req.cell 5
theorem Env.c6 (h : Env w0 r n S wx) : wx.cell? ⟨w0.heap.size, 6, none⟩ = some (.bool r.on) := h.req.cell 6
theorem Env.c7 (h : Env w0 r n S wx) : wx.cell? ⟨w0.heap.size, 7, none⟩ = some (.string r.sur) := h.req.cell 7
theorem Env.c8 (h : Env w0 r n S wx) : wx.cell? ⟨w0.heap.size, 8, none⟩ = some (.slice r.A7 r.n7 r.c7) := h.req.cell 8
theorem Env.c9 (h : Env w0 r n S wx) : wx.cell? ⟨w0.heap.size, 9, none⟩ = some (.slice r.A8 r.n8 r.c8) := h.req.cell 9
end
theorem Env.start (w : World) (r : Req) : Env w r 0 (fun _ => false) (((w.alloc (.cells r.cells 27)).alloc (.map #[] 0)).alloc (.cells #[.map (some (w.heap.size + 1))] 95)) := by
  have s1 : (w.alloc (.cells r.cells 27)).heap.size = w.heap.size + 1 := by simp
  have s2 : ((w.alloc (.cells r.cells 27)).alloc (.map #[] 0)).heap.size = w.heap.size + 1 + 1 := by simp
  refine ⟨((Blk.new w _ _).alloc _).alloc _, ?_, ?_, ?_⟩
  · have h := Blk.new ((w.alloc (.cells r.cells 27)).alloc (.map #[] 0)) 95 #[.map (some (w.heap.size + 1))]
    rw [s2] at h
    exact h
  · have h := (BM.made Tryd.prog (w.alloc (.cells r.cells 27)) 28 4 ek).alloc (.cells #[.map (some (w.heap.size + 1))] 95)
    rw [s1] at h
    exact h
  · exact (((Below.refl _ _).alloc (Nat.le_refl _) _).alloc (by rw [s1]; omega) _).alloc (by rw [s2]; omega) _
theorem keyB_true {kk : Int} {kc : Nat} (h1 : kk = 0) (h2 : kc = 0) : keyB kk kc = true := decide_eq_true ⟨h1, h2⟩
theorem keyB_false {kk : Int} {kc : Nat} (h : ¬ (kk = 0 ∧ kc = 0)) : keyB kk kc = false := decide_eq_false h
theorem emB_true {s : ByteArray} (h : s = (⟨#[]⟩ : ByteArray)) : emB s = true := by
  subst h; rfl
theorem emB_false {s : ByteArray} (h : ¬ s = (⟨#[]⟩ : ByteArray)) : emB s = false := by
  refine decide_eq_false (fun hs => ?_)
  exact h (ByteArray.ext (Array.eq_empty_of_size_eq_zero hs))
theorem str_ne {x y : ByteArray} (h : ¬ x = y) : (x.toList == y.toList) = false := by
  rw [beq_eq_false_iff_ne, ByteArray.toList_eq, ByteArray.toList_eq]
  intro e
  exact h (ByteArray.ext (Array.toList_inj.mp e))
theorem Env.stepT {w0 wx wm wy : World} {r : Req} {n n' : Nat} {S S' : Int → Bool} (h : Env w0 r n S wx) (hb : Below wx.heap.size wx wm) (hm : CM wy (w0.heap.size + 1) n' S') (hu : Upd (w0.heap.size + 1) wm wy) : Env w0 r n' S' wy :=
  have h1 : Env w0 r n S wm := ⟨h.req.below hb h.req.lt, h.var.below hb h.var.lt, BM.keep h.map hb, h.bel.trans (hb.mono h.bel.size)⟩
  h1.step hm hu
theorem noted_true (S : Int → Bool) (e : Int) : noted S e true = S := by funext z; simp [noted]
theorem noted_and (S : Int → Bool) (e : Int) (a b : Bool) : noted (noted S e a) e b = noted S e (a && b) := by
  funext z
  unfold noted
  cases a <;> cases b <;> cases (decide (z = e)) <;> simp
theorem seen_snoc {seen : List Int} {n k : Nat} (hl : seen.length = n) (hk : k < n) {S : Int → Bool} : noted S 6 ((seen.take (k + 1)).all fun z => nb z 0 1099511627776) = noted (noted S 6 ((seen.take k).all fun z => nb z 0 1099511627776)) 6 (nb (seen.getD k 0) 0 1099511627776) := by
  rw [noted_and, List.take_succ_eq_append_getElem (by omega), List.all_append]
  simp [List.getD, show k < seen.length by omega]
/-- the request that some cells are -/
structure IsRq (r : Req) (sn : List Int) (q : Rq) : Prop where
  kind : q.kind = r.kind
  ses : q.ses = r.ses
  kk : q.kk = r.kk
  kc : q.kc = r.kc
  bef : q.bef = r.bef
  sel : q.sel = r.sel
  on : q.on = r.on
  sur : q.sur = r.sur
  seen : q.seen = sn
  n7 : sn.length = r.n7
  data : q.data.length = r.n8
theorem isEmpty_emB (s : ByteArray) : s.toList.isEmpty = emB s := by
  rw [ByteArray.toList_eq]
  have h := dl s
  unfold emB
  rcases hl : s.data.toList with _ | ⟨a, t⟩
  · rw [hl] at h
    rw [← h]; rfl
  · rw [hl] at h
    rw [← h]; rfl
theorem noted_same (S : Int → Bool) (e : Int) (b : Bool) : noted S e b e = (!b || S e) := by simp [noted]
theorem noted_other (S : Int → Bool) {e z : Int} (b : Bool) (h : z ≠ e) : noted S e b z = S z := by simp [noted, h]
theorem notedT_10 (S : Int → Bool) (s : ByteArray) : notedT S s 10 = (!vt s || S 10) := by
  unfold notedT
  rw [noted_other _ _ (by decide), noted_same]; rfl
theorem notedT_2 (S : Int → Bool) (s : ByteArray) : notedT S s 2 = (!decide (s.size ≤ 4096) || S 2) := by
  unfold notedT
  rw [noted_same, noted_other _ _ (by decide)]
theorem notedT_other (S : Int → Bool) (s : ByteArray) {z : Int} (h : z ≠ 10) (h' : z ≠ 2) : notedT S s z = S z := by
  unfold notedT
  rw [noted_other _ _ h', noted_other _ _ h]
theorem first_of {S : Int → Bool} {a b c d : Bool} (h1 : S 1 = !a) (h2 : S 6 = !b) (h3 : S 10 = !c) (h4 : S 2 = !d) : firstOf S = ((if !a then 1 else if !b then 6 else if !c then 10 else if !d then 2 else 0 : Nat) : Int) := by
  unfold firstOf
  rw [h1, h2, h3, h4]
  cases a <;> cases b <;> cases c <;> cases d <;> rfl
theorem chk_chain {r : Req} {seen : List Int} (q : Rq) {S1 S2 S3 S4 S5 S6 S7 S8 S9 S10 S11 S12 S13 S14 : Int → Bool} (h1 : noted (fun _ => false) 1 (nb r.kind 1 9) = S1) (h2 : noted S1 1 (r.ses == 0 || hasS r.kind) = S2) (h3 : noted S2 1 (keyB r.kk r.kc || r.kind == 3) = S3)
    (h4 : noted S3 1 ((r.bef.toList.isEmpty && r.sel.toList.isEmpty) || r.kind == 4) = S4) (h5 : noted S4 1 (!r.on || r.kind == 5) = S5) (h6 : noted S5 1 (r.sur.toList.isEmpty || r.kind == 6) = S6) (h7 : noted S6 1 ((((r.n7 : Nat) : Int) == 0) || r.kind == 7) = S7) (h8 : noted S7 1 ((((r.n8 : Nat) : Int) == 0) || r.kind == 8) = S8)
    (h9 : noted S8 6 (numB r.ses) = S9) (h10 : noted S9 6 (r.kind != 3 || nb r.kk 1 17) = S10) (h11 : noted S10 6 (seen.all fun z => nb z 0 1099511627776) = S11) (h12 : notedT S11 r.bef = S12) (h13 : notedT S12 r.sel = S13) (h14 : notedT S13 r.sur = S14) (hq : IsRq r seen q) :
    ∀ b, (b = true ↔ r.n8 ≤ 69632 ∧ (r.n7 : Int) ≤ 8) → firstOf (noted S14 2 b) = ((chkR q : Nat) : Int) := by
  intro b hb
  unfold chkR
  subst h1 h2 h3 h4 h5 h6 h7 h8 h9 h10 h11 h12 h13 h14
  obtain ⟨q1, q2, q3, q4, q5, q6, q7, q8, q9, q10, q11⟩ := hq
  refine first_of ?_ ?_ ?_ ?_
  · rw [noted_other _ _ (by decide), notedT_other _ _ (by decide) (by decide), notedT_other _ _ (by decide) (by decide), notedT_other _ _ (by decide) (by decide), noted_other _ _ (by decide), noted_other _ _ (by decide), noted_other _ _ (by decide)]
    simp only [noted_same]
    unfold argB
    rw [q1, q2, q3, q4, q5, q6, q7, q8, q9, q10, q11, isEmpty_emB, isEmpty_emB, isEmpty_emB]
    rw [show (((r.n7 : Nat) : Int) == 0) = (r.n7 == 0) by rw [Bool.eq_iff_iff, beq_iff_eq, beq_iff_eq]; omega, show (((r.n8 : Nat) : Int) == 0) = (r.n8 == 0) by rw [Bool.eq_iff_iff, beq_iff_eq, beq_iff_eq]; omega]
    simp only [Bool.not_and, Bool.false_or, Bool.or_comm, Bool.or_left_comm]
  · rw [noted_other _ _ (by decide), notedT_other _ _ (by decide) (by decide), notedT_other _ _ (by decide) (by decide), notedT_other _ _ (by decide) (by decide)]
    simp only [noted_same]
    rw [noted_other _ _ (by decide), noted_other _ _ (by decide), noted_other _ _ (by decide), noted_other _ _ (by decide), noted_other _ _ (by decide), noted_other _ _ (by decide), noted_other _ _ (by decide), noted_other _ _ (by decide)]
    unfold rngB
    rw [q1, q2, q3, q9]
    simp only [Bool.not_and, Bool.false_or, Bool.or_assoc, Bool.or_comm]
  · rw [noted_other _ _ (by decide)]
    simp only [notedT_10]
    rw [noted_other _ _ (by decide), noted_other _ _ (by decide), noted_other _ _ (by decide), noted_other _ _ (by decide), noted_other _ _ (by decide), noted_other _ _ (by decide), noted_other _ _ (by decide), noted_other _ _ (by decide), noted_other _ _ (by decide), noted_other _ _ (by decide), noted_other _ _ (by decide)]
    unfold txtB
    rw [q5, q6, q8]
    simp only [Bool.not_and, Bool.false_or, Bool.or_assoc, Bool.or_comm]
  · rw [noted_same]
    simp only [notedT_2]
    rw [noted_other _ _ (by decide), noted_other _ _ (by decide), noted_other _ _ (by decide), noted_other _ _ (by decide), noted_other _ _ (by decide), noted_other _ _ (by decide), noted_other _ _ (by decide), noted_other _ _ (by decide), noted_other _ _ (by decide), noted_other _ _ (by decide), noted_other _ _ (by decide)]
    have hb' : b = (decide (r.n8 ≤ 69632) && decide (r.n7 ≤ 8)) := by
      rw [Bool.eq_iff_iff, Bool.and_eq_true, decide_eq_true_eq, decide_eq_true_eq, hb]
      constructor
      · exact fun h => ⟨h.1, by omega⟩
      · exact fun h => ⟨h.1, by omega⟩
    unfold lngB
    rw [q5, q6, q8, q9, q10, q11, hb']
    simp only [Bool.not_and, Bool.false_or, Bool.or_assoc, Bool.or_comm, Bool.or_left_comm]
set_option maxRecDepth 100000 in
set_option maxHeartbeats 8000000 in
theorem check_any (r : Req) (q : Rq) (seen : List Int) (w : World) (hT : Tabs w) (hseen : RI .i64 w r.A7 r.n7 seen) (hn7 : r.n7 ≤ 100000) (hq : IsRq r seen q) (hb : r.bef.size ≤ 140737488355328) (hs : r.sel.size ≤ 140737488355328) (hu : r.sur.size ≤ 140737488355328) :
    Calls Tryd.prog 34 #[.agg r.cells] w fun e w' => e = .returned (.int .i64 (chkR q : Nat)) ∧ Below w.heap.size w w' := by
  have hmf : ∀ (fn : Fn) (first cap : Array Value) (w : World), (Instr.makeFunc fn first cap).run Tryd.prog w = .ok (.func fn first cap) w := fun _ _ _ _ => rfl
  have hmm := @run_makeMap Tryd.prog
  have E := Env.start w r
  have HT := Lib.hid hT
  have HSEEN := Lib.hid hseen
  have HQ := Lib.hid hq
  clear hT hseen hq
  unfold Req.cells at E ⊢
  go_enter Tryd.func34, Tryd.ntmps34
  go_upto_region 3 with fail
  clear hmf hmm
  generalize (((w.alloc (.cells #[.int .i64 r.kind, .int .i64 r.ses, .int .i64 r.kk, .int .u8 (r.kc : Int), .string r.bef, .string r.sel, .bool r.on, .string r.sur, .slice r.A7 r.n7 r.c7, .slice r.A8 r.n8 r.c8] 27)).alloc (.map #[] 0)).alloc (.cells #[.map (some (w.heap.size + 1))] 95)) = W at E ⊢
  go_cut [] (fun wx => Env w r 1 (noted (fun _ => false) 1 (nb r.kind 1 9)) wx)
  case first =>
    have cv := E.cv
    have c0 := E.c0
    by_cases h1 : 1 ≤ r.kind
    · by_cases h2 : r.kind ≤ 9
      ·
        go_wp2_with fail
        with_reducible refine (demand_any (w.heap.size + 1) 0 (fun _ => false) 1 _ _ E.map (by omega) (by decide) (by decide)).mono ?_
        rintro e w2 ⟨rfl, hb2, hu2⟩
        have E2 := E.step hb2 hu2
        clear hb2 hu2
        go_wp2_with fail
        go_meet
        case rel => rw [nb_true h1 h2]; exact E2
      ·
        go_wp2_with fail
        with_reducible refine (demand_any (w.heap.size + 1) 0 (fun _ => false) 1 _ _ E.map (by omega) (by decide) (by decide)).mono ?_
        rintro e w2 ⟨rfl, hb2, hu2⟩
        have E2 := E.step hb2 hu2
        clear hb2 hu2
        go_wp2_with fail
        go_meet
        case rel => rw [nb_false (by omega)]; exact E2
    ·
      go_wp2_with fail
      with_reducible refine (demand_any (w.heap.size + 1) 0 (fun _ => false) 1 _ _ E.map (by omega) (by decide) (by decide)).mono ?_
      rintro e w2 ⟨rfl, hb2, hu2⟩
      have E2 := E.step hb2 hu2
      clear hb2 hu2
      go_wp2_with fail
      go_meet
      case rel => rw [nb_false (by omega)]; exact E2
  replace E := hcut
  clear hcut
  generalize hS1 : (noted (fun _ => false) 1 (nb r.kind 1 9)) = S1 at E
  have HS1 := Lib.hid hS1
  clear hS1
  go_upto_region 4 with fail
  go_cut [] (fun wx => Env w r 2 (noted S1 1 (r.ses == 0 || hasS r.kind)) wx)
  case first =>
    have cv := E.cv
    have c0 := E.c0
    have c1 := E.c1
    rcases hb : (r.ses == 0) with _ | _
    ·
      go_still_tail 9, (by kernel_rfl)
      still_call ((session_has r.kind _).mono (by rintro e w' ⟨rfl, rfl⟩; exact ⟨rfl, rfl⟩))
      repeat still_step
      refine wpStill_nil ?_
      replace E := E.drew
      clear cv c0 c1
      change wpList _ _ _ _ _ wc.drew
      generalize wc.drew = wd at E ⊢
      go_wp2_with fail
      with_reducible refine (demand_any (w.heap.size + 1) 1 S1 1 _ _ E.map (by omega) (by decide) (by decide)).mono ?_
      rintro e w2 ⟨rfl, hb2, hu2⟩
      have E2 := E.step hb2 hu2
      clear hb2 hu2
      go_wp2_with fail
      go_meet
      case rel => rw [hb]; exact E2
    ·
      go_still_tail 9, (by kernel_rfl)
      replace E := E.drew
      clear cv c0 c1
      change wpList _ _ _ _ _ wc.drew
      generalize wc.drew = wd at E ⊢
      go_wp2_with fail
      with_reducible refine (demand_any (w.heap.size + 1) 1 S1 1 _ _ E.map (by omega) (by decide) (by decide)).mono ?_
      rintro e w2 ⟨rfl, hb2, hu2⟩
      have E2 := E.step hb2 hu2
      clear hb2 hu2
      go_wp2_with fail
      go_meet
      case rel => rw [hb]; exact E2
  replace E := hcut
  clear hcut
  generalize hS2 : noted S1 1 (r.ses == 0 || hasS r.kind) = S2 at E
  have HS2 := Lib.hid hS2
  clear hS2
  go_upto_region 5 with fail
  go_cut [] (fun wx => Env w r 3 (noted S2 1 (keyB r.kk r.kc || r.kind == 3)) wx)
  case first =>
    have c2 := E.c2
    have c3 := E.c3
    by_cases h1 : r.kk = 0
    · by_cases h2 : r.kc = 0
      ·
        have h1b : (r.kk == 0) = true := by rw [h1]; rfl
        have h2b : (r.kc == 0) = true := by rw [h2]; rfl
        have h2c : ((r.kc : Int) == 0) = true := by rw [h2]; rfl
        clear h1 h2
        go_wp2_with fail
        with_reducible refine (only_any w r 2 S2 3 true _ E (by omega)).mono ?_
        rintro e w2 ⟨rfl, E2⟩
        go_wp2_with fail
        go_meet
        case rel => rw [keyB_true (by simpa using h1b) (by simpa using h2b)]; exact E2
      ·
        have h1b : (r.kk == 0) = true := by rw [h1]; rfl
        have h2b : (r.kc == 0) = false := by simpa using h2
        have h2c : ((r.kc : Int) == 0) = false := by rw [beq_eq_false_iff_ne]; omega
        clear h1
        go_wp2_with fail
        with_reducible refine (only_any w r 2 S2 3 false _ E (by omega)).mono ?_
        rintro e w2 ⟨rfl, E2⟩
        go_wp2_with fail
        go_meet
        case rel => rw [keyB_false (by rw [beq_eq_false_iff_ne] at h2b; intro h; exact h2b h.2)]; exact E2
    ·
      have h1b : (r.kk == 0) = false := by simpa using h1
      go_wp2_with fail
      with_reducible refine (only_any w r 2 S2 3 false _ E (by omega)).mono ?_
      rintro e w2 ⟨rfl, E2⟩
      go_wp2_with fail
      go_meet
      case rel => rw [keyB_false (by rw [beq_eq_false_iff_ne] at h1b; intro h; exact h1b h.1)]; exact E2
  replace E := hcut
  clear hcut
  generalize hS3 : noted S2 1 (keyB r.kk r.kc || r.kind == 3) = S3 at E
  have HS3 := Lib.hid hS3
  clear hS3
  go_upto_region 6 with fail
  go_cut [] (fun wx => Env w r 4 (noted S3 1 ((r.bef.toList.isEmpty && r.sel.toList.isEmpty) || r.kind == 4)) wx)
  case first =>
    have c4 := E.c4
    have c5 := E.c5
    rcases e0 : r.bef.toList.isEmpty with _ | _
    ·
      go_wp2_with fail
      with_reducible refine (only_any w r 3 S3 4 false _ E (by omega)).mono ?_
      rintro e w2 ⟨rfl, E2⟩
      go_wp2_with fail
      go_meet
      case rel => rw [e0]; exact E2
    ·
      go_wp2_with fail
      with_reducible refine (only_any w r 3 S3 4 r.sel.toList.isEmpty _ E (by omega)).mono ?_
      rintro e w2 ⟨rfl, E2⟩
      go_wp2_with fail
      go_meet
      case rel => rw [e0, Bool.true_and]; exact E2
  replace E := hcut
  clear hcut
  generalize hS4 : noted S3 1 ((r.bef.toList.isEmpty && r.sel.toList.isEmpty) || r.kind == 4) = S4 at E
  have HS4 := Lib.hid hS4
  clear hS4
  go_upto_region 7 with fail
  go_cut [] (fun wx => Env w r 5 (noted S4 1 (!r.on || r.kind == 5)) wx)
  case first =>
    have c6 := E.c6
    go_wp2_with fail
    with_reducible refine (only_any w r 4 S4 5 (!r.on) _ E (by omega)).mono ?_
    rintro e w2 ⟨rfl, E2⟩
    go_wp2_with fail
    go_meet
    case rel => exact E2
  replace E := hcut
  clear hcut
  generalize hS5 : noted S4 1 (!r.on || r.kind == 5) = S5 at E
  have HS5 := Lib.hid hS5
  clear hS5
  go_upto_region 8 with fail
  go_cut [] (fun wx => Env w r 6 (noted S5 1 (r.sur.toList.isEmpty || r.kind == 6)) wx)
  case first =>
    have c7 := E.c7
    go_wp2_with fail
    with_reducible refine (only_any w r 5 S5 6 r.sur.toList.isEmpty _ E (by omega)).mono ?_
    rintro e w2 ⟨rfl, E2⟩
    go_wp2_with fail
    go_meet
    case rel => exact E2
  replace E := hcut
  clear hcut
  generalize hS6 : noted S5 1 (r.sur.toList.isEmpty || r.kind == 6) = S6 at E
  have HS6 := Lib.hid hS6
  clear hS6
  go_upto_region 9 with fail
  go_cut [] (fun wx => Env w r 7 (noted S6 1 ((((r.n7 : Nat) : Int) == 0) || r.kind == 7)) wx)
  case first =>
    have c8 := E.c8
    go_wp2_with fail
    with_reducible refine (only_any w r 6 S6 7 (((r.n7 : Nat) : Int) == 0) _ E (by omega)).mono ?_
    rintro e w2 ⟨rfl, E2⟩
    go_wp2_with fail
    go_meet
    case rel => exact E2
  replace E := hcut
  clear hcut
  generalize hS7 : noted S6 1 ((((r.n7 : Nat) : Int) == 0) || r.kind == 7) = S7 at E
  have HS7 := Lib.hid hS7
  clear hS7
  go_upto_region 10 with fail
  go_cut [] (fun wx => Env w r 8 (noted S7 1 ((((r.n8 : Nat) : Int) == 0) || r.kind == 8)) wx)
  case first =>
    have c9 := E.c9
    go_wp2_with fail
    with_reducible refine (only_any w r 7 S7 8 (((r.n8 : Nat) : Int) == 0) _ E (by omega)).mono ?_
    rintro e w2 ⟨rfl, E2⟩
    go_wp2_with fail
    go_meet
    case rel => exact E2
  replace E := hcut
  clear hcut
  generalize hS8 : noted S7 1 ((((r.n8 : Nat) : Int) == 0) || r.kind == 8) = S8 at E
  have HS8 := Lib.hid hS8
  clear hS8
  go_upto_region 11 with fail
  go_cut [] (fun wx => Env w r 9 (noted S8 6 (numB r.ses)) wx)
  case first =>
    have cv := E.cv
    have c1 := E.c1
    go_still_tail 4, (by kernel_rfl)
    still_call ((number_is r.ses _).mono (by rintro e w' ⟨rfl, rfl⟩; exact ⟨rfl, rfl⟩))
    repeat still_step
    refine wpStill_nil ?_
    replace E := E.drew
    clear cv c1
    change wpList _ _ _ _ _ wc.drew
    generalize wc.drew = wd at E ⊢
    go_wp2_with fail
    with_reducible refine (demand_any (w.heap.size + 1) 8 S8 6 _ _ E.map (by omega) (by decide) (by decide)).mono ?_
    rintro e w2 ⟨rfl, hb2, hu2⟩
    have E2 := E.step hb2 hu2
    clear hb2 hu2
    go_wp2_with fail
    go_meet
    case rel => exact E2
  replace E := hcut
  clear hcut
  generalize hS9 : noted S8 6 (numB r.ses) = S9 at E
  have HS9 := Lib.hid hS9
  clear hS9
  go_upto_region 12 with fail
  go_cut [] (fun wx => Env w r 10 (noted S9 6 (r.kind != 3 || nb r.kk 1 17)) wx)
  case first =>
    have cv := E.cv
    have c0 := E.c0
    have c2 := E.c2
    rcases hb : (r.kind != 3) with _ | _
    · by_cases h1 : 1 ≤ r.kk
      · by_cases h2 : r.kk ≤ 17
        ·
          go_wp2_with fail
          with_reducible refine (demand_any (w.heap.size + 1) 9 S9 6 _ _ E.map (by omega) (by decide) (by decide)).mono ?_
          rintro e w2 ⟨rfl, hb2, hu2⟩
          have E2 := E.step hb2 hu2
          clear hb2 hu2
          go_wp2_with fail
          go_meet
          case rel => rw [hb, nb_true h1 h2]; exact E2
        ·
          go_wp2_with fail
          with_reducible refine (demand_any (w.heap.size + 1) 9 S9 6 _ _ E.map (by omega) (by decide) (by decide)).mono ?_
          rintro e w2 ⟨rfl, hb2, hu2⟩
          have E2 := E.step hb2 hu2
          clear hb2 hu2
          go_wp2_with fail
          go_meet
          case rel => rw [hb, nb_false (by omega)]; exact E2
      ·
        go_wp2_with fail
        with_reducible refine (demand_any (w.heap.size + 1) 9 S9 6 _ _ E.map (by omega) (by decide) (by decide)).mono ?_
        rintro e w2 ⟨rfl, hb2, hu2⟩
        have E2 := E.step hb2 hu2
        clear hb2 hu2
        go_wp2_with fail
        go_meet
        case rel => rw [hb, nb_false (by omega)]; exact E2
    ·
      go_wp2_with fail
      with_reducible refine (demand_any (w.heap.size + 1) 9 S9 6 _ _ E.map (by omega) (by decide) (by decide)).mono ?_
      rintro e w2 ⟨rfl, hb2, hu2⟩
      have E2 := E.step hb2 hu2
      clear hb2 hu2
      go_wp2_with fail
      go_meet
      case rel => rw [hb]; exact E2
  replace E := hcut
  clear hcut
  generalize hS10 : noted S9 6 (r.kind != 3 || nb r.kk 1 17) = S10 at E
  have HS10 := Lib.hid hS10
  clear hS10
  have c8 := E.c8
  have S_0 := Lib.hid E
  clear E
  go_wp2_with fail
  go_loopw [92] (fun i wx => ∃ k : Nat, k ≤ r.n7 ∧ i = .int .i64 (k : Int) ∧ Env w r (10 + k) (noted S10 6 ((seen.take k).all fun z => nb z 0 1099511627776)) wx) (fun i _ => r.n7 - (intOf i).toNat)
  case atStart => exact ⟨0, Nat.zero_le _, rfl, by rw [List.take_zero, List.all_nil, noted_true]; exact S_0.out⟩
  case round =>
    obtain ⟨k, hk, rfl, E⟩ := hrel
    by_cases hlt : k < r.n7
    · obtain ⟨ad, hA, hbl, hc⟩ := (HSEEN.out.keep E.bel).at_ hlt
      have HN := Lib.hid (seen_snoc (HSEEN.out.len) hlt (S := S10))
      have cv := E.cv
      rw [hA]
      generalize seen.getD k 0 = z at hc HN
      by_cases h1 : 0 ≤ z
      · by_cases h2 : z ≤ 1099511627776
        ·
          go_wp2_with fail
          with_reducible refine (demand_any (w.heap.size + 1) (10 + k) _ 6 true _ E.map (by omega) (by decide) (by decide)).mono ?_
          rintro e w2 ⟨rfl, hb2, hu2⟩
          have E2 := E.step hb2 hu2
          clear hb2 hu2
          go_wp2_with fail
          go_roundw
          case rel => exact ⟨k + 1, by omega, by go_num, by rw [HN.out, nb_true h1 h2]; exact E2⟩
          case measure => simp [intOf]; omega
        ·
          go_wp2_with fail
          with_reducible refine (demand_any (w.heap.size + 1) (10 + k) _ 6 false _ E.map (by omega) (by decide) (by decide)).mono ?_
          rintro e w2 ⟨rfl, hb2, hu2⟩
          have E2 := E.step hb2 hu2
          clear hb2 hu2
          go_wp2_with fail
          go_roundw
          case rel => exact ⟨k + 1, by omega, by go_num, by rw [HN.out, nb_false (by omega)]; exact E2⟩
          case measure => simp [intOf]; omega
      ·
        go_wp2_with fail
        with_reducible refine (demand_any (w.heap.size + 1) (10 + k) _ 6 false _ E.map (by omega) (by decide) (by decide)).mono ?_
        rintro e w2 ⟨rfl, hb2, hu2⟩
        have E2 := E.step hb2 hu2
        clear hb2 hu2
        go_wp2_with fail
        go_roundw
        case rel => exact ⟨k + 1, by omega, by go_num, by rw [HN.out, nb_false (by omega)]; exact E2⟩
        case measure => simp [intOf]; omega
    · obtain rfl : k = r.n7 := by omega
      have ht : seen.take r.n7 = seen := List.take_of_length_le (by rw [HSEEN.out.len]; omega)
      rw [ht] at E
      generalize hS11 : noted S10 6 (seen.all fun z => nb z 0 1099511627776) = S11 at E
      have HS11 := Lib.hid hS11
      clear hS11 ht
      have cv := E.cv
      have c4 := E.c4
      go_wp2_with fail
      refine (textC_any (w.heap.size + 1) (10 + r.n7 + 0) S11 r.bef _ E.map (HT.out.keep E.bel) (by omega) (by omega)).mono ?_
      rintro e wt0 ⟨rfl, hb2, wm0, hbm0, hu2⟩
      replace E := E.stepT hbm0 hb2 hu2
      clear hb2 hu2 hbm0 cv c4
      generalize hS12 : notedT S11 r.bef = S12 at E
      have HS12 := Lib.hid hS12
      clear hS12
      have cv := E.cv
      have c5 := E.c5
      go_wp2_with fail
      refine (textC_any (w.heap.size + 1) (10 + r.n7 + 2) S12 r.sel _ E.map (HT.out.keep E.bel) (by omega) (by omega)).mono ?_
      rintro e wt1 ⟨rfl, hb2, wm1, hbm1, hu2⟩
      replace E := E.stepT hbm1 hb2 hu2
      clear hb2 hu2 hbm1 cv c5
      generalize hS13 : notedT S12 r.sel = S13 at E
      have HS13 := Lib.hid hS13
      clear hS13
      have cv := E.cv
      have c7 := E.c7
      go_wp2_with fail
      refine (textC_any (w.heap.size + 1) (10 + r.n7 + 4) S13 r.sur _ E.map (HT.out.keep E.bel) (by omega) (by omega)).mono ?_
      rintro e wt2 ⟨rfl, hb2, wm2, hbm2, hu2⟩
      replace E := E.stepT hbm2 hb2 hu2
      clear hb2 hu2 hbm2 cv c7
      generalize hS14 : notedT S13 r.sur = S14 at E
      have HS14 := Lib.hid hS14
      clear hS14
      have cv := E.cv
      have c8 := E.c8
      have c9 := E.c9
      have HC := Lib.hid (chk_chain q HS1.out HS2.out HS3.out HS4.out HS5.out HS6.out HS7.out HS8.out HS9.out HS10.out HS11.out HS12.out HS13.out HS14.out HQ.out)
      by_cases h1 : r.n8 ≤ 69632
      ·
        have h1' : (r.n8 : Int) ≤ 69632 := by omega
        go_wp2_with fail
        with_reducible refine (demand_any (w.heap.size + 1) (10 + r.n7 + 6) S14 2 (decide ((r.n7 : Int) ≤ 8)) _ E.map (by omega) (by decide) (by decide)).mono ?_
        rintro e w2 ⟨rfl, hb2, hu2⟩
        have E2 := E.step hb2 hu2
        have cv2 := E2.cv
        clear hb2 hu2 cv
        go_wp2_with fail
        refine (first_any _ _ _ _ E2.map).mono ?_
        rintro e w3 ⟨rfl, hb3⟩
        go_wp2_with fail
        go_ret
        exact ⟨by rw [HC.out _ (by simp [h1])]; rfl, E2.bel.trans (hb3.mono E2.bel.size)⟩
      ·
        have h1' : (69632 : Int) < (r.n8 : Int) := by omega
        go_wp2_with fail
        with_reducible refine (demand_any (w.heap.size + 1) (10 + r.n7 + 6) S14 2 false _ E.map (by omega) (by decide) (by decide)).mono ?_
        rintro e w2 ⟨rfl, hb2, hu2⟩
        have E2 := E.step hb2 hu2
        have cv2 := E2.cv
        clear hb2 hu2 cv
        go_wp2_with fail
        refine (first_any _ _ _ _ E2.map).mono ?_
        rintro e w3 ⟨rfl, hb3⟩
        go_wp2_with fail
        go_ret
        exact ⟨by rw [HC.out _ (by simp [h1])]; rfl, E2.bel.trans (hb3.mono E2.bel.size)⟩
end Go.Proofs.YtkllfnaofapfnaaDoor.Prot
