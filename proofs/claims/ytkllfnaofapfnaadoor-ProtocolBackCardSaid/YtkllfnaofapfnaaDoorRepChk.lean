/-
  The contract of the check of a reply of package protocol. Conditions: the two tables of unicode/utf8 lie as their initialisers lay them; the strings' lengths are within the form's reach.
-/
import Derived.Test.YtkllfnaofapfnaaDoorRepMath
import Derived.Test.YtkllfnaofapfnaaDoorProtEnc
import Derived.Deep.DeepCutAuto
namespace Go.Proofs.YtkllfnaofapfnaaDoor.Prot
open Go.RowKit Wd Utf Cod

/-- a reply, as its cells -/
structure Rep where
  err : Int
  ses : Int
  Ap : Option Addr
  np : Nat
  cp : Nat
  caret : Int
  Ac : Option Addr
  nc : Nat
  cc : Nat
  chosen : Int
  commit : ByteArray
  erase : Int
  taken : Bool
  Ad : Option Addr
  nd : Nat
  cd : Nat
def Rep.cells (r : Rep) : Array Value := #[.int .i64 r.err, .int .i64 r.ses, .slice r.Ap r.np r.cp, .int .i64 r.caret, .slice r.Ac r.nc r.cc, .int .i64 r.chosen, .string r.commit, .int .i64 r.erase, .bool r.taken, .slice r.Ad r.nd r.cd]
def Rep.view (r : Rep) : Array Value := #[.slice r.Ap r.np r.cp, .int .i64 r.caret, .slice r.Ac r.nc r.cc, .int .i64 r.chosen, .string r.commit, .int .i64 r.erase, .bool r.taken]
/-- runs, as cells -/
def rc2 (x : ByteArray × Int) : List Value := [.string x.1, .int .i64 x.2]
def rc (l : List (ByteArray × Int)) : List Value := l.flatMap rc2
theorem rc_length (l : List (ByteArray × Int)) : (rc l).length = l.length * 2 := by
  induction l with
  | nil => rfl
  | cons p ps ih => simp only [rc, List.flatMap_cons, List.length_append, List.length_cons] at ih ⊢; rw [ih]; simp [rc2]; omega
theorem rc_append (a b : List (ByteArray × Int)) : rc (a ++ b) = rc a ++ rc b := by simp [rc]
theorem rc_one (l : List (ByteArray × Int)) : ∀ u ∈ rc l, u.oneCell' = true := by
  intro u hu
  simp only [rc, List.mem_flatMap, rc2, List.mem_cons, List.not_mem_nil, or_false] at hu
  obtain ⟨p, _, rfl | rfl⟩ := hu <;> rfl
theorem rc_at (l : List (ByteArray × Int)) (k : Nat) (p : ByteArray × Int) (h : l[k]? = some p) : (rc l)[k * 2]? = some (.string p.1) ∧ (rc l)[k * 2 + 1]? = some (.int .i64 p.2) := by
  induction l generalizing k with
  | nil => simp at h
  | cons q ps ih =>
    have e : rc (q :: ps) = .string q.1 :: .int .i64 q.2 :: rc ps := by simp [rc, rc2]
    rw [e]
    cases k with
    | zero => simp at h; subst h; simp
    | succ k =>
      have h' := ih k (by simpa using h)
      have e1 : (k + 1) * 2 = k * 2 + 1 + 1 := by omega
      rw [e1]
      exact h'
theorem next_cell (a : Addr) (k : Nat) : a.add (k + 1) = ⟨(a.add k).block, (a.add k).off + 1, none⟩ := by
  unfold Addr.add
  by_cases h : k = 0 <;> simp [h, Nat.add_assoc]
/-- a slice of runs that reads as l -/
def RR (w : World) (A : Option Addr) (n : Nat) (l : List (ByteArray × Int)) : Prop := Reads w w.heap.size 2 A n (rc l)
section
variable {w w' : World} {A : Option Addr} {n : Nat} {l : List (ByteArray × Int)}
theorem RR.len (h : RR w A n l) : l.length = n := by have := h.1; rw [rc_length] at this; omega
theorem RR.at_ {k : Nat} (h : RR w A n l) (hk : k < n) : ∃ ad p, A = some ad ∧ l[k]? = some p ∧ ad.block < w.heap.size ∧ w.cell? (ad.add (k * 2)) = some (.string p.1) ∧ w.cell? ⟨(ad.add (k * 2)).block, (ad.add (k * 2)).off + 1, none⟩ = some (.int .i64 p.2) := by
  have hl := h.len
  obtain ⟨ad, e, hb, hc⟩ := h.2 (by omega)
  have hp : l[k]? = some l[k] := List.getElem?_eq_getElem (by omega)
  obtain ⟨h1, h2⟩ := rc_at l k _ hp
  exact ⟨ad, l[k], e, hp, hb, hc _ _ h1, by rw [← next_cell]; exact hc _ _ h2⟩
theorem RR.keep (h : RR w A n l) (hb : Below w.heap.size w w') : RR w' A n l := (Reads.below h hb).more hb.size
theorem RR.nil (w : World) (A : Option Addr) : RR w A 0 [] := Reads.none_
end
/-- a reply in memory -/
structure RpIn (w : World) (r : Rep) (q : Rp) : Prop where
  err : q.err = r.err
  ses : q.ses = r.ses
  caret : q.caret = r.caret
  chosen : q.chosen = r.chosen
  commit : q.commit = r.commit
  erase : q.erase = r.erase
  taken : q.taken = r.taken
  pre : RR w r.Ap r.np q.pre
  cands : RS w r.Ac r.nc q.cands
  data : SB w r.Ad r.nd r.cd q.data
  np : r.np ≤ 100000
  nc : r.nc ≤ 100000
  nd : r.nd ≤ 140737488355328
  szp : ∀ x ∈ q.pre, x.1.size ≤ 140737488355328
  szc : ∀ s ∈ q.cands, s.size ≤ 140737488355328
  szm : r.commit.size ≤ 140737488355328
theorem RpIn.keep {w w' : World} {r : Rep} {q : Rp} (h : RpIn w r q) (hb : Below w.heap.size w w') : RpIn w' r q := ⟨h.err, h.ses, h.caret, h.chosen, h.commit, h.erase, h.taken, h.pre.keep hb, h.cands.keep hb, h.data.keep hb, h.np, h.nc, h.nd, h.szp, h.szc, h.szm⟩

/-- the memory of a reply's check: the reply, the view, the map -/
structure EnvP (w0 : World) (r : Rep) (gm gv n : Nat) (S : Int → Bool) (wx : World) : Prop where
  rep : Blk wx w0.heap.size 34 r.cells
  view : Blk wx gv 32 r.view
  map : CM wx gm n S
  lm : w0.heap.size < gm
  lv : w0.heap.size < gv
  ne : gm ≠ gv
  bel : Below w0.heap.size w0 wx
section
variable {w0 wx wy wm : World} {r : Rep} {gm gv n n' : Nat} {S S' : Int → Bool}
theorem EnvP.step (h : EnvP w0 r gm gv n S wx) (hm : CM wy gm n' S') (hu : Upd gm wx wy) : EnvP w0 r gm gv n' S' wy :=
  ⟨h.rep.grown hu (by have := h.lm; simp; omega), h.view.grown hu (by have := h.ne; simp; omega), hm, h.lm, h.lv, h.ne, h.bel.trans (hu.below (B := w0.heap.size) h.bel.size (by have := h.lm; omega))⟩
theorem EnvP.keep (h : EnvP w0 r gm gv n S wx) (hb : Below wx.heap.size wx wm) : EnvP w0 r gm gv n S wm := ⟨h.rep.below hb h.rep.lt, h.view.below hb h.view.lt, BM.keep h.map hb, h.lm, h.lv, h.ne, h.bel.trans (hb.mono h.bel.size)⟩
theorem EnvP.stepT (h : EnvP w0 r gm gv n S wx) (hb : Below wx.heap.size wx wm) (hm : CM wy gm n' S') (hu : Upd gm wm wy) : EnvP w0 r gm gv n' S' wy := (h.keep hb).step hm hu
theorem EnvP.alloc (h : EnvP w0 r gm gv n S wx) (o : Obj) : EnvP w0 r gm gv n S (wx.alloc o) := h.keep ((Below.refl _ _).alloc (Nat.le_refl _) o)
theorem EnvP.r0 (h : EnvP w0 r gm gv n S wx) : wx.cell? ⟨w0.heap.size, 0, none⟩ = some (.int .i64 r.err) := h.rep.cell 0
theorem EnvP.r1 (h : EnvP w0 r gm gv n S wx) : wx.cell? ⟨w0.heap.size, 1, none⟩ = some (.int .i64 r.ses) := h.rep.cell 1
theorem EnvP.r9 (h : EnvP w0 r gm gv n S wx) : wx.cell? ⟨w0.heap.size, 9, none⟩ = some (.slice r.Ad r.nd r.cd) := h.rep.cell 9
theorem EnvP.v0 (h : EnvP w0 r gm gv n S wx) : wx.cell? ⟨gv, 0, none⟩ = some (.slice r.Ap r.np r.cp) := h.view.cell 0
theorem EnvP.v1 (h : EnvP w0 r gm gv n S wx) : wx.cell? ⟨gv, 1, none⟩ = some (.int .i64 r.caret) := h.view.cell 1
theorem EnvP.v2 (h : EnvP w0 r gm gv n S wx) : wx.cell? ⟨gv, 2, none⟩ = some (.slice r.Ac r.nc r.cc) := h.view.cell 2
theorem EnvP.v3 (h : EnvP w0 r gm gv n S wx) : wx.cell? ⟨gv, 3, none⟩ = some (.int .i64 r.chosen) := h.view.cell 3
theorem EnvP.v4 (h : EnvP w0 r gm gv n S wx) : wx.cell? ⟨gv, 4, none⟩ = some (.string r.commit) := h.view.cell 4
theorem EnvP.v5 (h : EnvP w0 r gm gv n S wx) : wx.cell? ⟨gv, 5, none⟩ = some (.int .i64 r.erase) := h.view.cell 5
theorem EnvP.v6 (h : EnvP w0 r gm gv n S wx) : wx.cell? ⟨gv, 6, none⟩ = some (.bool r.taken) := h.view.cell 6
end

theorem EnvP.startA (w : World) (r : Rep) : EnvP w r (w.heap.size + 1) (w.heap.size + 1 + 1) 0 (fun _ => false) ((((w.alloc (.cells r.cells 34)).alloc (.map #[] 0)).alloc (.cells r.view 32)).drew) := by
  have s1 : (w.alloc (.cells r.cells 34)).heap.size = w.heap.size + 1 := by simp
  have s2 : ((w.alloc (.cells r.cells 34)).alloc (.map #[] 0)).heap.size = w.heap.size + 1 + 1 := by simp
  refine ⟨(((Blk.new w _ _).alloc _).alloc _).drew, ?_, ?_, by omega, by omega, by omega, ?_⟩
  · have h := (Blk.new ((w.alloc (.cells r.cells 34)).alloc (.map #[] 0)) 32 r.view).drew
    rw [s2] at h
    exact h
  · have h := (BM.made Tryd.prog (w.alloc (.cells r.cells 34)) 28 4 ek).alloc (.cells r.view 32)
    rw [s1] at h
    exact h
  · exact ((((Below.refl _ _).alloc (Nat.le_refl _) _).alloc (by rw [s1]; omega) _).alloc (by rw [s2]; omega) _).drew
theorem EnvP.startB (w : World) (r : Rep) : EnvP w r (w.heap.size + 1 + 1) (w.heap.size + 1) 0 (fun _ => false) ((((w.alloc (.cells r.cells 34)).alloc (.cells r.view 32)).alloc (.map #[] 0)).drew) := by
  have s1 : (w.alloc (.cells r.cells 34)).heap.size = w.heap.size + 1 := by simp
  have s2 : ((w.alloc (.cells r.cells 34)).alloc (.cells r.view 32)).heap.size = w.heap.size + 1 + 1 := by simp
  refine ⟨(((Blk.new w _ _).alloc _).alloc _).drew, ?_, ?_, by omega, by omega, by omega, ?_⟩
  · have h := ((Blk.new (w.alloc (.cells r.cells 34)) 32 r.view).alloc (.map #[] 0)).drew
    rw [s1] at h
    exact h
  · have h := BM.made Tryd.prog ((w.alloc (.cells r.cells 34)).alloc (.cells r.view 32)) 28 4 ek
    rw [s2] at h
    exact h
  · exact ((((Below.refl _ _).alloc (Nat.le_refl _) _).alloc (by rw [s1]; omega) _).alloc (by rw [s2]; omega) _).drew
theorem run_snoc {l : List (ByteArray × Int)} {k : Nat} {x : ByteArray × Int} (h : l[k]? = some x) (S : Int → Bool) : (l.take (k + 1)).foldl noteRun S = notedT (noted ((l.take k).foldl noteRun S) 6 (nb x.2 1 4)) x.1 := by
  obtain ⟨hk, rfl⟩ := List.getElem?_eq_some_iff.1 h
  rw [List.take_succ_eq_append_getElem hk, List.foldl_append]
  rfl
theorem cand_snoc {l : List ByteArray} {k : Nat} (h : k < l.length) (S : Int → Bool) : (l.take (k + 1)).foldl notedT S = notedT ((l.take k).foldl notedT S) (l.getD k ByteArray.empty) := by
  rw [List.take_succ_eq_append_getElem h, List.foldl_append]
  simp [List.getD, h]

set_option maxRecDepth 100000 in
set_option maxHeartbeats 8000000 in
theorem checkP_any (r : Rep) (q : Rp) (w : World) (hT : Tabs w) (hq : RpIn w r q) :
    Calls Tryd.prog 41 #[.agg r.cells] w fun e w' => e = .returned (.int .i64 (chkP q : Nat)) ∧ Below w.heap.size w w' := by
  have hmm := @run_makeMap Tryd.prog
  have HT := Lib.hid hT
  have HQ := Lib.hid hq
  clear hT hq
  unfold Rep.cells
  go_enter Tryd.func41, Tryd.ntmps41
  go_upto_region 1 with fail
  go_cut [3, 4] (fun c v wx => ∃ gm gv, c = .map (some gm) ∧ v = .pointer (some ⟨gv, 0, none⟩) ∧ EnvP w r gm gv 0 (fun _ => false) wx)
  case first =>
    go_region
    all_goals go_wp2_with fail
    all_goals go_meet
    all_goals first
      | exact ⟨w.heap.size + 1, w.heap.size + 1 + 1, rfl, rfl, EnvP.startA w r⟩
      | exact ⟨w.heap.size + 1 + 1, w.heap.size + 1, rfl, rfl, EnvP.startB w r⟩
  obtain ⟨gm, gv, rfl, rfl, E⟩ := hcut
  clear hmm
  go_upto_region 2 with fail
  go_cut [] (fun wx => EnvP w r gm gv 1 (noted (fun _ => false) 6 (numB r.err && (numB r.ses && (numB r.caret && numB r.erase)))) wx)
  case first =>
    have r0 := E.r0
    have r1 := E.r1
    have v1 := E.v1
    have v5 := E.v5
    rcases h1 : numB r.err with _ | _
    ·
      go_wp2_with fail
      refine (number_is r.err _).mono ?_
      rintro e wq ⟨rfl, rfl⟩
      rw [h1]
      go_wp2_with fail
      with_reducible refine (demand_any gm (0) (fun _ => false) 6 false _ E.map (by omega) (by decide) (by decide)).mono ?_
      rintro e w2 ⟨rfl, hb2, hu2⟩
      have E2 := E.step hb2 hu2
      clear hb2 hu2
      go_wp2_with fail
      go_meet
      case rel => rw [h1]; exact E2
    ·
      rcases h2 : numB r.ses with _ | _
      ·
        go_wp2_with fail
        refine (number_is r.err _).mono ?_
        rintro e wq ⟨rfl, rfl⟩
        rw [h1]
        go_wp2_with fail
        refine (number_is r.ses _).mono ?_
        rintro e wq ⟨rfl, rfl⟩
        rw [h2]
        go_wp2_with fail
        with_reducible refine (demand_any gm (0) (fun _ => false) 6 false _ E.map (by omega) (by decide) (by decide)).mono ?_
        rintro e w2 ⟨rfl, hb2, hu2⟩
        have E2 := E.step hb2 hu2
        clear hb2 hu2
        go_wp2_with fail
        go_meet
        case rel => rw [h1, h2]; exact E2
      ·
        rcases h3 : numB r.caret with _ | _
        ·
          go_wp2_with fail
          refine (number_is r.err _).mono ?_
          rintro e wq ⟨rfl, rfl⟩
          rw [h1]
          go_wp2_with fail
          refine (number_is r.ses _).mono ?_
          rintro e wq ⟨rfl, rfl⟩
          rw [h2]
          go_wp2_with fail
          refine (number_is r.caret _).mono ?_
          rintro e wq ⟨rfl, rfl⟩
          rw [h3]
          go_wp2_with fail
          with_reducible refine (demand_any gm (0) (fun _ => false) 6 false _ E.map (by omega) (by decide) (by decide)).mono ?_
          rintro e w2 ⟨rfl, hb2, hu2⟩
          have E2 := E.step hb2 hu2
          clear hb2 hu2
          go_wp2_with fail
          go_meet
          case rel => rw [h1, h2, h3]; exact E2
        ·
          rcases h4 : numB r.erase with _ | _
          ·
            go_wp2_with fail
            refine (number_is r.err _).mono ?_
            rintro e wq ⟨rfl, rfl⟩
            rw [h1]
            go_wp2_with fail
            refine (number_is r.ses _).mono ?_
            rintro e wq ⟨rfl, rfl⟩
            rw [h2]
            go_wp2_with fail
            refine (number_is r.caret _).mono ?_
            rintro e wq ⟨rfl, rfl⟩
            rw [h3]
            go_wp2_with fail
            refine (number_is r.erase _).mono ?_
            rintro e wq ⟨rfl, rfl⟩
            rw [h4]
            go_wp2_with fail
            with_reducible refine (demand_any gm (0) (fun _ => false) 6 false _ E.map (by omega) (by decide) (by decide)).mono ?_
            rintro e w2 ⟨rfl, hb2, hu2⟩
            have E2 := E.step hb2 hu2
            clear hb2 hu2
            go_wp2_with fail
            go_meet
            case rel => rw [h1, h2, h3, h4]; exact E2
          ·
            go_wp2_with fail
            refine (number_is r.err _).mono ?_
            rintro e wq ⟨rfl, rfl⟩
            rw [h1]
            go_wp2_with fail
            refine (number_is r.ses _).mono ?_
            rintro e wq ⟨rfl, rfl⟩
            rw [h2]
            go_wp2_with fail
            refine (number_is r.caret _).mono ?_
            rintro e wq ⟨rfl, rfl⟩
            rw [h3]
            go_wp2_with fail
            refine (number_is r.erase _).mono ?_
            rintro e wq ⟨rfl, rfl⟩
            rw [h4]
            go_wp2_with fail
            with_reducible refine (demand_any gm (0) (fun _ => false) 6 true _ E.map (by omega) (by decide) (by decide)).mono ?_
            rintro e w2 ⟨rfl, hb2, hu2⟩
            have E2 := E.step hb2 hu2
            clear hb2 hu2
            go_wp2_with fail
            go_meet
            case rel => rw [h1, h2, h3, h4]; exact E2
  replace E := hcut
  clear hcut
  generalize hS1 : (noted (fun _ => false) 6 (numB r.err && (numB r.ses && (numB r.caret && numB r.erase)))) = S1 at E
  have HS1 := Lib.hid hS1
  clear hS1
  go_upto_region 3 with fail
  go_cut [] (fun wx => EnvP w r gm gv 2 (noted S1 6 (r.chosen == -1 || numB r.chosen)) wx)
  case first =>
    have v3 := E.v3
    rcases hc : (r.chosen == -1) with _ | _
    ·
      go_wp2_with fail
      refine (number_is r.chosen _).mono ?_
      rintro e wq ⟨rfl, rfl⟩
      go_wp2_with fail
      with_reducible refine (demand_any gm (1) S1 6 (numB r.chosen) _ E.map (by omega) (by decide) (by decide)).mono ?_
      rintro e w2 ⟨rfl, hb2, hu2⟩
      have E2 := E.step hb2 hu2
      clear hb2 hu2
      go_wp2_with fail
      go_meet
      case rel => rw [hc, Bool.false_or]; exact E2
    ·
      go_wp2_with fail
      with_reducible refine (demand_any gm (1) S1 6 true _ E.map (by omega) (by decide) (by decide)).mono ?_
      rintro e w2 ⟨rfl, hb2, hu2⟩
      have E2 := E.step hb2 hu2
      clear hb2 hu2
      go_wp2_with fail
      go_meet
      case rel => rw [hc, Bool.true_or]; exact E2
  replace E := hcut
  clear hcut
  generalize hS2 : (noted S1 6 (r.chosen == -1 || numB r.chosen)) = S2 at E
  have HS2 := Lib.hid hS2
  clear hS2
  have v0 := E.v0
  have E_0 := Lib.hid E
  clear E
  go_wp2_with fail
  go_loopw [45] (fun i wx => ∃ k : Nat, k ≤ r.np ∧ i = .int .i64 (k : Int) ∧ EnvP w r gm gv (2 + 3 * k) ((q.pre.take k).foldl noteRun S2) wx) (fun i _ => r.np - (intOf i).toNat)
  case atStart => exact ⟨0, Nat.zero_le _, rfl, by rw [List.take_zero]; exact E_0.out⟩
  case round =>
    obtain ⟨k, hk, rfl, E⟩ := hrel
    have hnp := HQ.out.np
    by_cases hlt : k < r.np
    · obtain ⟨ad, x, hA, hp, hbl, hc1, hc2⟩ := (HQ.out.pre.keep E.bel).at_ hlt
      have HN := Lib.hid (run_snoc hp S2)
      have hsz := HQ.out.szp x (List.mem_of_getElem? hp)
      clear hp
      rw [hA]
      generalize (q.pre.take k).foldl noteRun S2 = SK at E HN
      have E1 := E.alloc (.cells #[.string x.1, .int .i64 x.2] 69)
      have hgm := E.map.lt
      have RB1 := Lib.hid (Blk.new wr 69 #[.string x.1, .int .i64 x.2])
      by_cases h1 : 1 ≤ x.2
      · by_cases h2 : x.2 ≤ 4
        ·
          go_wp2_with fail
          with_reducible refine (demand_any gm (2 + 3 * k) _ 6 true _ E1.map (by omega) (by decide) (by decide)).mono ?_
          rintro e w2 ⟨rfl, hb2, hu2⟩
          have E2 := E1.step hb2 hu2
          have hcx : w2.cell? ⟨wr.heap.size, 0, none⟩ = some (.string x.1) := Blk.cell (Blk.grown RB1.out hu2 (by simp; omega)) 0
          clear hb2 hu2
          go_wp2_with fail
          refine (textC_any gm (2 + 3 * k + 1) _ x.1 _ E2.map (HT.out.keep E2.bel) (by omega) (by omega)).mono ?_
          rintro e w3 ⟨rfl, hb3, wm3, hbm3, hu3⟩
          have E3 := E2.stepT hbm3 hb3 hu3
          clear hb3 hu3 hbm3
          go_wp2_with fail
          go_roundw
          case rel => exact ⟨k + 1, by omega, by go_num, by rw [HN.out, nb_true h1 h2]; exact E3⟩
          case measure => simp [intOf]; omega
        ·
          go_wp2_with fail
          with_reducible refine (demand_any gm (2 + 3 * k) _ 6 false _ E1.map (by omega) (by decide) (by decide)).mono ?_
          rintro e w2 ⟨rfl, hb2, hu2⟩
          have E2 := E1.step hb2 hu2
          have hcx : w2.cell? ⟨wr.heap.size, 0, none⟩ = some (.string x.1) := Blk.cell (Blk.grown RB1.out hu2 (by simp; omega)) 0
          clear hb2 hu2
          go_wp2_with fail
          refine (textC_any gm (2 + 3 * k + 1) _ x.1 _ E2.map (HT.out.keep E2.bel) (by omega) (by omega)).mono ?_
          rintro e w3 ⟨rfl, hb3, wm3, hbm3, hu3⟩
          have E3 := E2.stepT hbm3 hb3 hu3
          clear hb3 hu3 hbm3
          go_wp2_with fail
          go_roundw
          case rel => exact ⟨k + 1, by omega, by go_num, by rw [HN.out, nb_false (by omega)]; exact E3⟩
          case measure => simp [intOf]; omega
      ·
        go_wp2_with fail
        with_reducible refine (demand_any gm (2 + 3 * k) _ 6 false _ E1.map (by omega) (by decide) (by decide)).mono ?_
        rintro e w2 ⟨rfl, hb2, hu2⟩
        have E2 := E1.step hb2 hu2
        have hcx : w2.cell? ⟨wr.heap.size, 0, none⟩ = some (.string x.1) := Blk.cell (Blk.grown RB1.out hu2 (by simp; omega)) 0
        clear hb2 hu2
        go_wp2_with fail
        refine (textC_any gm (2 + 3 * k + 1) _ x.1 _ E2.map (HT.out.keep E2.bel) (by omega) (by omega)).mono ?_
        rintro e w3 ⟨rfl, hb3, wm3, hbm3, hu3⟩
        have E3 := E2.stepT hbm3 hb3 hu3
        clear hb3 hu3 hbm3
        go_wp2_with fail
        go_roundw
        case rel => exact ⟨k + 1, by omega, by go_num, by rw [HN.out, nb_false (by omega)]; exact E3⟩
        case measure => simp [intOf]; omega
    · obtain rfl : k = r.np := by omega
      have ht : q.pre.take r.np = q.pre := List.take_of_length_le (by rw [HQ.out.pre.len]; omega)
      rw [ht] at E
      generalize hS3 : q.pre.foldl noteRun S2 = S3 at E
      have HS3 := Lib.hid hS3
      clear hS3 ht
      have v2 := E.v2
      have E_0 := Lib.hid E
      clear E
      go_wp2_with fail
      go_loopw [67] (fun i wx => ∃ k : Nat, k ≤ r.nc ∧ i = .int .i64 (k : Int) ∧ EnvP w r gm gv (2 + 3 * r.np + 2 * k) ((q.cands.take k).foldl notedT S3) wx) (fun i _ => r.nc - (intOf i).toNat)
      case atStart => exact ⟨0, Nat.zero_le _, rfl, by rw [List.take_zero]; exact E_0.out⟩
      case round =>
        obtain ⟨k, hk, rfl, E⟩ := hrel
        have hncc := HQ.out.nc
        by_cases hlt : k < r.nc
        · obtain ⟨ad, hA, hbl, hc1⟩ := (HQ.out.cands.keep E.bel).at_ hlt
          have HN := Lib.hid (cand_snoc (l := q.cands) (k := k) (by rw [HQ.out.cands.len]; exact hlt) S3)
          have hsz : (q.cands.getD k ByteArray.empty).size ≤ 140737488355328 := by
            rw [List.getD, List.getElem?_eq_getElem (by rw [HQ.out.cands.len]; exact hlt), Option.getD_some]
            exact HQ.out.szc _ (List.getElem_mem _)
          rw [hA]
          generalize q.cands.getD k ByteArray.empty = x at hc1 HN hsz
          generalize (q.cands.take k).foldl notedT S3 = SK at E HN
          go_wp2_with fail
          refine (textC_any gm (2 + 3 * r.np + 2 * k) _ x _ E.map (HT.out.keep E.bel) (by omega) (by omega)).mono ?_
          rintro e w3 ⟨rfl, hb3, wm3, hbm3, hu3⟩
          have E3 := E.stepT hbm3 hb3 hu3
          clear hb3 hu3 hbm3
          go_wp2_with fail
          go_roundw
          case rel => exact ⟨k + 1, by omega, by go_num, by rw [HN.out]; exact E3⟩
          case measure => simp [intOf]; omega
        · obtain rfl : k = r.nc := by omega
          have ht : q.cands.take r.nc = q.cands := List.take_of_length_le (by rw [HQ.out.cands.len]; omega)
          rw [ht] at E
          generalize hS4 : q.cands.foldl notedT S3 = S4 at E
          have HS4 := Lib.hid hS4
          clear hS4 ht
          have v4 := E.v4
          have hszm := HQ.out.szm
          go_wp2_with fail
          refine (textC_any gm (2 + 3 * r.np + 2 * r.nc) S4 r.commit _ E.map (HT.out.keep E.bel) (by omega) (by omega)).mono ?_
          rintro e w3 ⟨rfl, hb3, wm3, hbm3, hu3⟩
          replace E := E.stepT hbm3 hb3 hu3
          clear hb3 hu3 hbm3 v4 v2
          have HC := Lib.hid (fun (b : Bool) (hb : b = (decide (r.nd ≤ 69632) && (decide (r.np ≤ 1000) && decide (r.nc ≤ 60)))) => show firstOf (noted (notedT S4 r.commit) 2 b) = ((chkP q : Nat) : Int) by
            have hh := notesP_first q b (by rw [hb, HQ.out.data.rb.len, HQ.out.pre.len, HQ.out.cands.len])
            unfold notesP at hh
            rw [HQ.out.err, HQ.out.ses, HQ.out.caret, HQ.out.erase, HQ.out.chosen, HQ.out.commit, HS1.out, HS2.out, HS3.out, HS4.out] at hh
            exact hh)
          generalize notedT S4 r.commit = S5 at E HC
          have r9 := E.r9
          have v0 := E.v0
          have v2 := E.v2
          by_cases h1 : r.nd ≤ 69632
          · have h1' : (r.nd : Int) ≤ 69632 := by omega
            by_cases h2 : r.np ≤ 1000
            · have h2' : (r.np : Int) ≤ 1000 := by omega
              ·
                go_wp2_with fail
                with_reducible refine (demand_any gm (2 + 3 * r.np + 2 * r.nc + 2) _ 2 (decide ((r.nc : Int) ≤ 60)) _ E.map (by omega) (by decide) (by decide)).mono ?_
                rintro e w2 ⟨rfl, hb2, hu2⟩
                have E2 := E.step hb2 hu2
                clear hb2 hu2
                go_wp2_with fail
                refine (first_any _ _ _ _ E2.map).mono ?_
                rintro e w3 ⟨rfl, hb3⟩
                go_wp2_with fail
                go_ret
                exact ⟨by rw [HC.out _ (by simp only [h1, h2, decide_true, Bool.true_and]; exact decide_eq_decide.2 (by omega))]; rfl, E2.bel.trans (hb3.mono E2.bel.size)⟩
            · have h2' : (1000 : Int) < (r.np : Int) := by omega
              ·
                go_wp2_with fail
                with_reducible refine (demand_any gm (2 + 3 * r.np + 2 * r.nc + 2) _ 2 false _ E.map (by omega) (by decide) (by decide)).mono ?_
                rintro e w2 ⟨rfl, hb2, hu2⟩
                have E2 := E.step hb2 hu2
                clear hb2 hu2
                go_wp2_with fail
                refine (first_any _ _ _ _ E2.map).mono ?_
                rintro e w3 ⟨rfl, hb3⟩
                go_wp2_with fail
                go_ret
                exact ⟨by rw [HC.out _ (by simp [h1, h2])]; rfl, E2.bel.trans (hb3.mono E2.bel.size)⟩
          · have h1' : (69632 : Int) < (r.nd : Int) := by omega
            ·
              go_wp2_with fail
              with_reducible refine (demand_any gm (2 + 3 * r.np + 2 * r.nc + 2) _ 2 false _ E.map (by omega) (by decide) (by decide)).mono ?_
              rintro e w2 ⟨rfl, hb2, hu2⟩
              have E2 := E.step hb2 hu2
              clear hb2 hu2
              go_wp2_with fail
              refine (first_any _ _ _ _ E2.map).mono ?_
              rintro e w3 ⟨rfl, hb3⟩
              go_wp2_with fail
              go_ret
              exact ⟨by rw [HC.out _ (by simp [h1])]; rfl, E2.bel.trans (hb3.mono E2.bel.size)⟩
end Go.Proofs.YtkllfnaofapfnaaDoor.Prot
