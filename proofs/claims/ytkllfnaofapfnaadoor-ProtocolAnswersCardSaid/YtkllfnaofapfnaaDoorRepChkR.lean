/-
  The contract of CheckReply of package henkanref42. Conditions: the reply can be read; the lengths of its strings are within the form's reach. (Printed by gen/repchkr.py.)
-/
import Derived.Test.YtkllfnaofapfnaaDoorRepWords
import Derived.Test.YtkllfnaofapfnaaDoorReqRef
import Derived.Test.YtkllfnaofapfnaaDoorUtfValidR
namespace Go.Proofs.YtkllfnaofapfnaaDoor.Prot
open Go.RowKit Wd Utf Cod

/-- all strings of a reply -/
def allP (q : Rp) : List ByteArray := q.commit :: (q.pre.map (·.1) ++ q.cands)
theorem allP_len (q : Rp) : (allP q).length = 1 + q.pre.length + q.cands.length := by simp [allP]; omega
theorem txtP_all (q : Rp) : txtP q = (allP q).all vt := by
  unfold txtP allP
  rw [List.all_cons, List.all_append, List.all_map, Bool.and_comm]
  rfl
def lensP (q : Rp) : Bool := decide (q.data.length ≤ 69632) && (decide (q.pre.length ≤ 1000) && decide (q.cands.length ≤ 60))
theorem lngP_all (q : Rp) : lngP q = ((allP q).all szB && lensP q) := by
  unfold lngP allP lensP
  rw [List.all_cons, List.all_append, List.all_map]
  have : (fun x : ByteArray × Int => szB x.1) = (szB ∘ fun x : ByteArray × Int => x.1) := rfl
  rw [this]
  generalize (q.pre.all (szB ∘ fun x => x.1)) = a
  generalize q.cands.all szB = b
  generalize szB q.commit = c
  generalize (decide (q.data.length ≤ 69632) && (decide (q.pre.length ≤ 1000) && decide (q.cands.length ≤ 60))) = d
  cases a <;> cases b <;> cases c <;> cases d <;> rfl
theorem chosen_nb (z : Int) : (z == -1 || numB z) = nb z (-1) 2147483647 := by
  rw [Bool.eq_iff_iff]
  simp only [numB, nb, Bool.or_eq_true, decide_eq_true_eq, beq_iff_eq]
  omega
theorem rngP_nb (q : Rp) : rngP q = ((nb q.err 0 2147483647 && (nb q.ses 0 2147483647 && (nb q.caret 0 2147483647 && (nb q.erase 0 2147483647 && nb q.chosen (-1) 2147483647)))) && q.pre.all (fun x => nb x.2 1 4)) := by
  unfold rngP
  rw [chosen_nb]
  show ((nb q.err 0 2147483647 && (nb q.ses 0 2147483647 && (nb q.caret 0 2147483647 && nb q.erase 0 2147483647))) && nb q.chosen (-1) 2147483647 && q.pre.all (fun x => nb x.2 1 4)) = _
  simp only [Bool.and_assoc]
theorem chkP_rng {q : Rp} (h : rngP q = false) : chkP q = 6 := by unfold chkP; rw [h]; rfl
theorem chkP_txt {q : Rp} (h : rngP q = true) (h2 : txtP q = false) : chkP q = 10 := by unfold chkP; rw [h, h2]; rfl
theorem chkP_lng {q : Rp} (h : rngP q = true) (h2 : txtP q = true) (h3 : lngP q = false) : chkP q = 2 := by unfold chkP; rw [h, h2, h3]; rfl
theorem chkP_ok {q : Rp} (h : rngP q = true) (h2 : txtP q = true) (h3 : lngP q = true) : chkP q = 0 := by unfold chkP; rw [h, h2, h3]; rfl
theorem all_bit {α : Type} {f : α → Bool} {l : List α} {k : Nat} {x : α} (h : l[k]? = some x) (hall : (l.take k).all f = true) (hx : f x = true) : (l.take (k + 1)).all f = true := by
  obtain ⟨hk, rfl⟩ := List.getElem?_eq_some_iff.1 h
  rw [List.take_succ_eq_append_getElem hk, List.all_append, hall]
  simpa using hx
theorem all_not {α : Type} {f : α → Bool} {l : List α} {k : Nat} {x : α} (h : l[k]? = some x) (hx : f x = false) : l.all f = false := by
  rw [Bool.eq_false_iff]
  intro ha
  have := List.all_eq_true.1 ha x (List.mem_of_getElem? h)
  rw [hx] at this; cases this
theorem getD_in {l : List ByteArray} {k : Nat} (h : k < l.length) : l[k]? = some (l.getD k ByteArray.empty) := by
  rw [List.getElem?_eq_getElem h]; simp [List.getD, h]
theorem run_fst {l : List (ByteArray × Int)} {k : Nat} {x : ByteArray × Int} {c : ByteArray} (h : l[k]? = some x) : vs (c :: (l.take (k + 1)).map (·.1)) = vs (c :: (l.take k).map (·.1)) ++ [.string x.1] := by
  obtain ⟨hk, rfl⟩ := List.getElem?_eq_some_iff.1 h
  rw [List.take_succ_eq_append_getElem hk, List.map_append]
  simp [vs]
/-- the memory of the reference's check of a reply -/
structure CP (w : World) (r : Rep) (wx : World) : Prop where
  rep : Blk wx w.heap.size 48 r.cells
  view : Blk wx (w.heap.size + 1) 32 r.view
  bel : Below w.heap.size w wx
theorem CP.keep {w wx wy : World} {r : Rep} (h : CP w r wx) (hb : Below wx.heap.size wx wy) : CP w r wy := ⟨h.rep.below hb h.rep.lt, h.view.below hb h.view.lt, h.bel.trans (hb.mono h.bel.size)⟩
theorem CP.start (w : World) (r : Rep) : CP w r ((w.alloc (.cells r.cells 48)).alloc (.cells r.view 32)) := by
  refine ⟨(Blk.new w _ _).alloc _, ?_, ((Below.refl _ _).alloc (Nat.le_refl _) _).alloc (by simp) _⟩
  have := Blk.new (w.alloc (.cells r.cells 48)) 32 r.view
  rwa [show (w.alloc (.cells r.cells 48)).heap.size = w.heap.size + 1 by simp] at this
theorem CP.grow {w wx wy : World} {r : Rep} {v : Value} {n size : Nat} {e : TypeId} {xs : List Value} (h : CP w r wx) (ho : wx.ownsRow (w.heap.size + 1 + 1) e size v n xs) (hg : wx.grownBy wy v.ownBlock) : CP w r wy := by
  have hlt := fun k hk => (ho.lt k hk).1
  exact ⟨h.rep.grown hg (fun e => by have := hlt _ e.symm; omega), h.view.grown hg (fun e => by have := hlt _ e.symm; omega), h.bel.grown hg h.bel.size (fun k hk => by have := hlt k hk; omega)⟩
set_option maxRecDepth 100000 in
set_option maxHeartbeats 16000000 in
theorem checkPR_any (r : Rep) (q : Rp) (w : World) (hq : RpIn w r q) (hsp : ∀ x ∈ q.pre, x.1.size ≤ 30000000000000) (hsc : ∀ s ∈ q.cands, s.size ≤ 30000000000000) (hsm : r.commit.size ≤ 30000000000000) :
    Calls Tryd.prog 52 #[.agg r.cells] w fun e w' => e = .returned (.int .i64 (chkP q : Nat)) ∧ Below w.heap.size w w' := by
  have C0 := Lib.hid (CP.start w r)
  have HQ := Lib.hid hq
  have hnp := hq.np
  have hnc := hq.nc
  have HSZ : Hid (∀ s ∈ allP q, s.size ≤ 30000000000000) := Lib.hid (by
    intro s hs
    unfold allP at hs
    rcases List.mem_cons.1 hs with rfl | hs
    · rw [hq.commit]; exact hsm
    · rcases List.mem_append.1 hs with hs | hs
      · obtain ⟨x, hx, rfl⟩ := List.mem_map.1 hs
        exact hsp x hx
      · exact hsc s hs)
  have HRN := Lib.hid (rngP_nb q)
  rw [hq.err, hq.ses, hq.caret, hq.erase, hq.chosen] at HRN
  have hpl := hq.pre.len
  have hcl := hq.cands.len
  have hdl := hq.data.rb.len
  have HALL : Hid (allP q = r.commit :: (q.pre.map (·.1) ++ q.cands)) := Lib.hid (by unfold allP; rw [hq.commit])
  clear hq hsp hsc hsm
  obtain ⟨err, ses, Ap, np, cp, caret, Ac, nc, cc, chosen, commit, erase, taken, Ad, nd, cd⟩ := r
  simp only at hnp hnc hpl hcl hdl HRN HALL
  have HPL := Lib.hid hpl
  have HCL := Lib.hid hcl
  have HDL := Lib.hid hdl
  clear hpl hcl hdl
  obtain ⟨i1, hi1, hy0, hy1, hy2⟩ := info_parts infoStr
  have HI1 := Lib.hid hi1
  clear hi1
  unfold Rep.cells Rep.view at *
  simp only at C0
  go_enter Tryd.func52, Tryd.ntmps52
  go_wp2_with fail
  refine (in_any _ _ _ _).mono ?_
  rintro e wq ⟨rfl, rfl⟩
  rcases hb0 : nb err 0 2147483647 with _ | _
  · have HB0 := Lib.hid hb0
    have HV : Hid (chkP q = 6) := Lib.hid (chkP_rng (by rw [HRN.out, HB0.out]; rfl))
    clear hb0
    go_wp2_with fail
    go_ret
    exact ⟨by rw [HV.out]; rfl, C0.out.bel⟩
  have HB0 := Lib.hid hb0
  clear hb0
  go_wp2_with fail
  refine (in_any _ _ _ _).mono ?_
  rintro e wq ⟨rfl, rfl⟩
  rcases hb1 : nb ses 0 2147483647 with _ | _
  · have HB1 := Lib.hid hb1
    have HV : Hid (chkP q = 6) := Lib.hid (chkP_rng (by rw [HRN.out, HB0.out, HB1.out]; rfl))
    clear hb1
    go_wp2_with fail
    go_ret
    exact ⟨by rw [HV.out]; rfl, C0.out.bel⟩
  have HB1 := Lib.hid hb1
  clear hb1
  go_wp2_with fail
  refine (in_any _ _ _ _).mono ?_
  rintro e wq ⟨rfl, rfl⟩
  rcases hb2 : nb caret 0 2147483647 with _ | _
  · have HB2 := Lib.hid hb2
    have HV : Hid (chkP q = 6) := Lib.hid (chkP_rng (by rw [HRN.out, HB0.out, HB1.out, HB2.out]; rfl))
    clear hb2
    go_wp2_with fail
    go_ret
    exact ⟨by rw [HV.out]; rfl, C0.out.bel⟩
  have HB2 := Lib.hid hb2
  clear hb2
  go_wp2_with fail
  refine (in_any _ _ _ _).mono ?_
  rintro e wq ⟨rfl, rfl⟩
  rcases hb3 : nb erase 0 2147483647 with _ | _
  · have HB3 := Lib.hid hb3
    have HV : Hid (chkP q = 6) := Lib.hid (chkP_rng (by rw [HRN.out, HB0.out, HB1.out, HB2.out, HB3.out]; rfl))
    clear hb3
    go_wp2_with fail
    go_ret
    exact ⟨by rw [HV.out]; rfl, C0.out.bel⟩
  have HB3 := Lib.hid hb3
  clear hb3
  go_wp2_with fail
  refine (in_any _ _ _ _).mono ?_
  rintro e wq ⟨rfl, rfl⟩
  rcases hb4 : nb chosen (-1) 2147483647 with _ | _
  · have HB4 := Lib.hid hb4
    have HV : Hid (chkP q = 6) := Lib.hid (chkP_rng (by rw [HRN.out, HB0.out, HB1.out, HB2.out, HB3.out, HB4.out]; rfl))
    clear hb4
    go_wp2_with fail
    go_ret
    exact ⟨by rw [HV.out]; rfl, C0.out.bel⟩
  have HB4 := Lib.hid hb4
  clear hb4
  have HR2 : Hid (rngP q = q.pre.all (fun x => nb x.2 1 4)) := Lib.hid (by rw [HRN.out, HB0.out, HB1.out, HB2.out, HB3.out, HB4.out]; rfl)
  clear HB0 HB1 HB2 HB3 HB4 HRN
  go_wp2_with fail
  go_loopw [4] (fun i wr => ∃ k : Nat, k ≤ np ∧ i = .int .i64 (k : Int) ∧ (q.pre.take k).all (fun x => nb x.2 1 4) = true ∧ CP w (⟨err, ses, Ap, np, cp, caret, Ac, nc, cc, chosen, commit, erase, taken, Ad, nd, cd⟩ : Rep) wr) (fun i _ => np - (intOf i).toNat)
  case atStart => exact ⟨0, Nat.zero_le _, rfl, rfl, C0.out⟩
  case round =>
    obtain ⟨k, hk, rfl, hall, hcp⟩ := hrel
    have HA := Lib.hid hall
    have C := Lib.hid hcp
    clear hall hcp C0
    by_cases hlt : k < np
    · obtain ⟨ad, ⟨t, a⟩, rfl, hp, _, _, hc2⟩ := (HQ.out.keep C.out.bel).pre.at_ hlt
      have HP := Lib.hid hp
      have v0 : wr.cell? ⟨w.heap.size + 1, 0, none⟩ = some (.slice (some ad) np cp) := C.out.view.cell 0
      clear hp
      simp only at hc2
      go_wp2_with fail
      refine (in_any _ _ _ _).mono ?_
      rintro e wq ⟨rfl, rfl⟩
      rcases hb : nb a 1 4 with _ | _
      · have HV : Hid (chkP q = 6) := Lib.hid (chkP_rng (by rw [HR2.out]; exact all_not HP.out hb))
        clear hb
        go_wp2_with fail
        go_ret
        exact ⟨by rw [HV.out]; rfl, C.out.bel⟩
      · have HB := Lib.hid hb
        clear hb
        go_wp2_with fail
        go_roundw
        case rel => exact ⟨k + 1, by omega, by go_num, all_bit HP.out HA.out HB.out, C.out⟩
        case measure => simp [intOf]; omega
    · have hkn : k = np := by omega
      subst k
      have RNG : Hid (rngP q = true) := Lib.hid (by rw [HR2.out]; have := HA.out; rwa [List.take_of_length_le (by rw [HPL.out]; omega)] at this)
      have v0 : wr.cell? ⟨w.heap.size + 1, 0, none⟩ = some (.slice Ap np cp) := C.out.view.cell 0
      have v4 : wr.cell? ⟨w.heap.size + 1, 4, none⟩ = some (.string commit) := C.out.view.cell 4
      have hsz := C.out.view.lt
      have C1 := Lib.hid (C.out.keep ((Below.refl _ _).alloc (Nat.le_refl _) (.cells #[.string commit] 9)))
      have O1 : Hid ((wr.alloc (.cells #[.string commit] 9)).ownsRow (w.heap.size + 1 + 1) 9 1 (.slice (some ⟨wr.heap.size, 0, none⟩) (1 + 0) 1) (1 + 0) (vs (commit :: (q.pre.take 0).map (·.1)))) := Lib.hid (World.ownsRow_lit (size := 1) wr #[.string commit] 1 (Nat.succ_le_of_lt hsz) (by decide) rfl)
      clear HR2 HA
      go_wp2_with fail
      go_loopw [5, 6] (fun b i wr => ∃ (k : Nat) (A : Option Addr) (c : Nat), k ≤ np ∧ i = .int .i64 (k : Int) ∧ b = .slice A (1 + k) c ∧ wr.ownsRow (w.heap.size + 1 + 1) 9 1 (.slice A (1 + k) c) (1 + k) (vs (commit :: (q.pre.take k).map (·.1))) ∧ CP w (⟨err, ses, Ap, np, cp, caret, Ac, nc, cc, chosen, commit, erase, taken, Ad, nd, cd⟩ : Rep) wr) (fun _ i _ => np - (intOf i).toNat)
      case atStart => exact ⟨0, _, _, Nat.zero_le _, rfl, rfl, O1.out, C1.out⟩
      case round =>
        obtain ⟨k, A, c, hk, rfl, rfl, hown, hcp⟩ := hrel
        have OW := Lib.hid hown
        have C2 := Lib.hid hcp
        clear hown hcp C C1 O1 v0 v4
        rename World => wq
        by_cases hlt : k < np
        · obtain ⟨ad, ⟨t, a⟩, rfl, hp, _, hc1, _⟩ := (HQ.out.keep C2.out.bel).pre.at_ hlt
          have HP := Lib.hid hp
          have v0 : wq.cell? ⟨w.heap.size + 1, 0, none⟩ = some (.slice (some ad) np cp) := C2.out.view.cell 0
          have hz2 := C2.out.view.lt
          clear hp
          simp only at hc1
          go_wp2_with (at_builtin; refine wpList_append_any _ rfl (.tmp 64) (.tmp 71) _ rfl (w.heap.size + 1 + 1) 9 i1 _ 1 16 Tryd.underlying30 HI1.out hy0 hy1 hy2 rfl (by decide) _ (1 + k) _ rfl (OW.out.alloc _) _ _ _ _ [.string t] rfl (by exact Reads.lit _ _ _ _ _ [.string t] rfl rfl) (by intro u hu; simp at hu; subst hu; rfl) (by unfold maxLen; omega) (by omega) (by simp; omega) ?_; intro v3 w3 ho hg ha; have OW3 : Hid (w3.ownsRow (w.heap.size + 1 + 1) 9 1 v3 (1 + (k + 1)) (vs (commit :: (q.pre.take (k + 1)).map (·.1)))) := Lib.hid (by rw [run_fst HP.out]; exact ho); have C3 := Lib.hid ((C2.out.keep ((Below.refl _ _).alloc (Nat.le_refl _) _)).grow (OW.out.alloc _) hg); (obtain ⟨A3, c3, rfl, _⟩ := own_sliceS OW3.out); clear ho hg ha)
          go_roundw
          case rel => exact ⟨k + 1, A3, c3, by omega, by go_num, rfl, OW3.out, C3.out⟩
          case measure => simp [intOf]; omega
        · have hkn : k = np := by omega
          subst k
          have OW1 : Hid (wq.ownsRow (w.heap.size + 1 + 1) 9 1 (.slice A (1 + np) c) (1 + np) (vs (commit :: q.pre.map (·.1)))) := Lib.hid (by have := OW.out; rwa [List.take_of_length_le (by rw [HPL.out]; omega)] at this)
          have v0 : wq.cell? ⟨w.heap.size + 1, 0, none⟩ = some (.slice Ap np cp) := C2.out.view.cell 0
          have v2 : wq.cell? ⟨w.heap.size + 1, 2, none⟩ = some (.slice Ac nc cc) := C2.out.view.cell 2
          have hz2 := C2.out.view.lt
          clear OW
          go_wp2_with (at_builtin; refine wpList_append_any _ rfl (.tmp 73) (.tmp 75) _ rfl (w.heap.size + 1 + 1) 9 i1 _ 1 16 Tryd.underlying30 HI1.out hy0 hy1 hy2 rfl (by decide) _ (1 + np) _ rfl OW1.out _ Ac nc cc (vs q.cands) rfl (by exact (HQ.out.keep C2.out.bel).cands) (vs_one _) (by unfold maxLen; omega) (by omega) (by omega) ?_; intro v3 w3 ho hg ha; have OW3 : Hid (w3.ownsRow (w.heap.size + 1 + 1) 9 1 v3 (1 + np + nc) (vs (allP q))) := Lib.hid (by rw [HALL.out]; have := ho; simpa [vs] using this); have C3 := Lib.hid (C2.out.grow OW1.out hg); (obtain ⟨A3, c3, rfl, _⟩ := own_sliceS OW3.out); clear ho hg ha)
          have hal : (allP q).length = 1 + np + nc := by rw [allP_len, HPL.out, HCL.out]
          have HAL := Lib.hid hal
          clear hal C2 OW1 v0 v2 hz2
          go_loopw [7] (fun i wr => ∃ k : Nat, k ≤ 1 + np + nc ∧ i = .int .i64 (k : Int) ∧ ((allP q).take k).all vt = true ∧ wr.ownsRow (w.heap.size + 1 + 1) 9 1 (.slice A3 (1 + np + nc) c3) (1 + np + nc) (vs (allP q)) ∧ CP w (⟨err, ses, Ap, np, cp, caret, Ac, nc, cc, chosen, commit, erase, taken, Ad, nd, cd⟩ : Rep) wr) (fun i _ => 1 + np + nc - (intOf i).toNat)
          case atStart => exact ⟨0, Nat.zero_le _, rfl, rfl, OW3.out, C3.out⟩
          case round =>
            obtain ⟨k, hk, rfl, hall, hown, hcp⟩ := hrel
            have HA := Lib.hid hall
            have OW := Lib.hid hown
            have C4 := Lib.hid hcp
            clear hall hown hcp C3 OW3
            rename World => wp
            by_cases hlt : k < 1 + np + nc
            · obtain ⟨ad, rfl, _, hc1⟩ := (RS.of_own OW.out).at_ hlt
              have hgd := getD_in (l := allP q) (k := k) (by rw [HAL.out]; exact hlt)
              have htz := HSZ.out _ (List.mem_of_getElem? hgd)
              generalize (allP q).getD k ByteArray.empty = t at hc1 hgd htz
              have HG := Lib.hid hgd
              have HVA : Hid (∀ W : World, Calls Tryd.prog 67 #[.string t] W fun e w' => e = .returned (.bool (vt t)) ∧ Below W.heap.size W w') := Lib.hid (fun W => validR_any t W htz)
              clear hgd htz
              go_wp2_with fail
              refine (HVA.out _).mono ?_
              rintro e w5 ⟨rfl, hb5⟩
              have C5 := Lib.hid (C4.out.keep hb5)
              have OW5 := Lib.hid (own_keep OW.out hb5)
              clear hb5 HVA
              rcases hv : vt t with _ | _
              · have HV : Hid (chkP q = 10) := Lib.hid (chkP_txt RNG.out (by rw [txtP_all]; exact all_not HG.out hv))
                clear hv
                go_wp2_with fail
                go_ret
                exact ⟨by rw [HV.out]; rfl, C5.out.bel⟩
              · have HB := Lib.hid hv
                clear hv
                go_wp2_with fail
                go_roundw
                case rel => exact ⟨k + 1, by omega, by go_num, all_bit HG.out HA.out HB.out, OW5.out, C5.out⟩
                case measure => simp [intOf]; omega
            · have hkn : k = 1 + np + nc := by omega
              subst k
              have TXT : Hid (txtP q = true) := Lib.hid (by rw [txtP_all]; have := HA.out; rwa [List.take_of_length_le (by rw [HAL.out]; omega)] at this)
              clear HA
              go_wp2_with fail
              go_loopw [8] (fun i wr => ∃ k : Nat, k ≤ 1 + np + nc ∧ i = .int .i64 (k : Int) ∧ ((allP q).take k).all szB = true ∧ wr.ownsRow (w.heap.size + 1 + 1) 9 1 (.slice A3 (1 + np + nc) c3) (1 + np + nc) (vs (allP q)) ∧ CP w (⟨err, ses, Ap, np, cp, caret, Ac, nc, cc, chosen, commit, erase, taken, Ad, nd, cd⟩ : Rep) wr) (fun i _ => 1 + np + nc - (intOf i).toNat)
              case atStart => exact ⟨0, Nat.zero_le _, rfl, rfl, OW.out, C4.out⟩
              case round =>
                obtain ⟨k, hk, rfl, hall, hown, hcp⟩ := hrel
                have HA := Lib.hid hall
                have OW6 := Lib.hid hown
                have C6 := Lib.hid hcp
                clear hall hown hcp C4 OW
                rename World => wo
                by_cases hlt : k < 1 + np + nc
                · obtain ⟨ad, rfl, _, hc1⟩ := (RS.of_own OW6.out).at_ hlt
                  have hgd := getD_in (l := allP q) (k := k) (by rw [HAL.out]; exact hlt)
                  generalize (allP q).getD k ByteArray.empty = t at hc1 hgd
                  have HG := Lib.hid hgd
                  clear hgd
                  by_cases ht : t.size ≤ 4096
                  · have gt : (t.size : Int) ≤ 4096 := by omega
                    have HB : Hid (szB t = true) := Lib.hid (decide_eq_true ht)
                    clear ht
                    go_wp2_with fail
                    go_roundw
                    case rel => exact ⟨k + 1, by omega, by go_num, all_bit HG.out HA.out HB.out, OW6.out, C6.out⟩
                    case measure => simp [intOf]; omega
                  · have gt : (4096 : Int) < (t.size : Int) := by omega
                    have HV : Hid (chkP q = 2) := Lib.hid (chkP_lng RNG.out TXT.out (by rw [lngP_all, all_not HG.out (decide_eq_false ht)]; rfl))
                    clear ht
                    go_wp2_with fail
                    go_ret
                    exact ⟨by rw [HV.out]; rfl, C6.out.bel⟩
                · have hkn : k = 1 + np + nc := by omega
                  subst k
                  have SZ : Hid ((allP q).all szB = true) := Lib.hid (by have := HA.out; rwa [List.take_of_length_le (by rw [HAL.out]; omega)] at this)
                  have LN : Hid (lngP q = (decide (nd ≤ 69632) && (decide (np ≤ 1000) && decide (nc ≤ 60)))) := Lib.hid (by rw [lngP_all, SZ.out]; unfold lensP; rw [HDL.out, HPL.out, HCL.out]; rfl)
                  have k9 : wo.cell? ⟨w.heap.size, 9, none⟩ = some (.slice Ad nd cd) := C6.out.rep.cell 9
                  have v0 : wo.cell? ⟨w.heap.size + 1, 0, none⟩ = some (.slice Ap np cp) := C6.out.view.cell 0
                  have v2 : wo.cell? ⟨w.heap.size + 1, 2, none⟩ = some (.slice Ac nc cc) := C6.out.view.cell 2
                  clear HA hlt hk
                  by_cases l0 : nd ≤ 69632
                  · have g0 : (nd : Int) ≤ 69632 := by omega
                    by_cases l1 : np ≤ 1000
                    · have g1 : (np : Int) ≤ 1000 := by omega
                      by_cases l2 : nc ≤ 60
                      · have g2 : (nc : Int) ≤ 60 := by omega
                        have HV : Hid (chkP q = 0) := Lib.hid (chkP_ok RNG.out TXT.out (by rw [LN.out]; simp [l0, l1, l2]))
                        clear l0 l1 l2
                        go_wp2_with fail
                        go_ret
                        exact ⟨by rw [HV.out]; rfl, C6.out.bel⟩
                      · have g2 : (60 : Int) < (nc : Int) := by omega
                        have HV : Hid (chkP q = 2) := Lib.hid (chkP_lng RNG.out TXT.out (by rw [LN.out]; simp [l2]))
                        clear l0 l1 l2
                        go_wp2_with fail
                        go_ret
                        exact ⟨by rw [HV.out]; rfl, C6.out.bel⟩
                    · have g1 : (1000 : Int) < (np : Int) := by omega
                      have HV : Hid (chkP q = 2) := Lib.hid (chkP_lng RNG.out TXT.out (by rw [LN.out]; simp [l1]))
                      clear l0 l1
                      go_wp2_with fail
                      go_ret
                      exact ⟨by rw [HV.out]; rfl, C6.out.bel⟩
                  · have g0 : (69632 : Int) < (nd : Int) := by omega
                    have HV : Hid (chkP q = 2) := Lib.hid (chkP_lng RNG.out TXT.out (by rw [LN.out]; simp [l0]))
                    clear l0
                    go_wp2_with fail
                    go_ret
                    exact ⟨by rw [HV.out]; rfl, C6.out.bel⟩
end Go.Proofs.YtkllfnaofapfnaaDoor.Prot
