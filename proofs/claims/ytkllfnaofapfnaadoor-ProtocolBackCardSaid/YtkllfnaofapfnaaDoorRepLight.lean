/-
  The contract of lightReply of package henkanlaw42. Conditions: the reply can be read, within the form's reach. (Printed by gen/replight.py.)
-/
import Derived.Test.YtkllfnaofapfnaaDoorRepIn
namespace Go.Proofs.YtkllfnaofapfnaaDoor.Prot
open Go.RowKit Wd Utf Cod

/-- the memory of lightReply: the reply, the view -/
structure LP (w : World) (r : Rep) (q : Rp) (wx : World) : Prop where
  rep : Blk wx w.heap.size 34 r.cells
  view : Blk wx (w.heap.size + 1) 32 r.view
  q : RpOpen wx r q
  bel : Below w.heap.size w wx
theorem LP.start {w : World} {r : Rep} {q : Rp} (h : RpOpen w r q) : LP w r q ((w.alloc (.cells r.cells 34)).alloc (.cells r.view 32)) := by
  have hb : Below w.heap.size w ((w.alloc (.cells r.cells 34)).alloc (.cells r.view 32)) := ((Below.refl _ _).alloc (Nat.le_refl _) _).alloc (by simp) _
  refine ⟨(Blk.new w _ _).alloc _, ?_, h.keep hb, hb⟩
  have := Blk.new (w.alloc (.cells r.cells 34)) 32 r.view
  rwa [show (w.alloc (.cells r.cells 34)).heap.size = w.heap.size + 1 by simp] at this
theorem all_snocP {α : Type} {P : α → Prop} {l : List α} {k : Nat} {x : α} (h : l[k]? = some x) (hall : ∀ y ∈ l.take k, P y) (hx : P x) : ∀ y ∈ l.take (k + 1), P y := by
  obtain ⟨hk, rfl⟩ := List.getElem?_eq_some_iff.1 h
  intro y hy
  rw [List.take_succ_eq_append_getElem hk] at hy
  rcases List.mem_append.1 hy with hy | hy
  · exact hall y hy
  · simp at hy; subst hy; exact hx
theorem getD_at {l : List ByteArray} {k : Nat} (h : k < l.length) : l[k]? = some (l.getD k ByteArray.empty) := by
  rw [List.getElem?_eq_getElem h]; simp [List.getD, h]
set_option maxRecDepth 100000 in
set_option maxHeartbeats 4000000 in
theorem lightReply_any (r : Rep) (q : Rp) (w : World) (hq : RpOpen w r q) :
    Calls Tryd.prog 14 #[.agg r.cells] w fun e w' => e = .returned (.bool (lightP r q)) ∧ Below w.heap.size w w' := by
  have L0 := Lib.hid (LP.start hq)
  have hnp := hq.np
  have hnc := hq.nc
  have HPL : Hid (q.pre.length = r.np) := Lib.hid hq.pre.len
  have HCL : Hid (q.cands.length = r.nc) := Lib.hid hq.cands.len
  clear hq
  obtain ⟨err, ses, Ap, np, cp, caret, Ac, nc, cc, chosen, commit, erase, taken, Ad, nd, cd⟩ := r
  simp only at hnp hnc HPL HCL
  unfold Rep.cells Rep.view at *
  simp only at L0
  by_cases h0 : np ≤ 1100
  · have g0 : (np : Int) ≤ 1100 := by omega
    by_cases h1 : nc ≤ 1000
    · have g1 : (nc : Int) ≤ 1000 := by omega
      by_cases h2 : commit.size ≤ 10000
      · have g2 : (commit.size : Int) ≤ 10000 := by omega
        by_cases h3 : nd ≤ 100000
        · have g3 : (nd : Int) ≤ 100000 := by omega
          clear h0 h1 h2 h3
          go_enter Tryd.func14, Tryd.ntmps14
          go_wp2_with fail
          go_loopw [4] (fun i wr => ∃ k : Nat, k ≤ np ∧ i = .int .i64 (k : Int) ∧ (∀ x ∈ q.pre.take k, x.1.size ≤ 10000) ∧ LP w (⟨err, ses, Ap, np, cp, caret, Ac, nc, cc, chosen, commit, erase, taken, Ad, nd, cd⟩ : Rep) q wr) (fun i _ => np - (intOf i).toNat)
          case atStart => exact ⟨0, Nat.zero_le _, rfl, (fun x hx => by simp at hx), L0.out⟩
          case round =>
            obtain ⟨k, hk, rfl, hall, hlp⟩ := hrel
            have HA := Lib.hid hall
            have S := Lib.hid hlp
            clear hall hlp L0
            by_cases hlt : k < np
            · obtain ⟨ad, ⟨t, a⟩, rfl, hp, _, hc1, _⟩ := S.out.q.pre.at_ hlt
              have HP := Lib.hid hp
              have v0 : wr.cell? ⟨w.heap.size + 1, 0, none⟩ = some (.slice (some ad) np cp) := S.out.view.cell 0
              clear hp
              simp only at hc1
              by_cases ht : t.size ≤ 10000
              · have gt : (t.size : Int) ≤ 10000 := by omega
                have HT := Lib.hid ht
                clear ht
                go_wp2_with fail
                go_roundw
                case rel => exact ⟨k + 1, by omega, by go_num, all_snocP HP.out HA.out HT.out, S.out⟩
                case measure => simp [intOf]; omega
              · have gt : (10000 : Int) < (t.size : Int) := by omega
                have HV : Hid (lightP (⟨err, ses, some ad, np, cp, caret, Ac, nc, cc, chosen, commit, erase, taken, Ad, nd, cd⟩ : Rep) q = false) := Lib.hid (decide_eq_false (fun h => ht (h.2.2.2.2.1 _ (List.mem_of_getElem? HP.out))))
                clear ht
                go_wp2_with fail
                go_ret
                exact ⟨by rw [HV.out]; rfl, S.out.bel⟩
            · have hkn : k = np := by omega
              subst k
              have HA1 : Hid (∀ x ∈ q.pre, x.1.size ≤ 10000) := Lib.hid (by have := HA.out; rwa [List.take_of_length_le (by rw [HPL.out]; omega)] at this)
              have v0 : wr.cell? ⟨w.heap.size + 1, 0, none⟩ = some (.slice Ap np cp) := S.out.view.cell 0
              clear HA
              go_wp2_with fail
              go_loopw [5] (fun i wr => ∃ k : Nat, k ≤ nc ∧ i = .int .i64 (k : Int) ∧ (∀ x ∈ q.cands.take k, x.size ≤ 10000) ∧ LP w (⟨err, ses, Ap, np, cp, caret, Ac, nc, cc, chosen, commit, erase, taken, Ad, nd, cd⟩ : Rep) q wr) (fun i _ => nc - (intOf i).toNat)
              case atStart => exact ⟨0, Nat.zero_le _, rfl, (fun x hx => by simp at hx), S.out⟩
              case round =>
                obtain ⟨k, hk, rfl, hall, hlp⟩ := hrel
                have HA := Lib.hid hall
                have S2 := Lib.hid hlp
                clear hall hlp S v0
                rename World => wq
                by_cases hlt : k < nc
                · obtain ⟨ad, rfl, _, hc1⟩ := S2.out.q.cands.at_ hlt
                  have HP := Lib.hid (getD_at (l := q.cands) (k := k) (by rw [HCL.out]; exact hlt))
                  have v2 : wq.cell? ⟨w.heap.size + 1, 2, none⟩ = some (.slice (some ad) nc cc) := S2.out.view.cell 2
                  generalize q.cands.getD k ByteArray.empty = t at hc1 HP
                  by_cases ht : t.size ≤ 10000
                  · have gt : (t.size : Int) ≤ 10000 := by omega
                    have HT := Lib.hid ht
                    clear ht
                    go_wp2_with fail
                    go_roundw
                    case rel => exact ⟨k + 1, by omega, by go_num, all_snocP HP.out HA.out HT.out, S2.out⟩
                    case measure => simp [intOf]; omega
                  · have gt : (10000 : Int) < (t.size : Int) := by omega
                    have HV : Hid (lightP (⟨err, ses, Ap, np, cp, caret, some ad, nc, cc, chosen, commit, erase, taken, Ad, nd, cd⟩ : Rep) q = false) := Lib.hid (decide_eq_false (fun h => ht (h.2.2.2.2.2 _ (List.mem_of_getElem? HP.out))))
                    clear ht
                    go_wp2_with fail
                    go_ret
                    exact ⟨by rw [HV.out]; rfl, S2.out.bel⟩
                · have hkn : k = nc := by omega
                  subst k
                  have HA2 : Hid (∀ x ∈ q.cands, x.size ≤ 10000) := Lib.hid (by have := HA.out; rwa [List.take_of_length_le (by rw [HCL.out]; omega)] at this)
                  have v2 : wq.cell? ⟨w.heap.size + 1, 2, none⟩ = some (.slice Ac nc cc) := S2.out.view.cell 2
                  have HV : Hid (lightP (⟨err, ses, Ap, np, cp, caret, Ac, nc, cc, chosen, commit, erase, taken, Ad, nd, cd⟩ : Rep) q = true) := Lib.hid (decide_eq_true ⟨by simp only; omega, by simp only; omega, by simp only; omega, by simp only; omega, HA1.out, HA2.out⟩)
                  clear HA
                  go_wp2_with fail
                  go_ret
                  exact ⟨by rw [HV.out]; rfl, S2.out.bel⟩
        · have g3 : (100000 : Int) < (nd : Int) := by omega
          have HV : Hid (lightP (⟨err, ses, Ap, np, cp, caret, Ac, nc, cc, chosen, commit, erase, taken, Ad, nd, cd⟩ : Rep) q = false) := Lib.hid (decide_eq_false (fun h => h3 h.2.2.2.1))
          clear h0 h1 h2 h3
          go_enter Tryd.func14, Tryd.ntmps14
          go_wp2_with fail
          go_ret
          exact ⟨by rw [HV.out]; first | rfl | (simp <;> omega), L0.out.bel⟩
      · have g2 : (10000 : Int) < (commit.size : Int) := by omega
        have HV : Hid (lightP (⟨err, ses, Ap, np, cp, caret, Ac, nc, cc, chosen, commit, erase, taken, Ad, nd, cd⟩ : Rep) q = false) := Lib.hid (decide_eq_false (fun h => h2 h.2.2.1))
        clear h0 h1 h2
        go_enter Tryd.func14, Tryd.ntmps14
        go_wp2_with fail
        go_ret
        exact ⟨by rw [HV.out]; first | rfl | (simp <;> omega), L0.out.bel⟩
    · have g1 : (1000 : Int) < (nc : Int) := by omega
      have HV : Hid (lightP (⟨err, ses, Ap, np, cp, caret, Ac, nc, cc, chosen, commit, erase, taken, Ad, nd, cd⟩ : Rep) q = false) := Lib.hid (decide_eq_false (fun h => h1 h.2.1))
      clear h0 h1
      go_enter Tryd.func14, Tryd.ntmps14
      go_wp2_with fail
      go_ret
      exact ⟨by rw [HV.out]; first | rfl | (simp <;> omega), L0.out.bel⟩
  · have g0 : (1100 : Int) < (np : Int) := by omega
    have HV : Hid (lightP (⟨err, ses, Ap, np, cp, caret, Ac, nc, cc, chosen, commit, erase, taken, Ad, nd, cd⟩ : Rep) q = false) := Lib.hid (decide_eq_false (fun h => h0 h.1))
    clear h0
    go_enter Tryd.func14, Tryd.ntmps14
    go_wp2_with fail
    go_ret
    exact ⟨by rw [HV.out]; first | rfl | (simp <;> omega), L0.out.bel⟩
end Go.Proofs.YtkllfnaofapfnaaDoor.Prot
