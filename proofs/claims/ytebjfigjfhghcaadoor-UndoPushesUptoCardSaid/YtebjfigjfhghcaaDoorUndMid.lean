/-
  What stays while steps are spoiled: rows above the marks, rows of steps. Conditions: none. (Printed by gen/undmid.py.)
-/
import Derived.Test.YtebjfigjfhghcaaDoorUndSpoil
import Derived.Test.YtebjfigjfhghcaaDoorUndFr
namespace Go.Proofs.YtebjfigjfhghcaaDoor.Und
open Go.RowKit Wd Utf

section
variable {w w' : World} {lo hi base n c size : Nat} {e T ity : TypeId} {A : Option Addr} {v : Value} {xs : List Value} {r : Sp} {q : Stp} {ps : List (Sp × Stp)}
theorem own_mid (h : w.ownsRow base e size v n xs) (hm : Mid lo hi w w') (hb : hi ≤ base) : w'.ownsRow base e size v n xs := by
  refine ⟨h.1, ?_⟩
  rcases h.2 with hn | ⟨g, cap, cur, hv, hg, hh, rest⟩
  · exact .inl hn
  · exact .inr ⟨g, cap, cur, hv, hg, (hm.block g (blt hh) (.inr (Nat.le_trans hb hg))).trans hh, rest⟩
theorem Fo.mid (h : Fo w base e size A n c xs) (hm : Mid lo hi w w') (hb : hi ≤ base) : Fo w' base e size A n c xs := h.imp id fun h => own_mid h hm hb
theorem SpFr.mid (h : SpFr ity base w r q) (hm : Mid lo hi w w') (hb : hi ≤ base) : SpFr ity base w' r q := SpFr.of_fo h.inn (h.it.mid hm hb) (h.bo.mid hm hb) (h.fx.mid hm hb) (h.tx.mid hm hb)
theorem OF.mid (h : OF T ity base w v ps) (hm : Mid lo hi w w') (hb : hi ≤ base) : OF T ity base w' v ps := ⟨own_mid h.row hm hb, fun p hp => (h.els p hp).mid hm hb⟩
theorem Blk.midl {g : Nat} {t : TypeId} {cs : Array Value} (h : Blk w g t cs) (hm : Mid lo hi w w') (hg : g < lo) : Blk w' g t cs := (hm.block g h.lt (.inl hg)).trans h
theorem cell_of_block {W : World} {a : Addr} (h : W.heap[a.block]? = w.heap[a.block]?) : W.cell? a = w.cell? a := by
  unfold World.cell?
  rw [h]
/-- a step of a tail, in every world in which its row stays -/
theorem PL.at_ {k : Nat} (h : PL 31 ity lo w (.slice A n c) ps) (hk : k < n) : ∃ ad p, A = some ad ∧ ps[k]? = some p ∧ (∃ cur, w.heap[ad.block]? = some (Obj.cells cur 31)) ∧ ∀ W : World, W.heap[ad.block]? = w.heap[ad.block]? →
    W.cell? (ad.add (k * 11)) = some (.slice p.1.Ai p.1.ni p.1.ci) ∧ W.cell? ⟨(ad.add (k * 11)).block, (ad.add (k * 11)).off + 1, none⟩ = some (.int .i64 p.1.caret) ∧ W.cell? ⟨(ad.add (k * 11)).block, (ad.add (k * 11)).off + 2, none⟩ = some (.string p.1.pend) ∧ W.cell? ⟨(ad.add (k * 11)).block, (ad.add (k * 11)).off + 3, none⟩ = some (.int .i64 p.1.mode) ∧ W.cell? ⟨(ad.add (k * 11)).block, (ad.add (k * 11)).off + 4, none⟩ = some (.bool p.1.conv) ∧ W.cell? ⟨(ad.add (k * 11)).block, (ad.add (k * 11)).off + 5, none⟩ = some (.slice p.1.Ab p.1.nb p.1.cb) ∧ W.cell? ⟨(ad.add (k * 11)).block, (ad.add (k * 11)).off + 6, none⟩ = some (.slice p.1.Af p.1.nf p.1.cf) ∧ W.cell? ⟨(ad.add (k * 11)).block, (ad.add (k * 11)).off + 7, none⟩ = some (.slice p.1.At p.1.nt p.1.ct) ∧ W.cell? ⟨(ad.add (k * 11)).block, (ad.add (k * 11)).off + 8, none⟩ = some (.int .i64 p.1.focus) ∧ W.cell? ⟨(ad.add (k * 11)).block, (ad.add (k * 11)).off + 9, none⟩ = some (.string p.1.prev) ∧ W.cell? ⟨(ad.add (k * 11)).block, (ad.add (k * 11)).off + 10, none⟩ = some (.string p.1.commit) := by
  obtain ⟨A', c', e, hrp, _⟩ := h.form
  injection e with e1 e2 e3
  subst e1 e2
  obtain ⟨ad, p, rfl, hp, hb, hin, h0, h1, h2, h3, h4, h5, h6, h7, h8, h9, h10⟩ := hrp.at_ hk
  refine ⟨ad, p, rfl, hp, ?_, fun W hW => ?_⟩
  · obtain ⟨A0, c0, d, c1, full, g1, g2, g3, g4, g5⟩ := h.cut
    injection g3 with g3 _ _
    rcases g1.row.2 with ⟨g6, g7⟩ | ⟨g, cap, cur, g6, _, g7, _⟩
    · injection g6 with g6 _ _
      rw [g6] at g3
      cases g3
    · injection g6 with g6 _ _
      rw [g6] at g3
      injection g3 with g3
      refine ⟨cur, ?_⟩
      rw [g3, block_of_add]
      exact g7
  · have hc : ∀ j, W.cell? ⟨(ad.add (k * 11)).block, j, none⟩ = w.cell? ⟨(ad.add (k * 11)).block, j, none⟩ := fun j => cell_of_block (by show W.heap[(ad.add (k * 11)).block]? = w.heap[(ad.add (k * 11)).block]?; rw [block_of_add]; exact hW)
    exact ⟨(cell_of_block (by rw [block_of_add]; exact hW)).trans h0, (hc _).trans h1, (hc _).trans h2, (hc _).trans h3, (hc _).trans h4, (hc _).trans h5, (hc _).trans h6, (hc _).trans h7, (hc _).trans h8, (hc _).trans h9, (hc _).trans h10⟩
end
theorem pop_push {l : List Stp} {q : Stp} (h : (l ++ [q]).all okB = true) : popV (pushV (l ++ [q])) = (l.drop (l.length - 15), q, true) := by
  have e : lastN 16 (l ++ [q]) = l.drop (l.length - 15) ++ [q] := by
    unfold lastN
    rw [List.length_append, List.drop_append]
    have e1 : l.length + [q].length - 16 = l.length - 15 := by simp only [List.length_cons, List.length_nil]; omega
    rw [e1, Nat.sub_eq_zero_of_le (Nat.sub_le _ _)]
    rfl
  have ho : okB q = true := List.all_eq_true.1 h q (List.mem_append_right _ (List.mem_singleton.2 rfl))
  rw [pushV_ok h, e, popV_ok (n := (l.drop (l.length - 15)).length) (q := q) (by simp) (by rw [List.getElem?_append_right (Nat.le_refl _), Nat.sub_self]; rfl) ho, List.take_left]
end Go.Proofs.YtebjfigjfhghcaaDoor.Und
