/-
  Words for copies in new rows: append onto an empty slice as one step of a region; a step in such rows; a slice of them. Conditions: none.
-/
import Derived.Test.YtebjfigjfhghcaaDoorUndGiven
import Derived.Test.YtebjfigjfhghcaaDoorUndPop
namespace Go.Proofs.YtebjfigjfhghcaaDoor.Und
open Go.RowKit Wd Utf

/-- a slice that is empty or owns its row -/
def Fo (w : World) (lo : Nat) (e : TypeId) (size : Nat) (A : Option Addr) (n c : Nat) (xs : List Value) : Prop := n = 0 ∨ w.ownsRow lo e size (.slice A n c) n xs
section
variable {w w' w0 w1 w2 W : World} {lo lo' g n c size B : Nat} {e t : TypeId} {A : Option Addr} {xs : List Value} {cs : Array Value}
theorem below_via (h : Below B w w0) (hB : B ≤ w0.heap.size) (hc : Below w0.heap.size w0 W) : Below B w W := h.trans (hc.mono hB)
theorem below_go (h : Below B w w1) (hB : B ≤ w1.heap.size) (hc : Below w1.heap.size w1 W) (hb : Below W.heap.size W w2) : Below B w w2 := (h.trans (hc.mono hB)).trans (hb.mono (Nat.le_trans hB hc.size))
theorem blk_go (h : Blk w1 g t cs) (hc : Below w1.heap.size w1 W) (hb : Below W.heap.size W w2) : Blk w2 g t cs := (h.below hc h.lt).below hb (Nat.lt_of_lt_of_le h.lt hc.size)
theorem own_go {v : Value} (h : w1.ownsRow lo e size v n xs) (hc : Below w1.heap.size w1 W) (hb : Below W.heap.size W w2) : w2.ownsRow lo e size v n xs := own_keep (own_keep h hc) hb
theorem Fo.go (h : Fo w1 lo e size A n c xs) (hc : Below w1.heap.size w1 W) (hb : Below W.heap.size W w2) : Fo w2 lo e size A n c xs := h.imp id fun h => own_go h hc hb
theorem Fo.keep (h : Fo w1 lo e size A n c xs) (hc : Below w1.heap.size w1 W) : Fo W lo e size A n c xs := h.imp id fun h => own_keep h hc
theorem Fo.base (h : Fo w2 W.heap.size e size A n c xs) (hz : g < w1.heap.size) (hc : Below w1.heap.size w1 W) : Fo w2 (g + 1) e size A n c xs := h.imp id fun h => own_mono h (Nat.le_trans hz hc.size)
theorem Fo.lower (h : Fo w lo e size A n c xs) (hl : lo' ≤ lo) : Fo w lo' e size A n c xs := h.imp id fun h => own_mono h hl
theorem Fo.set11 (h : Fo w lo e size A n c xs) (hg : g < lo) (b0 b1 b2 b3 b4 b5 b6 b7 b8 b9 b10 : Value) : Fo (((((((((((w.setCell ⟨g, 0, none⟩ b0).setCell ⟨g, 1, none⟩ b1).setCell ⟨g, 2, none⟩ b2).setCell ⟨g, 3, none⟩ b3).setCell ⟨g, 4, none⟩ b4).setCell ⟨g, 5, none⟩ b5).setCell ⟨g, 6, none⟩ b6).setCell ⟨g, 7, none⟩ b7).setCell ⟨g, 8, none⟩ b8).setCell ⟨g, 9, none⟩ b9).setCell ⟨g, 10, none⟩ b10) lo e size A n c xs := h.imp id fun h => own_set11 h hg _ _ _ _ _ _ _ _ _ _ _
theorem Fo.reads (h : Fo w lo e size A n c xs) (hl : xs.length = n * size) : Reads w w.heap.size size A n xs := by
  rcases h with h | h
  · exact ⟨hl, fun hn => absurd hn (by omega)⟩
  · exact Reads.of_own h
theorem Fo.kept {T : TypeId} {s m : Nat} {v : Value} {ys : List Value} (h : Fo w lo e size A n c xs) (hr : w.ownsRow lo' T s v m ys) (hg : w.grownBy w' v.ownBlock) (hT : T ≠ e) : Fo w' lo e size A n c xs := h.imp id fun h => h.kept hg (own_diff hr h hT)
end
/-- a step in such rows -/
structure SpFr (ity : TypeId) (lo : Nat) (w : World) (r : Sp) (q : Stp) : Prop where
  it : Fo w lo ity 2 r.Ai r.ni r.ci (ic q.items)
  bo : Fo w lo 3 1 r.Ab r.nb r.cb (is .i64 q.bounds)
  fx : Fo w lo 4 1 r.Af r.nf r.cf (os q.fixed)
  tx : Fo w lo 9 1 r.At r.nt r.ct (vs q.texts)
  inn : SpIn w r q
section
variable {w w' : World} {ity T : TypeId} {lo lo' s n : Nat} {v : Value} {xs : List Value} {r : Sp} {q : Stp}
theorem SpFr.keep (h : SpFr ity lo w r q) (hb : Below w.heap.size w w') : SpFr ity lo w' r q := ⟨h.it.keep hb, h.bo.keep hb, h.fx.keep hb, h.tx.keep hb, h.inn.keep hb⟩
theorem SpFr.lower (h : SpFr ity lo w r q) (hl : lo' ≤ lo) : SpFr ity lo' w r q := ⟨h.it.lower hl, h.bo.lower hl, h.fx.lower hl, h.tx.lower hl, h.inn⟩
theorem SpFr.of_fo (h : SpIn w r q) (a1 : Fo w' lo ity 2 r.Ai r.ni r.ci (ic q.items)) (a2 : Fo w' lo 3 1 r.Ab r.nb r.cb (is .i64 q.bounds)) (a3 : Fo w' lo 4 1 r.Af r.nf r.cf (os q.fixed)) (a4 : Fo w' lo 9 1 r.At r.nt r.ct (vs q.texts)) : SpFr ity lo w' r q :=
  ⟨a1, a2, a3, a4, ⟨a1.reads h.items.1, a2.reads h.bounds.1, a3.reads h.fixed.1, a4.reads h.texts.1, h.caret, h.pend, h.mode, h.conv, h.focus, h.prev, h.commit, h.ni, h.nb, h.nf, h.nt, h.tcap, h.szi, h.szt, h.szp, h.szv, h.szm⟩⟩
theorem SpFr.kept (h : SpFr ity lo w r q) (hr : w.ownsRow lo' T s v n xs) (hg : w.grownBy w' v.ownBlock) (h1 : T ≠ ity) (h2 : T ≠ 3) (h3 : T ≠ 4) (h4 : T ≠ 9) : SpFr ity lo w' r q :=
  SpFr.of_fo h.inn (h.it.kept hr hg h1) (h.bo.kept hr hg h2) (h.fx.kept hr hg h3) (h.tx.kept hr hg h4)
end
/-- steps in such rows: a row of type T of the call's own -/
structure OF (T ity : TypeId) (lo : Nat) (w : World) (v : Value) (ps : List (Sp × Stp)) : Prop where
  row : w.ownsRow lo T 11 v ps.length (sc ps)
  els : ∀ p ∈ ps, SpFr ity lo w p.1 p.2
section
variable {T ity : TypeId} {w w' : World} {lo : Nat} {v : Value} {ps : List (Sp × Stp)}
theorem OF.nil (T ity : TypeId) (lo : Nat) (w : World) : OF T ity lo w (.slice none 0 0) [] := ⟨World.ownsRow_nil _ _ _ _, fun p hp => by cases hp⟩
theorem OF.keep (h : OF T ity lo w v ps) (hb : Below w.heap.size w w') : OF T ity lo w' v ps := ⟨own_keep h.row hb, fun p hp => (h.els p hp).keep hb⟩
theorem OF.lower {lo' : Nat} (h : OF T ity lo w v ps) (hl : lo' ≤ lo) : OF T ity lo' w v ps := ⟨own_mono h.row hl, fun p hp => (h.els p hp).lower hl⟩
theorem OF.form (h : OF T ity lo w v ps) : ∃ A c, v = .slice A ps.length c ∧ RP w A ps.length ps ∧ ps.length ≤ c := by
  obtain ⟨A, c, rfl, hc⟩ := own_form h.row
  exact ⟨A, c, rfl, ⟨Reads.of_own h.row, fun p hp => (h.els p hp).inn⟩, hc⟩
theorem OF.snoc (h : OF T ity lo w v ps) {p : Sp × Stp} {v' : Value} (hp : SpFr ity lo w p.1 p.2) (hr : w'.ownsRow lo T 11 v' (ps.length + 1) (sc ps ++ p.1.cells.toList)) (hg : w.grownBy w' v.ownBlock) (h1 : T ≠ ity) (h2 : T ≠ 3) (h3 : T ≠ 4) (h4 : T ≠ 9) : OF T ity lo w' v' (ps ++ [p]) := by
  refine ⟨by rw [List.length_append, sc_append]; simpa [sc] using hr, fun q hq => ?_⟩
  rcases List.mem_append.1 hq with hq | hq
  · exact (h.els q hq).kept h.row hg h1 h2 h3 h4
  · simp at hq; subst hq; exact hp.kept h.row hg h1 h2 h3 h4
end
section
variable {P : Program} (w : World)
theorem run_append_empty (t ty e : TypeId) (i : TypeInfo) (z : Value) (size bytes : Nat) (ht : P.underlying t = some (.slice e)) (hi : P.info? e = some i) (hz : i.zero = some z)
    (hsize : i.size = size) (hby : i.bytes = bytes) (hzs : z.cells.size = size) (hsz : 0 < size) (g : Nat)
    (B : Nat) (A : Option Addr) (m c : Nat) (news : List Value) (hr : Reads w B size A m news) (h1 : ∀ u ∈ news, u.oneCell' = true)
    (h63 : m ≤ maxLen) (hbytes : m * bytes ≤ 140737488355328) :
    ∃ A' c' w', (Builtin.append_ #[t, t] ty #[.slice (some ⟨g, 0, none⟩) 0 0, .slice A m c]).run P w = .ok (.slice A' m c') w' ∧ m ≤ c' ∧ Fo w' w.heap.size e size A' m c' news ∧ Below w.heap.size w w' := by
  rcases Nat.eq_zero_or_pos m with h0 | h0
  · subst h0
    have hn : news = [] := List.eq_nil_of_length_eq_zero (by simpa using hr.1)
    subst hn
    refine ⟨some ⟨g, 0, none⟩, 0, w, ?_, Nat.le_refl _, .inl rfl, Below.refl _ _⟩
    rcases A with _ | ad
    · simp [Builtin.append_, run_underlying ht, sizeOf, typeInfo, hi, Builtin.lenOf, Builtin.firstCells, storeCells]
    · have := run_append_room_cells (P := P) w t ty e i ht hi g 0 0 0 ad 0 c [] (by simp) (by intro j u hu; simp at hu) (by intro u hu; cases hu) (Nat.le_refl _) (by intro j hj; simp at hj) (by intro j hj; simp at hj)
      simpa [World.setCells] using this
  · obtain ⟨ad, rfl, _, hc⟩ := hr.2 h0
    obtain ⟨v', w', hrun, hown, hg⟩ := run_append_arg_grows (P := P) w t ty e i z size bytes ht hi hz hsize hby hzs hsz ⟨g, 0, none⟩ 0 0 [] (by simp) (by intro j u hu; simp at hu) ad m c news hr.1 hc (by omega) (by omega) (by rw [Nat.zero_add]; exact hbytes)
    have hown : w'.ownsRow w.heap.size e size v' m news := by simpa using hown
    obtain ⟨A', c', rfl, hcc⟩ := own_form hown
    exact ⟨A', c', w', hrun, hcc, .inr hown, ⟨hg.os, hg.tape, hg.output, hg.size, fun k hk => hg.block k hk (by simp)⟩⟩
theorem step_append_empty {ops : Array Oper} {o : Oper} {a : Act} {K : Act → World → Prop} {Q : Exit → Act → World → Prop} {E : Prop} (hgd : o.guard = none) (s x : Operand) (t : TypeId)
    (ho : o.op = .call { callee := .builtin .append, args := #[s, x], argTypes := #[t, t] })
    (e : TypeId) (i : TypeInfo) (z : Value) (size bytes : Nat) (ht : P.underlying t = some (.slice e)) (hi : P.info? e = some i) (hz : i.zero = some z)
    (hsize : i.size = size) (hby : i.bytes = bytes) (hzs : z.cells.size = size) (hsz : 0 < size)
    (g : Nat) (hs : a.eval s = .slice (some ⟨g, 0, none⟩) 0 0)
    (B : Nat) (A : Option Addr) (m c : Nat) (news : List Value) (hx : a.eval x = .slice A m c) (hr : Reads w B size A m news) (h1 : ∀ u ∈ news, u.oneCell' = true)
    (h63 : m ≤ maxLen) (hbytes : m * bytes ≤ 140737488355328)
    (h : ∀ A' c' w', m ≤ c' → Fo w' w.heap.size e size A' m c' news → Below w.heap.size w w' → K (a.put o.dst (.slice A' m c')) w') :
    if Region.wanted o (yielded ops a.tmps) = true then Oper.wp P o a w K Q else E := by
  have hw : Region.wanted o (yielded ops a.tmps) = true := by simp [Region.wanted, hgd]
  rw [if_pos hw]
  obtain ⟨A', c', w', hrun, h2, h3, h4⟩ := run_append_empty (P := P) w t o.type e i z size bytes ht hi hz hsize hby hzs hsz g B A m c news hr h1 h63 hbytes
  unfold Oper.wp execOp
  simp only [ho, resolve, invoke, builtin, Sem.run_bind, Sem.run_pure, Result.andThen_ok, List.map_toArray, List.map_cons, List.map_nil, hs, hx, hrun]
  exact h A' c' w' h2 h3 h4
end
end Go.Proofs.YtebjfigjfhghcaaDoor.Und
