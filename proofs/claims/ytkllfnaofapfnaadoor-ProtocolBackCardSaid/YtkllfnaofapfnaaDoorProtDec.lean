/-
  Words for the contract of DecodeRequest of package protocol: its memory, how far a reader comes, how DecodeRequest ends. Conditions: none. (Printed by gen/protdec.py.)
-/
import Derived.Test.YtkllfnaofapfnaaDoorProtRdr
import Derived.Test.YtkllfnaofapfnaaDoorProtEncK
import Derived.Lib.ConvBytes
namespace Go.Proofs.YtkllfnaofapfnaaDoor.Prot
open Go.RowKit Wd Utf Cod

/-- no request yet -/
def req0 : Req := ⟨0, 0, 0, 0, ⟨#[]⟩, ⟨#[]⟩, false, ⟨#[]⟩, none, 0, 0, none, 0, 0⟩
/-- the memory of DecodeRequest: the result, the reader, the request that is read -/
structure DE (w : World) (g : Nat) (A : Option Addr) (n c : Nat) (s : St) (r : Req) (wx : World) : Prop where
  res : RqB w.heap.size req0 wx
  rd : Rd wx (w.heap.size + 1) A n c s
  rq : RqB g r wx
  lo : w.heap.size + 1 + 1 ≤ g
  bel : Below w.heap.size w wx
section
variable {w wx wy : World} {g : Nat} {A : Option Addr} {n c : Nat} {s s' : St} {r r' : Req}
theorem DE.step (h : DE w g A n c s r wx) (hu : Upd (w.heap.size + 1) wx wy) (hr : Rd wy (w.heap.size + 1) A n c s') : DE w g A n c s' r wy :=
  ⟨Blk.grown h.res hu (by simp), hr, Blk.grown h.rq hu (by have := h.lo; simp; omega), h.lo, h.bel.trans (hu.below (B := w.heap.size) h.bel.size (by omega))⟩
theorem DE.set_ (h : DE w g A n c s r wx) (i : Nat) (u : Value) (hr : r'.cells = r.cells.setIfInBounds i u) : DE w g A n c s r' (wx.setCell ⟨g, i, none⟩ u) := by
  have hlo := h.lo
  refine ⟨Blk.far h.res (by simp; omega) u, Blk.far h.rd (by simp; omega) u, ?_, h.lo, h.bel.setCell (p := ⟨g, i, none⟩) (by simp; omega) u⟩
  unfold RqB
  rw [hr]
  exact Blk.set_ h.rq i u
theorem DE.keep (h : DE w g A n c s r wx) (hb : Below wx.heap.size wx wy) : DE w g A n c s r wy := ⟨h.res.keep hb, h.rd.keep hb, h.rq.keep hb, h.lo, h.bel.trans (hb.mono h.bel.size)⟩
end
/-- how DecodeRequest ends -/
def DPost (w : World) (l : List UInt8) (e : Ending) (w' : World) : Prop :=
  Below w.heap.size w w' ∧ ∃ (r : Req) (q : Rq) (c : Nat), e = .returned (.tuple #[.agg r.cells, .int .i64 (c : Int)]) ∧ RqIn w' r q ∧ DecR l c q ∧ (∀ ad, r.A7 = some ad → w.heap.size ≤ ad.block) ∧ (∀ ad, r.A8 = some ad → w.heap.size ≤ ad.block) ∧ r.n7 ≤ 8
theorem rU_le {l : List UInt8} {most : Nat} {s : St} (h : s.1 ≤ l.length) : (rU l most s).2.1 ≤ l.length := by
  rcases hb : (rU l most s).2.2 with _ | _
  · exact (rU_sound hb).2.2.2 h
  · unfold rU at hb ⊢
    split
    · split
      · next h1 h2 h3 => rw [h1, h2] at hb; simp only [h3, if_true] at hb; cases hb
      · exact h
    · exact h
theorem rT_le {l : List UInt8} {s : St} (h : s.1 ≤ l.length) : (rT l s).2.1 ≤ l.length := by
  rcases hb : (rT l s).2.2 with _ | _
  · exact (rT_sound hb).2.2 h
  · unfold rT at hb ⊢
    split
    · next h1 h2 => rw [h1, h2] at hb; cases hb
    · exact h
theorem rI_le {l : List UInt8} {s : St} (h : s.1 ≤ l.length) : (rI l s).2.1 ≤ l.length := by
  rcases hb : (rI l s).2.2 with _ | _
  · exact (rI_sound hb).2.2 h
  · unfold rI at hb ⊢
    split
    · next h1 h2 => rw [h1, h2] at hb; cases hb
    · exact h
theorem rU_most {l : List UInt8} {most : Nat} {s : St} : (rU l most s).1 ≤ most := by
  rcases hb : (rU l most s).2.2 with _ | _
  · exact (rU_sound hb).2.1
  · unfold rU
    split
    · split
      · assumption
      · exact Nat.zero_le _
    · exact Nat.zero_le _
theorem rT_len {l : List UInt8} {s : St} (h : s.1 ≤ l.length) : (rT l s).1.length ≤ l.length := by
  rcases hb : (rT l s).2.2 with _ | _
  · obtain ⟨_, h2, _⟩ := rT_sound hb
    have := congrArg List.length h2
    unfold putT at this
    simp only [List.length_append, List.length_drop] at this
    omega
  · unfold rT at hb ⊢
    split
    · next h1 h2 => rw [h1, h2] at hb; cases hb
    · exact Nat.zero_le _
theorem ba_len (l : List UInt8) : (ba l).size = l.length := by unfold ba; simp [ByteArray.size]
theorem cellsReq0 : #[.int .i64 0, .int .i64 0, .int .i64 0, .int .u8 0, .string ⟨#[]⟩, .string ⟨#[]⟩, .bool false, .string ⟨#[]⟩, .slice none 0 0, .slice none 0 0] = req0.cells := rfl
theorem rqIn0 (w : World) : RqIn w req0 rq0 := ⟨RI.nil _ _, sb_nil _, ⟨rfl, rfl, rfl, rfl, rfl, rfl, rfl, rfl, rfl, rfl, rfl⟩, by decide, by decide, by decide, by decide, by decide, by decide⟩
theorem DPost.bad {w w' : World} {l : List UInt8} (hb : Below w.heap.size w w') (h : DecR l 5 rq0) : DPost w l (.returned (.tuple #[.agg req0.cells, .int .i64 5])) w' :=
  ⟨hb, req0, rq0, 5, rfl, rqIn0 _, h, (fun ad h => by cases h), (fun ad h => by cases h), by decide⟩
theorem Reads.upd {w w' : World} {size n g : Nat} {A : Option Addr} {xs : List Value} (h : Reads w w.heap.size size A n xs) (hu : Upd g w w') (hA : ∀ ad, A = some ad → ad.block ≠ g) : Reads w' w'.heap.size size A n xs :=
  ⟨h.1, fun hn => by
    obtain ⟨ad, e, hb, hc⟩ := h.2 hn
    exact ⟨ad, e, Nat.lt_of_lt_of_le hb hu.size, fun j u hj => (World.cell?_of_block (hu.block _ (by rw [block_of_add]; exact hb) (by rw [block_of_add]; simpa using hA ad e))).trans (hc j u hj)⟩⟩
theorem SB.upd {w w' : World} {n c g : Nat} {A : Option Addr} {l : List UInt8} (h : SB w A n c l) (hu : Upd g w w') (hA : ∀ ad, A = some ad → ad.block ≠ g) : SB w' A n c l := ⟨Reads.upd h.rb hu hA, h.cap, h.nil⟩
theorem RqIn.upd {w w' : World} {g : Nat} {r : Req} {q : Rq} (h : RqIn w r q) (hu : Upd g w w') (h7 : ∀ ad, r.A7 = some ad → ad.block ≠ g) (h8 : ∀ ad, r.A8 = some ad → ad.block ≠ g) : RqIn w' r q :=
  ⟨Reads.upd h.seen hu h7, SB.upd h.data hu h8, h.is, h.n7, h.n8, h.bef, h.sel, h.sur, h.kc⟩
theorem own_upd {w w2 : World} {base n size g : Nat} {e : TypeId} {v : Value} {xs : List Value} (h : w.ownsRow base e size v n xs) (hu : Upd g w w2) (hg : g < base) : w2.ownsRow base e size v n xs :=
  World.ownsRow.kept (row := some g) h hu (by
    cases hv : v.ownBlock with
    | none => exact .inl rfl
    | some x => exact .inr (by have := (h.lt x hv).1; simp; omega))
theorem own_block_le {w : World} {base n c size : Nat} {e : TypeId} {A : Option Addr} {xs : List Value} (h : w.ownsRow base e size (.slice A n c) n xs) : ∀ ad, A = some ad → base ≤ ad.block := by
  intro ad hA
  subst hA
  exact (h.lt ad.block rfl).1
theorem own_nil (w : World) (base : Nat) (e : TypeId) (size : Nat) : w.ownsRow base e size (.slice none 0 0) 0 [] := ⟨by simp, .inl ⟨rfl, rfl⟩⟩
theorem DE.grow {w wx wy : World} {g : Nat} {A : Option Addr} {n c : Nat} {s : St} {r : Req} (h : DE w g A n c s r wx) {row : Option Nat} (hg : wx.grownBy wy row) (hr : ∀ k, row = some k → g < k) : DE w g A n c s r wy := by
  have hlo := h.lo
  refine ⟨Blk.grown h.res hg ?_, Blk.grown h.rd hg ?_, Blk.grown h.rq hg ?_, h.lo, h.bel.grown hg h.bel.size (fun k hk => by have := hr k hk; omega)⟩
  all_goals
    intro e
    have := hr _ e.symm
    omega
theorem DE.alloc {w wx : World} {g : Nat} {A : Option Addr} {n c : Nat} {s : St} {r : Req} (h : DE w g A n c s r wx) (o : Obj) : DE w g A n c s r (wx.alloc o) := h.keep ((Below.refl _ _).alloc (Nat.le_refl _) o)
theorem rMany_len {l : List UInt8} {most : Nat} : ∀ (k : Nat) (s : St), (rMany l most k s).1.length = k
  | 0, s => rfl
  | k + 1, s => by
    unfold rMany
    simp only [List.length_cons]
    rw [rMany_len k]
theorem rMany_le {l : List UInt8} {most k : Nat} {s : St} (h : s.1 ≤ l.length) : (rMany l most k s).2.1 ≤ l.length := by
  induction k generalizing s with
  | zero => exact h
  | succ k ih =>
    unfold rMany
    exact ih (rU_le h)
/-- what a round of reading numbers keeps -/
def P7 (w : World) (g : Nat) (A : Option Addr) (n c : Nat) (l : List UInt8) (cnt : Nat) (zs : List Int) (s3 : St) (i : Value) (wr : World) : Prop :=
  ∃ (j : Nat) (A7 : Option Addr) (c7 : Nat) (ys rest : List Int) (s : St), j ≤ cnt ∧ i = .int .i64 (j : Int) ∧ DE w g A n c s ⟨7, 0, 0, 0, ⟨#[]⟩, ⟨#[]⟩, false, ⟨#[]⟩, A7, j, c7, none, 0, 0⟩ wr ∧
    wr.ownsRow (g + 1) 3 1 (.slice A7 j c7) j (is .i64 ys) ∧ zs = ys ++ rest ∧ rMany l 1099511627776 (cnt - j) s = (rest, s3) ∧ s.1 ≤ n
theorem infoInt : (Tryd.prog.info? 3).map (fun i => (i.zero, i.size, i.bytes)) = some (some (.int .i64 0), 1, 8) := by kernel_rfl
/-- '[]byte(s)' -/
theorem conv_bytes (w : World) (da : List UInt8) : ∃ W c, (convert 9 25 (.string (ba da))).run Tryd.prog w = .ok (.slice (some ⟨w.heap.size, 0, none⟩) da.length c) W ∧ Below w.heap.size w W ∧ SB W (some ⟨w.heap.size, 0, none⟩) da.length c da := by
  have hsz : (ba da).size = da.length := by unfold ba; simp [ByteArray.size]
  refine ⟨Lib.bytesWorld w 5 (ba da), grownCap w (ba da).size 0 5, ?_, ⟨rfl, rfl, rfl, by rw [Lib.bytesWorld_size]; omega, fun k hk => Lib.bytesWorld_at_old w _ _ k hk⟩, ⟨⟨?_, fun _ => ⟨_, rfl, by rw [Lib.bytesWorld_size]; simp, fun j u hj => ?_⟩⟩, by rw [← hsz]; exact grownCap_ge _ _ _ _, (fun h => by cases h)⟩⟩
  · rw [← hsz]
    exact Lib.run_convert_string_bytes w _ _ 5 (ba da) Tryd.underlying9 Tryd.underlying25 Tryd.underlying5
  · rw [bs_length]; omega
  · have hlt : j < da.length := by
      rcases Nat.lt_or_ge j da.length with h' | h'
      · exact h'
      · rw [List.getElem?_eq_none (by rw [bs_length]; exact h')] at hj; cases hj
    have ha : (⟨w.heap.size, 0, none⟩ : Addr).add j = ⟨w.heap.size, j, none⟩ := by
      unfold Addr.add; by_cases h : j = 0 <;> simp [h]
    rw [ha, Lib.bytesWorld_cell w 5 (ba da) j (by rw [hsz]; exact hlt), ← hj, bs_at da j hlt]
    simp [ba, List.getD, hlt]
/-- the memory when all was read -/
structure DQ (w : World) (g : Nat) (A : Option Addr) (n c : Nat) (s : St) (r : Req) (q : Rq) (wx : World) : Prop where
  de : DE w g A n c s r wx
  q : RqIn wx r q
  f7 : ∀ ad, r.A7 = some ad → w.heap.size < ad.block
  f8 : ∀ ad, r.A8 = some ad → w.heap.size < ad.block
  n7 : r.n7 ≤ 8
theorem DPost.good {w w1 w' : World} {l : List UInt8} {g : Nat} {A : Option Addr} {n c : Nat} {s : St} {r : Req} {q : Rq} (h : DQ w g A n c s r q w1) (hb : Below w.heap.size w w') (hq : RqIn w' r q) (hd : DecR l 0 q) : DPost w l (.returned (.tuple #[.agg r.cells, .int .i64 0])) w' :=
  ⟨hb, r, q, 0, rfl, hq, hd, (fun ad e => Nat.le_of_lt (h.f7 ad e)), (fun ad e => Nat.le_of_lt (h.f8 ad e)), h.n7⟩
end Go.Proofs.YtkllfnaofapfnaaDoor.Prot
