/-
  Words for memory, over any program: a slice that reads as a list of cells, nil let in; an append onto a row of the call's own from such a slice. Conditions: none. (Turned from the guide's ready lemmas on words for memory.)
-/
import Derived.Test.YtebjfigjfhghcaaDoorRows
import Derived.WalkKit
import Derived.ProofKit
import Derived.Below
import Derived.Laws.OwnMore
import Derived.Deep.AppendLies
import Derived.Deep.Draws
import Derived.Maps.AppendAt
import Derived.RegionTactic
import Derived.OwnWalk
import Derived.ArgAppend
import Derived.Lib.Hide
import Derived.Laws.BytesArg
namespace Go.Proofs.YtebjfigjfhghcaaDoor.Wd
open Go.RowKit

theorem block_of_add (a : Addr) (n : Nat) : (a.add n).block = a.block := by unfold Addr.add; split <;> rfl
theorem add_of_add (a : Addr) (i j : Nat) : (a.add i).add j = a.add (i + j) := by
  unfold Addr.add
  by_cases hi : i = 0 <;> by_cases hj : j = 0 <;> simp [hi, hj, Nat.add_assoc]

/-- the slice value '.slice A n c' holds the cells xs and lies below block B -/
def Reads (w : World) (B size : Nat) (A : Option Addr) (n : Nat) (xs : List Value) : Prop :=
  xs.length = n * size ∧ (0 < n → ∃ ad, A = some ad ∧ ad.block < B ∧ ∀ j u, xs[j]? = some u → w.cell? (ad.add j) = some u)

section
variable {w w' : World} {B B' size n : Nat} {A : Option Addr} {xs : List Value}
theorem Reads.none_ : Reads w B size A 0 [] := ⟨by simp, fun h => absurd h (by omega)⟩
theorem Reads.at_ {k : Nat} (h : Reads w B 1 A n xs) (hk : k < n) : ∃ ad u, A = some ad ∧ ad.block < B ∧ xs[k]? = some u ∧ w.cell? (ad.add k) = some u := by
  obtain ⟨ad, e, hb, hc⟩ := h.2 (by omega)
  have hl : k < xs.length := by have := h.1; omega
  exact ⟨ad, xs[k], e, hb, List.getElem?_eq_getElem hl, hc k _ (List.getElem?_eq_getElem hl)⟩
theorem Reads.keep (h : Reads w B size A n xs) (hk : ∀ p : Addr, p.block < B → w'.cell? p = w.cell? p) : Reads w' B size A n xs :=
  ⟨h.1, fun hn => by
    obtain ⟨ad, e, hb, hc⟩ := h.2 hn
    exact ⟨ad, e, hb, fun j u hu => (hk _ (by rw [block_of_add]; exact hb)).trans (hc j u hu)⟩⟩
theorem Reads.more (h : Reads w B size A n xs) (hB : B ≤ B') : Reads w B' size A n xs :=
  ⟨h.1, fun hn => by
    obtain ⟨ad, e, hb, hc⟩ := h.2 hn
    exact ⟨ad, e, by omega, hc⟩⟩
theorem Reads.below (h : Reads w B size A n xs) (hb : Below B w w') : Reads w' B size A n xs := h.keep fun _ hp => hb.cell hp
theorem Reads.drew (h : Reads w B size A n xs) : Reads w.drew B size A n xs := h
theorem Reads.drewN (h : Reads w B size A n xs) (k : Nat) : Reads (w.drewN k) B size A n xs := h
theorem Reads.alloc (h : Reads w B size A n xs) (hB : B ≤ w.heap.size) (o : Obj) : Reads (w.alloc o) B size A n xs := h.keep fun p hp => World.cell?_alloc_lt w o p (by omega)
theorem Reads.setCell (h : Reads w B size A n xs) {p : Addr} (hB : B ≤ p.block) (u : Value) : Reads (w.setCell p u) B size A n xs :=
  h.keep fun q hq => World.cell?_setCell_other w p q u (fun e => by subst e; omega)
theorem Reads.grown (h : Reads w B size A n xs) {row : Option Nat} (hg : w.grownBy w' row) (hB : B ≤ w.heap.size) (hr : ∀ g, row = some g → B ≤ g) : Reads w' B size A n xs :=
  h.keep fun p hp => World.cell?_of_block (hg.block p.block (by omega) (fun e => by have := hr _ e.symm; omega))
theorem Reads.cut (h : Reads w B size A n xs) {k cap : Nat} (hk : k ≤ n) (hc : n ≤ cap) :
    Reads w B size (if cap = k then A else A.map (·.add (k * size))) (n - k) (xs.drop (k * size)) := by
  refine ⟨by rw [List.length_drop, h.1, Nat.sub_mul], fun hn => ?_⟩
  obtain ⟨ad, rfl, hb, hcell⟩ := h.2 (by omega)
  rw [if_neg (by omega)]
  refine ⟨ad.add (k * size), rfl, by rw [block_of_add]; exact hb, fun j u hu => ?_⟩
  rw [add_of_add]
  exact hcell _ u (by rw [← hu, List.getElem?_drop])
theorem Reads.upto (h : Reads w B size A n xs) {k : Nat} (hk : k ≤ n) : Reads w B size A k (xs.take (k * size)) := by
  have hm : k * size ≤ n * size := Nat.mul_le_mul hk (Nat.le_refl _)
  refine ⟨by rw [List.length_take, h.1]; omega, fun hn => ?_⟩
  obtain ⟨ad, rfl, hb, hcell⟩ := h.2 (by omega)
  refine ⟨ad, rfl, hb, fun j u hu => hcell j u ?_⟩
  rw [List.getElem?_take] at hu
  split at hu
  · exact hu
  · cases hu
theorem Reads.of_own {base : Nat} {e : TypeId} {c : Nat} (h : w.ownsRow base e size (.slice A n c) n xs) : Reads w w.heap.size size A n xs := by
  refine ⟨h.1, fun hn => ?_⟩
  obtain ⟨g, cap, hv, _, hlt⟩ := h.form hn
  have hA : A = some ⟨g, 0, none⟩ := by injection hv
  subst hA
  exact ⟨_, rfl, hlt, h.cells (g := g) rfl⟩
end

section
variable {P : Program} (w : World)

theorem run_append_of_nil (base : Nat) (t ty e : TypeId) (i : TypeInfo) (size : Nat) (ht : P.underlying t = some (.slice e)) (hi : P.info? e = some i)
    (v : Value) (n : Nat) (xs : List Value) (hown : w.ownsRow base e size v n xs) (c : Nat) : (Builtin.append_ #[t, t] ty #[v, .slice none 0 c]).run P w = .ok v w := by
  rcases hown.2 with ⟨rfl, rfl⟩ | ⟨g, cap, cur, rfl, _, _, hnc, _⟩
  · simp [Builtin.append_, run_underlying ht, sizeOf, typeInfo, hi, Builtin.lenOf, Builtin.firstCells]
  · simp [Builtin.append_, run_underlying ht, sizeOf, typeInfo, hi, Builtin.lenOf, Builtin.firstCells, hnc, storeCells]

theorem run_append_any (base : Nat) (t ty e : TypeId) (i : TypeInfo) (z : Value) (size bytes : Nat) (ht : P.underlying t = some (.slice e)) (hi : P.info? e = some i) (hz : i.zero = some z)
    (hsize : i.size = size) (hby : i.bytes = bytes) (hzs : z.cells.size = size) (hsz : 0 < size)
    (v : Value) (n : Nat) (xs : List Value) (hown : w.ownsRow base e size v n xs)
    (B : Nat) (A : Option Addr) (m c : Nat) (news : List Value) (hr : Reads w B size A m news) (h1 : ∀ u ∈ news, u.oneCell' = true)
    (h63 : n + m ≤ maxLen) (hbytes : (n + m) * bytes ≤ 140737488355328) (hbase : base ≤ w.heap.size) :
    ∃ v' w', (Builtin.append_ #[t, t] ty #[v, .slice A m c]).run P w = .ok v' w' ∧ w'.ownsRow base e size v' (n + m) (xs ++ news) ∧ w.grownBy w' v.ownBlock ∧
      (v'.ownBlock = v.ownBlock ∨ v'.ownBlock = some w.heap.size) := by
  rcases A with _ | ad
  · have hm : m = 0 := by
      rcases Nat.eq_zero_or_pos m with h0 | h0
      · exact h0
      · obtain ⟨ad, h, _⟩ := hr.2 h0
        cases h
    subst hm
    have hn : news = [] := List.eq_nil_of_length_eq_zero (by simpa using hr.1)
    subst hn
    exact ⟨v, w, run_append_of_nil w base t ty e i size ht hi v n xs hown c, by simpa using hown, World.grownBy.refl w _, .inl rfl⟩
  · have hcells : ∀ j u, news[j]? = some u → w.cell? (ad.add j) = some u := by
      intro j u hu
      rcases Nat.eq_zero_or_pos m with h0 | h0
      · subst h0
        have hn : news = [] := List.eq_nil_of_length_eq_zero (by simpa using hr.1)
        subst hn
        simp at hu
      · obtain ⟨ad', h, _, hc⟩ := hr.2 h0
        injection h with h
        subst h
        exact hc j u hu
    obtain ⟨v', w', hrun, h2, h3, _, h5⟩ := run_append_own_at (P := P) w base t ty e i z size bytes ht hi hz hsize hby hzs hsz v n xs hown ad m c news hr.1 hcells h1 h63 hbytes hbase
    exact ⟨v', w', hrun, h2, h3, h5⟩

theorem wp_append_any {o : Oper} {a : Act} {K : Act → World → Prop} {Q : Exit → Act → World → Prop} (s x : Operand) (t : TypeId)
    (ho : o.op = .call { callee := .builtin .append, args := #[s, x], argTypes := #[t, t] })
    (base : Nat) (e : TypeId) (i : TypeInfo) (z : Value) (size bytes : Nat) (ht : P.underlying t = some (.slice e)) (hi : P.info? e = some i) (hz : i.zero = some z)
    (hsize : i.size = size) (hby : i.bytes = bytes) (hzs : z.cells.size = size) (hsz : 0 < size)
    (v : Value) (n : Nat) (xs : List Value) (hs : a.eval s = v) (hown : w.ownsRow base e size v n xs)
    (B : Nat) (A : Option Addr) (m c : Nat) (news : List Value) (hx : a.eval x = .slice A m c) (hr : Reads w B size A m news) (h1 : ∀ u ∈ news, u.oneCell' = true)
    (h63 : n + m ≤ maxLen) (hbytes : (n + m) * bytes ≤ 140737488355328) (hbase : base ≤ w.heap.size)
    (h : ∀ v' w', w'.ownsRow base e size v' (n + m) (xs ++ news) → w.grownBy w' v.ownBlock → (v'.ownBlock = v.ownBlock ∨ v'.ownBlock = some w.heap.size) → K (a.put o.dst v') w') : o.wp P a w K Q := by
  obtain ⟨v', w', hrun, h2, h3, h4⟩ := run_append_any (P := P) w base t o.type e i z size bytes ht hi hz hsize hby hzs hsz v n xs hown B A m c news hr h1 h63 hbytes hbase
  unfold Oper.wp execOp
  simp only [ho, resolve, invoke, builtin, Sem.run_bind, Sem.run_pure, Result.andThen_ok, List.map_toArray, List.map_cons, List.map_nil, hs, hx, hrun]
  exact h v' w' h2 h3 h4

theorem wpList_append_any {ops : Array Oper} {rest : List Oper} {o : Oper} {a : Act} {Q : Exit → Act → World → Prop} (hgd : o.guard = none) (s x : Operand) (t : TypeId)
    (ho : o.op = .call { callee := .builtin .append, args := #[s, x], argTypes := #[t, t] })
    (base : Nat) (e : TypeId) (i : TypeInfo) (z : Value) (size bytes : Nat) (ht : P.underlying t = some (.slice e)) (hi : P.info? e = some i) (hz : i.zero = some z)
    (hsize : i.size = size) (hby : i.bytes = bytes) (hzs : z.cells.size = size) (hsz : 0 < size)
    (v : Value) (n : Nat) (xs : List Value) (hs : a.eval s = v) (hown : w.ownsRow base e size v n xs)
    (B : Nat) (A : Option Addr) (m c : Nat) (news : List Value) (hx : a.eval x = .slice A m c) (hr : Reads w B size A m news) (h1 : ∀ u ∈ news, u.oneCell' = true)
    (h63 : n + m ≤ maxLen) (hbytes : (n + m) * bytes ≤ 140737488355328) (hbase : base ≤ w.heap.size)
    (h : ∀ v' w', w'.ownsRow base e size v' (n + m) (xs ++ news) → w.grownBy w' v.ownBlock → (v'.ownBlock = v.ownBlock ∨ v'.ownBlock = some w.heap.size) → wpList P ops Q rest (a.put o.dst v') w') : wpList P ops Q (o :: rest) a w :=
  wpList_plain hgd fun _ hK => wp_append_any w s x t ho base e i z size bytes ht hi hz hsize hby hzs hsz v n xs hs hown B A m c news hx hr h1 h63 hbytes hbase fun v' w' h2 h3 h4 => hK _ _ (h v' w' h2 h3 h4)

theorem step_append_any {ops : Array Oper} {o : Oper} {a : Act} {K : Act → World → Prop} {Q : Exit → Act → World → Prop} {E : Prop} (hgd : o.guard = none) (s x : Operand) (t : TypeId)
    (ho : o.op = .call { callee := .builtin .append, args := #[s, x], argTypes := #[t, t] })
    (base : Nat) (e : TypeId) (i : TypeInfo) (z : Value) (size bytes : Nat) (ht : P.underlying t = some (.slice e)) (hi : P.info? e = some i) (hz : i.zero = some z)
    (hsize : i.size = size) (hby : i.bytes = bytes) (hzs : z.cells.size = size) (hsz : 0 < size)
    (v : Value) (n : Nat) (xs : List Value) (hs : a.eval s = v) (hown : w.ownsRow base e size v n xs)
    (B : Nat) (A : Option Addr) (m c : Nat) (news : List Value) (hx : a.eval x = .slice A m c) (hr : Reads w B size A m news) (h1 : ∀ u ∈ news, u.oneCell' = true)
    (h63 : n + m ≤ maxLen) (hbytes : (n + m) * bytes ≤ 140737488355328) (hbase : base ≤ w.heap.size)
    (h : ∀ v' w', w'.ownsRow base e size v' (n + m) (xs ++ news) → w.grownBy w' v.ownBlock → (v'.ownBlock = v.ownBlock ∨ v'.ownBlock = some w.heap.size) → K (a.put o.dst v') w') :
    if Region.wanted o (yielded ops a.tmps) = true then Oper.wp P o a w K Q else E := by
  have hw : Region.wanted o (yielded ops a.tmps) = true := by simp [Region.wanted, hgd]
  rw [if_pos hw]
  exact wp_append_any w s x t ho base e i z size bytes ht hi hz hsize hby hzs hsz v n xs hs hown B A m c news hx hr h1 h63 hbytes hbase h
end

/-- block g is just the cells cs of element type t, none frozen -/
def Blk (w : World) (g : Nat) (t : TypeId) (cs : Array Value) : Prop := w.heap[g]? = some (.cells cs t (0, 0))
section
variable {w w' : World} {g : Nat} {t : TypeId} {cs : Array Value}
theorem Blk.lt (h : Blk w g t cs) : g < w.heap.size := by
  rcases Nat.lt_or_ge g w.heap.size with hlt | hge
  · exact hlt
  · unfold Blk at h; rw [Array.getElem?_eq_none hge] at h; cases h
theorem Blk.cell (h : Blk w g t cs) (i : Nat) : w.cell? ⟨g, i, none⟩ = cs[i]? := cell_of_row w g i cs t (0, 0) h
theorem Blk.frozen (h : Blk w g t cs) (i : Nat) : w.frozen? ⟨g, i, none⟩ = false := by
  unfold Blk at h
  simp [World.frozen?, h]
theorem Blk.new (w : World) (t : TypeId) (cs : Array Value) : Blk (w.alloc (.cells cs t)) w.heap.size t cs := heap_alloc_new w _
theorem Blk.drew (h : Blk w g t cs) : Blk w.drew g t cs := h
theorem Blk.drewN (h : Blk w g t cs) (n : Nat) : Blk (w.drewN n) g t cs := h
theorem Blk.alloc (h : Blk w g t cs) (o : Obj) : Blk (w.alloc o) g t cs := (Below.heap_alloc w o g h.lt).trans h
theorem Blk.set_ (h : Blk w g t cs) (i : Nat) (u : Value) : Blk (w.setCell ⟨g, i, none⟩ u) g t (cs.setIfInBounds i u) := by
  unfold Blk at h ⊢
  simp [World.setCell, Array.getElem?_modify, h]
theorem Blk.far (h : Blk w g t cs) {p : Addr} (hp : g ≠ p.block) (u : Value) : Blk (w.setCell p u) g t cs := (Below.heap_setCell w p u g hp).trans h
theorem Blk.below {B : Nat} (h : Blk w g t cs) (hb : Below B w w') (hg : g < B) : Blk w' g t cs := (hb.block g hg).trans h
theorem Blk.grown {row : Option Nat} (h : Blk w g t cs) (hb : w.grownBy w' row) (hg : some g ≠ row) : Blk w' g t cs := (hb.block g h.lt hg).trans h
end

/-- w' is w with new blocks, and with writes to block g alone -/
def Upd (g : Nat) (w w' : World) : Prop := w.grownBy w' (some g)
section
variable {w w' w2 : World} {g : Nat}
theorem Upd.refl (g : Nat) (w : World) : Upd g w w := World.grownBy.refl w _
theorem Upd.trans (h1 : Upd g w w') (h2 : Upd g w' w2) : Upd g w w2 :=
  ⟨h2.os.trans h1.os, h2.tape.trans h1.tape, h2.output.trans h1.output, Nat.le_trans h1.size h2.size, fun k hk hne => (h2.block k (Nat.lt_of_lt_of_le hk h1.size) hne).trans (h1.block k hk hne)⟩
theorem Upd.drewN (h : Upd g w w') (n : Nat) : Upd g w (w'.drewN n) := ⟨h.os, h.tape, h.output, h.size, h.block⟩
theorem Upd.drew (h : Upd g w w') : Upd g w w'.drew := ⟨h.os, h.tape, h.output, h.size, h.block⟩
theorem Upd.set_ (h : Upd g w w') (i : Nat) (u : Value) : Upd g w (w'.setCell ⟨g, i, none⟩ u) :=
  ⟨h.os, h.tape, h.output, Nat.le_trans h.size (by simp), fun k hk hne => (Below.heap_setCell w' ⟨g, i, none⟩ u k (fun e => hne (by rw [e]))).trans (h.block k hk hne)⟩
theorem Upd.below {B : Nat} (h : Upd g w w') (hB : B ≤ w.heap.size) (hg : B ≤ g) : Below B w w' :=
  (Below.refl B w).grown h hB fun k hk => by injection hk with hk; omega
end

theorem Upd.grown {w w' w2 : World} {g : Nat} (h : Upd g w w') {row : Option Nat} (hg : w'.grownBy w2 row) (hr : ∀ k, row = some k → w.heap.size ≤ k) : Upd g w w2 :=
  ⟨hg.os.trans h.os, hg.tape.trans h.tape, hg.output.trans h.output, Nat.le_trans h.size hg.size, fun k hk hne => (hg.block k (Nat.lt_of_lt_of_le hk h.size) (fun e => by have := hr k e.symm; omega)).trans (h.block k hk hne)⟩
theorem Upd.alloc {w w' : World} {g : Nat} (h : Upd g w w') (o : Obj) : Upd g w (w'.alloc o) :=
  ⟨h.os, h.tape, h.output, Nat.le_trans h.size (by simp), fun k hk hne => (Below.heap_alloc w' o k (Nat.lt_of_lt_of_le hk h.size)).trans (h.block k hk hne)⟩

/-- what lies below a bound reads as before -/
theorem bcell {W w1 : World} (hb : Below W.heap.size W w1) : ∀ b o, b < W.heap.size → w1.cell? ⟨b, o, none⟩ = W.cell? ⟨b, o, none⟩ := fun b o h => hb.cell (p := ⟨b, o, none⟩) h

/-- bytes, as cells -/
def bs (l : List UInt8) : List Value := l.map fun c => Value.int .u8 (c.toNat : Int)
theorem bs_length (l : List UInt8) : (bs l).length = l.length := by simp [bs]
theorem bs_append (a b : List UInt8) : bs (a ++ b) = bs a ++ bs b := by simp [bs]
theorem bs_take (l : List UInt8) (k : Nat) : (bs l).take k = bs (l.take k) := by simp [bs, List.map_take]
theorem bs_drop (l : List UInt8) (k : Nat) : (bs l).drop k = bs (l.drop k) := by simp [bs, List.map_drop]
theorem bs_one (l : List UInt8) : ∀ u ∈ bs l, u.oneCell' = true := by
  intro u hu; simp only [bs, List.mem_map] at hu; obtain ⟨c, _, rfl⟩ := hu; rfl
theorem bs_at (l : List UInt8) (k : Nat) (h : k < l.length) : (bs l)[k]? = some (Value.int .u8 (l[k].toNat : Int)) := by simp [bs, h]

/-- a slice of bytes that reads as l -/
def RB (w : World) (A : Option Addr) (n : Nat) (l : List UInt8) : Prop := Reads w w.heap.size 1 A n (bs l)
theorem RB.len {w : World} {A : Option Addr} {n : Nat} {l : List UInt8} (h : RB w A n l) : l.length = n := by have := h.1; rw [bs_length] at this; omega
theorem RB.at_ {w : World} {A : Option Addr} {n : Nat} {l : List UInt8} {k : Nat} (h : RB w A n l) (hk : k < n) : ∃ ad, A = some ad ∧ ad.block < w.heap.size ∧ w.cell? (ad.add k) = some (.int .u8 ((l.getD k 0).toNat : Int)) := by
  obtain ⟨ad, u, e, hb, hx, hc⟩ := Reads.at_ h hk
  have hl := h.len
  rw [bs_at l k (by omega)] at hx
  injection hx with hx
  exact ⟨ad, e, hb, by rw [hc, ← hx]; simp [List.getD, show k < l.length by omega]⟩

/-- a slice of bytes with its capacity -/
structure SB (w : World) (A : Option Addr) (n c : Nat) (l : List UInt8) : Prop where
  rb : RB w A n l
  cap : n ≤ c
  nil : A = none → c = 0
theorem SB.keep {w w' : World} {A : Option Addr} {n c : Nat} {l : List UInt8} (h : SB w A n c l) (hb : Below w.heap.size w w') : SB w' A n c l := ⟨(Reads.below h.rb hb).more hb.size, h.cap, h.nil⟩

theorem SB.drew {w : World} {A : Option Addr} {n c : Nat} {l : List UInt8} (h : SB w A n c l) : SB w.drew A n c l := ⟨h.rb, h.cap, h.nil⟩
theorem SB.drewN {w : World} {A : Option Addr} {n c : Nat} {l : List UInt8} (h : SB w A n c l) (q : Nat) : SB (w.drewN q) A n c l := ⟨h.rb, h.cap, h.nil⟩
theorem SB.alloc {w : World} {A : Option Addr} {n c : Nat} {l : List UInt8} (h : SB w A n c l) (o : Obj) : SB (w.alloc o) A n c l := ⟨(Reads.alloc h.rb (Nat.le_refl _) o).more (by simp), h.cap, h.nil⟩

theorem cell_new (w : World) (C : Array Value) (e : TypeId) (f : Nat × Nat) (i : Nat) : (w.alloc (.cells C e f)).cell? ⟨w.heap.size, i, none⟩ = C[i]? :=
  cell_of_row _ _ i C e f (heap_alloc_new w _)
/-- a literal's row reads as its cells -/
theorem Reads.lit (w : World) (C : Array Value) (e : TypeId) (f : Nat × Nat) (n : Nat) (xs : List Value) (hC : C.toList = xs) (hn : xs.length = n) :
    Reads (w.alloc (.cells C e f)) (w.alloc (.cells C e f)).heap.size 1 (some ⟨w.heap.size, 0, none⟩) n xs := by
  refine ⟨by omega, fun _ => ⟨_, rfl, by simp, fun j u hu => ?_⟩⟩
  have ha : (⟨w.heap.size, 0, none⟩ : Addr).add j = ⟨w.heap.size, j, none⟩ := by
    unfold Addr.add; by_cases h : j = 0 <;> simp [h]
  rw [ha, cell_new, ← hu, ← hC, Array.getElem?_toList]
/-- a row that grew below a bound -/
theorem own_below {w w1 w2 : World} {B : Nat} {base : Nat} {e : TypeId} {size n : Nat} {v : Value} {xs : List Value} (hb : Below B w w1) (hBw : B ≤ w.heap.size) (hown : w1.ownsRow base e size v n xs) (hbase : B ≤ base) (hg : w1.grownBy w2 v.ownBlock) : Below B w w2 := by
  refine hb.grown hg (Nat.le_trans hBw hb.size) (fun g hg' => ?_)
  rcases hown.2 with ⟨rfl, _⟩ | ⟨g', cap, cur, rfl, hle, _⟩
  · simp [Value.ownBlock] at hg'
  · simp [Value.ownBlock] at hg'; omega
/-- a literal's row reads as its bytes -/
theorem RB.lit (w : World) (C : Array Value) (e : TypeId) (f : Nat × Nat) (n : Nat) (l : List UInt8) (hC : C.toList = bs l) (hn : l.length = n) :
    RB (w.alloc (.cells C e f)) (some ⟨w.heap.size, 0, none⟩) n l := by
  refine ⟨by rw [bs_length]; omega, fun _ => ⟨_, rfl, by simp, fun j u hu => ?_⟩⟩
  have ha : (⟨w.heap.size, 0, none⟩ : Addr).add j = ⟨w.heap.size, j, none⟩ := by
    unfold Addr.add; by_cases h : j = 0 <;> simp [h]
  rw [ha, cell_new, ← hu, ← hC, Array.getElem?_toList]
theorem RB.keep {w w' : World} {A : Option Addr} {n : Nat} {l : List UInt8} (h : RB w A n l) (hb : Below w.heap.size w w') : RB w' A n l := (Reads.below h hb).more hb.size
theorem RB.alloc {w : World} {A : Option Addr} {n : Nat} {l : List UInt8} (h : RB w A n l) (o : Obj) : RB (w.alloc o) A n l := (Reads.alloc h (Nat.le_refl _) o).more (by simp)
theorem RB.of_reads {w : World} {A : Option Addr} {n : Nat} {l : List UInt8} (h : Reads w w.heap.size 1 A n (bs l)) : RB w A n l := h
theorem RB.cap {w : World} {A : Option Addr} {n : Nat} {l : List UInt8} (h : Reads w w.heap.size 1 A n (bs l)) : RB w A n l := h
theorem RB.of_own {w : World} {A : Option Addr} {base n c : Nat} {e : TypeId} {l : List UInt8} (h : w.ownsRow base e 1 (.slice A n c) n (bs l)) : RB w A n l := Reads.of_own h

/-- an empty literal of the call's own -/
theorem own_empty (w : World) (e : TypeId) : (w.alloc (.cells #[] e)).ownsRow w.heap.size e 1 (.slice (some ⟨w.heap.size, 0, none⟩) 0 0) 0 [] :=
  World.ownsRow_made (size := 1) w #[] 0 (Nat.le_refl _) (by decide) rfl
theorem own_empty1 (w : World) (o : Obj) (e : TypeId) : ((w.alloc o).alloc (.cells #[] e)).ownsRow (w.heap.size + 1) e 1 (.slice (some ⟨w.heap.size + 1, 0, none⟩) 0 0) 0 [] := by
  have := own_empty (w.alloc o) e
  simpa using this
/-- what is owned is a slice that reads as its cells -/
theorem own_slice {w : World} {base n : Nat} {e : TypeId} {v : Value} {xs : List Value} (h : w.ownsRow base e 1 v n xs) : ∃ A c, v = .slice A n c ∧ Reads w w.heap.size 1 A n xs ∧ n ≤ c := by
  rcases h.2 with ⟨rfl, rfl⟩ | ⟨g, cap, cur, rfl, _, _, hc, _⟩
  · exact ⟨none, 0, rfl, Reads.of_own h, Nat.le_refl _⟩
  · exact ⟨_, cap, rfl, Reads.of_own h, hc⟩
theorem own_bytes {w : World} {base n : Nat} {e : TypeId} {v : Value} {l : List UInt8} (h : w.ownsRow base e 1 v n (bs l)) : ∃ A c, v = .slice A n c ∧ RB w A n l ∧ n ≤ c := own_slice h
/-- a slice onto which an append is met: the call's own, or clipped to its length -/
def Rdy (w : World) (base : Nat) (e : TypeId) (v : Value) (n : Nat) (xs : List Value) : Prop :=
  w.ownsRow base e 1 v n xs ∨ ∃ A, v = .slice A n n ∧ (A = none → n = 0) ∧ Reads w w.heap.size 1 A n xs
theorem Rdy.alloc {w : World} {base n : Nat} {e : TypeId} {v : Value} {xs : List Value} (h : Rdy w base e v n xs) (o : Obj) : Rdy (w.alloc o) base e v n xs := by
  rcases h with h | ⟨A, rfl, hA, hr⟩
  · exact .inl (h.alloc o)
  · exact .inr ⟨A, rfl, hA, (Reads.alloc hr (Nat.le_refl _) o).more (by simp)⟩
theorem wpList_append_rdy {P : Program} (w : World) {ops : Array Oper} {rest : List Oper} {o : Oper} {a : Act} {Q : Exit → Act → World → Prop} (hgd : o.guard = none) (s x : Operand) (t : TypeId)
    (ho : o.op = .call { callee := .builtin .append, args := #[s, x], argTypes := #[t, t] })
    (base : Nat) (e : TypeId) (i : TypeInfo) (z : Value) (bytes : Nat) (ht : P.underlying t = some (.slice e)) (hi : P.info? e = some i) (hz : i.zero = some z)
    (hsize : i.size = 1) (hby : i.bytes = bytes) (hzs : z.cells.size = 1)
    (v : Value) (n : Nat) (xs : List Value) (hs : a.eval s = v) (hown : Rdy w base e v n xs)
    (B : Nat) (A : Option Addr) (m c : Nat) (news : List Value) (hx : a.eval x = .slice A m c) (hr : Reads w B 1 A m news) (h1 : ∀ u ∈ news, u.oneCell' = true) (hm : 0 < m)
    (h63 : n + m ≤ maxLen) (hbytes : (n + m) * bytes ≤ 140737488355328) (hbase : base ≤ w.heap.size)
    (h : ∀ v' w', w'.ownsRow base e 1 v' (n + m) (xs ++ news) → (∀ B', B' ≤ base → Below B' w w') → wpList P ops Q rest (a.put o.dst v') w') : wpList P ops Q (o :: rest) a w := by
  rcases hown with hown | ⟨A0, rfl, hA0, hr0⟩
  · refine wpList_append_any w hgd s x t ho base e i z 1 bytes ht hi hz hsize hby hzs (by decide) v n xs hs hown B A m c news hx hr h1 h63 hbytes hbase fun v' w' h2 h3 _ => ?_
    refine h v' w' h2 fun B' hB' => (Below.refl B' w).grown h3 (by omega) fun g hg => ?_
    have := (hown.lt g hg).1
    omega
  · obtain ⟨ad, rfl, _, hc⟩ := hr.2 hm
    refine wpList_append_grows w hgd s x t ho e i z 1 bytes ht hi hz hsize hby hzs (by decide) A0 n n xs hs (fun h => ⟨hA0 h, hA0 h⟩) (by have := hr0.1; omega) (fun b hb j u hu => ?_) ad m c news hx hr.1 hc h1 (by omega) h63 hbytes fun v' w' h2 h3 => ?_
    · have hj : j < n := by
        have hl := hr0.1
        rcases Nat.lt_or_ge j xs.length with h' | h'
        · omega
        · rw [List.getElem?_eq_none h'] at hu; cases hu
      obtain ⟨b', hb', _, hcell⟩ := hr0.2 (by omega)
      rw [hb] at hb'
      injection hb' with hb'
      subst hb'
      exact hcell j u hu
    · refine h v' w' ?_ fun B' hB' => (Below.refl B' w).grown h3 (by omega) (fun g hg => by cases hg)
      refine ⟨h2.1, ?_⟩
      rcases h2.2 with hn | ⟨g, cap, cur, hv, hg, rest⟩
      · exact .inl hn
      · exact .inr ⟨g, cap, cur, hv, by omega, rest⟩
/-- strings, as cells -/
def vs (l : List ByteArray) : List Value := l.map Value.string
theorem vs_length (l : List ByteArray) : (vs l).length = l.length := by simp [vs]
theorem vs_append (a b : List ByteArray) : vs (a ++ b) = vs a ++ vs b := by simp [vs]
theorem vs_one (l : List ByteArray) : ∀ u ∈ vs l, u.oneCell' = true := by
  intro u hu; simp only [vs, List.mem_map] at hu; obtain ⟨c, _, rfl⟩ := hu; rfl
/-- a slice of strings that reads as l -/
def RS (w : World) (A : Option Addr) (n : Nat) (l : List ByteArray) : Prop := Reads w w.heap.size 1 A n (vs l)
theorem RS.len {w : World} {A : Option Addr} {n : Nat} {l : List ByteArray} (h : RS w A n l) : l.length = n := by have := h.1; rw [vs_length] at this; omega
theorem RS.at_ {w : World} {A : Option Addr} {n : Nat} {l : List ByteArray} {k : Nat} (h : RS w A n l) (hk : k < n) : ∃ ad, A = some ad ∧ ad.block < w.heap.size ∧ w.cell? (ad.add k) = some (.string (l.getD k ByteArray.empty)) := by
  obtain ⟨ad, u, e, hb, hx, hc⟩ := Reads.at_ h hk
  have hl := h.len
  simp only [vs, List.getElem?_map, List.getElem?_eq_getElem (show k < l.length by omega), Option.map_some, Option.some.injEq] at hx
  exact ⟨ad, e, hb, by rw [hc, ← hx]; simp [List.getD, show k < l.length by omega]⟩
theorem RS.keep {w w' : World} {A : Option Addr} {n : Nat} {l : List ByteArray} (h : RS w A n l) (hb : Below w.heap.size w w') : RS w' A n l := (Reads.below h hb).more hb.size
theorem RS.alloc {w : World} {A : Option Addr} {n : Nat} {l : List ByteArray} (h : RS w A n l) (o : Obj) : RS (w.alloc o) A n l := (Reads.alloc h (Nat.le_refl _) o).more (by simp)
theorem RS.drew {w : World} {A : Option Addr} {n : Nat} {l : List ByteArray} (h : RS w A n l) : RS w.drew A n l := h
theorem RS.drewN {w : World} {A : Option Addr} {n : Nat} {l : List ByteArray} (h : RS w A n l) (q : Nat) : RS (w.drewN q) A n l := h
theorem rs_lit (w : World) (C : Array Value) (e : TypeId) (f : Nat × Nat) (n B : Nat) (l : List ByteArray) (hB : w.heap.size = B) (hC : C.toList = vs l) (hn : l.length = n) : RS (w.alloc (.cells C e f)) (some ⟨B, 0, none⟩) n l := by
  subst hB
  exact Reads.lit w C e f n (vs l) hC (by rw [vs_length]; exact hn)
theorem sb_lit (w : World) (C : Array Value) (e : TypeId) (f : Nat × Nat) (n B : Nat) (l : List UInt8) (hB : w.heap.size = B) (hC : C.toList = bs l) (hn : l.length = n) : SB (w.alloc (.cells C e f)) (some ⟨B, 0, none⟩) n n l := by
  subst hB
  exact ⟨RB.lit w C e f n l hC hn, Nat.le_refl _, fun h => by cases h⟩
theorem sb_nil (w : World) : SB w none 0 0 [] := ⟨Reads.none_, Nat.le_refl _, fun _ => rfl⟩
theorem RB.drew {w : World} {A : Option Addr} {n : Nat} {l : List UInt8} (h : RB w A n l) : RB w.drew A n l := h
theorem RB.drewN {w : World} {A : Option Addr} {n : Nat} {l : List UInt8} (h : RB w A n l) (q : Nat) : RB (w.drewN q) A n l := h
theorem below_drewN {B : Nat} {w w' : World} (h : Below B w w') (q : Nat) : Below B w (w'.drewN q) := ⟨h.os, h.tape, h.output, h.size, h.block⟩
theorem below_alloc1 {w w1 : World} {o : Obj} (h : Below (w.alloc o).heap.size (w.alloc o) w1) : Below w.heap.size w w1 := ((Below.refl _ _).alloc (Nat.le_refl _) _).trans (h.mono (by simp))
theorem RS.of_own {w : World} {A : Option Addr} {base n c : Nat} {e : TypeId} {l : List ByteArray} (h : w.ownsRow base e 1 (.slice A n c) n (vs l)) : RS w A n l := Reads.of_own h
theorem ints_bs (l : List UInt8) : ((l.map fun c => (c.toNat : Int)).map (Value.int .u8)) = bs l := by simp [bs]
/-- 'string(b)' of a slice that can be read -/
theorem RB.run_string {P : Program} {w : World} {A : Option Addr} {n : Nat} {l : List UInt8} (h : RB w A n l) (c : Nat) (src e dst : TypeId) (hs : P.underlying src = some (.slice e)) (he : P.underlying e = some (.int .u8)) (hd : P.underlying dst = some .string) :
    (convert src dst (.slice A n c)).run P w = .ok (.string ⟨l.toArray⟩) w := by
  have hl := h.len
  rcases A with _ | ad
  · have hn : n = 0 := by
      rcases Nat.eq_zero_or_pos n with h0 | h0
      · exact h0
      · obtain ⟨ad, e, _⟩ := h.2 h0
        cases e
    subst hn
    obtain rfl : l = [] := List.length_eq_zero_iff.1 hl
    exact run_convert_bytes_nil w src e hs he _ _ dst hd
  · have hload : (loadCells ad n).run P w = .ok ((l.map fun c => (c.toNat : Int)).map (Value.int .u8)).toArray w := by
      have := run_loadCells_list (P := P) w ad (bs l) (fun j v hj => by
        have hjl : j < l.length := by
          rcases Nat.lt_or_ge j l.length with h' | h'
          · exact h'
          · rw [List.getElem?_eq_none (by rw [bs_length]; exact h')] at hj; cases hj
        obtain ⟨ad', e', _, hc⟩ := h.2 (by omega)
        injection e' with e'
        subst e'
        exact hc j v hj)
      rw [ints_bs]
      rw [bs_length, hl] at this
      exact this
    rw [run_convert_bytes_string w src dst e _ n c hs he hd, run_bytesToString w _ n c _ hload, foldl_push_bytes]
    have : ((l.map fun c => (c.toNat : Int)).map fun n => UInt8.ofNat n.toNat) = l := by
      rw [List.map_map]
      conv => rhs; rw [← List.map_id l]
      apply List.map_congr_left
      intro c _
      simp
    rw [this]
    simp [ByteArray.empty, ByteArray.emptyWithCapacity]
    rfl

end Go.Proofs.YtebjfigjfhghcaaDoor.Wd
