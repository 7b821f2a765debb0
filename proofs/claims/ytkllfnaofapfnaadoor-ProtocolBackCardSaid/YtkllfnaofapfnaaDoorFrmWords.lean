/-
  Words for memory: a slice of slices of bytes that reads as a list of messages; such a slice of the call's own; writing into its messages; bytes.Clone. Conditions: none.
-/
import Derived.Test.YtkllfnaofapfnaaDoorFrmMath
import Derived.Test.YtkllfnaofapfnaaDoorWordsI
import Derived.Test.YtkllfnaofapfnaaDoorCodPut
namespace Go.Proofs.YtkllfnaofapfnaaDoor.Frm
open Go.RowKit Wd Cod

theorem clone2_any (A : Option Addr) (n c : Nat) (l : List UInt8) (w : World) (hs : SB w A n c l) (hn : n ≤ 140737488355328) :
    Calls Tryd.prog 54 #[.slice A n c] w fun e w' => ∃ v, e = .returned v ∧ w'.ownsRow w.heap.size 5 1 v n (bs l) ∧ Below w.heap.size w w' := by
  obtain ⟨i0, hi, hz0, hz1, hz2⟩ := info_parts Cod.Tryd.infoU8
  have HI := Lib.hid hi
  have HS := Lib.hid hs
  clear hi hs
  have hnil := fun (w : World) (a : Option Addr) (n c : Nat) => Lib.run_eql_slice_nil (P := Tryd.prog) w 25 5 a n c 0 0 Tryd.underlying25
  rcases A with _ | ad
  · have hc := HS.out.nil rfl
    have hn0 : n = 0 := by have := HS.out.cap; omega
    subst hc hn0
    have hl : l = [] := List.length_eq_zero_iff.1 HS.out.rb.len
    subst hl
    clear HS hn
    go_enter Tryd.func54, Tryd.ntmps54
    go_wp2_with fail
    go_ret
    exact ⟨_, rfl, World.ownsRow_nil _ _ _ _, Below.refl _ _⟩
  · go_enter Tryd.func54, Tryd.ntmps54
    go_wp2_with (at_builtin; refine wpList_append_any _ rfl (.tmp 5) (.tmp 6) _ rfl w.heap.size 5 i0 _ 1 1 Tryd.underlying25 HI.out hz0 hz1 hz2 rfl (by decide) _ _ _ rfl (own_empty _ _) _ (some ad) n c (bs l) rfl (Reads.alloc HS.out.rb (Nat.le_refl _) _) (bs_one l) (by unfold maxLen; omega) (by omega) (by simp) ?_; intro v1 w1 hown1 hg1 hat1)
    have hown : w1.ownsRow w.heap.size 5 1 v1 n (bs l) := by simpa using hown1
    have hb1 : Below w.heap.size w w1 := own_below ((Below.refl _ _).alloc (Nat.le_refl _) _) (Nat.le_refl _) (own_empty _ _) (Nat.le_refl _) hg1
    go_ret
    exact ⟨v1, rfl, hown, hb1⟩
theorem own_diff {w : World} {b b' n n' s s' : Nat} {e e' : TypeId} {v v' : Value} {xs xs' : List Value} (h : w.ownsRow b e s v n xs) (h' : w.ownsRow b' e' s' v' n' xs') (he : e ≠ e') : v'.ownBlock = none ∨ v'.ownBlock ≠ v.ownBlock := by
  rcases h'.2 with ⟨rfl, _⟩ | ⟨g', cap', cur', rfl, _, hg', _⟩
  · exact .inl rfl
  · refine .inr fun hh => ?_
    rcases h.2 with ⟨rfl, _⟩ | ⟨g, cap, cur, rfl, _, hg, _⟩
    · cases hh
    · simp only [Value.ownBlock, Option.some.injEq] at hh
      subst hh
      rw [hg] at hg'
      injection hg' with hg'
      injection hg' with h1 h2
      exact he h2
theorem own_some {w : World} {base n size : Nat} {e : TypeId} {v : Value} {xs : List Value} (h : w.ownsRow base e size v n xs) (hn : 0 < n) : ∃ g cap, v = .slice (some ⟨g, 0, none⟩) n cap := by
  rcases h.2 with ⟨_, h0⟩ | ⟨g, cap, cur, hv, _⟩
  · omega
  · exact ⟨g, cap, hv⟩
theorem own_len {w : World} {base n : Nat} {e : TypeId} {v : Value} {l : List UInt8} (h : w.ownsRow base e 1 v n (bs l)) : l.length = n := by have := h.1; rw [bs_length] at this; omega
theorem own_sb1 {w : World} {base n c : Nat} {e : TypeId} {A : Option Addr} {l : List UInt8} (h : w.ownsRow base e 1 (.slice A n c) n (bs l)) : SB w A n c l := by
  obtain ⟨A', c', e, hs⟩ := own_sb h
  injection e with e1 e2 e3
  subst e1 e3
  exact hs

/-- a message as it lies in memory: the slice, and what it reads as -/
structure BV where
  A : Option Addr
  n : Nat
  c : Nat
  d : List UInt8
def BV.v (p : BV) : Value := .slice p.A p.n p.c
def cs (ps : List BV) : List Value := ps.map BV.v
def ms (ps : List BV) : List (List UInt8) := ps.map BV.d
theorem cs_length (ps : List BV) : (cs ps).length = ps.length := by simp [cs]
theorem cs_append (a b : List BV) : cs (a ++ b) = cs a ++ cs b := by simp [cs]
theorem ms_length (ps : List BV) : (ms ps).length = ps.length := by simp [ms]
theorem ms_append (a b : List BV) : ms (a ++ b) = ms a ++ ms b := by simp [ms]
theorem cs_one (ps : List BV) : ∀ u ∈ cs ps, u.oneCell' = true := by
  intro u hu
  simp only [cs, List.mem_map] at hu
  obtain ⟨p, _, rfl⟩ := hu
  rfl
theorem cs_at {ps : List BV} {k : Nat} {p : BV} (h : ps[k]? = some p) : (cs ps)[k]? = some (.slice p.A p.n p.c) := by
  simp [cs, h, BV.v]
theorem ms_at {ps : List BV} {k : Nat} {p : BV} (h : ps[k]? = some p) : (ms ps)[k]? = some p.d := by simp [ms, h]
theorem take_snocB {ps : List BV} {k : Nat} {p : BV} (h : ps[k]? = some p) : ps.take (k + 1) = ps.take k ++ [p] := by
  obtain ⟨hk, rfl⟩ := List.getElem?_eq_some_iff.1 h
  exact List.take_succ_eq_append_getElem hk
/-- a slice of messages that reads as ps -/
def RL (w : World) (A : Option Addr) (n : Nat) (ps : List BV) : Prop := Reads w w.heap.size 1 A n (cs ps) ∧ ∀ p ∈ ps, SB w p.A p.n p.c p.d
section
variable {w w' : World} {A : Option Addr} {n : Nat} {ps : List BV}
theorem RL.len (h : RL w A n ps) : ps.length = n := by have := h.1.1; rw [cs_length] at this; omega
theorem RL.at_ {k : Nat} (h : RL w A n ps) (hk : k < n) : ∃ ad p, A = some ad ∧ ps[k]? = some p ∧ ad.block < w.heap.size ∧ w.cell? (ad.add k) = some (.slice p.A p.n p.c) ∧ SB w p.A p.n p.c p.d := by
  have hl := h.len
  obtain ⟨ad, e, hb, hc⟩ := h.1.2 (by omega)
  have hp : ps[k]? = some ps[k] := List.getElem?_eq_getElem (by omega)
  exact ⟨ad, ps[k], e, hp, hb, hc _ _ (cs_at hp), h.2 _ (List.getElem_mem _)⟩
theorem RL.keep (h : RL w A n ps) (hb : Below w.heap.size w w') : RL w' A n ps := ⟨(h.1.below hb).more hb.size, fun p hp => (h.2 p hp).keep hb⟩
theorem RL.drew (h : RL w A n ps) : RL w.drew A n ps := ⟨h.1, fun p hp => (h.2 p hp).drew⟩
theorem RL.nil (w : World) (A : Option Addr) : RL w A 0 [] := ⟨Reads.none_, fun p hp => by cases hp⟩
end
/-- a slice of messages of the call's own, in blocks from lo on -/
structure OL (lo : Nat) (w : World) (v : Value) (ps : List BV) : Prop where
  row : w.ownsRow lo 25 1 v ps.length (cs ps)
  els : ∀ p ∈ ps, w.ownsRow lo 5 1 (.slice p.A p.n p.c) p.n (bs p.d)
section
variable {w w' : World} {lo : Nat} {v : Value} {ps : List BV}
theorem OL.nil (lo : Nat) (w : World) : OL lo w (.slice none 0 0) [] := ⟨World.ownsRow_nil _ _ _ _, fun p hp => by cases hp⟩
theorem OL.keep (h : OL lo w v ps) (hb : Below w.heap.size w w') : OL lo w' v ps := ⟨own_keep h.row hb, fun p hp => own_keep (h.els p hp) hb⟩
theorem OL.lower {lo' : Nat} (h : OL lo w v ps) (hl : lo' ≤ lo) : OL lo' w v ps := ⟨own_mono h.row hl, fun p hp => own_mono (h.els p hp) hl⟩
theorem OL.form (h : OL lo w v ps) : ∃ A c, v = .slice A ps.length c ∧ RL w A ps.length ps ∧ ps.length ≤ c := by
  obtain ⟨A, c, rfl, hr, hc⟩ := own_slice h.row
  exact ⟨A, c, rfl, ⟨hr, fun p hp => own_sb1 (h.els p hp)⟩, hc⟩
/-- one message more -/
theorem OL.snoc (h : OL lo w v ps) {p : BV} {v' : Value} (hp : w.ownsRow lo 5 1 (.slice p.A p.n p.c) p.n (bs p.d)) (hr : w'.ownsRow lo 25 1 v' (ps.length + 1) (cs ps ++ [p.v])) (hg : w.grownBy w' v.ownBlock) : OL lo w' v' (ps ++ [p]) := by
  refine ⟨by rw [List.length_append, cs_append]; exact hr, fun q hq => ?_⟩
  rcases List.mem_append.1 hq with hq | hq
  · exact (h.els q hq).kept hg (own_diff h.row (h.els q hq) (by decide))
  · simp at hq; subst hq; exact hp.kept hg (own_diff h.row hp (by decide))
end
theorem infoBs : (Tryd.prog.info? 25).map (fun i => (i.zero, i.size, i.bytes)) = some (some (.slice none 0 0), 1, 24) := by kernel_rfl

/-- what was written lies in messages -/
structure Spo (ps : List BV) (w w' : World) : Prop where
  os : w'.os = w.os
  tape : w'.tape = w.tape
  output : w'.output = w.output
  size : w.heap.size ≤ w'.heap.size
  block : ∀ i, i < w.heap.size → (∀ p ∈ ps, (Value.slice p.A p.n p.c).ownBlock ≠ some i) → w'.heap[i]? = w.heap[i]?
theorem Spo.refl (ps : List BV) (w : World) : Spo ps w w := ⟨rfl, rfl, rfl, Nat.le_refl _, fun _ _ _ => rfl⟩
theorem Spo.set_ {ps : List BV} {w w' : World} (h : Spo ps w w') {p : BV} (hp : p ∈ ps) {g : Nat} (hg : (Value.slice p.A p.n p.c).ownBlock = some g) (j : Nat) (u : Value) : Spo ps w (w'.setCell ⟨g, j, none⟩ u) :=
  ⟨h.os, h.tape, h.output, Nat.le_trans h.size (by simp), fun i hi hne => (Below.heap_setCell w' ⟨g, j, none⟩ u i (fun e => hne p hp (by rw [hg, e]))).trans (h.block i hi hne)⟩
theorem Spo.drewN {ps : List BV} {w w' : World} (h : Spo ps w w') (q : Nat) : Spo ps w (w'.drewN q) := ⟨h.os, h.tape, h.output, h.size, h.block⟩
/-- messages of the call's own, whatever they are -/
def Byt (lo : Nat) (w : World) (ps : List BV) : Prop := ∀ p ∈ ps, ∃ d, w.ownsRow lo 5 1 (.slice p.A p.n p.c) p.n (bs d)
theorem bs_set (d : List UInt8) (j : Nat) (x : Nat) (hx : x < 256) : (bs d).set j (.int .u8 (x : Int)) = bs (d.set j (UInt8.ofNat x)) := by
  unfold bs
  rw [List.map_set, toNat_small x hx]
theorem Byt.set_ {lo : Nat} {w : World} {ps : List BV} (h : Byt lo w ps) (g j x : Nat) (hx : x < 256) : Byt lo (w.setCell ⟨g, j, none⟩ (.int .u8 (x : Int))) ps := by
  intro p hp
  obtain ⟨d, hd⟩ := h p hp
  by_cases hg : (Value.slice p.A p.n p.c).ownBlock = some g
  · rcases hd.2 with ⟨e, h0⟩ | ⟨g', cap, cur, e, _⟩
    · rw [e] at hg; cases hg
    · rw [e] at hg hd ⊢
      simp only [Value.ownBlock, Option.some.injEq] at hg
      subst hg
      refine ⟨d.set j (UInt8.ofNat x), ?_⟩
      rw [← bs_set d j x hx]
      exact (hd.stored j _).1
  · refine ⟨d, hd.kept (row := some g) ((Upd.refl g w).set_ j _) ?_⟩
    exact .inr hg
theorem Byt.drewN {lo : Nat} {w : World} {ps : List BV} (h : Byt lo w ps) (q : Nat) : Byt lo (w.drewN q) ps := h
theorem own_same {w w' : World} {B size n : Nat} {e : TypeId} {v : Value} {xs : List Value} (h : w.ownsRow B e size v n xs) (hs : ∀ i, v.ownBlock = some i → w'.heap[i]? = w.heap[i]?) : w'.ownsRow B e size v n xs := by
  refine ⟨h.1, ?_⟩
  rcases h.2 with h0 | ⟨g, cap, cur, rfl, h1, h2, h3⟩
  · exact .inl h0
  · exact .inr ⟨g, cap, cur, rfl, h1, (hs g rfl).trans h2, h3⟩
theorem OL.spo {B : Nat} {w w' : World} {v : Value} {ps qs : List BV} (h : OL B w v qs) (hs : Spo ps w w') (hlt : ∀ p ∈ ps, ∀ k, (Value.slice p.A p.n p.c).ownBlock = some k → k < B) : OL B w' v qs :=
  have key : ∀ {size n : Nat} {e : TypeId} {u : Value} {xs : List Value}, w.ownsRow B e size u n xs → w'.ownsRow B e size u n xs := fun hu =>
    own_same hu fun i hi => by
      have hb := hu.lt i hi
      exact hs.block i hb.2 (fun p hp e => by have := hlt p hp i e; omega)
  ⟨key h.row, fun p hp => key (h.els p hp)⟩
theorem Spo.below {ps : List BV} {w w' : World} {B : Nat} (hs : Spo ps w w') (hB : B ≤ w.heap.size) (h : ∀ p ∈ ps, ∀ k, (Value.slice p.A p.n p.c).ownBlock = some k → B ≤ k) : Below B w w' :=
  ⟨hs.os, hs.tape, hs.output, hs.size, fun i hi => hs.block i (by omega) (fun p hp e => by have := h p hp i e; omega)⟩
end Go.Proofs.YtkllfnaofapfnaaDoor.Frm
