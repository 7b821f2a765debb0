/-
  The contract of the reference's guess: the parts of which some bytes may be the file. Conditions: the bytes can be read, nine or more, within the form's reach.
-/
import Derived.Test.YtncnocejmbfhaaaDoorSecSplit
namespace Go.Proofs.YtncnocejmbfhaaaDoor.Sec
open Go.RowKit Wd Cod Crc

/-- what is known while the reference reads the heads: of every list of parts whose file l is, k heads have been passed -/
def SemR1 (l : List UInt8) (n k at0 : Nat) (ps : List PV) (zs : List Int) : Prop :=
  ∀ L, chk L = 0 → file L = l → L.length = n ∧ ps.map PV.name = (L.take k).map Pt.name ∧ zs = (L.take k).map (fun p : Pt => ((p.data.length : Nat) : Int)) ∧ l.drop at0 = (L.drop k).flatMap hd ++ (L.flatMap Pt.data ++ sum4 (body L))
/-- the same while it takes the data -/
def SemR2 (l : List UInt8) (n k at0 : Nat) (ps : List PV) (zs : List Int) : Prop :=
  ∀ L, chk L = 0 → file L = l → L.length = n ∧ ps.map PV.name = L.map Pt.name ∧ zs = L.map (fun p : Pt => ((p.data.length : Nat) : Int)) ∧ (ps.take k).map PV.d = (L.take k).map Pt.data ∧ l.drop at0 = (L.drop k).flatMap Pt.data ++ sum4 (body L)
theorem file_drop4 (L : List Pt) : (file L).drop 4 = put L.length ++ (L.flatMap hd ++ (L.flatMap Pt.data ++ sum4 (body L))) := by
  have e : ∀ s, (body L ++ s).drop 4 = put L.length ++ (L.flatMap hd ++ (L.flatMap Pt.data ++ s)) := fun s => by unfold body; simp [magic]
  exact e _
theorem semR1_start {l : List UInt8} {r k : Nat} (h : uintOf l 4 = some (r, k)) : SemR1 l r 0 (4 + k) [] [] := by
  intro L hc hl
  have e4 := file_drop4 L
  rw [hl] at e4
  have hu := uintOf_put (chk_small hc).1 e4
  rw [show ((4 : Nat) : Int) = 4 from rfl, h] at hu
  injection hu with hu
  injection hu with h4 h5
  refine ⟨h4.symm, by simp, by simp, ?_⟩
  rw [h5]
  exact drop_more e4
theorem semR1_bad {l : List UInt8} (h : ∀ v k, uintOf l 4 = some (v, k) → 64 < v) (L : List Pt) (hc : chk L = 0) : file L ≠ l := by
  intro hl
  have hz := chk_zero hc
  have e4 := file_drop4 L
  rw [hl] at e4
  have hu := uintOf_put (chk_small hc).1 e4
  exact absurd (h _ _ hu) (by omega)
theorem semR1_head {l : List UInt8} {n k at0 : Nat} {ps : List PV} {zs : List Int} (hs : SemR1 l n k at0 ps zs) (hk : k < n) (L : List Pt) (hc : chk L = 0) (hl : file L = l) :
    ∃ hkL : k < L.length, L[k].name.data.toList.length < 2 ^ 64 ∧ L[k].data.length < 2 ^ 64 ∧ L[k].data.length ≤ 16777216 ∧ l.drop at0 = putT L[k].name.data.toList ++ (put L[k].data.length ++ ((L.drop (k + 1)).flatMap hd ++ (L.flatMap Pt.data ++ sum4 (body L)))) := by
  obtain ⟨hlen, _, _, hrest⟩ := hs L hc hl
  have hkL : k < L.length := by omega
  have hsm := (chk_small hc).2 L[k] (List.getElem_mem _)
  have hdat := le_total (List.getElem_mem (l := L) hkL)
  have htot := (chk_zero hc).2.1
  refine ⟨hkL, hsm.1, hsm.2, by omega, ?_⟩
  rw [hrest, List.drop_eq_getElem_cons hkL, List.flatMap_cons]
  unfold hd
  simp only [List.append_assoc]
theorem semR1_next {l : List UInt8} {n k at0 a2 r q j : Nat} {ps : List PV} {zs : List Int} {s : List UInt8} (hs : SemR1 l n k at0 ps zs) (hk : k < n) (ht : textOf l (at0 : Int) = some (s, q)) (h1 : a2 = at0 + q) (h2 : uintOf l (a2 : Int) = some (r, j)) :
    SemR1 l n (k + 1) (a2 + j) (ps ++ [⟨⟨s.toArray⟩, none, 0, 0, []⟩]) (zs ++ [(r : Int)]) := by
  intro L hc hl
  obtain ⟨hkL, hs1, hs2, hs3, e1⟩ := semR1_head hs hk L hc hl
  obtain ⟨hlen, hn, hz, _⟩ := hs L hc hl
  have ht' := textOf_put hs1 e1
  rw [ht] at ht'
  injection ht' with ht'
  injection ht' with ht1 ht2
  have e2 := drop_more e1
  rw [← ht2, ← h1] at e2
  have hu := uintOf_put hs2 e2
  rw [hu] at h2
  injection h2 with h2
  injection h2 with h6 h7
  refine ⟨hlen, ?_, ?_, ?_⟩
  · rw [List.take_succ_eq_append_getElem hkL, List.map_append, List.map_append, hn]
    simp [ht1]
  · rw [List.take_succ_eq_append_getElem hkL, List.map_append, hz]
    simp [h6]
  · rw [← h7]
    exact drop_more e2
theorem semR1_stop {l : List UInt8} {n k at0 : Nat} {ps : List PV} {zs : List Int} (hs : SemR1 l n k at0 ps zs) (hk : k < n) (ht : textOf l (at0 : Int) = none) (L : List Pt) (hc : chk L = 0) : file L ≠ l := by
  intro hl
  obtain ⟨hkL, hs1, hs2, hs3, e1⟩ := semR1_head hs hk L hc hl
  have ht' := textOf_put hs1 e1
  rw [ht] at ht'
  cases ht'
theorem semR1_stop2 {l : List UInt8} {n k at0 a2 q : Nat} {ps : List PV} {zs : List Int} {s : List UInt8} (hs : SemR1 l n k at0 ps zs) (hk : k < n) (ht : textOf l (at0 : Int) = some (s, q)) (h1 : a2 = at0 + q) (h2 : ∀ v j, uintOf l (a2 : Int) = some (v, j) → 16777216 < v) (L : List Pt) (hc : chk L = 0) : file L ≠ l := by
  intro hl
  obtain ⟨hkL, hs1, hs2, hs3, e1⟩ := semR1_head hs hk L hc hl
  have ht' := textOf_put hs1 e1
  rw [ht] at ht'
  injection ht' with ht'
  injection ht' with ht1 ht2
  have e2 := drop_more e1
  rw [← ht2, ← h1] at e2
  have hu := uintOf_put hs2 e2
  exact absurd (h2 _ _ hu) (by omega)
theorem semR_turn {l : List UInt8} {n at0 : Nat} {ps : List PV} {zs : List Int} (hs : SemR1 l n n at0 ps zs) : SemR2 l n 0 at0 ps zs := by
  intro L hc hl
  obtain ⟨hlen, hn, hz, hrest⟩ := hs L hc hl
  have e : L.take n = L := List.take_of_length_le (by omega)
  rw [e] at hn hz
  refine ⟨hlen, hn, hz, by simp, ?_⟩
  rw [hrest, List.drop_of_length_le (by omega)]; simp
theorem semR2_head {l : List UInt8} {n k at0 z : Nat} {ps : List PV} {zs : List Int} (hs : SemR2 l n k at0 ps zs) (hk : k < n) (hz : zs[k]? = some (z : Int)) (L : List Pt) (hc : chk L = 0) (hl : file L = l) :
    ∃ hkL : k < L.length, z = L[k].data.length ∧ l.drop at0 = L[k].data ++ ((L.drop (k + 1)).flatMap Pt.data ++ sum4 (body L)) := by
  obtain ⟨hlen, _, hzs, _, hrest⟩ := hs L hc hl
  have hkL : k < L.length := by omega
  rw [hzs, List.getElem?_map, List.getElem?_eq_getElem hkL] at hz
  simp only [Option.map_some, Option.some.injEq] at hz
  refine ⟨hkL, by omega, ?_⟩
  rw [hrest, List.drop_eq_getElem_cons hkL, List.flatMap_cons, List.append_assoc]
theorem map_set_same {ps : List PV} {k : Nat} {p x : PV} (h : ps[k]? = some p) (hn : x.name = p.name) : (ps.set k x).map PV.name = ps.map PV.name := by
  apply List.ext_getElem?
  intro i
  rw [List.getElem?_map, List.getElem?_map, List.getElem?_set]
  by_cases e : k = i
  · subst e
    rw [if_pos rfl, if_pos (List.getElem?_eq_some_iff.1 h).1, h]
    simp [hn]
  · rw [if_neg e]
theorem take_set_snoc {ps : List PV} {k : Nat} {p x : PV} (h : ps[k]? = some p) : (ps.set k x).take (k + 1) = ps.take k ++ [x] := by
  have hk := (List.getElem?_eq_some_iff.1 h).1
  have hx : (ps.set k x)[k]? = some x := by simp [hk]
  rw [take_snocP hx]
  congr 1
  apply List.ext_getElem?
  intro j
  rw [List.getElem?_take, List.getElem?_take]
  split
  · rw [List.getElem?_set, if_neg (by omega)]
  · rfl
theorem semR2_next {l : List UInt8} {n k at0 z : Nat} {ps : List PV} {zs : List Int} {p : PV} (A : Option Addr) (m c : Nat) (hs : SemR2 l n k at0 ps zs) (hk : k < n) (hp : ps[k]? = some p) (hz : zs[k]? = some (z : Int)) :
    SemR2 l n (k + 1) (at0 + z) (ps.set k ⟨p.name, A, m, c, (l.drop at0).take z⟩) zs := by
  intro L hc hl
  obtain ⟨hkL, hz2, e1⟩ := semR2_head hs hk hz L hc hl
  obtain ⟨hlen, hn, hzs, hd, _⟩ := hs L hc hl
  refine ⟨hlen, ?_, hzs, ?_, ?_⟩
  · rw [map_set_same (x := ⟨p.name, A, m, c, _⟩) hp rfl, hn]
  · rw [take_set_snoc hp, List.map_append, hd, List.take_succ_eq_append_getElem hkL, List.map_append]
    simp only [List.map_cons, List.map_nil]
    rw [e1, hz2, List.take_left]
  · rw [hz2]; exact drop_more e1
theorem semR2_stop {l : List UInt8} {n k at0 z : Nat} {ps : List PV} {zs : List Int} (hs : SemR2 l n k at0 ps zs) (hk : k < n) (hz : zs[k]? = some (z : Int)) (h : l.length < at0 + z) (ha : at0 ≤ l.length) (L : List Pt) (hc : chk L = 0) : file L ≠ l := by
  intro hl
  obtain ⟨hkL, hz2, e1⟩ := semR2_head hs hk hz L hc hl
  have := congrArg List.length e1
  rw [List.length_drop, List.length_append] at this
  omega
theorem semR2_end {l : List UInt8} {n at0 : Nat} {ps : List PV} {zs : List Int} (hs : SemR2 l n n at0 ps zs) (hps : ps.length = n) (L : List Pt) (hc : chk L = 0) (hl : file L = l) : pts ps = L := by
  obtain ⟨hlen, hn, _, hd, _⟩ := hs L hc hl
  rw [List.take_of_length_le (by omega), List.take_of_length_le (by omega)] at hd
  apply List.ext_getElem?
  intro j
  have a := congrArg (fun x : List ByteArray => x[j]?) hn
  have b := congrArg (fun x : List (List UInt8) => x[j]?) hd
  simp only [List.getElem?_map] at a b
  unfold pts
  rw [List.getElem?_map]
  by_cases hj : j < n
  · rw [List.getElem?_eq_getElem (by omega), List.getElem?_eq_getElem (by omega)] at *
    simp only [Option.map_some, Option.some.injEq] at a b ⊢
    unfold PV.pt
    rw [a, b]
  · rw [List.getElem?_eq_none (by omega), List.getElem?_eq_none (by omega)]; rfl

/-- rows of different element types lie apart -/
theorem own_diff {w : World} {b b' n n' s s' : Nat} {e e' : TypeId} {v v' : Value} {xs xs' : List Value} (h : w.ownsRow b e s v n xs) (h' : w.ownsRow b' e' s' v' n' xs') (he : e ≠ e') : v'.ownBlock = none ∨ v'.ownBlock ≠ v.ownBlock := by
  rcases h'.2 with ⟨rfl, _⟩ | ⟨g', cap', cur', rfl, _, hg', _⟩
  · exact .inl rfl
  · refine .inr fun hh => ?_
    rcases h.2 with ⟨rfl, _⟩ | ⟨g, cap, cur, rfl, _, hg, _⟩
    · cases hh
    · simp only [Value.ownBlock, Option.some.injEq] at hh
      subst hh
      rw [hg] at hg'
      injection hg' with hg'
      injection hg' with h1 h2
      exact he h2
/-- a literal's row of elements of any size reads as its cells -/
theorem Reads.litN (w : World) (C : Array Value) (e : TypeId) (f : Nat × Nat) (size n B : Nat) (xs : List Value) (hB : w.heap.size = B) (hC : C.toList = xs) (hn : xs.length = n * size) :
    Reads (w.alloc (.cells C e f)) (w.alloc (.cells C e f)).heap.size size (some ⟨B, 0, none⟩) n xs := by
  subst hB
  refine ⟨hn, fun _ => ⟨_, rfl, by simp, fun j u hu => ?_⟩⟩
  have ha : (⟨w.heap.size, 0, none⟩ : Addr).add j = ⟨w.heap.size, j, none⟩ := by
    unfold Addr.add; by_cases h : j = 0 <;> simp [h]
  rw [ha, cell_new, ← hu, ← hC, Array.getElem?_toList]

/-- parts of a type in rows of the call's own, with data of the call's own, in blocks from lo on -/
structure OQ (T : TypeId) (lo : Nat) (w : World) (A : Option Addr) (n c : Nat) (ps : List PV) : Prop where
  own : ∀ p ∈ ps, w.ownsRow lo 5 1 (.slice p.A p.n p.c) p.n (bs p.d)
  row : w.ownsRow lo T 2 (.slice A n c) n (pc ps)
section
variable {T : TypeId} {lo lo' : Nat} {w w' : World} {A : Option Addr} {n c : Nat} {ps : List PV}
theorem OQ.nil (T : TypeId) (lo : Nat) (w : World) : OQ T lo w none 0 0 [] := ⟨fun p hp => (by cases hp), World.ownsRow_nil _ _ _ _⟩
theorem OQ.rp (h : OQ T lo w A n c ps) : RP w A n ps := RP.of_own h.row (fun p hp => own_sb1 (h.own p hp))
theorem OQ.keep (h : OQ T lo w A n c ps) (hb : Below w.heap.size w w') : OQ T lo w' A n c ps := ⟨fun p hp => own_keep (h.own p hp) hb, own_keep h.row hb⟩
theorem OQ.lower (h : OQ T lo w A n c ps) (hl : lo' ≤ lo) : OQ T lo' w A n c ps := ⟨fun p hp => own_mono (h.own p hp) hl, own_mono h.row hl⟩
theorem OQ.cap (h : OQ T lo w A n c ps) : n ≤ c := by
  obtain ⟨A', c', e, hc, _⟩ := own_slice2 h.row
  injection e with e1 e2 e3
  omega
end
/-- how guess ends -/
def GPost (w : World) (l : List UInt8) (e : Ending) (w' : World) : Prop :=
  Below w.heap.size w w' ∧ ∃ (A : Option Addr) (n c : Nat) (okb : Bool), e = .returned (.tuple #[.slice A n c, .bool okb]) ∧
    ((okb = false ∧ ∀ L, chk L = 0 → file L ≠ l) ∨ (okb = true ∧ ∃ ps, OQ 47 w.heap.size w' A n c ps ∧ n ≤ 64 ∧ Room ps ∧ ∀ L, chk L = 0 → file L = l → pts ps = L))
theorem GPost.bad {w w' : World} {l : List UInt8} (hb : Below w.heap.size w w') (h : ∀ L, chk L = 0 → file L ≠ l) : GPost w l (.returned (.tuple #[.slice none 0 0, .bool false])) w' :=
  ⟨hb, none, 0, 0, false, rfl, .inl ⟨rfl, h⟩⟩
/-- what a round of guess's first loop keeps -/
def G1 (nb : Nat) (l : List UInt8) (n : Nat) (w : World) (a v7 v8 i : Value) (wr : World) : Prop :=
  ∃ (k at0 : Nat) (ps : List PV) (zs : List Int), k ≤ n ∧ a = .int .i64 (at0 : Int) ∧ i = .int .i64 (k : Int) ∧ wr.ownsRow w.heap.size 47 2 v7 k (pc ps) ∧ wr.ownsRow w.heap.size 3 1 v8 k (is .i64 zs) ∧ Below w.heap.size w wr ∧
    at0 ≤ nb ∧ (∀ p ∈ ps, p.A = none ∧ p.n = 0 ∧ p.c = 0 ∧ p.d = [] ∧ p.name.size ≤ nb) ∧ (∀ z ∈ zs, 0 ≤ z ∧ z ≤ 16777216) ∧ SemR1 l n k at0 ps zs
/-- what a round of guess's second loop keeps -/
def G2 (g cap : Nat) (B nb : Nat) (l : List UInt8) (n : Nat) (w w2 : World) (zs : List Int) (a i : Value) (wr : World) : Prop :=
  ∃ (k at0 : Nat) (ps : List PV), k ≤ n ∧ a = .int .i64 (at0 : Int) ∧ i = .int .i64 (k : Int) ∧ wr.ownsRow w.heap.size 47 2 (.slice (some ⟨g, 0, none⟩) n cap) n (pc ps) ∧ Below w.heap.size w wr ∧ Upd g w2 wr ∧
    at0 ≤ nb ∧ total (pts (ps.take k)) ≤ at0 ∧ (∀ p ∈ ps, wr.ownsRow B 5 1 (.slice p.A p.n p.c) p.n (bs p.d) ∧ p.name.size ≤ nb) ∧ SemR2 l n k at0 ps zs

theorem own_some {w : World} {base n size : Nat} {e : TypeId} {v : Value} {xs : List Value} (h : w.ownsRow base e size v n xs) (hn : 0 < n) : ∃ g cap, v = .slice (some ⟨g, 0, none⟩) n cap := by
  rcases h.2 with ⟨_, h0⟩ | ⟨g, cap, cur, hv, _⟩
  · omega
  · exact ⟨g, cap, hv⟩
theorem part_cells : (Value.agg #[.string ⟨#[]⟩, .slice none 0 0]).cells.size = 2 := by kernel_rfl
theorem pc_setL {ps : List PV} {i : Nat} {p : PV} (A : Option Addr) (n c : Nat) (d : List UInt8) (h : ps[i]? = some p) : (pc ps).set (i * 2 + 1) (.slice A n c) = pc (ps.set i ⟨p.name, A, n, c, d⟩) := by
  have := congrArg Array.toList (pc_set_data A n c d h)
  simpa using this
theorem Upd.of_below {g : Nat} {w w' : World} (hb : Below w.heap.size w w') : Upd g w w' := ⟨hb.os, hb.tape, hb.output, hb.size, fun i hi _ => hb.block i hi⟩
theorem data_set {B g nb j n c : Nat} {w w' : World} {qs : List PV} {p : PV} {A : Option Addr} {d : List UInt8} (h : ∀ p ∈ qs, w.ownsRow B 5 1 (.slice p.A p.n p.c) p.n (bs p.d) ∧ p.name.size ≤ nb) (hp : qs[j]? = some p) (hb : Below w.heap.size w w') (hn : w'.ownsRow B 5 1 (.slice A n c) n (bs d)) (hg : g < B) (o : Nat) :
    ∀ p' ∈ qs.set j ⟨p.name, A, n, c, d⟩, (w'.setCell ⟨g, o, none⟩ (.slice A n c)).ownsRow B 5 1 (.slice p'.A p'.n p'.c) p'.n (bs p'.d) ∧ p'.name.size ≤ nb := by
  intro p' hp'
  rcases mem_set hp' with h' | h'
  · obtain ⟨h1, h2⟩ := h p' h'
    exact ⟨own_upd (own_keep h1 hb) ((Upd.refl g w').set_ o _) hg, h2⟩
  · subst h'
    exact ⟨own_upd hn ((Upd.refl g w').set_ o _) hg, (h p (List.mem_of_getElem? hp)).2⟩
theorem infoPartR : (Tryd.prog.info? 47).map (fun i => (i.zero, i.size, i.bytes)) = some (some (.agg #[.string ⟨#[]⟩, .slice none 0 0]), 2, 40) := by kernel_rfl

set_option maxRecDepth 100000 in
set_option maxHeartbeats 4000000 in
theorem guess_any (ad : Addr) (nb c : Nat) (l : List UInt8) (w : World) (hs : SB w (some ad) nb c l) (h9 : 9 ≤ nb) (hn : nb ≤ 1073741824) :
    Calls Tryd.prog 34 #[.slice (some ad) nb c] w (GPost w l) := by
  obtain ⟨i0, hi, hz0, hz1, hz2⟩ := info_parts Tryd.infoU8
  obtain ⟨i1, hi1, hy0, hy1, hy2⟩ := info_parts infoPartR
  obtain ⟨i2, hi2, hx0, hx1, hx2⟩ := info_parts infoInt
  have HI := Lib.hid hi
  have HI1 := Lib.hid hi1
  have HI2 := Lib.hid hi2
  have HS := Lib.hid hs
  have hlen := hs.rb.len
  have HLEN := Lib.hid hlen
  have hcap := hs.cap
  have HU := Lib.hid (readUint_any (some ad) nb c 4 l w hs.rb (by omega) (by omega))
  clear hs hlen hi hi1 hi2
  go_enter Tryd.func34, Tryd.ntmps34
  go_wp2_with fail
  refine HU.out.mono ?_
  intro e w1 hpost
  clear HU
  unfold UPost at hpost
  generalize hR : uintOf l 4 = R at hpost
  have HR := Lib.hid hR
  clear hR
  rcases R with _ | ⟨v, k0⟩
  · obtain ⟨hb, rfl⟩ := hpost
    have HN := Lib.hid (semR1_bad (l := l) (fun v k h => by rw [HR.out] at h; cases h))
    have B1 := Lib.hid hb
    clear hb
    go_wp2_with fail
    go_ret2
    exact GPost.bad B1.out HN.out
  · obtain ⟨hb, rfl⟩ := hpost
    have B1 := Lib.hid hb
    have hv64 := uintOf_lt HR.out
    have hvb : v ≤ 18446744073709551615 := by
      have e : (2 : Nat) ^ 64 = 18446744073709551616 := by decide
      omega
    clear hb hv64
    by_cases hv : 64 < v
    · have hv' : (64 : Int) < (v : Int) := by omega
      have HN := Lib.hid (semR1_bad (l := l) (fun v' k h => by rw [HR.out] at h; injection h with h; injection h with h1 h2; omega))
      go_wp2_with fail
      go_ret2
      exact GPost.bad B1.out HN.out
    · have hv' : (v : Int) ≤ 64 := by omega
      have S1 := Lib.hid (semR1_start HR.out)
      have hle := (textOf_some HR.out).2.1
      rw [HLEN.out, show (4 : Int).toNat = 4 from rfl] at hle
      rw [show (4 : Int).toNat = 4 from rfl]
      obtain ⟨a1, hA1⟩ : ∃ a1, a1 = 4 + k0 := ⟨_, rfl⟩
      rw [← hA1] at S1 hle ⊢
      clear hA1
      have wv : IntKind.i64.wrap (v : Int) = (v : Int) := by rw [IntKind.wrap_i64]; omega
      go_wp2_with fail
      go_loopw [5, 7, 8, 9] (fun a v7 v8 i wr => G1 nb l v w a v7 v8 i wr) (fun _ _ _ i _ => v - (intOf i).toNat)
      case atStart => exact ⟨0, a1, [], [], Nat.zero_le _, rfl, rfl, World.ownsRow_nil _ _ _ _, World.ownsRow_nil _ _ _ _, B1.out, hle, (fun p hp => by cases hp), (fun z hz => by cases hz), S1.out⟩
      case round =>
        obtain ⟨k, at0, ps, zs, hk, rfl, rfl, hrow, hints, hb, han, hnil, hrange, hsem⟩ := hrel
        have HROW := Lib.hid hrow
        have HINT := Lib.hid hints
        have HNIL := Lib.hid hnil
        have HRG := Lib.hid hrange
        have HSEM := Lib.hid hsem
        have BB := Lib.hid hb
        clear S1 hrow hints hnil hrange hsem
        by_cases hlt : k < v
        · go_wp2_with fail
          refine (readText_any (some ad) nb c (at0 : Int) l wr (HS.out.keep hb) (by omega) (by omega)).mono ?_
          intro e w2 hpost
          unfold UTPost at hpost
          generalize hR : textOf l (at0 : Int) = R at hpost
          have HRT := Lib.hid hR
          clear hR
          rcases R with _ | ⟨sx, q⟩
          · obtain ⟨hb2, rfl⟩ := hpost
            have B2 : Hid (Below w.heap.size w w2) := Lib.hid (hb.trans (hb2.mono hb.size))
            have HN := Lib.hid (semR1_stop HSEM.out hlt HRT.out)
            clear hb2 hb
            go_wp2_with fail
            go_ret2
            exact GPost.bad B2.out HN.out
          · obtain ⟨hb2, rfl⟩ := hpost
            rw [show (at0 : Int).toNat = at0 from rfl]
            have hle2 := textOf_le HRT.out (by rw [HLEN.out]; omega)
            rw [HLEN.out] at hle2
            obtain ⟨a2, hA2⟩ : ∃ a2, a2 = at0 + q := ⟨_, rfl⟩
            rw [← hA2] at hle2 ⊢
            have HA2 := Lib.hid hA2
            have B2 : Hid (Below w.heap.size w w2) := Lib.hid (hb.trans (hb2.mono hb.size))
            have ROW2 := Lib.hid (own_keep HROW.out hb2)
            have INT2 := Lib.hid (own_keep HINT.out hb2)
            obtain ⟨ha2, hsl⟩ := hle2
            clear hA2 hb2 hb HROW HINT BB
            go_wp2_with fail
            refine (readUint_any (some ad) nb c (a2 : Int) l w2 (HS.out.keep B2.out).rb (by omega) (by omega)).mono ?_
            intro e w3 hpost
            unfold UPost at hpost
            generalize hR : uintOf l (a2 : Int) = R at hpost
            have HRU := Lib.hid hR
            clear hR
            rcases R with _ | ⟨r, j⟩
            · obtain ⟨hb3, rfl⟩ := hpost
              have B3 : Hid (Below w.heap.size w w3) := Lib.hid (B2.out.trans (hb3.mono B2.out.size))
              have HN := Lib.hid (semR1_stop2 HSEM.out hlt HRT.out HA2.out (fun v j h => by rw [HRU.out] at h; cases h))
              clear hb3
              go_wp2_with fail
              go_ret2
              exact GPost.bad B3.out HN.out
            · obtain ⟨hb3, rfl⟩ := hpost
              rw [show (a2 : Int).toNat = a2 from rfl]
              have B3 : Hid (Below w.heap.size w w3) := Lib.hid (B2.out.trans (hb3.mono B2.out.size))
              have hr64 := uintOf_lt HRU.out
              have hrb : r ≤ 18446744073709551615 := by
                have e : (2 : Nat) ^ 64 = 18446744073709551616 := by decide
                omega
              clear hr64
              by_cases hr : 16777216 < r
              · have hr' : (16777216 : Int) < (r : Int) := by omega
                have HN := Lib.hid (semR1_stop2 HSEM.out hlt HRT.out HA2.out (fun v j h => by rw [HRU.out] at h; injection h with h; injection h with h1 h2; omega))
                clear hb3
                go_wp2_with fail
                go_ret2
                exact GPost.bad B3.out HN.out
              · have hr' : (r : Int) ≤ 16777216 := by omega
                have wr' : IntKind.i64.wrap (r : Int) = (r : Int) := by rw [IntKind.wrap_i64]; omega
                have S3 := Lib.hid (semR1_next HSEM.out hlt HRT.out HA2.out HRU.out)
                have hle3 := (textOf_some HRU.out).2.1
                rw [HLEN.out, show (a2 : Int).toNat = a2 from rfl] at hle3
                obtain ⟨a3, hA3⟩ : ∃ a3, a3 = a2 + j := ⟨_, rfl⟩
                rw [← hA3] at S3 hle3 ⊢
                have ROW3 := Lib.hid (own_keep ROW2.out hb3)
                have INT3 := Lib.hid (own_keep INT2.out hb3)
                have D3 := Lib.hid (own_diff ROW3.out INT3.out (by decide))
                clear hA3 hb3 ROW2 INT2 HSEM
                go_wp2_with (at_builtin; first
                  | (refine wpList_append_any _ rfl (.tmp 57) (.tmp 60) _ rfl w.heap.size 47 i1 _ 2 40 Tryd.underlying24 HI1.out hy0 hy1 hy2 part_cells (by decide) _ _ _ rfl (ROW3.out.alloc _) _ (some ⟨w3.heap.size, 0, none⟩) 1 1 (pc [⟨⟨sx.toArray⟩, none, 0, 0, []⟩]) rfl (Reads.litN _ _ _ _ 2 1 _ _ rfl (by simp [pc, cell2]) (by simp [pc, cell2])) (pc_one _) (by unfold maxLen; omega) (by omega) (by have := B3.out.size; simp; omega) ?_; intro v4 w4 hown4 hg4 hat4; have B4 : Hid (Below w.heap.size w w4) := Lib.hid (own_below (B3.out.alloc B3.out.size _) (Nat.le_refl _) (ROW3.out.alloc _) (Nat.le_refl _) hg4); have ROW4 := Lib.hid hown4; have INT4 := Lib.hid ((INT3.out.alloc _).kept hg4 D3.out); have D4 := Lib.hid (own_diff INT4.out ROW4.out (by decide)); clear hown4 hg4 hat4)
                  | (refine wpList_append_any _ rfl (.tmp 62) (.tmp 65) _ rfl w.heap.size 3 i2 _ 1 8 Tryd.underlying71 HI2.out hx0 hx1 hx2 rfl (by decide) _ _ _ rfl (INT4.out.alloc _) _ (some ⟨w4.heap.size, 0, none⟩) 1 1 (is .i64 [(r : Int)]) rfl (Reads.litN _ _ _ _ 1 1 _ _ rfl (by simp [is]) (by simp [is])) (is_one _ _) (by unfold maxLen; omega) (by omega) (by have := B4.out.size; simp; omega) ?_; intro v5 w5 hown5 hg5 hat5; have B5 : Hid (Below w.heap.size w w5) := Lib.hid (own_below (B4.out.alloc B4.out.size _) (Nat.le_refl _) (INT4.out.alloc _) (Nat.le_refl _) hg5); have INT5 := Lib.hid hown5; have ROW5 := Lib.hid ((ROW4.out.alloc _).kept hg5 D4.out); clear hown5 hg5 hat5))
                go_roundw
                case rel =>
                  refine ⟨k + 1, a3, ps ++ [⟨⟨sx.toArray⟩, none, 0, 0, []⟩], zs ++ [(r : Int)], by omega, rfl, by go_num, ?_, ?_, B5.out, by omega, ?_, ?_, S3.out⟩
                  · rw [pc_append]; exact ROW5.out
                  · rw [is_append]; exact INT5.out
                  · intro p hp
                    rcases List.mem_append.1 hp with hp | hp
                    · exact HNIL.out p hp
                    · simp at hp
                      subst hp
                      exact ⟨rfl, rfl, rfl, rfl, hsl⟩
                  · intro z hz
                    rcases List.mem_append.1 hz with hz | hz
                    · exact HRG.out z hz
                    · simp at hz
                      omega
                case measure => simp [intOf]; omega
        · obtain rfl : k = v := by omega
          have S2 := Lib.hid (semR_turn HSEM.out)
          have hps : ps.length = k := by have := HROW.out.1; rw [pc_length] at this; omega
          have hzs : zs.length = k := by have := HINT.out.1; rw [is_length] at this; omega
          have HPS := Lib.hid hps
          have HZS := Lib.hid hzs
          clear HSEM hps hzs hb
          by_cases hk0 : k = 0
          · subst hk0
            obtain ⟨A7, c7, rfl, hc7, _⟩ := own_slice2 HROW.out
            have hp0 : ps = [] := List.length_eq_zero_iff.1 HPS.out
            have HEND := Lib.hid (semR2_end S2.out HPS.out)
            go_wp2_with fail
            go_loopw [16] (fun i wr2 => i = .int .i64 0 ∧ wr2 = wr) (fun _ _ => 0)
            case atStart => exact ⟨rfl, rfl⟩
            case round =>
              obtain ⟨rfl, rfl⟩ := hrel
              go_wp2_with fail
              go_ret2
              exact ⟨BB.out, A7, 0, c7, true, rfl, .inr ⟨rfl, [], ⟨fun p hp => (by cases hp), by have := HROW.out; rw [hp0] at this; exact this⟩, by omega, Room.nil, fun L h1 h2 => by have := HEND.out L h1 h2; rw [hp0] at this; exact this⟩⟩
          · rename World => w2
            obtain ⟨g, cap, rfl⟩ := own_some HROW.out (by omega)
            obtain ⟨gs, cs, rfl⟩ := own_some HINT.out (by omega)
            have D2 : Hid ((Value.slice (some ⟨gs, 0, none⟩) k cs).ownBlock = none ∨ (Value.slice (some ⟨gs, 0, none⟩) k cs).ownBlock ≠ some g) := Lib.hid (own_diff HROW.out HINT.out (by decide))
            obtain ⟨hgl, hglt⟩ := HROW.out.lt g rfl
            go_wp2_with fail
            go_loopw [5, 16] (fun a i wr => G2 g cap w2.heap.size nb l k w w2 zs a i wr) (fun _ i _ => k - (intOf i).toNat)
            case atStart =>
              exact ⟨0, at0, ps, Nat.zero_le _, rfl, rfl, HROW.out, BB.out, Upd.refl _ _, han, by simp [pts, total], fun p hp => (by
                obtain ⟨h1, h2, h3, h4', h5⟩ := HNIL.out p hp
                rw [h1, h2, h3, h4']
                exact ⟨World.ownsRow_nil _ _ _ _, h5⟩), S2.out⟩
            case round =>
              obtain ⟨j, at2, qs, hj, rfl, rfl, hrow2, hb2, hupd, ha2, hta, hown, hsem2⟩ := hrel
              have hqs : qs.length = k := by have := hrow2.1; rw [pc_length] at this; omega
              have HQS := Lib.hid hqs
              have HROW2 := Lib.hid hrow2
              have INT2 := Lib.hid (HINT.out.kept hupd D2.out)
              have HB2 := Lib.hid hb2
              have HOWN := Lib.hid hown
              have HSEM2 := Lib.hid hsem2
              have HTA := Lib.hid hta
              have hgs := (INT2.out.lt gs rfl).2
              clear hqs hrow2 hown hsem2 hta
              by_cases hlj : j < k
              · obtain ⟨z, hz⟩ : ∃ z : Nat, zs[j]? = some (z : Int) := by
                  have hl : j < zs.length := by rw [HZS.out]; exact hlj
                  have := HRG.out zs[j] (List.getElem_mem _)
                  exact ⟨(zs[j]).toNat, by rw [List.getElem?_eq_getElem hl]; congr 1; omega⟩
                have hzb : z ≤ 16777216 := by have := HRG.out _ (List.mem_of_getElem? hz); omega
                have cz : wr.cell? ⟨gs, j, none⟩ = some (.int .i64 (z : Int)) := by rw [INT2.out.cellAt j (by omega)]; simp [is, hz]
                have HZ := Lib.hid hz
                clear hz
                by_cases hfit : nb < at2 + z
                · have HN := Lib.hid (semR2_stop HSEM2.out hlj HZ.out (by rw [HLEN.out]; exact hfit) (by rw [HLEN.out]; exact ha2))
                  have hf' : (nb : Int) < (at2 : Int) + (z : Int) := by omega
                  clear hb2 hupd
                  go_wp2_with fail
                  go_ret2
                  exact GPost.bad HB2.out HN.out
                · have hf' : (at2 : Int) + (z : Int) ≤ (nb : Int) := by omega
                  have i2 : (at2 : Int) ≤ (c : Int) := by omega
                  have i3 : (at2 : Int) + (z : Int) ≤ (c : Int) := by omega
                  have i4 : (0 : Int) ≤ (z : Int) := by omega
                  obtain ⟨p, hp⟩ : ∃ p, qs[j]? = some p := ⟨qs[j]'(by rw [HQS.out]; exact hlj), List.getElem?_eq_getElem _⟩
                  have HP := Lib.hid hp
                  have hpart := RB.part ((HS.out.keep hb2).rb) hcap (lo := at2) (m := z) (by omega)
                  have hdl : ((l.drop at2).take z).length = z := by rw [List.length_take, List.length_drop, HLEN.out]; omega
                  have HDL := Lib.hid hdl
                  clear hp hdl hb2
                  by_cases hca : c = at2
                  · skip
                    obtain rfl : z = 0 := by omega
                    rw [if_pos hca] at hpart
                    have hca' : (c : Int) = (at2 : Int) := by omega
                    have HPT := Lib.hid hpart
                    have HCA := Lib.hid hca
                    clear hpart hca
                    go_wp2_with (at_builtin; refine wpList_append_any _ rfl (.tmp 85) (.tmp 94) _ rfl wr.heap.size 5 i0 _ 1 1 Tryd.underlying26 HI.out hz0 hz1 hz2 rfl (by decide) _ _ _ rfl (own_empty _ _) _ (some ad) 0 (c - at2) (bs ((l.drop at2).take 0)) rfl (Reads.alloc HPT.out (Nat.le_refl _) _) (bs_one _) (by unfold maxLen; omega) (by omega) (by simp) ?_; intro v1 w3 hown1 hg1 hat1; have hown3 : w3.ownsRow wr.heap.size 5 1 v1 0 (bs ((l.drop at2).take 0)) := (by simpa using hown1); have hb3 : Below wr.heap.size wr w3 := own_below ((Below.refl _ _).alloc (Nat.le_refl _) _) (Nat.le_refl _) (own_empty _ _) (Nat.le_refl _) hg1; obtain ⟨A3, c3, rfl, _⟩ := own_sb hown3; have R3 := Lib.hid (own_keep HROW2.out hb3); have N3 := Lib.hid (own_keep INT2.out hb3); have c1 : w3.cell? ⟨g, j * 2 + 1, none⟩ = some (.slice p.A p.n p.c) := (by rw [R3.out.cellAt (j * 2 + 1) (by omega)]; exact (pc_at qs j p HP.out).2); have f1 := R3.out.frozenAt (j * 2 + 1); have N4 := Lib.hid (N3.out.kept (R3.out.stored (j * 2 + 1) (.slice A3 0 c3)).2 D2.out); have c2 : (w3.setCell ⟨g, j * 2 + 1, none⟩ (.slice A3 0 c3)).cell? ⟨gs, j, none⟩ = some (.int .i64 (0 : Int)) := (by rw [N4.out.cellAt j (by omega)]; simp [is, HZ.out]); have ROW4 := Lib.hid (R3.out.stored (j * 2 + 1) (.slice A3 0 c3)).1; have U4 : Hid (Upd g w2 (w3.setCell ⟨g, j * 2 + 1, none⟩ (.slice A3 0 c3))) := Lib.hid ((hupd.trans (Upd.of_below hb3)).set_ _ _); have O4 : Hid (∀ p' ∈ qs.set j ⟨p.name, A3, 0, c3, (l.drop at2).take 0⟩, (w3.setCell ⟨g, j * 2 + 1, none⟩ (.slice A3 0 c3)).ownsRow w2.heap.size 5 1 (.slice p'.A p'.n p'.c) p'.n (bs p'.d) ∧ p'.name.size ≤ nb) := Lib.hid (data_set HOWN.out HP.out hb3 (own_mono hown3 hupd.size) hglt _); clear hown1 hg1 hat1 hown3 hb3)
                    clear c1 f1 c2
                    go_roundw
                    case rel =>
                      refine ⟨j + 1, at2 + 0, qs.set j ⟨p.name, A3, 0, c3, (l.drop at2).take 0⟩, by omega, by go_num, by go_num, ?_, BB.out.trans (U4.out.below BB.out.size hgl), U4.out, by omega, ?_, O4.out, semR2_next A3 0 c3 HSEM2.out hlj HP.out HZ.out⟩
                      · rw [← pc_setL A3 0 c3 _ HP.out]; exact ROW4.out
                      · rw [total_set HP.out]
                        have h1 := HTA.out
                        have h2 := HDL.out
                        simp only at h2 ⊢
                        omega
                    case measure => simp [intOf]; omega
                  · skip
                    rw [if_neg hca] at hpart
                    simp only [Option.map_some] at hpart
                    have hca' : ¬ (c : Int) = (at2 : Int) := by omega
                    have HPT := Lib.hid hpart
                    have HCA := Lib.hid hca
                    clear hpart
                    have e9 : at2 + z - at2 = z := Nat.add_sub_cancel_left ..
                    go_wp2_with (at_builtin; refine wpList_append_any _ rfl (.tmp 85) (.tmp 94) _ rfl wr.heap.size 5 i0 _ 1 1 Tryd.underlying26 HI.out hz0 hz1 hz2 rfl (by decide) _ _ _ rfl (own_empty _ _) _ (some (ad.add at2)) z (c - at2) (bs ((l.drop at2).take z)) (congrArg (fun n => Value.slice (some (ad.add at2)) n (c - at2)) e9) (Reads.alloc HPT.out (Nat.le_refl _) _) (bs_one _) (by unfold maxLen; omega) (by omega) (by simp) ?_; intro v1 w3 hown1 hg1 hat1; have hown3 : w3.ownsRow wr.heap.size 5 1 v1 z (bs ((l.drop at2).take z)) := (by simpa using hown1); have hb3 : Below wr.heap.size wr w3 := own_below ((Below.refl _ _).alloc (Nat.le_refl _) _) (Nat.le_refl _) (own_empty _ _) (Nat.le_refl _) hg1; obtain ⟨A3, c3, rfl, _⟩ := own_sb hown3; have R3 := Lib.hid (own_keep HROW2.out hb3); have N3 := Lib.hid (own_keep INT2.out hb3); have c1 : w3.cell? ⟨g, j * 2 + 1, none⟩ = some (.slice p.A p.n p.c) := (by rw [R3.out.cellAt (j * 2 + 1) (by omega)]; exact (pc_at qs j p HP.out).2); have f1 := R3.out.frozenAt (j * 2 + 1); have N4 := Lib.hid (N3.out.kept (R3.out.stored (j * 2 + 1) (.slice A3 z c3)).2 D2.out); have c2 : (w3.setCell ⟨g, j * 2 + 1, none⟩ (.slice A3 z c3)).cell? ⟨gs, j, none⟩ = some (.int .i64 (z : Int)) := (by rw [N4.out.cellAt j (by omega)]; simp [is, HZ.out]); have ROW4 := Lib.hid (R3.out.stored (j * 2 + 1) (.slice A3 z c3)).1; have U4 : Hid (Upd g w2 (w3.setCell ⟨g, j * 2 + 1, none⟩ (.slice A3 z c3))) := Lib.hid ((hupd.trans (Upd.of_below hb3)).set_ _ _); have O4 : Hid (∀ p' ∈ qs.set j ⟨p.name, A3, z, c3, (l.drop at2).take z⟩, (w3.setCell ⟨g, j * 2 + 1, none⟩ (.slice A3 z c3)).ownsRow w2.heap.size 5 1 (.slice p'.A p'.n p'.c) p'.n (bs p'.d) ∧ p'.name.size ≤ nb) := Lib.hid (data_set HOWN.out HP.out hb3 (own_mono hown3 hupd.size) hglt _); clear hown1 hg1 hat1 hown3 hb3)
                    clear c1 f1 c2
                    go_roundw
                    case rel =>
                      refine ⟨j + 1, at2 + z, qs.set j ⟨p.name, A3, z, c3, (l.drop at2).take z⟩, by omega, by go_num, by go_num, ?_, BB.out.trans (U4.out.below BB.out.size hgl), U4.out, by omega, ?_, O4.out, semR2_next A3 z c3 HSEM2.out hlj HP.out HZ.out⟩
                      · rw [← pc_setL A3 z c3 _ HP.out]; exact ROW4.out
                      · rw [total_set HP.out]
                        have h1 := HTA.out
                        have h2 := HDL.out
                        simp only at h2 ⊢
                        omega
                    case measure => simp [intOf]; omega
              · obtain rfl : j = k := by omega
                have HEND := Lib.hid (semR2_end HSEM2.out HQS.out)
                have hroom : Room qs := ⟨fun p hp => by have := (HOWN.out p hp).2; omega, by
                  have hta := HTA.out
                  rw [List.take_of_length_le (by rw [HQS.out]; omega)] at hta
                  omega⟩
                have HROOM := Lib.hid hroom
                have HRP : Hid (OQ 47 w.heap.size wr (some ⟨g, 0, none⟩) j cap qs) := Lib.hid ⟨fun p hp => own_mono (HOWN.out p hp).1 BB.out.size, HROW2.out⟩
                clear hroom hb2 hupd
                go_wp2_with fail
                go_ret2
                exact ⟨HB2.out, _, _, _, true, rfl, .inr ⟨rfl, qs, HRP.out, by omega, HROOM.out, HEND.out⟩⟩
end Go.Proofs.YtncnocejmbfhaaaDoor.Sec
