/-
  The contract of parts of package section: the parts that a file without its check sum has, if it is one. Conditions: the bytes can be read, and are four or more, within the form's reach.
-/
import Derived.Test.YtncnocejmbfhaaaDoorSecJoin
import Derived.Test.YtncnocejmbfhaaaDoorCodRef
namespace Go.Proofs.YtncnocejmbfhaaaDoor.Sec
open Go.RowKit Wd Cod

/-- w' is w with new blocks, and with writes to the blocks g and h alone -/
structure Far (g h : Nat) (w w' : World) : Prop where
  os : w'.os = w.os
  tape : w'.tape = w.tape
  output : w'.output = w.output
  size : w.heap.size ≤ w'.heap.size
  block : ∀ i, i < w.heap.size → i ≠ g → i ≠ h → w'.heap[i]? = w.heap[i]?
theorem Far.of_below {g h : Nat} {w w' : World} (hb : Below w.heap.size w w') : Far g h w w' := ⟨hb.os, hb.tape, hb.output, hb.size, fun i hi _ _ => hb.block i hi⟩
theorem Far.of_upd {g h : Nat} {w w' : World} (hb : Upd g w w') : Far g h w w' := ⟨hb.os, hb.tape, hb.output, hb.size, fun i hi hg _ => hb.block i hi (fun e => hg (by injection e))⟩
theorem Far.of_upd' {g h : Nat} {w w' : World} (hb : Upd h w w') : Far g h w w' := ⟨hb.os, hb.tape, hb.output, hb.size, fun i hi _ hh => hb.block i hi (fun e => hh (by injection e))⟩
theorem Far.trans {g h : Nat} {w w' w2 : World} (h1 : Far g h w w') (h2 : Far g h w' w2) : Far g h w w2 :=
  ⟨h2.os.trans h1.os, h2.tape.trans h1.tape, h2.output.trans h1.output, Nat.le_trans h1.size h2.size, fun i hi a b => (h2.block i (Nat.lt_of_lt_of_le hi h1.size) a b).trans (h1.block i hi a b)⟩
theorem Far.below {g h B : Nat} {w w' : World} (hf : Far g h w w') (hB : B ≤ w.heap.size) (hg : B ≤ g) (hh : B ≤ h) : Below B w w' :=
  ⟨hf.os, hf.tape, hf.output, hf.size, fun i hi => hf.block i (by omega) (by omega) (by omega)⟩
theorem Blk.apart {g h x : Nat} {w w' : World} {t : TypeId} {cs : Array Value} (hx : Blk w x t cs) (hf : Far g h w w') (hg : x ≠ g) (hh : x ≠ h) : Blk w' x t cs := (hf.block x hx.lt hg hh).trans hx

/-- what the closure of parts captures: the bytes, the index, and whether all was there so far -/
structure PE (B : Nat) (A : Option Addr) (n c at0 : Nat) (ok : Bool) (w : World) : Prop where
  b : Blk w B 26 #[.slice A n c]
  a : Blk w (B + 1) 3 #[.int .i64 (at0 : Int)]
  o : Blk w (B + 1 + 1) 4 #[.bool ok]
section
variable {B : Nat} {A : Option Addr} {n c at0 : Nat} {ok : Bool} {w w' : World}
theorem PE.keep (h : PE B A n c at0 ok w) (hb : Below w.heap.size w w') : PE B A n c at0 ok w' := ⟨h.b.below hb h.b.lt, h.a.below hb h.a.lt, h.o.below hb h.o.lt⟩
theorem PE.drewN (h : PE B A n c at0 ok w) (q : Nat) : PE B A n c at0 ok (w.drewN q) := ⟨h.b.drewN q, h.a.drewN q, h.o.drewN q⟩
theorem PE.setA (h : PE B A n c at0 ok w) (at1 : Nat) : PE B A n c at1 ok (w.setCell ⟨B + 1, 0, none⟩ (.int .i64 (at1 : Int))) :=
  ⟨h.b.far (p := ⟨B + 1, 0, none⟩) (by simp) _, h.a.set_ 0 _, h.o.far (p := ⟨B + 1, 0, none⟩) (by simp) _⟩
theorem PE.setO (h : PE B A n c at0 ok w) (ok1 : Bool) : PE B A n c at0 ok1 (w.setCell ⟨B + 1 + 1, 0, none⟩ (.bool ok1)) :=
  ⟨h.b.far (p := ⟨B + 1 + 1, 0, none⟩) (by simp; omega) _, h.a.far (p := ⟨B + 1 + 1, 0, none⟩) (by simp) _, h.o.set_ 0 _⟩
theorem PE.other (h : PE B A n c at0 ok w) {p : Addr} (hp : B + 1 + 1 < p.block) (u : Value) : PE B A n c at0 ok (w.setCell p u) :=
  ⟨h.b.far (by omega) _, h.a.far (by omega) _, h.o.far (by omega) _⟩
end
/-- how the closure of parts ends -/
def NumPost (B : Nat) (A : Option Addr) (n c at0 : Nat) (ok : Bool) (l : List UInt8) (most : Nat) (w : World) (e : Ending) (w' : World) : Prop :=
  ∃ (at1 : Nat) (ok1 : Bool) (r : Nat), e = .returned (.int .i64 (r : Int)) ∧ PE B A n c at1 ok1 w' ∧ Far (B + 1) (B + 1 + 1) w w' ∧ r ≤ most ∧
    ((ok = true ∧ ok1 = true ∧ ∃ k, uintOf l (at0 : Int) = some (r, k) ∧ at1 = at0 + k) ∨ (ok1 = false ∧ at1 = at0 ∧ (ok = false ∨ ∀ v k, uintOf l (at0 : Int) = some (v, k) → most < v)))

set_option maxRecDepth 100000 in
set_option maxHeartbeats 1000000 in
theorem number_any (B : Nat) (A : Option Addr) (n c at0 : Nat) (ok : Bool) (l : List UInt8) (most : Nat) (w : World) (h : PE B A n c at0 ok w) (hs : RB w A n l) (hn : n ≤ 140737488355328) (hat : at0 ≤ 140737488355328) (hm : most ≤ 1073741824) :
    Calls Tryd.prog 42 #[.int .i64 (most : Int), .pointer (some ⟨B, 0, none⟩), .pointer (some ⟨B + 1, 0, none⟩), .pointer (some ⟨B + 1 + 1, 0, none⟩)] w (NumPost B A n c at0 ok l most w) := by
  have cb : w.cell? ⟨B, 0, none⟩ = some (.slice A n c) := h.b.cell 0
  have ca : w.cell? ⟨B + 1, 0, none⟩ = some (.int .i64 (at0 : Int)) := h.a.cell 0
  have HU := Lib.hid (uint_any A n c (at0 : Int) l w hs hn (by omega))
  have HE := Lib.hid h
  clear h hs
  go_enter Tryd.func42, Tryd.ntmps42
  go_wp2_with fail
  refine HU.out.mono ?_
  intro e w1 hpost
  clear ca cb
  unfold UPost at hpost
  generalize hR : uintOf l (at0 : Int) = R at hpost
  have HR := Lib.hid hR
  clear hR
  rcases R with _ | ⟨v, k⟩
  · obtain ⟨hb, rfl⟩ := hpost
    have E1 := Lib.hid (HE.out.keep hb)
    have co : w1.cell? ⟨B + 1 + 1, 0, none⟩ = some (.bool ok) := E1.out.o.cell 0
    have fo := E1.out.o.frozen 0
    have F1 : Hid (Far (B + 1) (B + 1 + 1) w (w1.setCell ⟨B + 1 + 1, 0, none⟩ (.bool false))) := Lib.hid ((Far.of_below hb).trans (Far.of_upd' ((Upd.refl _ _).set_ 0 _)))
    clear hb
    rcases ok with _ | _
    all_goals
      go_wp2_with fail
      go_ret
      exact ⟨at0, false, 0, rfl, E1.out.setO false, F1.out, Nat.zero_le _, .inr ⟨rfl, rfl, .inr (fun v k h => by rw [HR.out] at h; cases h)⟩⟩
  · obtain ⟨hb, rfl⟩ := hpost
    have hv64 := uintOf_lt HR.out
    have hvb : v ≤ 18446744073709551615 := by have e : (2 : Nat) ^ 64 = 18446744073709551616 := by decide
                                              omega
    have HV64 := Lib.hid hv64
    have E1 := Lib.hid (HE.out.keep hb)
    have co : w1.cell? ⟨B + 1 + 1, 0, none⟩ = some (.bool ok) := E1.out.o.cell 0
    have ca : w1.cell? ⟨B + 1, 0, none⟩ = some (.int .i64 (at0 : Int)) := E1.out.a.cell 0
    have fo := E1.out.o.frozen 0
    have fa := E1.out.a.frozen 0
    have F1 : Hid (Far (B + 1) (B + 1 + 1) w (w1.setCell ⟨B + 1 + 1, 0, none⟩ (.bool false))) := Lib.hid ((Far.of_below hb).trans (Far.of_upd' ((Upd.refl _ _).set_ 0 _)))
    have F2 : Hid (Far (B + 1) (B + 1 + 1) w (w1.setCell ⟨B + 1, 0, none⟩ (.int .i64 ((at0 + k : Nat) : Int)))) := Lib.hid ((Far.of_below hb).trans (Far.of_upd ((Upd.refl _ _).set_ 0 _)))
    clear hb hv64
    rcases ok with _ | _
    · go_wp2_with fail
      go_ret
      exact ⟨at0, false, 0, rfl, E1.out.setO false, F1.out, Nat.zero_le _, .inr ⟨rfl, rfl, .inl rfl⟩⟩
    · by_cases hvm : most < v
      · have hvm' : (most : Int) < (v : Int) := by omega
        go_wp2_with fail
        go_ret
        exact ⟨at0, false, 0, rfl, E1.out.setO false, F1.out, Nat.zero_le _, .inr ⟨rfl, rfl, .inr (fun v' k' h => by rw [HR.out] at h; injection h with h; injection h with h1 h2; omega)⟩⟩
      · have hvm' : (v : Int) ≤ (most : Int) := by omega
        rw [show (at0 : Int).toNat = at0 from rfl]
        obtain ⟨a1, hA1⟩ : ∃ a1, a1 = at0 + k := ⟨_, rfl⟩
        rw [← hA1] at F2 ⊢
        have HA1 := Lib.hid hA1
        clear hA1
        go_wp2_with fail
        go_ret
        exact ⟨a1, true, v, rfl, E1.out.setA a1, F2.out, by omega, .inl ⟨rfl, rfl, k, HR.out, HA1.out⟩⟩

/-- no part yet -/
def pv0 : PV := ⟨⟨#[]⟩, none, 0, 0, []⟩
theorem pc_set_name {ps : List PV} {i : Nat} {p : PV} (s : ByteArray) (h : ps[i]? = some p) : (pc ps).toArray.setIfInBounds (i * 2) (.string s) = (pc (ps.set i ⟨s, p.A, p.n, p.c, p.d⟩)).toArray := by
  apply Array.ext'
  simp only [Array.toList_setIfInBounds]
  induction ps generalizing i with
  | nil => simp at h
  | cons q ps ih =>
    have e : ∀ (q : PV) (ps : List PV), pc (q :: ps) = .string q.name :: .slice q.A q.n q.c :: pc ps := fun q ps => by simp [pc, cell2]
    cases i with
    | zero => simp at h; subst h; simp [e]
    | succ i =>
      have h' := ih (i := i) (by simpa using h)
      rw [e, List.set_cons_succ, e, show (i + 1) * 2 = i * 2 + 1 + 1 from by omega, List.set_cons_succ, List.set_cons_succ, h']
theorem pc_set_data {ps : List PV} {i : Nat} {p : PV} (A : Option Addr) (n c : Nat) (d : List UInt8) (h : ps[i]? = some p) : (pc ps).toArray.setIfInBounds (i * 2 + 1) (.slice A n c) = (pc (ps.set i ⟨p.name, A, n, c, d⟩)).toArray := by
  apply Array.ext'
  simp only [Array.toList_setIfInBounds]
  induction ps generalizing i with
  | nil => simp at h
  | cons q ps ih =>
    have e : ∀ (q : PV) (ps : List PV), pc (q :: ps) = .string q.name :: .slice q.A q.n q.c :: pc ps := fun q ps => by simp [pc, cell2]
    cases i with
    | zero => simp at h; subst h; simp [e]
    | succ i =>
      have h' := ih (i := i) (by simpa using h)
      rw [show (i + 1) * 2 + 1 = i * 2 + 1 + 1 + 1 from by omega, e, List.set_cons_succ, List.set_cons_succ, h', List.set_cons_succ, e]
theorem is_set (k : IntKind) (zs : List Int) (i : Nat) (z : Int) : (is k zs).toArray.setIfInBounds i (.int k z) = (is k (zs.set i z)).toArray := by
  apply Array.ext'
  simp [is, List.map_set]

/-- what is known while the heads of the parts are read: of every list of parts whose file l is, k heads have been passed -/
def Sem1 (l : List UInt8) (n k at0 : Nat) (ok : Bool) (ps : List PV) (zs : List Int) : Prop :=
  ∀ L, chk L = 0 → body L = l → ok = true ∧ L.length = n ∧ (∀ j, j < k → (ps[j]?).map PV.name = (L[j]?).map Pt.name) ∧ (∀ j, j < k → zs[j]? = (L[j]?).map fun p : Pt => ((p.data.length : Nat) : Int)) ∧ l.drop at0 = (L.drop k).flatMap hd ++ L.flatMap Pt.data
/-- the same while the data are read -/
def Sem2 (l : List UInt8) (n k at0 : Nat) (ok : Bool) (ps : List PV) (zs : List Int) : Prop :=
  ∀ L, chk L = 0 → body L = l → ok = true ∧ L.length = n ∧ (∀ j : Nat, (ps[j]?).map PV.name = (L[j]?).map Pt.name) ∧ (∀ j : Nat, zs[j]? = (L[j]?).map fun p : Pt => ((p.data.length : Nat) : Int)) ∧ (∀ j, j < k → (ps[j]?).map PV.d = (L[j]?).map Pt.data) ∧ l.drop at0 = (L.drop k).flatMap Pt.data

theorem uintOf_put {l r : List UInt8} {at0 v : Nat} (hv : v < 2 ^ 64) (h : l.drop at0 = put v ++ r) : uintOf l (at0 : Int) = some (v, (put v).length) := by
  unfold uintOf
  rw [if_neg (by omega), show (at0 : Int).toNat = at0 from rfl, h, rd_put v r hv]
theorem textOf_put {l r s : List UInt8} {at0 : Nat} (hv : s.length < 2 ^ 64) (h : l.drop at0 = putT s ++ r) : textOf l (at0 : Int) = some (s, (putT s).length) := by
  unfold textOf
  rw [if_neg (by omega), show (at0 : Int).toNat = at0 from rfl, h, rdT_put s r hv]
theorem drop_more {l a r : List UInt8} {at0 : Nat} (h : l.drop at0 = a ++ r) : l.drop (at0 + a.length) = r := by
  rw [← List.drop_drop, h, List.drop_left]
/-- the number of parts -/
theorem sem1_start {l : List UInt8} {at1 r : Nat} {ok1 : Bool} (h : (ok1 = true ∧ ∃ k, uintOf l 4 = some (r, k) ∧ at1 = 4 + k) ∨ (ok1 = false ∧ ∀ v k, uintOf l 4 = some (v, k) → 64 < v)) (ps : List PV) (zs : List Int) : Sem1 l r 0 at1 ok1 ps zs := by
  intro L hc hl
  have hz := chk_zero hc
  have e4 : l.drop 4 = put L.length ++ (L.flatMap hd ++ L.flatMap Pt.data) := by
    rw [← hl]; unfold body; simp [magic]
  have hu := uintOf_put (chk_small hc).1 e4
  rcases h with ⟨h1, k, h2, h3⟩ | ⟨h1, h2⟩
  · rw [show ((4 : Nat) : Int) = 4 from rfl] at hu
    rw [hu] at h2
    injection h2 with h2
    injection h2 with h4 h5
    refine ⟨h1, h4, fun j hj => absurd hj (by omega), fun j hj => absurd hj (by omega), ?_⟩
    rw [h3, ← h5]
    exact drop_more e4
  · exact absurd (h2 _ _ hu) (by omega)
/-- one head -/
theorem sem1_next {l : List UInt8} {n k at0 at1 at2 r : Nat} {ok2 : Bool} {ps : List PV} {zs : List Int} {s : List UInt8} {q : Nat} {p : PV} (hs : Sem1 l n k at0 true ps zs) (hk : k < n) (hp : ps[k]? = some p) (hz : k < zs.length)
    (ht : textOf l (at0 : Int) = some (s, q)) (h1 : at1 = at0 + q) (h2 : (ok2 = true ∧ ∃ j, uintOf l (at1 : Int) = some (r, j) ∧ at2 = at1 + j) ∨ (ok2 = false ∧ ∀ v j, uintOf l (at1 : Int) = some (v, j) → 16777216 < v)) :
    Sem1 l n (k + 1) at2 ok2 (ps.set k ⟨⟨s.toArray⟩, p.A, p.n, p.c, p.d⟩) (zs.set k (r : Int)) := by
  intro L hc hl
  obtain ⟨_, hlen, hn, hzs, hrest⟩ := hs L hc hl
  have hkL : k < L.length := by omega
  have hsm := (chk_small hc).2 L[k] (List.getElem_mem _)
  have hdat := le_total (List.getElem_mem (l := L) hkL)
  have htot := (chk_zero hc).2.1
  have e1 : l.drop at0 = putT L[k].name.data.toList ++ (put L[k].data.length ++ ((L.drop (k + 1)).flatMap hd ++ L.flatMap Pt.data)) := by
    rw [hrest, List.drop_eq_getElem_cons hkL, List.flatMap_cons]
    unfold hd
    simp only [List.append_assoc]
  have ht' := textOf_put hsm.1 e1
  rw [ht] at ht'
  injection ht' with ht'
  injection ht' with ht1 ht2
  have e2 := drop_more e1
  rw [← ht2, ← h1] at e2
  have hu := uintOf_put hsm.2 e2
  have hps : k < ps.length := (List.getElem?_eq_some_iff.1 hp).1
  rcases h2 with ⟨h3, j, h4, h5⟩ | ⟨h3, h4⟩
  · rw [hu] at h4
    injection h4 with h4
    injection h4 with h6 h7
    refine ⟨h3, hlen, fun i hi => ?_, fun i hi => ?_, ?_⟩
    · rw [List.getElem?_set]
      by_cases e : k = i
      · subst e
        rw [if_pos rfl, if_pos hps, List.getElem?_eq_getElem hkL]
        simp only [Option.map_some, Option.some.injEq]
        rw [ht1]
      · rw [if_neg e]; exact hn i (by omega)
    · rw [List.getElem?_set]
      by_cases e : k = i
      · subst e
        rw [if_pos rfl, if_pos hz, List.getElem?_eq_getElem hkL]
        simp only [Option.map_some, Option.some.injEq]
        rw [h6]
      · rw [if_neg e]; exact hzs i (by omega)
    · rw [h5, ← h7]
      exact drop_more e2
  · exact absurd (h4 _ _ hu) (by omega)
/-- no head is there -/
theorem sem1_stop {l : List UInt8} {n k at0 : Nat} {ps : List PV} {zs : List Int} (hs : Sem1 l n k at0 true ps zs) (hk : k < n) (ht : textOf l (at0 : Int) = none) (L : List Pt) (hc : chk L = 0) : body L ≠ l := by
  intro hl
  obtain ⟨_, hlen, hn, hzs, hrest⟩ := hs L hc hl
  have hkL : k < L.length := by omega
  have hsm := (chk_small hc).2 L[k] (List.getElem_mem _)
  have e1 : l.drop at0 = putT L[k].name.data.toList ++ (put L[k].data.length ++ ((L.drop (k + 1)).flatMap hd ++ L.flatMap Pt.data)) := by
    rw [hrest, List.drop_eq_getElem_cons hkL, List.flatMap_cons]
    unfold hd
    simp only [List.append_assoc]
  have ht' := textOf_put hsm.1 e1
  rw [ht] at ht'
  cases ht'
theorem sem_turn {l : List UInt8} {n k at0 : Nat} {ok : Bool} {ps : List PV} {zs : List Int} (hs : Sem1 l n k at0 ok ps zs) (hk : k = n ∨ ok = false) (hps : ps.length = n) (hzs : zs.length = n) : Sem2 l n 0 at0 ok ps zs := by
  intro L hc hl
  obtain ⟨h1, hlen, hn, hz, hrest⟩ := hs L hc hl
  rcases hk with rfl | hk
  · refine ⟨h1, hlen, fun j => ?_, fun j => ?_, fun j hj => absurd hj (by omega), ?_⟩
    · by_cases hj : j < k
      · exact hn j hj
      · rw [List.getElem?_eq_none (by omega), List.getElem?_eq_none (by omega)]; rfl
    · by_cases hj : j < k
      · exact hz j hj
      · rw [List.getElem?_eq_none (by omega), List.getElem?_eq_none (by omega)]; rfl
    · rw [hrest, List.drop_of_length_le (by omega)]; simp
  · rw [h1] at hk; cases hk
/-- one part's data -/
theorem sem2_next {l : List UInt8} {n k at0 z : Nat} {ps : List PV} {zs : List Int} {p : PV} (A : Option Addr) (m c : Nat) (hs : Sem2 l n k at0 true ps zs) (hk : k < n) (hp : ps[k]? = some p) (hz : zs[k]? = some (z : Int)) :
    Sem2 l n (k + 1) (at0 + z) true (ps.set k ⟨p.name, A, m, c, (l.drop at0).take z⟩) zs := by
  intro L hc hl
  obtain ⟨_, hlen, hn, hzs, hd, hrest⟩ := hs L hc hl
  have hkL : k < L.length := by omega
  have hps : k < ps.length := (List.getElem?_eq_some_iff.1 hp).1
  have hz' := hzs k
  rw [hz, List.getElem?_eq_getElem hkL] at hz'
  simp only [Option.map_some, Option.some.injEq] at hz'
  have hz2 : z = L[k].data.length := by omega
  have e1 : l.drop at0 = L[k].data ++ (L.drop (k + 1)).flatMap Pt.data := by
    rw [hrest, List.drop_eq_getElem_cons hkL, List.flatMap_cons]
  refine ⟨rfl, hlen, fun i => ?_, hzs, fun i hi => ?_, ?_⟩
  · rw [List.getElem?_set]
    by_cases e : k = i
    · subst e
      rw [if_pos rfl, if_pos hps, ← hn k, hp]; rfl
    · rw [if_neg e]; exact hn i
  · rw [List.getElem?_set]
    by_cases e : k = i
    · subst e
      rw [if_pos rfl, if_pos hps, List.getElem?_eq_getElem hkL]
      simp only [Option.map_some, Option.some.injEq]
      rw [e1, hz2, List.take_left]
    · rw [if_neg e]; exact hd i (by omega)
  · rw [hz2]; exact drop_more e1
/-- data are lacking -/
theorem sem2_stop {l : List UInt8} {n k at0 z : Nat} {ok : Bool} {ps : List PV} {zs : List Int} (hs : Sem2 l n k at0 ok ps zs) (hk : k < n) (hz : zs[k]? = some (z : Int)) (h : ok = false ∨ l.length - at0 < z) (L : List Pt) (hc : chk L = 0) : body L ≠ l := by
  intro hl
  obtain ⟨h1, hlen, hn, hzs, hd, hrest⟩ := hs L hc hl
  have hkL : k < L.length := by omega
  rcases h with h | h
  · rw [h1] at h; cases h
  · have hz' := hzs k
    rw [hz, List.getElem?_eq_getElem hkL] at hz'
    simp only [Option.map_some, Option.some.injEq] at hz'
    have e1 : l.drop at0 = L[k].data ++ (L.drop (k + 1)).flatMap Pt.data := by
      rw [hrest, List.drop_eq_getElem_cons hkL, List.flatMap_cons]
    have := congrArg List.length e1
    rw [List.length_drop, List.length_append] at this
    omega
/-- the end -/
theorem sem2_end {l : List UInt8} {n at0 : Nat} {ok : Bool} {ps : List PV} {zs : List Int} (hs : Sem2 l n n at0 ok ps zs) (hps : ps.length = n) (hat : at0 ≤ l.length) (L : List Pt) (hc : chk L = 0) (hl : body L = l) : ok = true ∧ at0 = l.length ∧ pts ps = L := by
  obtain ⟨h1, hlen, hn, hzs, hd, hrest⟩ := hs L hc hl
  refine ⟨h1, ?_, ?_⟩
  · have e : L.drop n = [] := List.drop_of_length_le (by omega)
    rw [e] at hrest
    have := congrArg List.length hrest
    simp at this
    omega
  · apply List.ext_getElem?
    intro j
    have a := hn j
    by_cases hj : j < n
    · have b := hd j hj
      unfold pts
      rw [List.getElem?_map]
      rw [List.getElem?_eq_getElem (by omega), List.getElem?_eq_getElem (by omega)] at *
      simp only [Option.map_some, Option.some.injEq] at a b ⊢
      unfold PV.pt
      rw [a, b]
    · rw [List.getElem?_eq_none (by rw [pts_length]; omega), List.getElem?_eq_none (by omega)]

/-- a slice of parts of the call's own, with data of the call's own, in blocks from lo on -/
structure OP (lo : Nat) (w : World) (A : Option Addr) (n : Nat) (ps : List PV) : Prop where
  own : ∀ p ∈ ps, w.ownsRow lo 5 1 (.slice p.A p.n p.c) p.n (bs p.d)
  blk : n = 0 ∨ ∃ g, lo ≤ g ∧ A = some ⟨g, 0, none⟩ ∧ Blk w g 46 (pc ps).toArray
  len : ps.length = n
theorem own_upd {w w2 : World} {base n size g : Nat} {e : TypeId} {v : Value} {xs : List Value} (h : w.ownsRow base e size v n xs) (hu : Upd g w w2) (hg : g < base) : w2.ownsRow base e size v n xs :=
  World.ownsRow.kept (row := some g) h hu (by
    cases hv : v.ownBlock with
    | none => exact .inl rfl
    | some x => exact .inr (by have := (h.lt x hv).1; simp; omega))
theorem own_sb1 {w : World} {base n c : Nat} {e : TypeId} {A : Option Addr} {l : List UInt8} (h : w.ownsRow base e 1 (.slice A n c) n (bs l)) : SB w A n c l := by
  obtain ⟨A', c', e, hs⟩ := own_sb h
  injection e with e1 e2 e3
  subst e1 e3
  exact hs
theorem OP.rp {lo : Nat} {w : World} {A : Option Addr} {n : Nat} {ps : List PV} (h : OP lo w A n ps) : RP w A n ps := by
  refine ⟨⟨by rw [pc_length, h.len], fun hn => ?_⟩, fun p hp => own_sb1 (h.own p hp)⟩
  rcases h.blk with h0 | ⟨g, hg, rfl, hb⟩
  · omega
  · refine ⟨_, rfl, hb.lt, fun j u hu => ?_⟩
    have ha : (⟨g, 0, none⟩ : Addr).add j = ⟨g, j, none⟩ := by
      unfold Addr.add; by_cases h : j = 0 <;> simp [h]
    rw [ha, hb.cell]
    simpa using hu
theorem OP.keep {lo : Nat} {w w' : World} {A : Option Addr} {n : Nat} {ps : List PV} (h : OP lo w A n ps) (hb : Below w.heap.size w w') : OP lo w' A n ps :=
  ⟨fun p hp => own_keep (h.own p hp) hb, by
    rcases h.blk with h0 | ⟨g, hg, rfl, hb'⟩
    · exact .inl h0
    · exact .inr ⟨g, hg, rfl, hb'.below hb hb'.lt⟩, h.len⟩
/-- how parts ends -/
def PPost (w : World) (l : List UInt8) (e : Ending) (w' : World) : Prop :=
  Below w.heap.size w w' ∧ ∃ (A : Option Addr) (n c : Nat) (okb : Bool), e = .returned (.tuple #[.slice A n c, .bool okb]) ∧
    ((okb = false ∧ ∀ L, chk L = 0 → body L ≠ l) ∨ (okb = true ∧ ∃ ps, OP w.heap.size w' A n ps ∧ n ≤ 64 ∧ n ≤ c ∧ Room ps ∧ ∀ L, chk L = 0 → body L = l → pts ps = L))
/-- what a round of the first loop of parts keeps -/
def P1 (B gl gs : Nat) (A : Option Addr) (nb c : Nat) (l : List UInt8) (n : Nat) (w : World) (i : Value) (wr : World) : Prop :=
  ∃ (k at0 : Nat) (ok : Bool) (ps : List PV) (zs : List Int), k ≤ n ∧ i = .int .i64 (k : Int) ∧ PE B A nb c at0 ok wr ∧ Blk wr gl 46 (pc ps).toArray ∧ Blk wr gs 3 (is .i64 zs).toArray ∧ Below B w wr ∧
    ps.length = n ∧ zs.length = n ∧ 4 ≤ at0 ∧ at0 ≤ nb ∧ (∀ p ∈ ps, p.A = none ∧ p.n = 0 ∧ p.c = 0 ∧ p.d = [] ∧ p.name.size ≤ nb) ∧ (∀ z ∈ zs, 0 ≤ z ∧ z ≤ 16777216) ∧ Sem1 l n k at0 ok ps zs
/-- what a round of the second loop of parts keeps -/
def P2 (B gl gs : Nat) (A : Option Addr) (nb c : Nat) (l : List UInt8) (n : Nat) (w : World) (i : Value) (wr : World) : Prop :=
  ∃ (k at0 : Nat) (ok : Bool) (ps : List PV) (zs : List Int), k ≤ n ∧ i = .int .i64 (k : Int) ∧ PE B A nb c at0 ok wr ∧ Blk wr gl 46 (pc ps).toArray ∧ Blk wr gs 3 (is .i64 zs).toArray ∧ Below B w wr ∧
    ps.length = n ∧ zs.length = n ∧ total (pts (ps.take k)) ≤ at0 ∧ at0 ≤ nb ∧ (∀ p ∈ ps, wr.ownsRow (gs + 1) 5 1 (.slice p.A p.n p.c) p.n (bs p.d) ∧ p.name.size ≤ nb) ∧ (∀ z ∈ zs, 0 ≤ z ∧ z ≤ 16777216) ∧ Sem2 l n k at0 ok ps zs

theorem infoPart : (Tryd.prog.info? 46).map (fun i => (i.zero, i.size, i.bytes)) = some (some (.agg #[.string ⟨#[]⟩, .slice none 0 0]), 2, 40) := by kernel_rfl
theorem infoInt : (Tryd.prog.info? 3).map (fun i => (i.zero, i.size, i.bytes)) = some (some (.int .i64 0), 1, 8) := by kernel_rfl

theorem run_make_rowN {P : Program} (t e : TypeId) (i : TypeInfo) (z : Value) (ht : P.underlying t = some (.slice e)) (hi : P.info? e = some i) (hz : i.zero = some z)
    (kl kc : IntKind) (n : Nat) (hbytes : i.bytes * n ≤ 281474976710656) (h63 : n ≤ 9223372036854775807) (w : World) :
    (Instr.makeSlice t (.int kl (n : Int)) (.int kc (n : Int))).run P w = .ok (.slice (some ⟨w.heap.size, 0, none⟩) n n) (w.alloc (.cells (madeCells z.cells (n * i.size)) e)) := by
  have hb : (i.bytes : Int) * (n : Int) ≤ 281474976710656 := by
    have h : ((i.bytes * n : Nat) : Int) ≤ 281474976710656 := by omega
    rwa [Int.natCast_mul] at h
  have hr := run_make (P := P) w t e i z ht hi hz kl kc n n (by omega) (by omega) hb (by omega)
  simp only [Int.toNat_natCast] at hr
  exact hr
theorem pc_rep (n : Nat) : (pc (List.replicate n pv0)).length = n * 2 := by rw [pc_length, List.length_replicate]
theorem made_parts (n : Nat) : madeCells #[.string ⟨#[]⟩, .slice none 0 0] (n * 2) = (pc (List.replicate n pv0)).toArray := by
  apply Array.ext'
  apply List.ext_getElem?
  intro i
  by_cases hi : i < n * 2
  · have hk : (List.replicate n pv0)[i / 2]? = some pv0 := by rw [List.getElem?_replicate, if_pos (by omega)]
    obtain ⟨h1, h2⟩ := pc_at _ _ _ hk
    have e1 : (madeCells #[.string ⟨#[]⟩, .slice none 0 0] (n * 2)).toList[i]? = some ((#[.string ⟨#[]⟩, .slice none 0 0] : Array Value)[i % 2]!) := by
      simp [madeCells, hi]
    rw [e1]
    rcases Nat.mod_two_eq_zero_or_one i with h | h
    · rw [h]
      have : i / 2 * 2 = i := by omega
      rw [this] at h1
      exact h1.symm
    · rw [h]
      have : i / 2 * 2 + 1 = i := by omega
      rw [this] at h2
      exact h2.symm
  · rw [List.getElem?_eq_none (by simp [madeCells]; omega), List.getElem?_eq_none (by simp [pc_rep]; omega)]
theorem made_ints (n : Nat) : madeCells #[.int .i64 0] n = (is .i64 (List.replicate n 0)).toArray := by
  apply Array.ext'
  apply List.ext_getElem?
  intro i
  by_cases hi : i < n
  · have e1 : (madeCells #[.int .i64 0] n).toList[i]? = some ((#[.int .i64 0] : Array Value)[i % 1]!) := by
      simp [madeCells, hi]
    rw [e1, Nat.mod_one]
    simp [is, hi]
  · rw [List.getElem?_eq_none (by simp [madeCells]; omega), List.getElem?_eq_none (by simp [is]; omega)]
theorem run_make_parts (n : Nat) (hn : n ≤ 64) (w : World) : (Instr.makeSlice 22 (.int .i64 (n : Int)) (.int .i64 (n : Int))).run Tryd.prog w = .ok (.slice (some ⟨w.heap.size, 0, none⟩) n n) (w.alloc (.cells (pc (List.replicate n pv0)).toArray 46)) := by
  obtain ⟨i0, hi, hz0, hz1, hz2⟩ := info_parts infoPart
  have := run_make_rowN (P := Tryd.prog) 22 46 i0 _ Tryd.underlying22 hi hz0 .i64 .i64 n (by rw [hz2]; omega) (by omega) w
  rw [this, hz1, ← made_parts]; rfl
theorem run_make_ints (n : Nat) (hn : n ≤ 64) (w : World) : (Instr.makeSlice 71 (.int .i64 (n : Int)) (.int .i64 (n : Int))).run Tryd.prog w = .ok (.slice (some ⟨w.heap.size, 0, none⟩) n n) (w.alloc (.cells (is .i64 (List.replicate n 0)).toArray 3)) := by
  obtain ⟨i0, hi, hz0, hz1, hz2⟩ := info_parts infoInt
  have := run_make_rowN (P := Tryd.prog) 71 3 i0 _ Tryd.underlying71 hi hz0 .i64 .i64 n (by rw [hz2]; omega) (by omega) w
  rw [this, hz1, ← made_ints, Nat.mul_one]; rfl
theorem PE.start (w : World) (A : Option Addr) (n c : Nat) : PE w.heap.size A n c 4 true (((w.alloc (.cells #[.slice A n c] 26)).alloc (.cells #[.int .i64 4] 3)).alloc (.cells #[.bool true] 4)) := by
  have s1 : (w.alloc (.cells #[.slice A n c] 26)).heap.size = w.heap.size + 1 := by simp
  have s2 : ((w.alloc (.cells #[.slice A n c] 26)).alloc (.cells #[.int .i64 4] 3)).heap.size = w.heap.size + 1 + 1 := by simp
  refine ⟨((Blk.new w _ _).alloc _).alloc _, ?_, ?_⟩
  · have h := (Blk.new (w.alloc (.cells #[.slice A n c] 26)) 3 #[.int .i64 4]).alloc (.cells #[.bool true] 4)
    rw [s1] at h
    exact h
  · have h := Blk.new ((w.alloc (.cells #[.slice A n c] 26)).alloc (.cells #[.int .i64 4] 3)) 4 #[.bool true]
    rw [s2] at h
    exact h

end Go.Proofs.YtncnocejmbfhaaaDoor.Sec
