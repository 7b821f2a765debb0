/-
  The plain law of codes of requests: what a request's code is, how it is read, that exactly the codes are read. No program is in sight. Conditions: none.
-/
import Derived.Test.YtkllfnaofapfnaaDoorCodMath
import Derived.Test.YtkllfnaofapfnaaDoorUtfMath
namespace Go.Proofs.YtkllfnaofapfnaaDoor.Prot
open Cod Utf

/-- a number from a list of bytes on -/
def uOf (l : List UInt8) (a : Nat) : Option (Nat × Nat) := rd (l.drop a)
def tOf (l : List UInt8) (a : Nat) : Option (List UInt8 × Nat) := rdT (l.drop a)
/-- a reader: the index, and whether something was not there -/
abbrev St := Nat × Bool
def rU (l : List UInt8) (most : Nat) (s : St) : Nat × St := match s.2, uOf l s.1 with
  | false, some (v, k) => if v ≤ most then (v, (s.1 + k, false)) else (0, (s.1, true))
  | _, _ => (0, (s.1, true))
def rT (l : List UInt8) (s : St) : List UInt8 × St := match s.2, tOf l s.1 with
  | false, some (v, k) => (v, (s.1 + k, false))
  | _, _ => ([], (s.1, true))
def rI (l : List UInt8) (s : St) : Int × St := match s.2, uOf l s.1 with
  | false, some (v, k) => (zag v, (s.1 + k, false))
  | _, _ => (0, (s.1, true))
/-- what the reader has before it -/
def Good (l : List UInt8) (s : St) (rest : List UInt8) : Prop := s.2 = false ∧ l.drop s.1 = rest ∧ s.1 ≤ l.length
theorem drop_more' {l a r : List UInt8} {at0 : Nat} (h : l.drop at0 = a ++ r) : l.drop (at0 + a.length) = r := by
  rw [← List.drop_drop, h, List.drop_left]
theorem good_step {l a r : List UInt8} {at0 : Nat} (h : l.drop at0 = a ++ r) (hl : at0 ≤ l.length) : at0 + a.length ≤ l.length := by
  have := congrArg List.length h
  rw [List.length_drop, List.length_append] at this
  omega
theorem rU_good {l rest : List UInt8} {s : St} {v most : Nat} (h : Good l s (put v ++ rest)) (hv : v ≤ most) (h64 : v < 2 ^ 64) : rU l most s = (v, (s.1 + (put v).length, false)) ∧ Good l (s.1 + (put v).length, false) rest := by
  obtain ⟨h1, h2, h3⟩ := h
  refine ⟨?_, rfl, drop_more' h2, good_step h2 h3⟩
  unfold rU uOf
  rw [h1, h2, rd_put v rest h64]
  simp only
  rw [if_pos hv]
theorem rT_good {l rest t : List UInt8} {s : St} (h : Good l s (putT t ++ rest)) (h64 : t.length < 2 ^ 64) : rT l s = (t, (s.1 + (putT t).length, false)) ∧ Good l (s.1 + (putT t).length, false) rest := by
  obtain ⟨h1, h2, h3⟩ := h
  refine ⟨?_, rfl, drop_more' h2, good_step h2 h3⟩
  unfold rT tOf
  rw [h1, h2, rdT_put t rest h64]
theorem rI_good {l rest : List UInt8} {s : St} {z : Int} (h : Good l s (put (zig z) ++ rest)) (h1' : -9223372036854775808 ≤ z) (h2' : z ≤ 9223372036854775807) : rI l s = (z, (s.1 + (put (zig z)).length, false)) ∧ Good l (s.1 + (put (zig z)).length, false) rest := by
  obtain ⟨h1, h2, h3⟩ := h
  refine ⟨?_, rfl, drop_more' h2, good_step h2 h3⟩
  unfold rI uOf
  rw [h1, h2, rd_put _ rest (zig_lt z h1' h2')]
  simp only [zag_zig]
/-- what was read, if all was there -/
theorem rU_bad {l : List UInt8} {most : Nat} {s : St} (h : s.2 = true) : rU l most s = (0, (s.1, true)) := by unfold rU; rw [h]
theorem rT_bad {l : List UInt8} {s : St} (h : s.2 = true) : rT l s = ([], (s.1, true)) := by unfold rT; rw [h]
theorem rI_bad {l : List UInt8} {s : St} (h : s.2 = true) : rI l s = (0, (s.1, true)) := by unfold rI; rw [h]
theorem rU_sound {l : List UInt8} {most : Nat} {s : St} (h : (rU l most s).2.2 = false) : s.2 = false ∧ (rU l most s).1 ≤ most ∧ l.drop s.1 = put (rU l most s).1 ++ l.drop (rU l most s).2.1 ∧ (s.1 ≤ l.length → (rU l most s).2.1 ≤ l.length) := by
  unfold rU at h ⊢
  rcases hs : s.2 with _ | _
  · rw [hs] at h
    rcases hu : uOf l s.1 with _ | ⟨v, k⟩
    · rw [hu] at h; cases h
    · rw [hu] at h
      simp only at h ⊢
      by_cases hv : v ≤ most
      · rw [if_pos hv]
        obtain ⟨_, hk, ht, _⟩ := rd_sound _ _ _ hu
        refine ⟨trivial, hv, ?_, fun hl => ?_⟩
        · rw [← ht, ← List.drop_drop, List.take_append_drop]
        · rw [List.length_drop] at hk
          simp only
          omega
      · rw [if_neg hv] at h; cases h
  · rw [hs] at h; cases h
theorem rdT_sound {l s : List UInt8} {k : Nat} (h : rdT l = some (s, k)) : k ≤ l.length ∧ l = putT s ++ l.drop k := by
  unfold rdT at h
  split at h
  · cases h
  · next v j hv =>
    obtain ⟨_, hj, ht, _⟩ := rd_sound _ _ _ hv
    split at h
    · next hle =>
      injection h with h
      injection h with h2 h3
      have hl : s.length = v := by rw [← h2, List.length_take, List.length_drop]; omega
      refine ⟨by omega, ?_⟩
      unfold putT
      rw [hl, ← ht, ← h2, ← h3, ← List.drop_drop, List.append_assoc, List.take_append_drop, List.take_append_drop]
    · cases h
theorem rT_sound {l : List UInt8} {s : St} (h : (rT l s).2.2 = false) : s.2 = false ∧ l.drop s.1 = putT (rT l s).1 ++ l.drop (rT l s).2.1 ∧ (s.1 ≤ l.length → (rT l s).2.1 ≤ l.length) := by
  unfold rT at h ⊢
  rcases hs : s.2 with _ | _
  · rw [hs] at h
    rcases hu : tOf l s.1 with _ | ⟨v, k⟩
    · rw [hu] at h; cases h
    · obtain ⟨hk, ht⟩ := rdT_sound hu
      refine ⟨rfl, ?_, fun hl => ?_⟩
      · rw [List.drop_drop] at ht
        exact ht
      · rw [List.length_drop] at hk
        simp only
        omega
  · rw [hs] at h; cases h
theorem zig_zag (u : Nat) : zig (zag u) = u := by
  unfold zig zag
  split <;> split <;> omega
theorem rI_sound {l : List UInt8} {s : St} (h : (rI l s).2.2 = false) : s.2 = false ∧ l.drop s.1 = put (zig (rI l s).1) ++ l.drop (rI l s).2.1 ∧ (s.1 ≤ l.length → (rI l s).2.1 ≤ l.length) := by
  unfold rI at h ⊢
  rcases hs : s.2 with _ | _
  · rw [hs] at h
    rcases hu : uOf l s.1 with _ | ⟨v, k⟩
    · rw [hu] at h; cases h
    · obtain ⟨_, hk, ht, _⟩ := rd_sound _ _ _ hu
      refine ⟨rfl, ?_, fun hl => ?_⟩
      · simp only
        rw [zig_zag, ← ht, ← List.drop_drop, List.take_append_drop]
      · rw [List.length_drop] at hk
        simp only
        omega
  · rw [hs] at h; cases h

/-- a request -/
structure Rq where
  kind : Int
  ses : Int
  kk : Int
  kc : Nat
  bef : ByteArray
  sel : ByteArray
  on : Bool
  sur : ByteArray
  seen : List Int
  data : List UInt8
def hasS (z : Int) : Bool := decide (z = 2 ∨ z = 3 ∨ z = 4 ∨ z = 5 ∨ z = 9)
def numB (z : Int) : Bool := decide (0 ≤ z ∧ z ≤ 2147483647)
def vt (s : ByteArray) : Bool := (runes s.data.toList).isSome
def nb (z lo hi : Int) : Bool := decide (lo ≤ z ∧ z ≤ hi)
def emB (s : ByteArray) : Bool := decide (s.size = 0)
def keyB (kk : Int) (kc : Nat) : Bool := decide (kk = 0 ∧ kc = 0)
def argB (r : Rq) : Bool := nb r.kind 1 9 && (r.ses == 0 || hasS r.kind) && (keyB r.kk r.kc || r.kind == 3) && ((emB r.bef && emB r.sel) || r.kind == 4) && (!r.on || r.kind == 5) && (emB r.sur || r.kind == 6) && (r.seen.length == 0 || r.kind == 7) && (r.data.length == 0 || r.kind == 8)
def rngB (r : Rq) : Bool := numB r.ses && (r.kind != 3 || nb r.kk 1 17) && r.seen.all (fun z => nb z 0 1099511627776)
def txtB (r : Rq) : Bool := vt r.bef && vt r.sel && vt r.sur
def lngB (r : Rq) : Bool := decide (r.bef.size ≤ 4096) && decide (r.sel.size ≤ 4096) && decide (r.sur.size ≤ 4096) && decide (r.data.length ≤ 69632) && decide (r.seen.length ≤ 8)
/-- what is wrong with a request -/
def chkR (r : Rq) : Nat := if !argB r then 1 else if !rngB r then 6 else if !txtB r then 10 else if !lngB r then 2 else 0
theorem chkR_zero {r : Rq} (h : chkR r = 0) : argB r = true ∧ rngB r = true ∧ txtB r = true ∧ lngB r = true := by
  unfold chkR at h
  rcases h1 : argB r with _ | _
  · rw [h1] at h; cases h
  rcases h2 : rngB r with _ | _
  · rw [h1, h2] at h; cases h
  rcases h3 : txtB r with _ | _
  · rw [h1, h2, h3] at h; cases h
  rcases h4 : lngB r with _ | _
  · rw [h1, h2, h3, h4] at h; cases h
  exact ⟨rfl, rfl, rfl, rfl⟩
def bitN (b : Bool) : Nat := if b then 1 else 0
/-- what stands behind a request's kind and session -/
def tailR (r : Rq) : List UInt8 :=
  if r.kind = 3 then put r.kk.toNat ++ put r.kc
  else if r.kind = 4 then putT r.bef.data.toList ++ putT r.sel.data.toList
  else if r.kind = 5 then put (bitN r.on)
  else if r.kind = 6 then putT r.sur.data.toList
  else if r.kind = 7 then put r.seen.length ++ r.seen.flatMap (fun z => put z.toNat)
  else if r.kind = 8 then putT r.data
  else []
def codeR (r : Rq) : List UInt8 := put r.kind.toNat ++ (if hasS r.kind then put r.ses.toNat else []) ++ tailR r
def rq0 : Rq := ⟨0, 0, 0, 0, ⟨#[]⟩, ⟨#[]⟩, false, ⟨#[]⟩, [], []⟩
/-- how far numbers may go -/
structure Lim where
  kind : Nat
  ses : Nat
  kk : Nat
  kc : Nat
  on : Nat
  cnt : Nat
  seen : Nat
def limP : Lim := ⟨9, 2147483647, 17, 255, 1, 8, 1099511627776⟩
def limR : Lim := ⟨1099511627776, 1099511627776, 1099511627776, 1099511627776, 1099511627776, 1099511627776, 1099511627776⟩
structure Lim.Ok (m : Lim) : Prop where
  kind : 9 ≤ m.kind
  ses : 2147483647 ≤ m.ses
  kk : 17 ≤ m.kk
  kc : 255 ≤ m.kc
  on : 1 ≤ m.on
  cnt : 8 ≤ m.cnt
  seen : 1099511627776 ≤ m.seen
theorem limP_ok : limP.Ok := ⟨by decide, by decide, by decide, by decide, by decide, by decide, by decide⟩
theorem limR_ok : limR.Ok := ⟨by decide, by decide, by decide, by decide, by decide, by decide, by decide⟩
/-- numbers, as many as are said -/
def rMany (l : List UInt8) (most : Nat) : Nat → St → List Int × St
  | 0, s => ([], s)
  | n + 1, s => (((rU l most s).1 : Int) :: (rMany l most n (rU l most s).2).1, (rMany l most n (rU l most s).2).2)
/-- the same, up to the first that is not there -/
def rManyR (l : List UInt8) (most : Nat) : Nat → St → List Int × St
  | 0, s => ([], s)
  | n + 1, s => if s.2 then ([], s) else (((rU l most s).1 : Int) :: (rManyR l most n (rU l most s).2).1, (rManyR l most n (rU l most s).2).2)
def ba (l : List UInt8) : ByteArray := ⟨l.toArray⟩
/-- what is read behind the kind and the session -/
def rTail (l : List UInt8) (m : Lim) (many : Nat → St → List Int × St) (k : Nat) (se : Nat) (s : St) : Rq × St :=
  if k = 3 then ({ rq0 with kind := k, ses := se, kk := (rU l m.kk s).1, kc := (rU l m.kc (rU l m.kk s).2).1 % 256 }, (rU l m.kc (rU l m.kk s).2).2)
  else if k = 4 then ({ rq0 with kind := k, ses := se, bef := ba (rT l s).1, sel := ba (rT l (rT l s).2).1 }, (rT l (rT l s).2).2)
  else if k = 5 then ({ rq0 with kind := k, ses := se, on := (rU l m.on s).1 == 1 }, (rU l m.on s).2)
  else if k = 6 then ({ rq0 with kind := k, ses := se, sur := ba (rT l s).1 }, (rT l s).2)
  else if k = 7 then ({ rq0 with kind := k, ses := se, seen := (many (rU l m.cnt s).1 (rU l m.cnt s).2).1 }, (many (rU l m.cnt s).1 (rU l m.cnt s).2).2)
  else if k = 8 then ({ rq0 with kind := k, ses := se, data := (rT l s).1 }, (rT l s).2)
  else ({ rq0 with kind := k, ses := se }, s)
def rSes (l : List UInt8) (m : Lim) (k : Nat) (s : St) : Nat × St := if hasS k then rU l m.ses s else (0, s)
def rReq (l : List UInt8) (m : Lim) (many : Nat → St → List Int × St) : Rq × St :=
  rTail l m many (rU l m.kind (0, false)).1 (rSes l m (rU l m.kind (0, false)).1 (rU l m.kind (0, false)).2).1 (rSes l m (rU l m.kind (0, false)).1 (rU l m.kind (0, false)).2).2

theorem good_nil {l r : List UInt8} {s : St} (h : Good l s r) : Good l s (r ++ []) := by rw [List.append_nil]; exact h
theorem good_end {l : List UInt8} {s : St} (h : Good l s []) : s = (l.length, false) := by
  obtain ⟨h1, h2, h3⟩ := h
  have := congrArg List.length h2
  rw [List.length_drop] at this
  simp at this
  exact Prod.ext (by simp; omega) h1
theorem rMany_good {l rest : List UInt8} {most : Nat} (hm : 1099511627776 ≤ most) : ∀ (zs : List Int) (s : St), (∀ z ∈ zs, 0 ≤ z ∧ z ≤ 1099511627776) → Good l s (zs.flatMap (fun z => put z.toNat) ++ rest) → ∃ s', rMany l most zs.length s = (zs, s') ∧ rManyR l most zs.length s = (zs, s') ∧ Good l s' rest
  | [], s, _, h => ⟨s, rfl, rfl, by simpa using h⟩
  | z :: zs, s, hz, h => by
    rw [List.flatMap_cons, List.append_assoc] at h
    have hz0 := hz z (by simp)
    have h64 : z.toNat < 2 ^ 64 := Nat.lt_of_le_of_lt (show z.toNat ≤ 1099511627776 by omega) (by decide)
    obtain ⟨e1, G1⟩ := rU_good h (show z.toNat ≤ most by omega) h64
    obtain ⟨s', e2, e3, G2⟩ := rMany_good hm zs _ (fun y hy => hz y (by simp [hy])) G1
    refine ⟨s', ?_, ?_, G2⟩
    · rw [List.length_cons]
      unfold rMany
      rw [e1, e2]
      simp only
      rw [Int.toNat_of_nonneg hz0.1]
    · rw [List.length_cons]
      unfold rManyR
      rw [h.1, e1, e3]
      simp only
      rw [Int.toNat_of_nonneg hz0.1]
      rfl
theorem emB_eq {s : ByteArray} (h : emB s = true) : s = (⟨#[]⟩ : ByteArray) := by
  have h' : s.size = 0 := of_decide_eq_true h
  exact ByteArray.ext (Array.eq_empty_of_size_eq_zero h')
theorem ba_data (s : ByteArray) : ba s.data.toList = s := ByteArray.ext (by simp [ba])
theorem keyB_eq {kk : Int} {kc : Nat} (h : keyB kk kc = true) : kk = 0 ∧ kc = 0 := of_decide_eq_true h
theorem nb_eq {z lo hi : Int} (h : nb z lo hi = true) : lo ≤ z ∧ z ≤ hi := of_decide_eq_true h
/-- what a request with nothing wrong is -/
structure Okay (r : Rq) : Prop where
  kind : 1 ≤ r.kind ∧ r.kind ≤ 9
  ses : r.ses = 0 ∨ hasS r.kind = true
  key : (r.kk = 0 ∧ r.kc = 0) ∨ r.kind = 3
  bs : (r.bef = (⟨#[]⟩ : ByteArray) ∧ r.sel = (⟨#[]⟩ : ByteArray)) ∨ r.kind = 4
  on : r.on = false ∨ r.kind = 5
  sur : r.sur = (⟨#[]⟩ : ByteArray) ∨ r.kind = 6
  seen : r.seen = [] ∨ r.kind = 7
  data : r.data = [] ∨ r.kind = 8
  nses : 0 ≤ r.ses ∧ r.ses ≤ 2147483647
  nkk : r.kind = 3 → 1 ≤ r.kk ∧ r.kk ≤ 17
  nseen : ∀ z ∈ r.seen, 0 ≤ z ∧ z ≤ 1099511627776
  lbef : r.bef.size ≤ 4096
  lsel : r.sel.size ≤ 4096
  lsur : r.sur.size ≤ 4096
  ldata : r.data.length ≤ 69632
  lseen : r.seen.length ≤ 8
theorem okay_of {r : Rq} (h : chkR r = 0) : Okay r := by
  obtain ⟨ha, hr, _, hl⟩ := chkR_zero h
  unfold argB at ha
  unfold rngB at hr
  unfold lngB at hl
  simp only [Bool.and_eq_true, Bool.or_eq_true, beq_iff_eq, decide_eq_true_eq, Bool.not_eq_true', List.all_eq_true, bne_iff_ne] at ha hr hl
  obtain ⟨⟨⟨⟨⟨⟨⟨a1, a2⟩, a3⟩, a4⟩, a5⟩, a6⟩, a7⟩, a8⟩ := ha
  obtain ⟨⟨r1, r2⟩, r3⟩ := hr
  obtain ⟨⟨⟨⟨l1, l2⟩, l3⟩, l4⟩, l5⟩ := hl
  exact ⟨nb_eq a1, a2, a3.imp_left keyB_eq, a4.imp_left (fun h => ⟨emB_eq h.1, emB_eq h.2⟩), a5, a6.imp_left emB_eq, a7.imp_left List.length_eq_zero_iff.1, a8.imp_left List.length_eq_zero_iff.1, of_decide_eq_true r1, fun h => nb_eq (r2.resolve_left (fun h' => h' h)), fun z hz => nb_eq (r3 z hz), l1, l2, l3, l4, l5⟩
theorem lt64' {x : Nat} (h : x ≤ 1099511627776) : x < 2 ^ 64 := Nat.lt_of_le_of_lt h (by decide)
theorem dl (s : ByteArray) : s.data.toList.length = s.size := by rw [Array.length_toList]; rfl
theorem rTail_good {l : List UInt8} {m : Lim} (hm : m.Ok) {many : Nat → St → List Int × St} (hmany : many = rMany l m.seen ∨ many = rManyR l m.seen) {r : Rq} (hc : Okay r) (hkc : r.kc < 256) {k : Nat} (hk : r.kind = (k : Int)) {s : St} (h : Good l s (tailR r)) :
    ∃ s', rTail l m many k r.ses.toNat s = (r, s') ∧ Good l s' [] := by
  obtain ⟨kind, ses, kk, kc, bef, sel, on, sur, seen, data⟩ := r
  obtain ⟨c1, c2, c3, c4, c5, c6, c7, c8, n1, n2, n3, l1, l2, l3, l4, l5⟩ := hc
  simp only at *
  subst hk
  have hs0 : ((ses.toNat : Nat) : Int) = ses := Int.toNat_of_nonneg n1.1
  unfold rTail
  unfold tailR at h
  simp only at h
  have hcases : k = 3 ∨ k = 4 ∨ k = 5 ∨ k = 6 ∨ k = 7 ∨ k = 8 ∨ (k ≠ 3 ∧ k ≠ 4 ∧ k ≠ 5 ∧ k ≠ 6 ∧ k ≠ 7 ∧ k ≠ 8) := by omega
  rcases hcases with rfl | rfl | rfl | rfl | rfl | rfl | ⟨k3, k4, k5, k6, k7, k8⟩
  · obtain ⟨rfl, rfl⟩ := c4.resolve_right (by decide)
    obtain rfl := c5.resolve_right (by decide)
    obtain rfl := c6.resolve_right (by decide)
    obtain rfl := c7.resolve_right (by decide)
    obtain rfl := c8.resolve_right (by decide)
    have n2' := n2 rfl
    have h : Good l s (put kk.toNat ++ put kc) := h
    rw [if_pos rfl]
    obtain ⟨e1, G1⟩ := rU_good h (show kk.toNat ≤ m.kk by have := hm.kk; omega) (lt64' (by omega))
    have G1' := good_nil G1
    obtain ⟨e2, G2⟩ := rU_good G1' (show kc ≤ m.kc by have := hm.kc; omega) (lt64' (by omega))
    rw [e1, e2]
    refine ⟨_, ?_, G2⟩
    simp only [rq0, hs0, Int.toNat_of_nonneg (show 0 ≤ kk by omega), Nat.mod_eq_of_lt hkc]
    try rfl
  · obtain ⟨rfl, rfl⟩ := c3.resolve_right (by decide)
    obtain rfl := c5.resolve_right (by decide)
    obtain rfl := c6.resolve_right (by decide)
    obtain rfl := c7.resolve_right (by decide)
    obtain rfl := c8.resolve_right (by decide)
    have h : Good l s (putT bef.data.toList ++ putT sel.data.toList) := h
    rw [if_neg (by decide), if_pos rfl]
    obtain ⟨e1, G1⟩ := rT_good h (lt64' (by rw [dl]; omega))
    have G1' := good_nil G1
    obtain ⟨e2, G2⟩ := rT_good G1' (lt64' (by rw [dl]; omega))
    rw [e1, e2]
    refine ⟨_, ?_, G2⟩
    simp only [rq0, hs0, ba_data]
    try rfl
  · obtain ⟨rfl, rfl⟩ := c3.resolve_right (by decide)
    obtain ⟨rfl, rfl⟩ := c4.resolve_right (by decide)
    obtain rfl := c6.resolve_right (by decide)
    obtain rfl := c7.resolve_right (by decide)
    obtain rfl := c8.resolve_right (by decide)
    have h : Good l s (put (bitN on)) := h
    rw [if_neg (by decide), if_neg (by decide), if_pos rfl]
    have h' := good_nil h
    have hb : bitN on ≤ 1 := by cases on <;> decide
    obtain ⟨e1, G1⟩ := rU_good h' (show bitN on ≤ m.on by have := hm.on; omega) (lt64' (by omega))
    rw [e1]
    refine ⟨_, ?_, G1⟩
    cases on <;> simp [rq0, hs0, bitN]
  · obtain ⟨rfl, rfl⟩ := c3.resolve_right (by decide)
    obtain ⟨rfl, rfl⟩ := c4.resolve_right (by decide)
    obtain rfl := c5.resolve_right (by decide)
    obtain rfl := c7.resolve_right (by decide)
    obtain rfl := c8.resolve_right (by decide)
    have h : Good l s (putT sur.data.toList) := h
    rw [if_neg (by decide), if_neg (by decide), if_neg (by decide), if_pos rfl]
    have h' := good_nil h
    obtain ⟨e1, G1⟩ := rT_good h' (lt64' (by rw [dl]; omega))
    rw [e1]
    refine ⟨_, ?_, G1⟩
    simp only [rq0, hs0, ba_data]
    try rfl
  · obtain ⟨rfl, rfl⟩ := c3.resolve_right (by decide)
    obtain ⟨rfl, rfl⟩ := c4.resolve_right (by decide)
    obtain rfl := c5.resolve_right (by decide)
    obtain rfl := c6.resolve_right (by decide)
    obtain rfl := c8.resolve_right (by decide)
    have h : Good l s (put seen.length ++ seen.flatMap (fun z => put z.toNat)) := h
    rw [if_neg (by decide), if_neg (by decide), if_neg (by decide), if_neg (by decide), if_pos rfl]
    obtain ⟨e1, G1⟩ := rU_good h (show seen.length ≤ m.cnt by have := hm.cnt; omega) (lt64' (by omega))
    have G1' := good_nil G1
    obtain ⟨s', e2, e3, G2⟩ := rMany_good hm.seen seen _ n3 G1'
    rw [e1]
    refine ⟨s', ?_, G2⟩
    rcases hmany with rfl | rfl
    · simp only [e2, rq0, hs0]
      try rfl
    · simp only [e3, rq0, hs0]
      try rfl
  · obtain ⟨rfl, rfl⟩ := c3.resolve_right (by decide)
    obtain ⟨rfl, rfl⟩ := c4.resolve_right (by decide)
    obtain rfl := c5.resolve_right (by decide)
    obtain rfl := c6.resolve_right (by decide)
    obtain rfl := c7.resolve_right (by decide)
    have h : Good l s (putT data) := h
    rw [if_neg (by decide), if_neg (by decide), if_neg (by decide), if_neg (by decide), if_neg (by decide), if_pos rfl]
    have h' := good_nil h
    obtain ⟨e1, G1⟩ := rT_good h' (lt64' (by omega))
    rw [e1]
    refine ⟨_, ?_, G1⟩
    simp only [rq0, hs0]
    try rfl
  · obtain ⟨rfl, rfl⟩ := c3.resolve_right (by omega)
    obtain ⟨rfl, rfl⟩ := c4.resolve_right (by omega)
    obtain rfl := c5.resolve_right (by omega)
    obtain rfl := c6.resolve_right (by omega)
    obtain rfl := c7.resolve_right (by omega)
    obtain rfl := c8.resolve_right (by omega)
    rw [if_neg (by omega), if_neg (by omega), if_neg (by omega), if_neg (by omega), if_neg (by omega), if_neg (by omega)] at h
    rw [if_neg k3, if_neg k4, if_neg k5, if_neg k6, if_neg k7, if_neg k8]
    refine ⟨s, ?_, h⟩
    simp only [rq0, hs0]
/-- exactly what was written is read -/
theorem rReq_complete {l : List UInt8} {m : Lim} (hm : m.Ok) {many : Nat → St → List Int × St} (hmany : many = rMany l m.seen ∨ many = rManyR l m.seen) {r : Rq} (hc : chkR r = 0) (hkc : r.kc < 256) (h : codeR r = l) : rReq l m many = (r, (l.length, false)) := by
  have ok := okay_of hc
  obtain ⟨k, hk⟩ := Int.eq_ofNat_of_zero_le (show 0 ≤ r.kind by have := ok.kind; omega)
  have hk9 : k ≤ 9 := by have := ok.kind; omega
  have G0 : Good l (0, false) (put k ++ ((if hasS r.kind then put r.ses.toNat else []) ++ tailR r)) := ⟨rfl, by
    rw [← h, List.drop_zero]; unfold codeR; rw [hk, List.append_assoc]; rfl, Nat.zero_le _⟩
  obtain ⟨e1, G1⟩ := rU_good G0 (show k ≤ m.kind by have := hm.kind; omega) (lt64' (by omega))
  have e2 : ∃ s2, rSes l m k (0 + (put k).length, false) = (r.ses.toNat, s2) ∧ Good l s2 (tailR r) := by
    unfold rSes
    rcases hS : hasS r.kind with _ | _
    · rw [hS] at G1
      rw [hk] at hS
      have h0 : r.ses = 0 := ok.ses.resolve_right (fun h' => by rw [hk, hS] at h'; cases h')
      refine ⟨_, by rw [hS, h0]; rfl, by simpa using G1⟩
    · rw [hS, if_pos rfl] at G1
      rw [hk] at hS
      obtain ⟨e3, G2⟩ := rU_good G1 (show r.ses.toNat ≤ m.ses by have := hm.ses; have := ok.nses; omega) (lt64' (by have := ok.nses; omega))
      exact ⟨_, by rw [hS, if_pos rfl, e3], G2⟩
  obtain ⟨s2, e2, G2⟩ := e2
  obtain ⟨s', e3, G3⟩ := rTail_good hm hmany ok hkc hk G2
  unfold rReq
  rw [e1]
  simp only
  rw [e2]
  simp only
  rw [e3, good_end G3]

theorem rMany_sound {l : List UInt8} {most : Nat} : ∀ (n : Nat) (s : St), (rMany l most n s).2.2 = false → s.2 = false ∧ (rMany l most n s).1.length = n ∧ l.drop s.1 = (rMany l most n s).1.flatMap (fun z => put z.toNat) ++ l.drop (rMany l most n s).2.1
  | 0, s, h => ⟨h, rfl, by simp [rMany]⟩
  | n + 1, s, h => by
    unfold rMany at h ⊢
    simp only at h ⊢
    obtain ⟨h1, h2, h3⟩ := rMany_sound n _ h
    obtain ⟨k1, k2, k3, _⟩ := rU_sound h1
    refine ⟨k1, by rw [List.length_cons, h2], ?_⟩
    rw [List.flatMap_cons, k3, h3, Int.toNat_natCast, List.append_assoc]
theorem rTail_sound {l : List UInt8} {k se : Nat} {s : St} (h : (rTail l limP (rMany l limP.seen) k se s).2.2 = false) :
    s.2 = false ∧ l.drop s.1 = tailR (rTail l limP (rMany l limP.seen) k se s).1 ++ l.drop (rTail l limP (rMany l limP.seen) k se s).2.1 ∧ (rTail l limP (rMany l limP.seen) k se s).1.kind = (k : Int) ∧ (rTail l limP (rMany l limP.seen) k se s).1.ses = (se : Int) := by
  have hcases : k = 3 ∨ k = 4 ∨ k = 5 ∨ k = 6 ∨ k = 7 ∨ k = 8 ∨ (k ≠ 3 ∧ k ≠ 4 ∧ k ≠ 5 ∧ k ≠ 6 ∧ k ≠ 7 ∧ k ≠ 8) := by omega
  rcases hcases with rfl | rfl | rfl | rfl | rfl | rfl | ⟨k3, k4, k5, k6, k7, k8⟩
  · unfold rTail at h ⊢
    rw [if_pos rfl] at h ⊢
    simp only at h ⊢
    obtain ⟨h1, h2, h3, _⟩ := rU_sound h
    obtain ⟨k1, k2, k3, _⟩ := rU_sound h1
    refine ⟨k1, ?_, trivial, trivial⟩
    have e : (rU l limP.kc (rU l limP.kk s).2).1 % 256 = (rU l limP.kc (rU l limP.kk s).2).1 := Nat.mod_eq_of_lt (Nat.lt_of_le_of_lt h2 (by decide))
    rw [e, k3, h3, ← List.append_assoc]
    try rfl
  · unfold rTail at h ⊢
    rw [if_neg (by decide), if_pos rfl] at h ⊢
    simp only at h ⊢
    obtain ⟨h1, h3, _⟩ := rT_sound h
    obtain ⟨k1, k3, _⟩ := rT_sound h1
    refine ⟨k1, ?_, trivial, trivial⟩
    rw [k3, h3, ← List.append_assoc]
    congr 1
    try simp [tailR, rq0, ba]
  · unfold rTail at h ⊢
    rw [if_neg (by decide), if_neg (by decide), if_pos rfl] at h ⊢
    simp only at h ⊢
    obtain ⟨k1, k2, k3, _⟩ := rU_sound h
    refine ⟨k1, ?_, trivial, trivial⟩
    have k2' : (rU l limP.on s).1 ≤ 1 := k2
    have e : bitN ((rU l limP.on s).1 == 1) = (rU l limP.on s).1 := by
      rcases (show (rU l limP.on s).1 = 0 ∨ (rU l limP.on s).1 = 1 by omega) with e | e <;> rw [e] <;> rfl
    rw [k3]
    congr 1
    show put (rU l limP.on s).1 = put (bitN ((rU l limP.on s).1 == 1))
    rw [e]
  · unfold rTail at h ⊢
    rw [if_neg (by decide), if_neg (by decide), if_neg (by decide), if_pos rfl] at h ⊢
    simp only at h ⊢
    obtain ⟨k1, k3, _⟩ := rT_sound h
    refine ⟨k1, ?_, trivial, trivial⟩
    rw [k3]
    congr 1
    try simp [tailR, rq0, ba]
  · unfold rTail at h ⊢
    rw [if_neg (by decide), if_neg (by decide), if_neg (by decide), if_neg (by decide), if_pos rfl] at h ⊢
    simp only at h ⊢
    obtain ⟨h1, h2, h3⟩ := rMany_sound _ _ h
    obtain ⟨k1, _, k3, _⟩ := rU_sound h1
    refine ⟨k1, ?_, trivial, trivial⟩
    rw [k3]
    conv => lhs; rw [h3]
    rw [← List.append_assoc]
    congr 1
    show _ = put (rMany l limP.seen (rU l limP.cnt s).1 (rU l limP.cnt s).2).1.length ++ _
    rw [h2]
  · unfold rTail at h ⊢
    rw [if_neg (by decide), if_neg (by decide), if_neg (by decide), if_neg (by decide), if_neg (by decide), if_pos rfl] at h ⊢
    simp only at h ⊢
    obtain ⟨k1, k3, _⟩ := rT_sound h
    refine ⟨k1, ?_, trivial, trivial⟩
    rw [k3]
    try rfl
  · unfold rTail at h ⊢
    rw [if_neg k3, if_neg k4, if_neg k5, if_neg k6, if_neg k7, if_neg k8] at h ⊢
    simp only at h ⊢
    refine ⟨h, ?_, trivial, trivial⟩
    unfold tailR
    simp only
    rw [if_neg (by omega), if_neg (by omega), if_neg (by omega), if_neg (by omega), if_neg (by omega), if_neg (by omega)]
    rfl
/-- what is read from all bytes was written so -/
theorem rReq_sound {l : List UInt8} (h : (rReq l limP (rMany l limP.seen)).2 = (l.length, false)) : codeR (rReq l limP (rMany l limP.seen)).1 = l := by
  unfold rReq at h ⊢
  generalize hK : rU l limP.kind (0, false) = K at h ⊢
  generalize hS : rSes l limP K.1 K.2 = S at h ⊢
  obtain ⟨h1, h2, h3, h4⟩ := rTail_sound (k := K.1) (se := S.1) (s := S.2) (by rw [h])
  rw [h] at h2
  simp only [List.drop_length, List.append_nil] at h2
  have hk1 : K.2.2 = false ∧ l.drop K.2.1 = (if hasS (K.1 : Int) then put S.1 else []) ++ l.drop S.2.1 := by
    rw [← hS] at h1 ⊢
    unfold rSes at h1 ⊢
    rcases hh : hasS (K.1 : Int) with _ | _
    · rw [hh] at h1
      exact ⟨h1, by simp⟩
    · rw [hh, if_pos rfl] at h1
      obtain ⟨k1, _, k3, _⟩ := rU_sound h1
      exact ⟨k1, by simp only [if_pos]; exact k3⟩
  have hk2 : l = put K.1 ++ l.drop K.2.1 := by
    have := rU_sound (l := l) (most := limP.kind) (s := (0, false)) (by rw [hK]; exact hk1.1)
    rw [hK] at this
    exact this.2.2.1
  unfold codeR
  rw [h3, h4, Int.toNat_natCast, Int.toNat_natCast, ← h2, List.append_assoc, ← hk1.2, ← hk2]

/-- what DecodeRequest answers -/
def DecR (l : List UInt8) (c : Nat) (r : Rq) : Prop := (c = 0 ∧ chkR r = 0 ∧ r.kc < 256 ∧ codeR r = l) ∨ (c = 5 ∧ r = rq0 ∧ ∀ r', chkR r' = 0 → r'.kc < 256 → codeR r' ≠ l)
theorem codeR_inj {a b : Rq} (ha : chkR a = 0) (hb : chkR b = 0) (ka : a.kc < 256) (kb : b.kc < 256) (h : codeR a = codeR b) : a = b := by
  have h1 := rReq_complete limP_ok (many := rMany (codeR a) limP.seen) (.inl rfl) ha ka rfl
  have h2 := rReq_complete limP_ok (many := rMany (codeR a) limP.seen) (.inl rfl) hb kb h.symm
  rw [h1] at h2
  exact (Prod.mk.inj h2).1
theorem DecR.uniq {l : List UInt8} {c c' : Nat} {r r' : Rq} (h : DecR l c r) (h' : DecR l c' r') : c = c' ∧ r = r' := by
  rcases h with ⟨rfl, h1, h2, h3⟩ | ⟨rfl, rfl, h3⟩
  · rcases h' with ⟨rfl, k1, k2, k3⟩ | ⟨rfl, rfl, k3⟩
    · exact ⟨rfl, codeR_inj h1 k1 h2 k2 (h3.trans k3.symm)⟩
    · exact absurd h3 (k3 _ h1 h2)
  · rcases h' with ⟨rfl, k1, k2, k3⟩ | ⟨rfl, rfl, k3⟩
    · exact absurd k3 (h3 _ k1 k2)
    · exact ⟨rfl, rfl⟩
theorem rTail_kc {l : List UInt8} {m : Lim} {many : Nat → St → List Int × St} {k se : Nat} {s : St} : (rTail l m many k se s).1.kc < 256 := by
  unfold rTail
  split
  · exact Nat.mod_lt _ (by decide)
  · split
    · exact (by decide : (0 : Nat) < 256)
    · split
      · exact (by decide : (0 : Nat) < 256)
      · split
        · exact (by decide : (0 : Nat) < 256)
        · split
          · exact (by decide : (0 : Nat) < 256)
          · split
            · exact (by decide : (0 : Nat) < 256)
            · exact (by decide : (0 : Nat) < 256)
/-- the program's way: all was there, nothing was left, nothing is wrong -/
theorem decR_prog {l : List UInt8} {X : Rq × St} (hX : rReq l limP (rMany l limP.seen) = X) : (X.2 = (l.length, false) ∧ chkR X.1 = 0 → DecR l 0 X.1) ∧ (¬ (X.2 = (l.length, false) ∧ chkR X.1 = 0) → DecR l 5 rq0) := by
  subst hX
  refine ⟨fun h => .inl ⟨rfl, h.2, rTail_kc, rReq_sound h.1⟩, fun h => .inr ⟨rfl, rfl, fun r' h1 h2 h3 => h ?_⟩⟩
  rw [rReq_complete limP_ok (.inl rfl) h1 h2 h3]
  exact ⟨rfl, h1⟩
/-- the reference's way: all was there, nothing is wrong, and the code is the bytes -/
theorem decR_ref {l : List UInt8} {X : Rq × St} (hX : rReq l limR (rManyR l limR.seen) = X) : (X.2.2 = false ∧ chkR X.1 = 0 ∧ codeR X.1 = l → DecR l 0 X.1) ∧ (¬ (X.2.2 = false ∧ chkR X.1 = 0 ∧ codeR X.1 = l) → DecR l 5 rq0) := by
  subst hX
  refine ⟨fun h => .inl ⟨rfl, h.2.1, rTail_kc, h.2.2⟩, fun h => .inr ⟨rfl, rfl, fun r' h1 h2 h3 => h ?_⟩⟩
  rw [rReq_complete limR_ok (.inr rfl) h1 h2 h3]
  exact ⟨rfl, h1, h3⟩
end Go.Proofs.YtkllfnaofapfnaaDoor.Prot
