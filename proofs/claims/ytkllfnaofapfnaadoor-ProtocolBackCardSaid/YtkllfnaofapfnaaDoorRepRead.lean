/-
  The plain law of reading replies: exactly the codes are read. No program is in sight. Conditions: none.
-/
import Derived.Test.YtkllfnaofapfnaaDoorRepMath
namespace Go.Proofs.YtkllfnaofapfnaaDoor.Prot
open Cod Utf

/-- how far the numbers of a reply may go -/
structure LimQ where
  err : Nat
  ses : Nat
  np : Nat
  attr : Nat
  caret : Nat
  nc : Nat
  erase : Nat
  taken : Nat
def limPP : LimQ := ⟨2147483647, 2147483647, 1000, 4, 2147483647, 60, 2147483647, 1⟩
def limPR : LimQ := ⟨1099511627776, 1099511627776, 1099511627776, 1099511627776, 1099511627776, 1099511627776, 1099511627776, 1099511627776⟩
structure LimQ.Ok (m : LimQ) : Prop where
  err : 2147483647 ≤ m.err
  ses : 2147483647 ≤ m.ses
  np : 1000 ≤ m.np
  attr : 4 ≤ m.attr
  caret : 2147483647 ≤ m.caret
  nc : 60 ≤ m.nc
  erase : 2147483647 ≤ m.erase
  taken : 1 ≤ m.taken
theorem limPP_ok : limPP.Ok := ⟨by decide, by decide, by decide, by decide, by decide, by decide, by decide, by decide⟩
theorem limPR_ok : limPR.Ok := ⟨by decide, by decide, by decide, by decide, by decide, by decide, by decide, by decide⟩
/-- runs, as many as are said -/
def rRuns (l : List UInt8) (most : Nat) : Nat → St → List (ByteArray × Int) × St
  | 0, s => ([], s)
  | n + 1, s => ((ba (rT l s).1, ((rU l most (rT l s).2).1 : Int)) :: (rRuns l most n (rU l most (rT l s).2).2).1, (rRuns l most n (rU l most (rT l s).2).2).2)
/-- the same, up to the first that is not there -/
def rRunsR (l : List UInt8) (most : Nat) : Nat → St → List (ByteArray × Int) × St
  | 0, s => ([], s)
  | n + 1, s => if s.2 then ([], s) else ((ba (rT l s).1, ((rU l most (rT l s).2).1 : Int)) :: (rRunsR l most n (rU l most (rT l s).2).2).1, (rRunsR l most n (rU l most (rT l s).2).2).2)
/-- strings, as many as are said -/
def rTxts (l : List UInt8) : Nat → St → List ByteArray × St
  | 0, s => ([], s)
  | n + 1, s => (ba (rT l s).1 :: (rTxts l n (rT l s).2).1, (rTxts l n (rT l s).2).2)
/-- the same, up to the first that is not there -/
def rTxtsR (l : List UInt8) : Nat → St → List ByteArray × St
  | 0, s => ([], s)
  | n + 1, s => if s.2 then ([], s) else (ba (rT l s).1 :: (rTxtsR l n (rT l s).2).1, (rTxtsR l n (rT l s).2).2)
/-- what is read as a reply -/
def rRep (l : List UInt8) (m : LimQ) (runs : Nat → St → List (ByteArray × Int) × St) (txts : Nat → St → List ByteArray × St) : Rp × St :=
  let k1 := rU l m.err (0, false)
  let k2 := rU l m.ses k1.2
  let k3 := rU l m.np k2.2
  let k4 := runs k3.1 k3.2
  let k5 := rU l m.caret k4.2
  let k6 := rU l m.nc k5.2
  let k7 := txts k6.1 k6.2
  let k8 := rI l k7.2
  let k9 := rT l k8.2
  let k10 := rU l m.erase k9.2
  let k11 := rU l m.taken k10.2
  let k12 := rT l k11.2
  (⟨(k1.1 : Int), (k2.1 : Int), k4.1, (k5.1 : Int), k7.1, k8.1, ba k9.1, (k10.1 : Int), k11.1 == 1, k12.1⟩, k12.2)

theorem rRuns_good {l rest : List UInt8} {most : Nat} (hm : 4 ≤ most) : ∀ (zs : List (ByteArray × Int)) (s : St), (∀ x ∈ zs, 1 ≤ x.2 ∧ x.2 ≤ 4) → (∀ x ∈ zs, x.1.size ≤ 4096) → Good l s (zs.flatMap runC ++ rest) → ∃ s', rRuns l most zs.length s = (zs, s') ∧ rRunsR l most zs.length s = (zs, s') ∧ Good l s' rest
  | [], s, _, _, h => ⟨s, rfl, rfl, by simpa using h⟩
  | z :: zs, s, ha, hz, h => by
    rw [List.flatMap_cons, List.append_assoc] at h
    unfold runC at h
    rw [List.append_assoc] at h
    have ha0 := ha z (by simp)
    have hz0 := hz z (by simp)
    obtain ⟨e1, G1⟩ := rT_good h (lt64' (by rw [dl]; omega))
    obtain ⟨e2, G2⟩ := rU_good G1 (show z.2.toNat ≤ most by omega) (lt64' (by omega))
    obtain ⟨s', e3, e4, G3⟩ := rRuns_good hm zs _ (fun y hy => ha y (by simp [hy])) (fun y hy => hz y (by simp [hy])) G2
    have hn : ((z.2.toNat : Nat) : Int) = z.2 := Int.toNat_of_nonneg (by omega)
    refine ⟨s', ?_, ?_, G3⟩
    · rw [List.length_cons]
      unfold rRuns
      rw [e1]
      simp only
      rw [e2]
      simp only
      rw [e3, ba_data, hn]
    · rw [List.length_cons]
      unfold rRunsR
      rw [h.1, e1]
      simp only
      rw [e2]
      simp only
      rw [e4, ba_data, hn]
      rfl
theorem rTxts_good {l rest : List UInt8} : ∀ (zs : List ByteArray) (s : St), (∀ x ∈ zs, x.size ≤ 4096) → Good l s (zs.flatMap (fun s => putT s.data.toList) ++ rest) → ∃ s', rTxts l zs.length s = (zs, s') ∧ rTxtsR l zs.length s = (zs, s') ∧ Good l s' rest
  | [], s, _, h => ⟨s, rfl, rfl, by simpa using h⟩
  | z :: zs, s, hz, h => by
    rw [List.flatMap_cons, List.append_assoc] at h
    have hz0 := hz z (by simp)
    obtain ⟨e1, G1⟩ := rT_good h (lt64' (by rw [dl]; omega))
    obtain ⟨s', e3, e4, G3⟩ := rTxts_good zs _ (fun y hy => hz y (by simp [hy])) G1
    refine ⟨s', ?_, ?_, G3⟩
    · rw [List.length_cons]
      unfold rTxts
      rw [e1]
      simp only
      rw [e3, ba_data]
    · rw [List.length_cons]
      unfold rTxtsR
      rw [h.1, e1]
      simp only
      rw [e4, ba_data]
      rfl
/-- exactly what was written is read -/
theorem rRep_complete {l : List UInt8} {m : LimQ} (hm : m.Ok) {runs : Nat → St → List (ByteArray × Int) × St} (hr : runs = rRuns l m.attr ∨ runs = rRunsR l m.attr) {txts : Nat → St → List ByteArray × St} (ht : txts = rTxts l ∨ txts = rTxtsR l) {r : Rp} (hc : chkP r = 0) (h : codeP r = l) : rRep l m runs txts = (r, (l.length, false)) := by
  have ok := okayP_of hc
  obtain ⟨err, ses, pre, caret, cands, chosen, commit, erase, taken, data⟩ := r
  obtain ⟨o1, o2, o3, o4, o5, o6, o7, o8, o9, o10, o11, o12⟩ := ok
  simp only at o1 o2 o3 o4 o5 o6 o7 o8 o9 o10 o11 o12
  have G0 : Good l (0, false) (codeP ⟨err, ses, pre, caret, cands, chosen, commit, erase, taken, data⟩) := ⟨rfl, by rw [List.drop_zero, h], Nat.zero_le _⟩
  unfold codeP at G0
  simp only at G0
  have hm1 := hm.err
  have hm2 := hm.ses
  have hm3 := hm.np
  have hm5 := hm.caret
  have hm6 := hm.nc
  have hm10 := hm.erase
  have hm11 := hm.taken
  have hb : bitN taken ≤ 1 := by cases taken <;> decide
  obtain ⟨e1, G1⟩ := rU_good G0 (show err.toNat ≤ m.err by omega) (lt64' (by omega))
  obtain ⟨e2, G2⟩ := rU_good G1 (show ses.toNat ≤ m.ses by omega) (lt64' (by omega))
  obtain ⟨e3, G3⟩ := rU_good G2 (show pre.length ≤ m.np by omega) (lt64' (by omega))
  obtain ⟨s4, e4, e4', G4⟩ := rRuns_good hm.attr pre _ o6 o7 G3
  obtain ⟨e5, G5⟩ := rU_good G4 (show caret.toNat ≤ m.caret by omega) (lt64' (by omega))
  obtain ⟨e6, G6⟩ := rU_good G5 (show cands.length ≤ m.nc by omega) (lt64' (by omega))
  obtain ⟨s7, e7, e7', G7⟩ := rTxts_good cands _ o8 G6
  obtain ⟨e8, G8⟩ := rI_good G7 (by omega) (by omega)
  obtain ⟨e9, G9⟩ := rT_good G8 (lt64' (by rw [dl]; omega))
  obtain ⟨e10, G10⟩ := rU_good G9 (show erase.toNat ≤ m.erase by omega) (lt64' (by omega))
  obtain ⟨e11, G11⟩ := rU_good G10 (show bitN taken ≤ m.taken by omega) (lt64' (by omega))
  obtain ⟨e12, G12⟩ := rT_good (good_nil G11) (lt64' (by omega))
  have n1 : ((err.toNat : Nat) : Int) = err := Int.toNat_of_nonneg o1.1
  have n2 : ((ses.toNat : Nat) : Int) = ses := Int.toNat_of_nonneg o2.1
  have n5 : ((caret.toNat : Nat) : Int) = caret := Int.toNat_of_nonneg o3.1
  have n10 : ((erase.toNat : Nat) : Int) = erase := Int.toNat_of_nonneg o4.1
  have nt : (bitN taken == 1) = taken := by cases taken <;> rfl
  have ge := good_end G12
  unfold rRep
  rcases hr with rfl | rfl <;> rcases ht with rfl | rfl <;> simp only [e1, e2, e3, e4, e4', e5, e6, e7, e7', e8, e9, e10, e11, e12, n1, n2, n5, n10, nt, ba_data, ge]

theorem rRuns_sound {l : List UInt8} {most : Nat} : ∀ (n : Nat) (s : St), (rRuns l most n s).2.2 = false → s.2 = false ∧ (rRuns l most n s).1.length = n ∧ l.drop s.1 = (rRuns l most n s).1.flatMap runC ++ l.drop (rRuns l most n s).2.1
  | 0, s, h => ⟨h, rfl, by simp [rRuns]⟩
  | n + 1, s, h => by
    unfold rRuns at h ⊢
    simp only at h ⊢
    obtain ⟨h1, h2, h3⟩ := rRuns_sound n _ h
    obtain ⟨k1, _, k3, _⟩ := rU_sound h1
    obtain ⟨j1, j3, _⟩ := rT_sound k1
    refine ⟨j1, by rw [List.length_cons, h2], ?_⟩
    rw [List.flatMap_cons, j3, k3, h3]
    unfold runC
    simp only [Int.toNat_natCast, List.append_assoc, ba, List.toList_toArray]
theorem rTxts_sound {l : List UInt8} : ∀ (n : Nat) (s : St), (rTxts l n s).2.2 = false → s.2 = false ∧ (rTxts l n s).1.length = n ∧ l.drop s.1 = (rTxts l n s).1.flatMap (fun s => putT s.data.toList) ++ l.drop (rTxts l n s).2.1
  | 0, s, h => ⟨h, rfl, by simp [rTxts]⟩
  | n + 1, s, h => by
    unfold rTxts at h ⊢
    simp only at h ⊢
    obtain ⟨h1, h2, h3⟩ := rTxts_sound n _ h
    obtain ⟨j1, j3, _⟩ := rT_sound h1
    refine ⟨j1, by rw [List.length_cons, h2], ?_⟩
    rw [List.flatMap_cons, j3, h3]
    simp only [List.append_assoc, ba, List.toList_toArray]
/-- what is read from all bytes was written so -/
theorem rRep_sound {l : List UInt8} (h : (rRep l limPP (rRuns l limPP.attr) (rTxts l)).2 = (l.length, false)) : codeP (rRep l limPP (rRuns l limPP.attr) (rTxts l)).1 = l := by
  unfold rRep at h ⊢
  simp only at h ⊢
  generalize hK1 : rU l limPP.err (0, false) = K1 at h ⊢
  generalize hK2 : rU l limPP.ses K1.2 = K2 at h ⊢
  generalize hK3 : rU l limPP.np K2.2 = K3 at h ⊢
  generalize hK4 : rRuns l limPP.attr K3.1 K3.2 = K4 at h ⊢
  generalize hK5 : rU l limPP.caret K4.2 = K5 at h ⊢
  generalize hK6 : rU l limPP.nc K5.2 = K6 at h ⊢
  generalize hK7 : rTxts l K6.1 K6.2 = K7 at h ⊢
  generalize hK8 : rI l K7.2 = K8 at h ⊢
  generalize hK9 : rT l K8.2 = K9 at h ⊢
  generalize hK10 : rU l limPP.erase K9.2 = K10 at h ⊢
  generalize hK11 : rU l limPP.taken K10.2 = K11 at h ⊢
  generalize hK12 : rT l K11.2 = K12 at h ⊢
  obtain ⟨b11, t12, _⟩ := rT_sound (l := l) (s := K11.2) (by rw [hK12, h])
  rw [hK12, h] at t12
  obtain ⟨b10, l11, t11, _⟩ := rU_sound (l := l) (most := limPP.taken) (s := K10.2) (by rw [hK11]; exact b11)
  rw [hK11] at t11 l11
  obtain ⟨b9, _, t10, _⟩ := rU_sound (l := l) (most := limPP.erase) (s := K9.2) (by rw [hK10]; exact b10)
  rw [hK10] at t10
  obtain ⟨b8, t9, _⟩ := rT_sound (l := l) (s := K8.2) (by rw [hK9]; exact b9)
  rw [hK9] at t9
  obtain ⟨b7, t8, _⟩ := rI_sound (l := l) (s := K7.2) (by rw [hK8]; exact b8)
  rw [hK8] at t8
  obtain ⟨b6, c7, t7⟩ := rTxts_sound (l := l) K6.1 K6.2 (by rw [hK7]; exact b7)
  rw [hK7] at t7 c7
  obtain ⟨b5, _, t6, _⟩ := rU_sound (l := l) (most := limPP.nc) (s := K5.2) (by rw [hK6]; exact b6)
  rw [hK6] at t6
  obtain ⟨b4, _, t5, _⟩ := rU_sound (l := l) (most := limPP.caret) (s := K4.2) (by rw [hK5]; exact b5)
  rw [hK5] at t5
  obtain ⟨b3, c4, t4⟩ := rRuns_sound (l := l) (most := limPP.attr) K3.1 K3.2 (by rw [hK4]; exact b4)
  rw [hK4] at t4 c4
  obtain ⟨b2, _, t3, _⟩ := rU_sound (l := l) (most := limPP.np) (s := K2.2) (by rw [hK3]; exact b3)
  rw [hK3] at t3
  obtain ⟨b1, _, t2, _⟩ := rU_sound (l := l) (most := limPP.ses) (s := K1.2) (by rw [hK2]; exact b2)
  rw [hK2] at t2
  obtain ⟨_, _, t1, _⟩ := rU_sound (l := l) (most := limPP.err) (s := (0, false)) (by rw [hK1]; exact b1)
  rw [hK1] at t1
  have l11' : K11.1 ≤ 1 := l11
  have eb : bitN (K11.1 == 1) = K11.1 := by
    rcases (show K11.1 = 0 ∨ K11.1 = 1 by omega) with e | e <;> rw [e] <;> rfl
  simp only [List.drop_length, List.append_nil] at t12
  unfold codeP
  simp only [Int.toNat_natCast, eb, c4, c7, ba, List.toList_toArray]
  rw [← t12, ← t11, ← t10, ← t9, ← t8, ← t7, ← t6, ← t5, ← t4, ← t3, ← t2, ← t1]
  rfl

/-- what DecodeReply answers -/
def DecP (l : List UInt8) (c : Nat) (r : Rp) : Prop := (c = 0 ∧ chkP r = 0 ∧ codeP r = l) ∨ (c = 5 ∧ r = rp0 ∧ ∀ r', chkP r' = 0 → codeP r' ≠ l)
theorem codeP_inj {a b : Rp} (ha : chkP a = 0) (hb : chkP b = 0) (h : codeP a = codeP b) : a = b := by
  have h1 := rRep_complete limPP_ok (l := codeP a) (.inl rfl) (.inl rfl) ha rfl
  have h2 := rRep_complete limPP_ok (l := codeP a) (.inl rfl) (.inl rfl) hb h.symm
  rw [h1] at h2
  exact (Prod.mk.inj h2).1
theorem DecP.uniq {l : List UInt8} {c c' : Nat} {r r' : Rp} (h : DecP l c r) (h' : DecP l c' r') : c = c' ∧ r = r' := by
  rcases h with ⟨rfl, h1, h3⟩ | ⟨rfl, rfl, h3⟩
  · rcases h' with ⟨rfl, k1, k3⟩ | ⟨rfl, rfl, k3⟩
    · exact ⟨rfl, codeP_inj h1 k1 (h3.trans k3.symm)⟩
    · exact absurd h3 (k3 _ h1)
  · rcases h' with ⟨rfl, k1, k3⟩ | ⟨rfl, rfl, k3⟩
    · exact absurd k3 (h3 _ k1)
    · exact ⟨rfl, rfl⟩
/-- the program's way: all was there, nothing was left, nothing is wrong -/
theorem decP_prog {l : List UInt8} {X : Rp × St} (hX : rRep l limPP (rRuns l limPP.attr) (rTxts l) = X) : (X.2 = (l.length, false) ∧ chkP X.1 = 0 → DecP l 0 X.1) ∧ (¬ (X.2 = (l.length, false) ∧ chkP X.1 = 0) → DecP l 5 rp0) := by
  subst hX
  refine ⟨fun h => .inl ⟨rfl, h.2, rRep_sound h.1⟩, fun h => .inr ⟨rfl, rfl, fun r' h1 h3 => h ?_⟩⟩
  rw [rRep_complete limPP_ok (.inl rfl) (.inl rfl) h1 h3]
  exact ⟨rfl, h1⟩
/-- the reference's way: all was there, nothing is wrong, and the code is the bytes -/
theorem decP_ref {l : List UInt8} {X : Rp × St} (hX : rRep l limPR (rRunsR l limPR.attr) (rTxtsR l) = X) : (X.2.2 = false ∧ chkP X.1 = 0 ∧ codeP X.1 = l → DecP l 0 X.1) ∧ (¬ (X.2.2 = false ∧ chkP X.1 = 0 ∧ codeP X.1 = l) → DecP l 5 rp0) := by
  subst hX
  refine ⟨fun h => .inl ⟨rfl, h.2.1, h.2.2⟩, fun h => .inr ⟨rfl, rfl, fun r' h1 h3 => h ?_⟩⟩
  rw [rRep_complete limPR_ok (.inr rfl) (.inr rfl) h1 h3]
  exact ⟨rfl, h1, h3⟩
end Go.Proofs.YtkllfnaofapfnaaDoor.Prot
