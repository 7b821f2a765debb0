/-
  The plain law of files of parts: what a file is, that a file has one list of parts, that no file begins another, and that one changed byte is noticed. No program is in sight. Conditions: none.
-/
import Derived.Test.YtncnocejmbfhaaaDoorCodMath
import Derived.Test.YtncnocejmbfhaaaDoorCrcMath
namespace Go.Proofs.YtncnocejmbfhaaaDoor.Sec
open Cod

/-- a named part -/
structure Pt where
  name : ByteArray
  data : List UInt8

/-- the four bytes of a check sum -/
def four (n : BitVec 32) : List UInt8 := [UInt8.ofNat (n.toNat % 256), UInt8.ofNat (n.toNat / 256 % 256), UInt8.ofNat (n.toNat / 65536 % 256), UInt8.ofNat (n.toNat / 16777216 % 256)]
def sum4 (l : List UInt8) : List UInt8 := four (Crc.add 0#32 l)
def magic : List UInt8 := [72, 78, 75, 49]
def hd (p : Pt) : List UInt8 := putT p.name.data.toList ++ put p.data.length
def body (l : List Pt) : List UInt8 := magic ++ put l.length ++ l.flatMap hd ++ l.flatMap Pt.data
def file (l : List Pt) : List UInt8 := body l ++ sum4 (body l)
def nameB (s : ByteArray) : Bool := decide (1 ≤ s.size ∧ s.size ≤ 16) && s.data.toList.all fun c => decide (97 ≤ c.toNat ∧ c.toNat ≤ 122)
def total (l : List Pt) : Nat := (l.map fun p => p.data.length).sum
/-- what is wrong with a list of parts -/
def chk (l : List Pt) : Nat := if 64 < l.length ∨ 16777216 < total l then 2 else if l.all fun p => nameB p.name then (if (l.map Pt.name).Nodup then 0 else 4) else 1

theorem four_length (n : BitVec 32) : (four n).length = 4 := rfl
theorem sum4_length (l : List UInt8) : (sum4 l).length = 4 := rfl
theorem magic_length : magic.length = 4 := rfl
theorem four_inj {a b : BitVec 32} (h : four a = four b) : a = b := by
  have ha := a.isLt
  have hb := b.isLt
  unfold four at h
  simp only [List.cons.injEq, and_true] at h
  obtain ⟨h0, h1, h2, h3⟩ := h
  have e0 := congrArg UInt8.toNat h0
  have e1 := congrArg UInt8.toNat h1
  have e2 := congrArg UInt8.toNat h2
  have e3 := congrArg UInt8.toNat h3
  rw [toNat_small _ (Nat.mod_lt _ (by decide)), toNat_small _ (Nat.mod_lt _ (by decide))] at e0 e1 e2 e3
  apply BitVec.eq_of_toNat_eq
  omega

theorem put_cancel {a b : Nat} {x y : List UInt8} (ha : a < 2 ^ 64) (hb : b < 2 ^ 64) (h : put a ++ x = put b ++ y) : a = b ∧ x = y := by
  have h1 := rd_put a x ha
  rw [h, rd_put b y hb] at h1
  injection h1 with h1
  obtain rfl : b = a := (Prod.mk.inj h1).1
  exact ⟨rfl, List.append_cancel_left h⟩
theorem putT_cancel {s t x y : List UInt8} (hs : s.length < 2 ^ 64) (ht : t.length < 2 ^ 64) (h : putT s ++ x = putT t ++ y) : s = t ∧ x = y := by
  unfold putT at h
  rw [List.append_assoc, List.append_assoc] at h
  obtain ⟨h1, h2⟩ := put_cancel hs ht h
  exact List.append_inj h2 h1
theorem ba_inj {a b : ByteArray} (h : a.data.toList = b.data.toList) : a = b := ByteArray.ext (Array.toList_inj.mp h)

/-- lengths that a code can hold -/
def Small (l : List Pt) : Prop := l.length < 2 ^ 64 ∧ ∀ p ∈ l, p.name.data.toList.length < 2 ^ 64 ∧ p.data.length < 2 ^ 64

theorem hd_cancel {p q : Pt} {x y : List UInt8} (hp : p.name.data.toList.length < 2 ^ 64 ∧ p.data.length < 2 ^ 64) (hq : q.name.data.toList.length < 2 ^ 64 ∧ q.data.length < 2 ^ 64) (h : hd p ++ x = hd q ++ y) :
    p.name = q.name ∧ p.data.length = q.data.length ∧ x = y := by
  unfold hd at h
  rw [List.append_assoc, List.append_assoc] at h
  obtain ⟨h1, h2⟩ := putT_cancel hp.1 hq.1 h
  obtain ⟨h3, h4⟩ := put_cancel hp.2 hq.2 h2
  exact ⟨ba_inj h1, h3, h4⟩
theorem hds_cancel : ∀ (l m : List Pt) (x y : List UInt8), l.length = m.length → (∀ p ∈ l, p.name.data.toList.length < 2 ^ 64 ∧ p.data.length < 2 ^ 64) → (∀ p ∈ m, p.name.data.toList.length < 2 ^ 64 ∧ p.data.length < 2 ^ 64) →
    l.flatMap hd ++ x = m.flatMap hd ++ y → l.map Pt.name = m.map Pt.name ∧ l.map (fun p => p.data.length) = m.map (fun p => p.data.length) ∧ x = y
  | [], [], x, y, _, _, _, h => ⟨rfl, rfl, h⟩
  | [], _ :: _, _, _, h, _, _, _ => by simp at h
  | _ :: _, [], _, _, h, _, _, _ => by simp at h
  | p :: l, q :: m, x, y, hl, h1, h2, h => by
    simp only [List.flatMap_cons, List.append_assoc] at h
    obtain ⟨e1, e2, e3⟩ := hd_cancel (h1 p (by simp)) (h2 q (by simp)) h
    obtain ⟨f1, f2, f3⟩ := hds_cancel l m x y (by simpa using hl) (fun p hp => h1 p (by simp [hp])) (fun p hp => h2 p (by simp [hp])) e3
    exact ⟨by simp [e1, f1], by simp [e2, f2], f3⟩
theorem data_cancel : ∀ (l m : List Pt) (x y : List UInt8), l.map Pt.name = m.map Pt.name → l.map (fun p => p.data.length) = m.map (fun p => p.data.length) → l.flatMap Pt.data ++ x = m.flatMap Pt.data ++ y → l = m ∧ x = y
  | [], [], x, y, _, _, h => ⟨rfl, h⟩
  | [], _ :: _, _, _, h, _, _ => by simp at h
  | _ :: _, [], _, _, h, _, _ => by simp at h
  | p :: l, q :: m, x, y, h1, h2, h => by
    simp only [List.flatMap_cons, List.append_assoc, List.map_cons, List.cons.injEq] at h h1 h2
    obtain ⟨e1, e2⟩ := List.append_inj h h2.1
    obtain ⟨rfl, f2⟩ := data_cancel l m x y h1.2 h2.2 e2
    refine ⟨?_, f2⟩
    cases p; cases q
    simp only at h1 e1
    rw [h1.1, e1]
theorem body_cancel {l m : List Pt} {x y : List UInt8} (hl : Small l) (hm : Small m) (h : body l ++ x = body m ++ y) : l = m ∧ x = y := by
  unfold body at h
  simp only [List.append_assoc] at h
  have h := List.append_cancel_left h
  obtain ⟨h1, h2⟩ := put_cancel hl.1 hm.1 h
  obtain ⟨h3, h4, h5⟩ := hds_cancel l m _ _ h1 hl.2 hm.2 h2
  exact data_cancel l m x y h3 h4 h5
/-- no file begins another -/
theorem file_cancel {l m : List Pt} {x y : List UInt8} (hl : Small l) (hm : Small m) (h : file l ++ x = file m ++ y) : l = m ∧ x = y := by
  unfold file at h
  rw [List.append_assoc, List.append_assoc] at h
  obtain ⟨rfl, h⟩ := body_cancel hl hm h
  exact ⟨rfl, List.append_cancel_left h⟩
theorem file_inj {l m : List Pt} (hl : Small l) (hm : Small m) (h : file l = file m) : l = m := (file_cancel (x := []) (y := []) hl hm (by rw [h])).1

theorem le_total {l : List Pt} {p : Pt} (h : p ∈ l) : p.data.length ≤ total l := by
  unfold total
  induction l with
  | nil => cases h
  | cons q l ih =>
    simp only [List.map_cons, List.sum_cons]
    cases List.mem_cons.1 h with
    | inl e => subst e; omega
    | inr e => have := ih e; omega
theorem nameB_size {s : ByteArray} (h : nameB s = true) : 1 ≤ s.data.toList.length ∧ s.data.toList.length ≤ 16 := by
  unfold nameB at h
  simp only [Bool.and_eq_true, decide_eq_true_eq] at h
  rw [Array.length_toList]
  exact h.1
/-- what a list with nothing wrong is -/
theorem chk_zero {l : List Pt} (h : chk l = 0) : l.length ≤ 64 ∧ total l ≤ 16777216 ∧ (∀ p ∈ l, nameB p.name = true) ∧ (l.map Pt.name).Nodup := by
  unfold chk at h
  split at h
  · cases h
  · split at h
    · split at h
      · next h1 h2 h3 => exact ⟨by omega, by omega, by simpa using h2, h3⟩
      · cases h
    · cases h
theorem chk_ok {l : List Pt} (h1 : l.length ≤ 64) (h2 : total l ≤ 16777216) (h3 : (∀ p ∈ l, nameB p.name = true)) (h4 : (l.map Pt.name).Nodup) : chk l = 0 := by
  unfold chk
  rw [if_neg (by omega), if_pos (by simpa using h3), if_pos h4]
theorem chk_small {l : List Pt} (h : chk l = 0) : Small l := by
  obtain ⟨h1, h2, h3, _⟩ := chk_zero h
  have e : (2 : Nat) ^ 64 = 18446744073709551616 := by decide
  refine ⟨by omega, fun p hp => ?_⟩
  have h5 := le_total hp
  have h6 := nameB_size (h3 p hp)
  omega

theorem run_inj (q : List UInt8) (r s : BitVec 32) (h : Crc.run r q = Crc.run s q) : r = s := by
  have h1 := Crc.run_lin (r ^^^ s) s q
  have e : r ^^^ s ^^^ s = r := by rw [BitVec.xor_assoc, BitVec.xor_self, BitVec.xor_zero]
  rw [e, h] at h1
  have h2 : Crc.stepN (8 * q.length) (r ^^^ s) = 0#32 := by
    have := congrArg (· ^^^ Crc.run s q) h1
    simp only [BitVec.xor_self, BitVec.xor_assoc, BitVec.xor_zero] at this
    exact this.symm
  have h3 := Crc.stepN_inj _ _ h2
  have h4 := congrArg (· ^^^ s) h3
  simp only [BitVec.xor_assoc, BitVec.xor_self, BitVec.xor_zero, BitVec.zero_xor] at h4
  exact h4
theorem byte_inj (r : BitVec 32) (x y : UInt8) (h : Crc.byte r x = Crc.byte r y) : x = y := by
  unfold Crc.byte at h
  have h1 : Crc.stepN 8 ((r ^^^ BitVec.ofNat 32 x.toNat) ^^^ (r ^^^ BitVec.ofNat 32 y.toNat)) = 0#32 := by
    rw [Crc.stepN_xor, h, BitVec.xor_self]
  have h2 := Crc.stepN_inj _ _ h1
  rw [Crc.xor_swap4, BitVec.xor_self, BitVec.zero_xor] at h2
  have h4 := congrArg (· ^^^ BitVec.ofNat 32 y.toNat) h2
  simp only [BitVec.xor_assoc, BitVec.xor_self, BitVec.xor_zero, BitVec.zero_xor] at h4
  have h5 := congrArg BitVec.toNat h4
  simp only [BitVec.toNat_ofNat] at h5
  have hx := x.toNat_lt
  have hy := y.toNat_lt
  apply UInt8.toNat_inj.1
  omega
/-- one changed byte changes the check sum -/
theorem add_set (s : BitVec 32) (l : List UInt8) (k : Nat) (v : UInt8) (hk : k < l.length) (h : Crc.add s (l.set k v) = Crc.add s l) : v = l[k] := by
  unfold Crc.add at h
  have h0 : Crc.run (~~~ s) (l.set k v) = Crc.run (~~~ s) l := by
    have := congrArg (fun x => ~~~ x) h
    simpa using this
  have e1 : l.set k v = l.take k ++ ([v] ++ l.drop (k + 1)) := by
    rw [List.set_eq_take_append_cons_drop, if_pos hk]; rfl
  have e2 : l = l.take k ++ ([l[k]] ++ l.drop (k + 1)) := by
    conv => lhs; rw [← List.take_append_drop k l]
    rw [List.drop_eq_getElem_cons hk]; rfl
  rw [e1] at h0
  have h1 : Crc.run (~~~ s) (l.take k ++ ([v] ++ l.drop (k + 1))) = Crc.run (~~~ s) (l.take k ++ ([l[k]] ++ l.drop (k + 1))) := by rw [← e2]; exact h0
  simp only [Crc.run_append] at h1
  have h2 := run_inj _ _ _ h1
  exact byte_inj _ _ _ h2
/-- a file in which one byte is changed is no file -/
theorem file_set {l m : List Pt} (k : Nat) (v : UInt8) (hk : k < (file l).length) (hv : v ≠ (file l)[k]) (h : file m = (file l).set k v) : False := by
  have hlen : (file m).length = (file l).length := by rw [h, List.length_set]
  unfold file at hlen hk hv h
  simp only [List.length_append, sum4_length] at hlen hk
  generalize body l = X at *
  generalize body m = Y at *
  by_cases hx : k < X.length
  · rw [List.set_append, if_pos hx] at h
    obtain ⟨h1, h2⟩ := List.append_inj h (by rw [List.length_set]; omega)
    subst h1
    have h3 := four_inj h2
    have h4 := add_set 0#32 X k v hx h3
    apply hv
    rw [List.getElem_append_left hx]
    exact h4
  · rw [List.set_append, if_neg hx] at h
    obtain ⟨h1, h2⟩ := List.append_inj h (by omega)
    subst h1
    apply hv
    rw [List.getElem_append_right (by omega)]
    have h5 : (sum4 Y)[k - Y.length]'(by rw [sum4_length]; omega) = ((sum4 Y).set (k - Y.length) v)[k - Y.length]'(by rw [List.length_set, sum4_length]; omega) := by
      congr 1
    rw [h5, List.getElem_set_self]

/-- what the first tests of a file say: 5, 11, or nothing -/
def code0 (b : List UInt8) : Nat := if b.length < 9 ∨ b.take 4 ≠ magic then 5 else if b.drop (b.length - 4) ≠ sum4 (b.take (b.length - 4)) then 11 else 0
/-- what is returned for a file -/
def Spl (b : List UInt8) (c : Nat) (l : List Pt) : Prop :=
  (code0 b ≠ 0 ∧ c = code0 b ∧ l = []) ∨ (code0 b = 0 ∧ c = 0 ∧ chk l = 0 ∧ file l = b) ∨ (code0 b = 0 ∧ c = 5 ∧ l = [] ∧ ∀ m, chk m = 0 → file m ≠ b)
theorem code0_cases (b : List UInt8) : code0 b = 0 ∨ code0 b = 5 ∨ code0 b = 11 := by
  unfold code0; split
  · exact .inr (.inl rfl)
  · split
    · exact .inr (.inr rfl)
    · exact .inl rfl
theorem Spl.uniq {b : List UInt8} {c c' : Nat} {l l' : List Pt} (h : Spl b c l) (h' : Spl b c' l') : c = c' ∧ l = l' := by
  rcases h with ⟨h0, h1, h2⟩ | ⟨h0, h1, h2, h3⟩ | ⟨h0, h1, h2, h3⟩
  · rcases h' with ⟨_, k1, k2⟩ | ⟨k0, _⟩ | ⟨k0, _⟩
    · exact ⟨by rw [h1, k1], by rw [h2, k2]⟩
    · exact absurd k0 h0
    · exact absurd k0 h0
  · rcases h' with ⟨k0, _⟩ | ⟨_, k1, k2, k3⟩ | ⟨_, _, _, k3⟩
    · exact absurd h0 k0
    · exact ⟨by rw [h1, k1], file_inj (chk_small h2) (chk_small k2) (by rw [h3, k3])⟩
    · exact absurd h3 (k3 _ h2)
  · rcases h' with ⟨k0, _⟩ | ⟨_, _, k2, k3⟩ | ⟨_, k1, k2, _⟩
    · exact absurd h0 k0
    · exact absurd k3 (h3 _ k2)
    · exact ⟨by rw [h1, k1], by rw [h2, k2]⟩
theorem Spl.cases {b : List UInt8} {c : Nat} {l : List Pt} (h : Spl b c l) : (c = 0 ∧ chk l = 0 ∧ file l = b) ∨ ((c = 5 ∨ c = 11) ∧ l = []) := by
  rcases h with ⟨h0, h1, h2⟩ | ⟨_, h1, h2, h3⟩ | ⟨_, h1, h2, _⟩
  · rcases code0_cases b with k | k | k
    · exact absurd k h0
    · exact .inr ⟨.inl (by omega), h2⟩
    · exact .inr ⟨.inr (by omega), h2⟩
  · exact .inl ⟨h1, h2, h3⟩
  · exact .inr ⟨.inl h1, h2⟩
theorem body_length (l : List Pt) : 5 ≤ (body l).length := by
  have := put_pos l.length
  simp only [body, List.length_append, magic_length]; omega
theorem file_length (l : List Pt) : (file l).length = (body l).length + 4 := by simp [file, sum4_length]
theorem file_take (l : List Pt) : (file l).take ((file l).length - 4) = body l := by
  rw [file_length]; unfold file; simp
theorem file_drop (l : List Pt) : (file l).drop ((file l).length - 4) = sum4 (body l) := by
  rw [file_length]; unfold file; simp
theorem file_code0 (l : List Pt) : code0 (file l) = 0 := by
  have h := body_length l
  have h' := file_length l
  unfold code0
  rw [if_neg, if_neg]
  · rw [file_take, file_drop]; simp
  · intro hh
    rcases hh with hh | hh
    · omega
    · apply hh
      unfold file body
      simp [magic]
theorem Spl.file {l m : List Pt} {c : Nat} (h : Spl (file l) c m) (hl : chk l = 0) : c = 0 ∧ m = l := by
  rcases h with ⟨h0, _⟩ | ⟨_, h1, h2, h3⟩ | ⟨_, _, _, h3⟩
  · exact absurd (file_code0 l) h0
  · exact ⟨h1, file_inj (chk_small h2) (chk_small hl) h3⟩
  · exact absurd rfl (h3 l hl)
end Go.Proofs.YtncnocejmbfhaaaDoor.Sec
