/-
  The plain law of UTF-8: characters, their codes, and that exactly the codes are read. No program is in sight. Conditions: none.
-/
import Derived.Lib.TrimUEq
import Derived.Lib.ValidLaws
import Derived.Lib.RuneBytes
import Derived.Lib.RuneCount
import GoSem.Claim
namespace Go.Proofs.YtebjfigjfhghcaaDoor.Utf

/-- a number is a character -/
def chr (c : Nat) : Prop := c ≤ 1114111 ∧ ¬ (55296 ≤ c ∧ c ≤ 57343)
instance (c : Nat) : Decidable (chr c) := by unfold chr; exact inferInstance

/-- the code of a character -/
def enc (c : Nat) : List UInt8 :=
  if c < 128 then [UInt8.ofNat c]
  else if c < 2048 then [UInt8.ofNat (192 + c / 64), UInt8.ofNat (128 + c % 64)]
  else if c < 65536 then [UInt8.ofNat (224 + c / 4096), UInt8.ofNat (128 + c / 64 % 64), UInt8.ofNat (128 + c % 64)]
  else [UInt8.ofNat (240 + c / 262144), UInt8.ofNat (128 + c / 4096 % 64), UInt8.ofNat (128 + c / 64 % 64), UInt8.ofNat (128 + c % 64)]

/-- a byte, as a number -/
def bt (l : List UInt8) (k : Nat) : Nat := (l.getD k 0).toNat
def cont (l : List UInt8) (k : Nat) : Prop := 128 ≤ bt l k ∧ bt l k < 192
instance (l : List UInt8) (k : Nat) : Decidable (cont l k) := by unfold cont; exact inferInstance
def c2 (l : List UInt8) : Nat := (bt l 0 - 192) * 64 + (bt l 1 - 128)
def c3 (l : List UInt8) : Nat := ((bt l 0 - 224) * 64 + (bt l 1 - 128)) * 64 + (bt l 2 - 128)
def c4 (l : List UInt8) : Nat := (((bt l 0 - 240) * 64 + (bt l 1 - 128)) * 64 + (bt l 2 - 128)) * 64 + (bt l 3 - 128)

/-- the character whose code bytes begin with, and how many bytes it has -/
def nx (l : List UInt8) : Option (Nat × Nat) :=
  if l = [] then none
  else if bt l 0 < 128 then some (bt l 0, 1)
  else if 192 ≤ bt l 0 ∧ bt l 0 < 224 then (if cont l 1 ∧ 128 ≤ c2 l then some (c2 l, 2) else none)
  else if 224 ≤ bt l 0 ∧ bt l 0 < 240 then (if cont l 1 ∧ cont l 2 ∧ 2048 ≤ c3 l ∧ chr (c3 l) then some (c3 l, 3) else none)
  else if 240 ≤ bt l 0 ∧ bt l 0 < 248 then (if cont l 1 ∧ cont l 2 ∧ cont l 3 ∧ 65536 ≤ c4 l ∧ chr (c4 l) then some (c4 l, 4) else none)
  else none

theorem bt_lt (l : List UInt8) (k : Nat) : bt l k < 256 := UInt8.toNat_lt _
theorem cont_lt {l : List UInt8} {k : Nat} (h : cont l k) : k < l.length := by
  rcases Nat.lt_or_ge k l.length with h1 | h1
  · exact h1
  · have e : bt l k = 0 := by unfold bt; simp [List.getD, h1]
    unfold cont at h; omega

theorem decode_nx (l : List UInt8) (hl : l ≠ []) : Lib.decodeL l = (nx l).getD (65533, 1) := by
  rw [Lib.decodeL_N]
  have h0 := bt_lt l 0
  have h1 := bt_lt l 1
  have h2 := bt_lt l 2
  have h3 := bt_lt l 3
  have k1 : cont l 1 ↔ (1 < l.length ∧ bt l 1 / 64 = 2) := ⟨fun h => ⟨cont_lt h, by unfold cont at h; omega⟩, fun h => by unfold cont; omega⟩
  have k2 : cont l 2 ↔ (2 < l.length ∧ bt l 2 / 64 = 2) := ⟨fun h => ⟨cont_lt h, by unfold cont at h; omega⟩, fun h => by unfold cont; omega⟩
  have k3 : cont l 3 ↔ (3 < l.length ∧ bt l 3 / 64 = 2) := ⟨fun h => ⟨cont_lt h, by unfold cont at h; omega⟩, fun h => by unfold cont; omega⟩
  unfold nx
  rw [if_neg hl]
  show Lib.decodeN l.length (bt l 0) (bt l 1) (bt l 2) (bt l 3) = _
  unfold Lib.decodeN
  simp only [← k1, ← k2, ← k3]
  have m1 : cont l 1 → bt l 1 % 64 = bt l 1 - 128 := fun h => by unfold cont at h; omega
  have m2 : cont l 2 → bt l 2 % 64 = bt l 2 - 128 := fun h => by unfold cont at h; omega
  have m3 : cont l 3 → bt l 3 % 64 = bt l 3 - 128 := fun h => by unfold cont at h; omega
  by_cases a0 : bt l 0 < 128
  · rw [if_pos a0, if_pos a0]; rfl
  rw [if_neg a0, if_neg a0]
  by_cases a2 : 192 ≤ bt l 0 ∧ bt l 0 < 224
  · rw [if_pos a2]
    have e : bt l 0 / 32 = 6 := by omega
    by_cases hc : cont l 1
    · rw [if_pos ⟨e, hc⟩, m1 hc]
      have e2 : bt l 0 % 32 * 64 + (bt l 1 - 128) = c2 l := by unfold c2; omega
      rw [e2]
      by_cases hm : 128 ≤ c2 l
      · rw [if_pos hm, if_pos ⟨hc, hm⟩]; rfl
      · rw [if_neg (by omega), if_neg (fun h => hm h.2)]; rfl
    · rw [if_neg (fun h => hc h.2), if_neg (fun h => by have := h.1; omega), if_neg (fun h => by have := h.1; omega), if_neg (fun h => hc h.1)]; rfl
  rw [if_neg a2, if_neg (fun h => by have := h.1; omega)]
  by_cases a3 : 224 ≤ bt l 0 ∧ bt l 0 < 240
  · rw [if_pos a3]
    have e : bt l 0 / 16 = 14 := by omega
    by_cases hc : cont l 1 ∧ cont l 2
    · rw [if_pos ⟨e, hc⟩, m1 hc.1, m2 hc.2]
      have e2 : bt l 0 % 16 * 4096 + (bt l 1 - 128) * 64 + (bt l 2 - 128) = c3 l := by unfold c3; omega
      rw [e2]
      by_cases hm : 2048 ≤ c3 l ∧ chr (c3 l)
      · rw [if_pos ⟨hm.1, by have := hm.2; unfold chr at this; omega⟩, if_pos ⟨hc.1, hc.2, hm⟩]; rfl
      · rw [if_neg (fun h => hm ⟨h.1, by unfold chr; omega⟩), if_neg (fun h => hm h.2.2)]; rfl
    · rw [if_neg (fun h => hc h.2), if_neg (fun h => by have := h.1; omega), if_neg (fun h => hc ⟨h.1, h.2.1⟩)]; rfl
  rw [if_neg a3, if_neg (fun h => by have := h.1; omega)]
  by_cases a4 : 240 ≤ bt l 0 ∧ bt l 0 < 248
  · rw [if_pos a4]
    have e : bt l 0 / 8 = 30 := by omega
    by_cases hc : cont l 1 ∧ cont l 2 ∧ cont l 3
    · rw [if_pos ⟨e, hc⟩, m1 hc.1, m2 hc.2.1, m3 hc.2.2]
      have e2 : bt l 0 % 8 * 262144 + (bt l 1 - 128) * 4096 + (bt l 2 - 128) * 64 + (bt l 3 - 128) = c4 l := by unfold c4; omega
      rw [e2]
      by_cases hm : 65536 ≤ c4 l ∧ chr (c4 l)
      · rw [if_pos ⟨hm.1, by have := hm.2; unfold chr at this; omega⟩, if_pos ⟨hc.1, hc.2.1, hc.2.2, hm⟩]; rfl
      · rw [if_neg (fun h => hm ⟨h.1, by unfold chr; omega⟩), if_neg (fun h => hm h.2.2.2)]; rfl
    · rw [if_neg (fun h => hc h.2), if_neg (fun h => hc ⟨h.1, h.2.1, h.2.2.1⟩)]; rfl
  · rw [if_neg a4, if_neg (fun h => by have := h.1; omega)]; rfl

theorem tn (x : Nat) (h : x < 256) : (UInt8.ofNat x).toNat = x := by rw [UInt8.toNat_ofNat']; omega
theorem on (l : List UInt8) (k x : Nat) (h : k < l.length) (hx : x = bt l k) : UInt8.ofNat x = l[k] := by
  rw [hx]; unfold bt; simp [List.getD, h]

theorem take2 : ∀ (l : List UInt8) (h : 1 < l.length), l.take 2 = [l[0], l[1]]
  | _ :: _ :: _, _ => rfl
theorem take3 : ∀ (l : List UInt8) (h : 2 < l.length), l.take 3 = [l[0], l[1], l[2]]
  | _ :: _ :: _ :: _, _ => rfl
theorem take4 : ∀ (l : List UInt8) (h : 3 < l.length), l.take 4 = [l[0], l[1], l[2], l[3]]
  | _ :: _ :: _ :: _ :: _, _ => rfl
/-- what is read is the code of a character -/
theorem nx_sound (l : List UInt8) (c n : Nat) (h : nx l = some (c, n)) : chr c ∧ n ≤ l.length ∧ l.take n = enc c ∧ n = (enc c).length ∧ 1 ≤ n := by
  unfold nx at h
  split at h
  · cases h
  rename_i hl
  have hpos : 0 < l.length := List.length_pos_iff.2 hl
  have h0 := bt_lt l 0
  split at h
  · rename_i ha
    simp only [Option.some.injEq, Prod.mk.injEq] at h
    obtain ⟨rfl, rfl⟩ := h
    refine ⟨by unfold chr; omega, hpos, ?_, by unfold enc; rw [if_pos ha]; rfl, Nat.le_refl _⟩
    unfold enc
    rw [if_pos ha, on l 0 _ hpos rfl]
    match l, hpos with
    | x :: r, _ => rfl
  split at h
  · split at h
    · rename_i _ _ hx
      simp only [Option.some.injEq, Prod.mk.injEq] at h
      obtain ⟨rfl, rfl⟩ := h
      obtain ⟨hc1, hm⟩ := hx
      have l1 := cont_lt hc1
      have hc1' := hc1
      unfold cont at hc1
      have hb : c2 l < 2048 := by unfold c2; omega
      have ht : l.take 2 = enc (c2 l) := by
        unfold enc
        rw [if_neg (by omega), if_pos hb, on l 0 _ hpos (by unfold c2; omega), on l 1 _ l1 (by unfold c2; omega)]
        exact take2 l l1
      exact ⟨by unfold chr; omega, by omega, ht, by unfold enc; rw [if_neg (by omega), if_pos hb]; rfl, by omega⟩
    · cases h
  split at h
  · split at h
    · rename_i _ _ _ hx
      simp only [Option.some.injEq, Prod.mk.injEq] at h
      obtain ⟨rfl, rfl⟩ := h
      obtain ⟨hc1, hc2, hm, hch⟩ := hx
      have l1 := cont_lt hc1
      have l2 := cont_lt hc2
      unfold cont at hc1 hc2
      have hb : c3 l < 65536 := by unfold c3; omega
      have ht : l.take 3 = enc (c3 l) := by
        unfold enc
        rw [if_neg (by omega), if_neg (by omega), if_pos hb, on l 0 _ hpos (by unfold c3; omega), on l 1 _ l1 (by unfold c3; omega), on l 2 _ l2 (by unfold c3; omega)]
        exact take3 l l2
      exact ⟨hch, by omega, ht, by unfold enc; rw [if_neg (by omega), if_neg (by omega), if_pos hb]; rfl, by omega⟩
    · cases h
  split at h
  · split at h
    · rename_i _ _ _ _ hx
      simp only [Option.some.injEq, Prod.mk.injEq] at h
      obtain ⟨rfl, rfl⟩ := h
      obtain ⟨hc1, hc2, hc3, hm, hch⟩ := hx
      have l1 := cont_lt hc1
      have l2 := cont_lt hc2
      have l3 := cont_lt hc3
      unfold cont at hc1 hc2 hc3
      have ht : l.take 4 = enc (c4 l) := by
        unfold enc
        rw [if_neg (by omega), if_neg (by omega), if_neg (by omega), on l 0 _ hpos (by unfold c4; omega), on l 1 _ l1 (by unfold c4; omega), on l 2 _ l2 (by unfold c4; omega), on l 3 _ l3 (by unfold c4; omega)]
        exact take4 l l3
      exact ⟨hch, by omega, ht, by unfold enc; rw [if_neg (by omega), if_neg (by omega), if_neg (by omega)]; rfl, by omega⟩
    · cases h
  · cases h

/-- the code of a character is read -/
theorem nx_enc (c : Nat) (r : List UInt8) (h : chr c) : nx (enc c ++ r) = some (c, (enc c).length) := by
  unfold chr at h
  unfold enc
  by_cases a : c < 128
  · rw [if_pos a]
    have b0 : bt ([UInt8.ofNat c] ++ r) 0 = c := tn c (by omega)
    unfold nx
    rw [if_neg (by simp), b0, if_pos a]; rfl
  rw [if_neg a]
  by_cases b : c < 2048
  · rw [if_pos b]
    generalize hl : [UInt8.ofNat (192 + c / 64), UInt8.ofNat (128 + c % 64)] ++ r = l
    have b0 : bt l 0 = 192 + c / 64 := by rw [← hl]; exact tn _ (by omega)
    have b1 : bt l 1 = 128 + c % 64 := by rw [← hl]; exact tn _ (by omega)
    have e : c2 l = c := by unfold c2; omega
    unfold nx
    rw [if_neg (by rw [← hl]; simp), if_neg (by omega), if_pos (by omega), e, if_pos ⟨by unfold cont; omega, by omega⟩]; rfl
  rw [if_neg b]
  by_cases d : c < 65536
  · rw [if_pos d]
    generalize hl : [UInt8.ofNat (224 + c / 4096), UInt8.ofNat (128 + c / 64 % 64), UInt8.ofNat (128 + c % 64)] ++ r = l
    have b0 : bt l 0 = 224 + c / 4096 := by rw [← hl]; exact tn _ (by omega)
    have b1 : bt l 1 = 128 + c / 64 % 64 := by rw [← hl]; exact tn _ (by omega)
    have b2 : bt l 2 = 128 + c % 64 := by rw [← hl]; exact tn _ (by omega)
    have e : c3 l = c := by unfold c3; omega
    unfold nx
    rw [if_neg (by rw [← hl]; simp), if_neg (by omega), if_neg (by omega), if_pos (by omega), e, if_pos ⟨by unfold cont; omega, by unfold cont; omega, by omega, by unfold chr; omega⟩]; rfl
  · rw [if_neg d]
    generalize hl : [UInt8.ofNat (240 + c / 262144), UInt8.ofNat (128 + c / 4096 % 64), UInt8.ofNat (128 + c / 64 % 64), UInt8.ofNat (128 + c % 64)] ++ r = l
    have b0 : bt l 0 = 240 + c / 262144 := by rw [← hl]; exact tn _ (by omega)
    have b1 : bt l 1 = 128 + c / 4096 % 64 := by rw [← hl]; exact tn _ (by omega)
    have b2 : bt l 2 = 128 + c / 64 % 64 := by rw [← hl]; exact tn _ (by omega)
    have b3 : bt l 3 = 128 + c % 64 := by rw [← hl]; exact tn _ (by omega)
    have e : c4 l = c := by unfold c4; omega
    unfold nx
    rw [if_neg (by rw [← hl]; simp), if_neg (by omega), if_neg (by omega), if_neg (by omega), if_pos (by omega), e, if_pos ⟨by unfold cont; omega, by unfold cont; omega, by unfold cont; omega, by omega, by unfold chr; omega⟩]; rfl

theorem enc_pos (c : Nat) : 1 ≤ (enc c).length := by
  unfold enc; split
  · simp
  · split
    · simp
    · split <;> simp
theorem enc_len (c : Nat) : (enc c).length ≤ 4 := by
  unfold enc; split
  · simp
  · split
    · simp
    · split <;> simp

/-- the string of characters -/
def txt (cs : List Nat) : List UInt8 := cs.flatMap enc
theorem txt_nil : txt [] = [] := rfl
theorem txt_cons (c : Nat) (cs : List Nat) : txt (c :: cs) = enc c ++ txt cs := rfl
theorem txt_append (a b : List Nat) : txt (a ++ b) = txt a ++ txt b := by simp [txt]
theorem txt_many (cs : List Nat) : cs.length ≤ (txt cs).length := by
  induction cs with
  | nil => simp
  | cons c cs ih => have := enc_pos c; rw [txt_cons, List.length_append, List.length_cons]; omega

/-- the characters of a string -/
def runesF : Nat → List UInt8 → Option (List Nat)
  | 0, _ => some []
  | f + 1, l => if l = [] then some [] else match nx l with
    | none => none
    | some (c, n) => (runesF f (l.drop n)).map (c :: ·)
def runes (l : List UInt8) : Option (List Nat) := runesF l.length l

theorem runesF_fuel : ∀ (f g : Nat) (l : List UInt8), l.length ≤ f → l.length ≤ g → runesF f l = runesF g l
  | 0, g, l, hf, _ => by
    have : l = [] := List.length_eq_zero_iff.1 (by omega)
    subst this
    cases g <;> rfl
  | f + 1, 0, l, _, hg => by
    have : l = [] := List.length_eq_zero_iff.1 (by omega)
    subst this; rfl
  | f + 1, g + 1, l, hf, hg => by
    unfold runesF
    by_cases hl : l = []
    · rw [if_pos hl, if_pos hl]
    rw [if_neg hl, if_neg hl]
    match h : nx l with
    | none => rfl
    | some (c, n) =>
      obtain ⟨_, hn, _, _, h1⟩ := nx_sound l c n h
      simp only
      rw [runesF_fuel f g (l.drop n) (by rw [List.length_drop]; omega) (by rw [List.length_drop]; omega)]
theorem runes_nil : runes [] = some [] := rfl
theorem runes_none (l : List UInt8) (hl : l ≠ []) (h : nx l = none) : runes l = none := by
  obtain ⟨k, hk⟩ : ∃ k, l.length = k + 1 := ⟨l.length - 1, by have := List.length_pos_iff.2 hl; omega⟩
  unfold runes
  rw [hk]
  unfold runesF
  rw [if_neg hl, h]
theorem runes_some (l : List UInt8) (c n : Nat) (h : nx l = some (c, n)) : runes l = (runes (l.drop n)).map (c :: ·) := by
  have hl : l ≠ [] := by intro e; subst e; simp [nx] at h
  obtain ⟨k, hk⟩ : ∃ k, l.length = k + 1 := ⟨l.length - 1, by have := List.length_pos_iff.2 hl; omega⟩
  obtain ⟨_, hn, _, _, h1⟩ := nx_sound l c n h
  unfold runes
  rw [hk]
  conv => lhs; unfold runesF
  rw [if_neg hl, h]
  simp only
  rw [runesF_fuel k (l.drop n).length (l.drop n) (by rw [List.length_drop]; omega) (Nat.le_refl _)]

theorem runes_txt (cs : List Nat) (h : ∀ c ∈ cs, chr c) : runes (txt cs) = some cs := by
  induction cs with
  | nil => rfl
  | cons c cs ih =>
    rw [txt_cons, runes_some _ c _ (nx_enc c (txt cs) (h c (by simp))), List.drop_left, ih (fun x hx => h x (by simp [hx]))]; rfl
theorem runes_sound : ∀ (f : Nat) (l : List UInt8) (cs : List Nat), l.length ≤ f → runes l = some cs → l = txt cs ∧ ∀ c ∈ cs, chr c
  | 0, l, cs, hf, h => by
    have : l = [] := List.length_eq_zero_iff.1 (by omega)
    subst this
    rw [runes_nil] at h
    cases h
    exact ⟨rfl, fun c hc => by cases hc⟩
  | f + 1, l, cs, hf, h => by
    by_cases hl : l = []
    · subst hl
      rw [runes_nil] at h
      cases h
      exact ⟨rfl, fun c hc => by cases hc⟩
    match hn : nx l with
    | none => rw [runes_none l hl hn] at h; cases h
    | some (c, n) =>
      rw [runes_some l c n hn] at h
      obtain ⟨hc, hle, ht, hlen, h1⟩ := nx_sound l c n hn
      match hr : runes (l.drop n) with
      | none => rw [hr] at h; cases h
      | some ds =>
        rw [hr] at h
        simp only [Option.map_some, Option.some.injEq] at h
        subst h
        obtain ⟨h2, h3⟩ := runes_sound f (l.drop n) ds (by rw [List.length_drop]; omega) hr
        refine ⟨?_, ?_⟩
        · rw [txt_cons, ← ht, ← h2, List.take_append_drop]
        · intro x hx
          rcases List.mem_cons.1 hx with rfl | hx
          · exact hc
          · exact h3 x hx
theorem runes_iff (l : List UInt8) (cs : List Nat) : runes l = some cs ↔ l = txt cs ∧ ∀ c ∈ cs, chr c :=
  ⟨runes_sound l.length l cs (Nat.le_refl _), fun h => by rw [h.1]; exact runes_txt cs h.2⟩

/-- ValidString -/
theorem valid_runes : ∀ (f : Nat) (l : List UInt8), l.length ≤ f → Lib.validD l = (runes l).isSome
  | 0, l, hf => by
    have : l = [] := List.length_eq_zero_iff.1 (by omega)
    subst this; rfl
  | f + 1, l, hf => by
    by_cases hl : l = []
    · subst hl; rfl
    rw [Lib.validD_step l hl, decode_nx l hl]
    match hn : nx l with
    | none => rw [runes_none l hl hn]; simp
    | some (c, n) =>
      obtain ⟨hc, hle, ht, hlen, h1⟩ := nx_sound l c n hn
      have hne : ¬ (c = 65533 ∧ n = 1) := by
        rintro ⟨rfl, rfl⟩
        exact absurd hlen (by decide)
      rw [runes_some l c n hn]
      simp only [Option.getD_some]
      rw [if_neg hne, valid_runes f (l.drop n) (by rw [List.length_drop]; omega)]
      simp
theorem valid_eq (l : List UInt8) : Lib.validD l = (runes l).isSome := valid_runes l.length l (Nat.le_refl _)
end Go.Proofs.YtebjfigjfhghcaaDoor.Utf
