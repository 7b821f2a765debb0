/-
  What the model's own conversions and counts of a string are, by the plain law. Conditions: none.
-/
import Derived.Test.YtebjfigjfhghcaaDoorUtfMath
import Derived.Test.YtebjfigjfhghcaaDoorWordsI
import Derived.Laws.IdiomStrings
namespace Go.Proofs.YtebjfigjfhghcaaDoor.Utf
open Go.RowKit Wd

/-- characters, as numbers -/
def zs (cs : List Nat) : List Int := cs.map fun (c : Nat) => (c : Int)
theorem zs_length (cs : List Nat) : (zs cs).length = cs.length := by simp [zs]

theorem runesFrom_eq (s : ByteArray) : ∀ (cs : List Nat) (bound i : Nat) (acc : Array Value), i ≤ s.size → s.size - i ≤ bound → runes (s.data.toList.drop i) = some cs →
    Conv.runesFrom s bound i acc = acc ++ (is .i32 (zs cs)).toArray := by
  intro cs
  induction cs with
  | nil =>
    intro bound i acc hi hb h
    have e := ((runes_iff _ _).1 h).1
    have hl : s.data.toList.length = s.size := by rw [Array.length_toList]; rfl
    have : s.size ≤ i := by
      have := congrArg List.length e
      rw [List.length_drop, hl] at this
      simp [txt] at this; omega
    cases bound with
    | zero => simp [Conv.runesFrom, is, zs]
    | succ b => unfold Conv.runesFrom; rw [if_neg (by omega)]; simp [is, zs]
  | cons c cs ih =>
    intro bound i acc hi hb h
    have hl : s.data.toList.length = s.size := by rw [Array.length_toList]; rfl
    obtain ⟨e, hc⟩ := (runes_iff _ _).1 h
    have hn : nx (s.data.toList.drop i) = some (c, (enc c).length) := by rw [e, txt_cons]; exact nx_enc c _ (hc c (by simp))
    have hne : s.data.toList.drop i ≠ [] := by
      rw [e, txt_cons]; intro h0; have h1 := congrArg List.length h0; rw [List.length_append, List.length_nil] at h1; have := enc_pos c; omega
    have hd := decode_nx _ hne
    rw [hn, Lib.decodeL_drop] at hd
    simp only [Option.getD_some] at hd
    have hpos := enc_pos c
    have hle : i + (enc c).length ≤ s.size := by
      have := congrArg List.length e
      rw [List.length_drop, hl, txt_cons, List.length_append] at this
      omega
    cases bound with
    | zero => omega
    | succ b =>
      unfold Conv.runesFrom
      rw [if_pos (by omega), hd]
      simp only
      rw [ih b (i + (enc c).length) _ hle (by omega)]
      · simp [is, zs]
      · rw [runes_some _ _ _ hn, List.drop_drop] at h
        match hr : runes (List.drop (i + (enc c).length) s.data.toList) with
        | none => rw [hr] at h; cases h
        | some ds => rw [hr] at h; simp at h; rw [h]
theorem runesFrom_all (s : ByteArray) (cs : List Nat) (h : runes s.data.toList = some cs) : Conv.runesFrom s s.size 0 #[] = (is .i32 (zs cs)).toArray := by
  rw [runesFrom_eq s cs s.size 0 #[] (Nat.zero_le _) (Nat.le_refl _) (by simpa using h)]; simp

theorem countFrom_eq (s : ByteArray) : ∀ (cs : List Nat) (fuel i : Nat), i ≤ s.size → s.size - i ≤ fuel → runes (s.data.toList.drop i) = some cs → Lib.runeCountFrom s fuel i = cs.length := by
  intro cs
  induction cs with
  | nil =>
    intro fuel i hi hb h
    have e := ((runes_iff _ _).1 h).1
    have hl : s.data.toList.length = s.size := by rw [Array.length_toList]; rfl
    have : s.size ≤ i := by
      have := congrArg List.length e
      rw [List.length_drop, hl] at this
      simp [txt] at this; omega
    rw [Lib.runeCountFrom_end s fuel i (by omega)]; rfl
  | cons c cs ih =>
    intro fuel i hi hb h
    have hl : s.data.toList.length = s.size := by rw [Array.length_toList]; rfl
    obtain ⟨e, hc⟩ := (runes_iff _ _).1 h
    have hn : nx (s.data.toList.drop i) = some (c, (enc c).length) := by rw [e, txt_cons]; exact nx_enc c _ (hc c (by simp))
    have hne : s.data.toList.drop i ≠ [] := by
      rw [e, txt_cons]; intro h0; have h1 := congrArg List.length h0; rw [List.length_append, List.length_nil] at h1; have := enc_pos c; omega
    have hd := decode_nx _ hne
    rw [hn, Lib.decodeL_drop] at hd
    simp only [Option.getD_some] at hd
    have hpos := enc_pos c
    have hle : i + (enc c).length ≤ s.size := by
      have := congrArg List.length e
      rw [List.length_drop, hl, txt_cons, List.length_append] at this
      omega
    cases fuel with
    | zero => omega
    | succ b =>
      unfold Lib.runeCountFrom
      rw [if_pos (by omega), hd]
      simp only
      rw [ih b (i + (enc c).length) hle (by omega)]
      · simp; omega
      · rw [runes_some _ _ _ hn, List.drop_drop] at h
        match hr : runes (List.drop (i + (enc c).length) s.data.toList) with
        | none => rw [hr] at h; cases h
        | some ds => rw [hr] at h; simp at h; rw [h]
theorem count_eq (s : ByteArray) (cs : List Nat) (h : runes s.data.toList = some cs) : Lib.runeCount s = cs.length :=
  countFrom_eq s cs s.size 0 (Nat.zero_le _) (Nat.le_refl _) (by simpa using h)
/-- the number of characters, or -1 -/
def cnt (l : List UInt8) : Int := match runes l with
  | none => -1
  | some cs => (cs.length : Int)

theorem enc_cells (c : Nat) (h : chr c) : Lib.runeCells (c : Int) = bs (enc c) := by
  unfold chr at h
  have t := tn
  unfold Lib.runeCells enc
  by_cases a : c < 128
  · rw [Lib.encodeRuneZ_one (by omega) (by omega), if_pos a]
    simp [bs, t c (by omega)]
  rw [if_neg a]
  by_cases b : c < 2048
  · rw [Lib.encodeRuneZ_two (by omega) (by omega), if_pos b]
    simp only [bs, List.map_cons, List.map_nil, t (192 + c / 64) (by omega), t (128 + c % 64) (by omega)]
    simp
  rw [if_neg b]
  by_cases d : c < 65536
  · rw [Lib.encodeRuneZ_three (by omega), if_pos d]
    simp only [bs, List.map_cons, List.map_nil, t (224 + c / 4096) (by omega), t (128 + c / 64 % 64) (by omega), t (128 + c % 64) (by omega)]
    simp
  · rw [Lib.encodeRuneZ_four (by omega) (by omega), if_neg d]
    simp only [bs, List.map_cons, List.map_nil, t (240 + c / 262144) (by omega), t (128 + c / 4096 % 64) (by omega), t (128 + c / 64 % 64) (by omega), t (128 + c % 64) (by omega)]
    simp
/-- those numbers that are characters -/
def chars : List Int → List Nat
  | [] => []
  | z :: r => if Lib.validRune z then z.toNat :: chars r else chars r
theorem validRune_chr (z : Int) : Lib.validRune z = true ↔ 0 ≤ z ∧ chr z.toNat := by
  unfold Lib.validRune chr; simp only [decide_eq_true_eq]; omega
theorem chars_chr (l : List Int) : ∀ c ∈ chars l, chr c := by
  induction l with
  | nil => intro c h; cases h
  | cons z l ih =>
    intro c h
    unfold chars at h
    split at h
    · rename_i hv
      rcases List.mem_cons.1 h with rfl | h
      · exact ((validRune_chr z).1 hv).2
      · exact ih c h
    · exact ih c h
theorem chars_append (a b : List Int) : chars (a ++ b) = chars a ++ chars b := by
  induction a with
  | nil => rfl
  | cons z a ih => simp only [List.cons_append, chars, ih]; split <;> rfl
theorem chars_len (a : List Int) : (chars a).length ≤ a.length := by
  induction a with
  | nil => simp [chars]
  | cons z a ih => unfold chars; split <;> simp <;> omega
theorem chars_zs (cs : List Nat) (h : ∀ c ∈ cs, chr c) : chars (zs cs) = cs := by
  induction cs with
  | nil => rfl
  | cons c cs ih =>
    have hc : Lib.validRune (c : Int) = true := (validRune_chr _).2 ⟨by omega, by have := h c (by simp); simpa using this⟩
    show (if Lib.validRune (c : Int) then (c : Int).toNat :: chars (zs cs) else chars (zs cs)) = _
    rw [if_pos hc, ih (fun x hx => h x (by simp [hx]))]; simp
theorem txt_len (cs : List Nat) : (txt cs).length ≤ 4 * cs.length := by
  induction cs with
  | nil => simp [txt]
  | cons c cs ih => have := enc_len c; rw [txt_cons, List.length_append, List.length_cons]; omega
end Go.Proofs.YtebjfigjfhghcaaDoor.Utf
