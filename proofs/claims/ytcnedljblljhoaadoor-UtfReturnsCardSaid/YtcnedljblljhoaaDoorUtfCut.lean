/-
  The contract of Cut of package utf. Conditions: the two tables of unicode/utf8 lie as their initialisers lay them; the string's length is within the form's reach.
-/
import Derived.Test.YtcnedljblljhoaaDoorUtfProg
import Derived.Laws.RangeString
import Derived.Laws.RangeAny
namespace Go.Proofs.YtcnedljblljhoaaDoor.Utf
open Go.RowKit Wd

/-- a part of a string -/
def cutOf (l : List UInt8) (f t : Int) : Option (List UInt8) := match runes l with
  | none => none
  | some cs => if f < 0 ∨ t < f ∨ (cs.length : Int) < t then none else some (txt ((cs.drop f.toNat).take (t.toNat - f.toNat)))
/-- how Cut ends -/
def CutPost (w : World) (R : Option (List UInt8)) (e : Ending) (w' : World) : Prop :=
  Below w.heap.size w w' ∧ match R with
  | none => e = .returned (.tuple #[.string ⟨#[]⟩, .bool false])
  | some l => e = .returned (.tuple #[.string ⟨l.toArray⟩, .bool true])

theorem cut_no (s : ByteArray) (f t : Int) (w : World) (hs : s.size < 9223372036854775807) (hT : Tabs w) (h : f < 0 ∨ t < f ∨ cnt s.data.toList < t) :
    Calls Tryd.prog 20 #[.string s, .int .i64 f, .int .i64 t] w fun e w' => e = .returned (.tuple #[.string ⟨#[]⟩, .bool false]) ∧ Below w.heap.size w w' := by
  have HC := Lib.hid (count_any s w hs hT)
  clear hT
  generalize cnt s.data.toList = C at HC h
  by_cases h1 : f < 0
  · clear h
    go_enter Tryd.func20, Tryd.ntmps20
    go_wp2_with fail
    go_ret2
    exact ⟨rfl, Below.refl _ _⟩
  by_cases h2 : t < f
  · clear h
    go_enter Tryd.func20, Tryd.ntmps20
    go_wp2_with fail
    go_ret2
    exact ⟨rfl, Below.refl _ _⟩
  · have h3 : C < t := by omega
    clear h
    go_enter Tryd.func20, Tryd.ntmps20
    go_wp2_with fail
    refine HC.out.mono ?_
    rintro e w1 ⟨rfl, hb⟩
    go_wp2_with fail
    go_ret2
    exact ⟨rfl, hb⟩

/-- the byte at which a character begins, once it was passed -/
def passed (cs : List Nat) (size f j : Nat) : Nat := if f < j then (txt (cs.take f)).length else size
theorem passed_same (cs : List Nat) (size j : Nat) : passed cs size j (j + 1) = (txt (cs.take j)).length := by unfold passed; rw [if_pos (by omega)]
theorem passed_other (cs : List Nat) (size f j : Nat) (h : j ≠ f) : passed cs size f (j + 1) = passed cs size f j := by
  unfold passed
  by_cases h1 : f < j
  · rw [if_pos h1, if_pos (by omega)]
  · rw [if_neg h1, if_neg (by omega)]
theorem passed_end (cs : List Nat) (f : Nat) (h : f ≤ cs.length) : passed cs (txt cs).length f cs.length = (txt (cs.take f)).length := by
  unfold passed
  split
  · rfl
  · rw [List.take_of_length_le (by omega)]
theorem passed_le (cs : List Nat) (size f j : Nat) (h : (txt cs).length ≤ size) : passed cs size f j ≤ size := by
  unfold passed
  split
  · have : (txt (cs.take f)).length ≤ (txt cs).length := by
      conv => rhs; rw [← List.take_append_drop f cs, txt_append, List.length_append]
      omega
    omega
  · exact Nat.le_refl _
theorem txt_cut (cs : List Nat) (f t : Nat) (h : f ≤ t) : ((txt cs).drop (txt (cs.take f)).length).take ((txt (cs.take t)).length - (txt (cs.take f)).length) = txt ((cs.drop f).take (t - f)) := by
  have e1 : txt cs = txt (cs.take f) ++ txt (cs.drop f) := by rw [← txt_append, List.take_append_drop]
  have e2 : txt (cs.take t) = txt (cs.take f) ++ txt ((cs.drop f).take (t - f)) := by
    rw [← txt_append]; congr 1
    rw [← List.take_add]; congr 1; omega
  have e3 : txt (cs.drop f) = txt ((cs.drop f).take (t - f)) ++ txt ((cs.drop f).drop (t - f)) := by rw [← txt_append, List.take_append_drop]
  rw [e2, List.length_append, Nat.add_sub_cancel_left, e1, List.drop_left, e3, List.take_left]
theorem txt_le (cs : List Nat) (f t : Nat) (h : f ≤ t) : (txt (cs.take f)).length ≤ (txt (cs.take t)).length := by
  have e2 : txt (cs.take t) = txt (cs.take f) ++ txt ((cs.drop f).take (t - f)) := by
    rw [← txt_append]; congr 1
    rw [← List.take_add]; congr 1; omega
  rw [e2, List.length_append]; omega
theorem take_snocN (l : List Nat) (k : Nat) (h : k < l.length) : l.take (k + 1) = l.take k ++ [l.getD k 0] := by
  rw [List.take_succ_eq_append_getElem h]; simp [List.getD, h]
theorem txt_at (cs : List Nat) (j : Nat) (h : j < cs.length) : (txt cs).drop (txt (cs.take j)).length = enc (cs.getD j 0) ++ txt (cs.drop (j + 1)) := by
  have e1 : txt cs = txt (cs.take j) ++ txt (cs.drop j) := by rw [← txt_append, List.take_append_drop]
  rw [e1, List.drop_left, List.drop_eq_getElem_cons h]
  simp only [List.getD, List.getElem?_eq_getElem h, Option.getD_some]
  rfl

/-- what a round of Cut keeps -/
def CRel (s : ByteArray) (cs : List Nat) (f t : Nat) (w1 : World) (a1 b1 n1 : Value) (wr : World) : Prop :=
  ∃ j : Nat, j ≤ cs.length ∧ wr = w1.iter s (txt (cs.take j)).length ∧ n1 = .int .i64 (j : Int) ∧ a1 = .int .i64 (passed cs s.size f j : Int) ∧ b1 = .int .i64 (passed cs s.size t j : Int)

set_option maxRecDepth 100000 in
set_option maxHeartbeats 1000000 in
theorem cut_yes (s : ByteArray) (cs : List Nat) (f t : Nat) (w : World) (hs : s.size < 9223372036854775807) (hT : Tabs w) (hR : runes s.data.toList = some cs) (hft : f ≤ t) (ht : t ≤ cs.length) :
    Calls Tryd.prog 20 #[.string s, .int .i64 (f : Int), .int .i64 (t : Int)] w fun e w' => e = .returned (.tuple #[.string ⟨(txt ((cs.drop f).take (t - f))).toArray⟩, .bool true]) ∧ Below w.heap.size w w' := by
  have hcnt : cnt s.data.toList = (cs.length : Int) := by unfold cnt; rw [hR]
  have HC := Lib.hid (count_any s w hs hT)
  rw [hcnt] at HC
  obtain ⟨hl, hch⟩ := (runes_iff _ _).1 hR
  have hsz : s.size = (txt cs).length := by rw [← hl, Array.length_toList]; rfl
  have hcl := txt_many cs
  have HL := Lib.hid hl
  have HCH := Lib.hid hch
  have HSZ := Lib.hid hsz
  have hcs : cs.length ≤ s.size := by omega
  clear hT hR hcnt hl hch hsz hcl
  go_enter Tryd.func20, Tryd.ntmps20
  go_wp2_with fail
  refine HC.out.mono ?_
  rintro e w1 ⟨rfl, hb⟩
  have HB := Lib.hid hb
  clear hb HC
  go_wp2_with fail
  go_loopw [8, 9, 10] (fun a1 b1 n1 wr => CRel s cs f t w1 a1 b1 n1 wr) (fun _ _ _ wr => s.size - wr.iterPos w1.heap.size)
  case atStart => exact ⟨0, Nat.zero_le _, rfl, rfl, by simp [passed], by simp [passed]⟩
  case round =>
    obtain ⟨j, hj, rfl, rfl, rfl, rfl⟩ := hrel
    have hpa := passed_le cs s.size f j (Nat.le_of_eq HSZ.out.symm)
    have hpb := passed_le cs s.size t j (Nat.le_of_eq HSZ.out.symm)
    by_cases hlt : j < cs.length
    · have hat := txt_at cs j hlt
      have hle : (txt (cs.take j)).length < s.size := by
        have h := congrArg List.length hat
        have h2 := enc_pos (cs.getD j 0)
        rw [List.length_drop, List.length_append] at h
        have := HSZ.out
        omega
      have hmem : cs.getD j 0 ∈ cs := by simp [List.getD, hlt]
      have hdec : Utf8.decode s (txt (cs.take j)).length = (cs.getD j 0, (enc (cs.getD j 0)).length) := by
        have hne : s.data.toList.drop (txt (cs.take j)).length ≠ [] := by
          rw [HL.out, hat]; intro h0; have h1 := congrArg List.length h0; rw [List.length_append, List.length_nil] at h1; have := enc_pos (cs.getD j 0); omega
        have hd := decode_nx _ hne
        rw [Lib.decodeL_drop, HL.out, hat, nx_enc _ _ (HCH.out _ hmem)] at hd
        exact hd
      have hsn : (txt (cs.take (j + 1))).length = (txt (cs.take j)).length + (enc (cs.getD j 0)).length := by
        rw [take_snocN cs j hlt, txt_append, List.length_append]; simp [txt]
      have hpos := enc_pos (cs.getD j 0)
      have hnx : ∀ ty, (Instr.next (.pointer (some ⟨w1.heap.size, 0, none⟩)) true ty).run Tryd.prog (w1.iter s (txt (cs.take j)).length) = _ := fun ty => run_next_any w1 s (txt (cs.take j)).length ty hle
      rw [hdec] at hnx
      simp only at hnx
      rw [← hsn] at hnx
      have hps : (txt (cs.take j)).length < (txt (cs.take (j + 1))).length := by omega
      clear hat hmem hdec hsn hpos
      generalize hp : (txt (cs.take j)).length = pos at hnx hle hps ⊢
      generalize hp1 : (txt (cs.take (j + 1))).length = pos1 at hnx hps
      have HP := Lib.hid hp
      have HP1 := Lib.hid hp1
      have hmeas : s.size - pos1 < s.size - pos := by omega
      clear hp hp1
      generalize hA : passed cs s.size f j = a at hpa ⊢
      generalize hB : passed cs s.size t j = b at hpb ⊢
      have HA := Lib.hid hA
      have HBB := Lib.hid hB
      clear hA hB
      by_cases hjf : j = f
      all_goals by_cases hjt : j = t
      all_goals first
        | (have he1 : ((j : Int) == (f : Int)) = true := by rw [beq_iff_eq]; omega)
        | (have he1 : ((j : Int) == (f : Int)) = false := by rw [beq_eq_false_iff_ne]; omega)
      all_goals first
        | (have he2 : ((j : Int) == (t : Int)) = true := by rw [beq_iff_eq]; omega)
        | (have he2 : ((j : Int) == (t : Int)) = false := by rw [beq_eq_false_iff_ne]; omega)
      all_goals have J1 := Lib.hid hjf
      all_goals have J2 := Lib.hid hjt
      all_goals clear hjf hjt
      all_goals go_wp2_with fail
      all_goals go_roundw
      all_goals first
        | (refine ⟨j + 1, by omega, by rw [HP1.out], by go_num, ?_, ?_⟩
           all_goals first
             | (rw [passed_other _ _ _ _ J1.out, HA.out]; done)
             | (rw [passed_other _ _ _ _ J2.out, HBB.out]; done)
             | (rw [← J1.out, passed_same, HP.out]; done)
             | (rw [← J2.out, passed_same, HP.out]; done))
        | (simp; exact hmeas)
        | (simp; omega)
    · obtain rfl : j = cs.length := by omega
      have ht2 : cs.take cs.length = cs := List.take_length
      rw [ht2]
      have hend : ¬ (txt cs).length < s.size := by have := HSZ.out; omega
      have hnx : ∀ ty, (Instr.next (.pointer (some ⟨w1.heap.size, 0, none⟩)) true ty).run Tryd.prog (w1.iter s (txt cs).length) = _ := fun ty => run_next_end w1 s (txt cs).length ty hend
      have hA : passed cs s.size f cs.length = (txt (cs.take f)).length := by rw [HSZ.out]; exact passed_end cs f (by omega)
      have hB : passed cs s.size t cs.length = (txt (cs.take t)).length := by rw [HSZ.out]; exact passed_end cs t ht
      have hab := txt_le cs f t hft
      have hcut : s.extract (txt (cs.take f)).length (txt (cs.take t)).length = ⟨(txt ((cs.drop f).take (t - f))).toArray⟩ := by
        have e : (s.extract (txt (cs.take f)).length (txt (cs.take t)).length).data.toList = txt ((cs.drop f).take (t - f)) := by
          rw [Lib.extract_data, HL.out, txt_cut cs f t hft]
        rw [← e]
      rw [hA] at hpa ⊢
      rw [hB] at hpb ⊢
      have HCUT := Lib.hid hcut
      clear hcut hA hB ht2
      generalize (txt (cs.take f)).length = a at hpa hab HCUT ⊢
      generalize (txt (cs.take t)).length = b at hpb hab HCUT ⊢
      have j1 : (a : Int) ≤ (b : Int) := by omega
      have j2 : (b : Int) ≤ (s.size : Int) := by omega
      go_wp2_with fail
      go_ret2
      rw [HCUT.out]
      exact ⟨rfl, HB.out.alloc HB.out.size _⟩

theorem cut_any (s : ByteArray) (f t : Int) (w : World) (hs : s.size < 9223372036854775807) (hT : Tabs w) :
    Calls Tryd.prog 20 #[.string s, .int .i64 f, .int .i64 t] w (CutPost w (cutOf s.data.toList f t)) := by
  unfold cutOf
  rcases hR : runes s.data.toList with _ | cs
  · have hc : cnt s.data.toList = -1 := by unfold cnt; rw [hR]
    refine (cut_no s f t w hs hT (by omega)).mono ?_
    rintro e w' ⟨rfl, hb⟩
    exact ⟨hb, rfl⟩
  · have hc : cnt s.data.toList = (cs.length : Int) := by unfold cnt; rw [hR]
    simp only
    by_cases h : f < 0 ∨ t < f ∨ (cs.length : Int) < t
    · rw [if_pos h]
      refine (cut_no s f t w hs hT (by omega)).mono ?_
      rintro e w' ⟨rfl, hb⟩
      exact ⟨hb, rfl⟩
    · rw [if_neg h]
      obtain ⟨f', rfl⟩ := Int.eq_ofNat_of_zero_le (by omega : 0 ≤ f)
      obtain ⟨t', rfl⟩ := Int.eq_ofNat_of_zero_le (by omega : 0 ≤ t)
      refine (cut_yes s cs f' t' w hs hT hR (by omega) (by omega)).mono ?_
      rintro e w' ⟨rfl, hb⟩
      exact ⟨hb, rfl⟩
end Go.Proofs.YtcnedljblljhoaaDoor.Utf
