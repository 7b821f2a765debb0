/-
  The contracts of PutSorted and PutList of package coding. Conditions: the slices can be read; the bytes of the result fit a slice.
-/
import Derived.Test.YtpcojppadeagiaaCodSort
namespace Go.Proofs.Ytpcojppadeagiaa.Cod
open Go.RowKit Wd

/-- the bytes of strings -/
def by_ (ss : List ByteArray) : List (List UInt8) := ss.map fun s => s.data.toList
theorem by_length (ss : List ByteArray) : (by_ ss).length = ss.length := by simp [by_]
/-- room for the codes of strings -/
def room (ss : List ByteArray) : Nat := (ss.map fun s => s.size + 20).sum
theorem room_snoc (ss : List ByteArray) (s : ByteArray) : room (ss ++ [s]) = room ss + (s.size + 20) := by simp [room]
theorem room_take (ss : List ByteArray) (k : Nat) (h : k < ss.length) : room (ss.take k) + ((ss.getD k ByteArray.empty).size + 20) ≤ room ss := by
  have e : ss = ss.take k ++ (ss.getD k ByteArray.empty :: ss.drop (k + 1)) := by
    have hg : ss.getD k ByteArray.empty = ss[k] := by simp [List.getD, h]
    rw [hg, List.getElem_cons_drop, List.take_append_drop]
  conv => rhs; rw [e]
  simp [room]
theorem bodyS_len (last : List UInt8) (ss : List ByteArray) : (bodyS last (by_ ss)).length ≤ room ss := by
  induction ss generalizing last with
  | nil => simp [bodyS, by_]
  | cons s ss ih =>
    have h1 := put_len (commonL last s.data.toList)
    have h2 := putT_len (s.data.toList.drop (commonL last s.data.toList))
    have h3 := ih s.data.toList
    have h4 := ba_len s
    simp only [by_, List.map_cons, bodyS, List.length_append, room, List.sum_cons] at *
    rw [List.length_drop] at h2
    omega

/-- a row of the call's own that holds the bytes X -/
def OB (w : World) (base : Nat) (v : Value) (X : List UInt8) : Prop := w.ownsRow base 5 1 v X.length (bs X)
theorem OB.sb {w : World} {base : Nat} {v : Value} {X : List UInt8} (h : OB w base v X) : ∃ A c, v = .slice A X.length c ∧ SB w A X.length c X := own_sb h
theorem OB.of {w : World} {base n : Nat} {v : Value} {X : List UInt8} (h : w.ownsRow base 5 1 v n (bs X)) : OB w base v X := by
  have := h.1; rw [bs_length, Nat.mul_one] at this; subst this; exact h

theorem OB.mono {w : World} {base base' : Nat} {v : Value} {X : List UInt8} (h : OB w base v X) (hb : base' ≤ base) : OB w base' v X := by
  refine ⟨h.1, ?_⟩
  rcases h.2 with hn | ⟨g, cap, cur, hv, hg, rest⟩
  · exact .inl hn
  · exact .inr ⟨g, cap, cur, hv, by omega, rest⟩

/-- how PutSorted ends -/
def SPost (w : World) (l : List UInt8) (ss : List ByteArray) (e : Ending) (w' : World) : Prop :=
  Below w.heap.size w w' ∧ (asc (by_ ss) = false ∧ e = .returned (.tuple #[.slice none 0 0, .bool false]) ∨
    asc (by_ ss) = true ∧ ∃ b, e = .returned (.tuple #[b, .bool true]) ∧ OB w' w.heap.size b (l ++ putS (by_ ss)))

/-- what a round of PutSorted keeps -/
def SRel (w : World) (l : List UInt8) (ss : List ByteArray) (b1 s1 i1 : Value) (wr : World) : Prop :=
  ∃ (k : Nat) (last : ByteArray), k ≤ ss.length ∧ last.size ≤ 140737488355328 ∧ i1 = .int .i64 (k : Int) ∧ s1 = .string last ∧ last.data.toList = (by_ (ss.take k)).getLastD [] ∧ asc (by_ (ss.take k)) = true ∧
    OB wr w.heap.size b1 (l ++ (put ss.length ++ bodyS [] (by_ (ss.take k)))) ∧ Below w.heap.size w wr

theorem ext_end (s : ByteArray) (a : Nat) : (s.extract a s.size).data.toList = s.data.toList.drop a := by
  rw [Lib.extract_data, List.take_of_length_le]; rw [List.length_drop, ba_len]; exact Nat.le_refl _
theorem ext_size (s : ByteArray) (a : Nat) : (s.extract a s.size).size = s.size - a := by simp
theorem ascF_left (f : Bool) (last : List UInt8) (a b : List (List UInt8)) (h : ascF f last (a ++ b) = true) : ascF f last a = true := by
  induction a generalizing f last with
  | nil => rfl
  | cons x a ih =>
    simp only [List.cons_append, ascF, Bool.and_eq_true] at h ⊢
    exact ⟨h.1, ih _ _ h.2⟩
theorem take_snocS (ss : List ByteArray) (k : Nat) (h : k < ss.length) : ss.take (k + 1) = ss.take k ++ [ss.getD k ByteArray.empty] := by
  rw [List.take_succ_eq_append_getElem h]; simp [List.getD, h]
theorem by_snoc (ss : List ByteArray) (s : ByteArray) : by_ (ss ++ [s]) = by_ ss ++ [s.data.toList] := by simp [by_]
theorem asc_step (ss : List ByteArray) (k : Nat) (last s : ByteArray) (hk : k < ss.length) (hs : s = ss.getD k ByteArray.empty) (hl : last.data.toList = (by_ (ss.take k)).getLastD []) (ha : asc (by_ (ss.take k)) = true) :
    asc (by_ (ss.take (k + 1))) = (decide (k = 0) || Op.bytesLess last.data.toList s.data.toList) := by
  unfold asc at ha ⊢
  rw [take_snocS ss k hk, ← hs, by_snoc, ascF_snoc, ha, hl]
  have e : (by_ (ss.take k)).isEmpty = decide (k = 0) := by
    rw [Bool.eq_iff_iff, List.isEmpty_iff_length_eq_zero, by_length, List.length_take, decide_eq_true_eq]
    omega
  rw [e]; simp
theorem asc_bad (ss : List ByteArray) (k : Nat) (h : asc (by_ (ss.take (k + 1))) = false) : asc (by_ ss) = false := by
  rw [Bool.eq_false_iff] at h ⊢
  intro e
  apply h
  have e2 : by_ ss = by_ (ss.take (k + 1)) ++ by_ (ss.drop (k + 1)) := by simp [by_]
  unfold asc at e ⊢
  rw [e2] at e
  exact ascF_left _ _ _ _ e
theorem SRel.next (w : World) (l : List UInt8) (ss : List ByteArray) (b : Value) (wr : World) (k : Nat) (last s : ByteArray) (hk : k < ss.length) (hs : s = ss.getD k ByteArray.empty) (hl : last.data.toList = (by_ (ss.take k)).getLastD []) (ha : asc (by_ (ss.take k)) = true)
    (hok : (decide (k = 0) || Op.bytesLess last.data.toList s.data.toList) = true)
    (hob : OB wr w.heap.size b (((l ++ (put ss.length ++ bodyS [] (by_ (ss.take k)))) ++ put (commonL last.data.toList s.data.toList)) ++ putT (s.data.toList.drop (commonL last.data.toList s.data.toList)))) (hb : Below w.heap.size w wr) (hsz : s.size ≤ 140737488355328) :
    SRel w l ss b (.string s) (.int .i64 ((k : Int) + 1)) wr := by
  refine ⟨k + 1, s, by omega, hsz, by simp, rfl, ?_, ?_, ?_, hb⟩
  · rw [take_snocS ss k hk, ← hs, by_snoc]; simp
  · rw [asc_step ss k last s hk hs hl ha]; exact hok
  · rw [take_snocS ss k hk, ← hs, by_snoc, bodyS_snoc, ← hl]
    simpa [List.append_assoc] using hob
theorem SPost.bad {w : World} {l : List UInt8} {ss : List ByteArray} {w' : World} (ha : asc (by_ ss) = false) (hb : Below w.heap.size w w') : SPost w l ss (.returned (.tuple #[.slice none 0 0, .bool false])) w' := ⟨hb, .inl ⟨ha, rfl⟩⟩
theorem SPost.good {w : World} {l : List UInt8} {ss : List ByteArray} {w' : World} {b : Value} (ha : asc (by_ ss) = true) (ho : OB w' w.heap.size b (l ++ putS (by_ ss))) (hb : Below w.heap.size w w') : SPost w l ss (.returned (.tuple #[b, .bool true])) w' := ⟨hb, .inr ⟨ha, b, rfl, ho⟩⟩

set_option maxRecDepth 100000 in
set_option maxHeartbeats 4000000 in
theorem putSorted_any (A A2 : Option Addr) (n c m c2 : Nat) (l : List UInt8) (ss : List ByteArray) (w : World) (hs : SB w A n c l) (hr : RS w A2 m ss) (hm : m ≤ 140737488355328) (hn : n + 20 + room ss ≤ 140737488355328) :
    Calls Try.prog 21 #[.slice A n c, .slice A2 m c2] w (SPost w l ss) := by
  have HS := Lib.hid hs
  have HR := Lib.hid hr
  have hln := hs.rb.len
  have hlm := hr.len
  clear hs hr
  go_enter Try.func21, Try.ntmps21
  have HLN := Lib.hid hln
  have HLM := Lib.hid hlm
  clear hln hlm
  go_wp2_with fail
  refine (putUint_any A n c l m w HS.out (lt64 hm) (by omega)).mono ?_
  rintro e w1 ⟨b, rfl, hown, hb1⟩
  have hob : OB w1 w.heap.size b (l ++ put m) := OB.of hown
  obtain ⟨A1, c1, rfl, hs1⟩ := hob.sb
  have O1 := Lib.hid hob
  have B1 := Lib.hid hb1
  clear hown hob hs1 hb1
  go_wp2_with fail
  go_loopw [0, 6, 17] (fun b1 s1 i1 wr => SRel w l ss b1 s1 i1 wr) (fun _ _ i _ => m - (intOf i).toNat)
  case atStart => exact ⟨0, ByteArray.empty, Nat.zero_le _, Nat.zero_le _, rfl, rfl, rfl, rfl, by simpa [by_, bodyS, HLM.out] using O1.out, B1.out⟩
  case round =>
    obtain ⟨k, last, hk, hlsz, rfl, rfl, hlast, hasc, hob, hbel⟩ := hrel
    obtain ⟨Ab, cb, rfl, hsb⟩ := hob.sb
    have hkm : k ≤ m := by have := HLM.out; omega
    have hbl := bodyS_len [] (ss.take k)
    have hXl : (l ++ (put ss.length ++ bodyS [] (by_ (ss.take k)))).length ≤ n + 10 + room (ss.take k) := by
      have := put_len ss.length
      have := HLN.out
      simp only [List.length_append]; omega
    generalize hX : l ++ (put ss.length ++ bodyS [] (by_ (ss.take k))) = X at hob hsb hXl ⊢
    have HX := Lib.hid hX
    clear hX
    have OBK := Lib.hid hob
    have SBK := Lib.hid hsb
    have HLA := Lib.hid hlast
    have HAS := Lib.hid hasc
    have HBE := Lib.hid hbel
    clear hob hsb hlast hasc hbl hk
    by_cases hlt : k < m
    · obtain ⟨ad, rfl, hb1, hc1⟩ := (HR.out.keep hbel).at_ hlt
      have hkl : k < ss.length := by have := HLM.out; omega
      have hroom := room_take ss k hkl
      obtain ⟨s, hs⟩ : ∃ s, s = ss.getD k ByteArray.empty := ⟨_, rfl⟩
      rw [← hs] at hc1 hroom
      have HSS := Lib.hid hs
      have g2 : (k : Int) < (m : Int) := by omega
      clear hs
      have hcl := commonL_le last.data.toList s.data.toList
      have hll := ba_len last
      have hsl := ba_len s
      obtain ⟨cm, hcm⟩ : ∃ cm, cm = commonL last.data.toList s.data.toList := ⟨_, rfl⟩
      rw [← hcm, hsl] at hcl
      have HCM := Lib.hid hcm
      have HSL := Lib.hid hsl
      clear hll hsl hcm
      have hssz : s.size ≤ 140737488355328 := by omega
      by_cases hok : (decide (k = 0) || Op.bytesLess last.data.toList s.data.toList) = true
      · have HOK := Lib.hid hok
        have hcmp : k ≠ 0 → Lib.compareBytes last.data.toList s.data.toList < 0 := by
          intro h
          simp only [h, decide_false, Bool.false_or, less_iff, decide_eq_true_eq] at hok
          exact hok
        clear hok
        by_cases hk0 : k = 0
        case' pos =>
          have hk0' : (k : Int) ≤ 0 := by omega
          clear hk0 hcmp
          go_wp2_with fail
        case' neg =>
          have hk0' : (0 : Int) < (k : Int) := by omega
          have hc := hcmp hk0
          clear hk0 hcmp
          generalize hC : Lib.compareBytes last.data.toList s.data.toList = C at hc
          have HC := Lib.hid hC
          clear hC
          go_wp2_with fail
          refine (compare_any last s _).mono ?_
          rintro e w' ⟨rfl, rfl⟩
          rw [HC.out]
          go_wp2_with fail
        all_goals
          refine (common_any last s _ hlsz hssz).mono ?_
          rintro e w2 ⟨rfl, hb2⟩
          rw [← HCM.out]
          have S2 := Lib.hid (SBK.out.keep (hb2.mono (Nat.le_refl _)))
          have B2 := Lib.hid (hbel.trans (hb2.mono hbel.size))
          clear hb2
          have i1 : (cm : Int) ≤ (s.size : Int) := by omega
          have i0 : (0 : Int) ≤ (cm : Int) := by omega
          have wv : IntKind.u64.wrap (cm : Int) = (cm : Int) := by rw [IntKind.wrap_u64]; omega
          go_wp2_with fail
          go_region_held3 (fun _ => True) (exact trivial)
            (first
              | (go_at_call 9; (with_reducible refine (putUint_any Ab X.length cb X cm _ ?_ ?_ ?_).mono ?_); (· exact S2.out.drew); (· exact lt64 (by omega)); (· omega); rintro e w3 ⟨b3, rfl, hown3, hb3⟩; obtain ⟨Y, hY⟩ : ∃ Y, Y = X ++ put cm := ⟨_, rfl⟩; have hYl : Y.length ≤ X.length + 10 := (by have := put_len cm; rw [hY, List.length_append]; omega); rw [← hY] at hown3; have HY := Lib.hid hY; have O3 := Lib.hid (OB.of hown3); clear hY; obtain ⟨A3, c3, rfl, hs3⟩ := O3.out.sb; have S3 := Lib.hid hs3; have B3 := Lib.hid hb3; clear hs3 hb3 hown3)
              | (go_at_call 23; (with_reducible refine (putText_any A3 Y.length c3 Y (s.extract cm s.size) _ S3.out ?_).mono ?_); (· rw [ext_size]; omega); rintro e w4 ⟨b4, rfl, hown4, hb4⟩))
          have hB3 : Below w.heap.size w w3 := by exact (B2.out.drew).trans (B3.out.mono B2.out.size)
          have B4 := Lib.hid (hB3.trans (hb4.mono hB3.size))
          have hO4 : OB w4 w.heap.size b4 ((X ++ put cm) ++ putT (s.data.toList.drop cm)) := by
            have h := (OB.of hown4).mono (base' := w.heap.size) hB3.size
            rw [ext_end, HY.out] at h
            exact h
          rw [← HX.out, HCM.out] at hO4
          have O4 := Lib.hid hO4
          clear hO4 hB3 hown4 hb4 wv
          go_wp2_with fail
          go_roundw
          case rel => exact SRel.next w l ss b4 w4 k last s hkl HSS.out HLA.out HAS.out HOK.out O4.out B4.out hssz
          case measure => simp [intOf]; omega
      · have HNO := Lib.hid (show asc (by_ ss) = false from asc_bad ss k (by rw [asc_step ss k last s hkl HSS.out HLA.out HAS.out]; exact Bool.eq_false_iff.2 hok))
        have hk0' : (0 : Int) < (k : Int) := by
          have : k ≠ 0 := fun h => hok (by simp [h])
          omega
        have hc : 0 ≤ Lib.compareBytes last.data.toList s.data.toList := by
          have : ¬ Lib.compareBytes last.data.toList s.data.toList < 0 := fun h => hok (by simp [less_iff, h])
          omega
        clear hok
        generalize hC : Lib.compareBytes last.data.toList s.data.toList = C at hc
        have HC := Lib.hid hC
        clear hC
        go_wp2_with fail
        refine (compare_any last s _).mono ?_
        rintro e w' ⟨rfl, rfl⟩
        rw [HC.out]
        go_wp2_with fail
        go_ret2
        exact SPost.bad HNO.out hbel
    · have hke : k = ss.length := by have := HLM.out; omega
      have hfin : OB wr w.heap.size (.slice Ab X.length cb) (l ++ putS (by_ ss)) := by
        have h := OBK.out
        have e : ss.take k = ss := List.take_of_length_le (by omega)
        have e2 := HX.out
        rw [e] at e2
        unfold putS
        rw [by_length, e2]
        exact h
      have hA : asc (by_ ss) = true := by
        have h := HAS.out
        rwa [List.take_of_length_le (by omega)] at h
      have HF := Lib.hid hfin
      have HA := Lib.hid hA
      clear hfin hA hke
      go_wp2_with fail
      go_ret2
      exact SPost.good HA.out HF.out hbel

/-- what a round of PutList keeps -/
def LRel (w : World) (l : List UInt8) (ss : List ByteArray) (b1 i1 : Value) (wr : World) : Prop :=
  ∃ k : Nat, k ≤ ss.length ∧ i1 = .int .i64 (k : Int) ∧ OB wr w.heap.size b1 (l ++ (put ss.length ++ bodyL (by_ (ss.take k)))) ∧ Below w.heap.size w wr
theorem bodyL_len (ss : List ByteArray) : (bodyL (by_ ss)).length ≤ room ss := by
  induction ss with
  | nil => simp [bodyL, by_]
  | cons s ss ih =>
    have h2 := putT_len s.data.toList
    have h4 := ba_len s
    simp only [by_, List.map_cons, bodyL, List.flatMap_cons, List.length_append, room, List.sum_cons] at *
    omega
theorem LRel.next (w : World) (l : List UInt8) (ss : List ByteArray) (b : Value) (wr : World) (k : Nat) (s : ByteArray) (hk : k < ss.length) (hs : s = ss.getD k ByteArray.empty)
    (hob : OB wr w.heap.size b ((l ++ (put ss.length ++ bodyL (by_ (ss.take k)))) ++ putT s.data.toList)) (hb : Below w.heap.size w wr) : LRel w l ss b (.int .i64 ((k : Int) + 1)) wr := by
  refine ⟨k + 1, by omega, by simp, ?_, hb⟩
  rw [take_snocS ss k hk, ← hs, by_snoc, bodyL_snoc]
  simpa [List.append_assoc] using hob

set_option maxRecDepth 100000 in
set_option maxHeartbeats 1000000 in
theorem putList_any (A A2 : Option Addr) (n c m c2 : Nat) (l : List UInt8) (ss : List ByteArray) (w : World) (hs : SB w A n c l) (hr : RS w A2 m ss) (hm : m ≤ 140737488355328) (hn : n + 20 + room ss ≤ 140737488355328) :
    Calls Try.prog 25 #[.slice A n c, .slice A2 m c2] w fun e w' => ∃ b, e = .returned b ∧ OB w' w.heap.size b (l ++ putL (by_ ss)) ∧ Below w.heap.size w w' := by
  have HS := Lib.hid hs
  have HR := Lib.hid hr
  have HLN := Lib.hid hs.rb.len
  have HLM := Lib.hid hr.len
  clear hs hr
  go_enter Try.func25, Try.ntmps25
  go_wp2_with fail
  refine (putUint_any A n c l m w HS.out (lt64 hm) (by omega)).mono ?_
  rintro e w1 ⟨b, rfl, hown, hb1⟩
  have O1 := Lib.hid (OB.of hown)
  have B1 := Lib.hid hb1
  clear hown hb1
  go_wp2_with fail
  go_loopw [0, 14] (fun b1 i1 wr => LRel w l ss b1 i1 wr) (fun _ i _ => m - (intOf i).toNat)
  case atStart => exact ⟨0, Nat.zero_le _, rfl, by simpa [by_, bodyL, HLM.out] using O1.out, B1.out⟩
  case round =>
    obtain ⟨k, hk, rfl, hob, hbel⟩ := hrel
    obtain ⟨Ab, cb, rfl, hsb⟩ := hob.sb
    have hkm : k ≤ m := by have := HLM.out; omega
    have hbl := bodyL_len (ss.take k)
    have hXl : (l ++ (put ss.length ++ bodyL (by_ (ss.take k)))).length ≤ n + 10 + room (ss.take k) := by
      have := put_len ss.length
      have := HLN.out
      simp only [List.length_append]; omega
    generalize hX : l ++ (put ss.length ++ bodyL (by_ (ss.take k))) = X at hob hsb hXl ⊢
    have HX := Lib.hid hX
    have OBK := Lib.hid hob
    have SBK := Lib.hid hsb
    clear hX hob hsb hbl hk
    by_cases hlt : k < m
    · obtain ⟨ad, rfl, hb1, hc1⟩ := (HR.out.keep hbel).at_ hlt
      have hkl : k < ss.length := by have := HLM.out; omega
      have hroom := room_take ss k hkl
      obtain ⟨s, hs⟩ : ∃ s, s = ss.getD k ByteArray.empty := ⟨_, rfl⟩
      rw [← hs] at hc1 hroom
      have HSS := Lib.hid hs
      have g2 : (k : Int) < (m : Int) := by omega
      clear hs
      go_wp2_with fail
      refine (putText_any Ab X.length cb X s _ SBK.out (by omega)).mono ?_
      rintro e w2 ⟨b2, rfl, hown2, hb2⟩
      have B2 := Lib.hid (hbel.trans (hb2.mono hbel.size))
      have O2 := Lib.hid (show OB w2 w.heap.size b2 ((l ++ (put ss.length ++ bodyL (by_ (ss.take k)))) ++ putT s.data.toList) by rw [HX.out]; exact (OB.of hown2).mono hbel.size)
      clear hown2 hb2
      go_wp2_with fail
      go_roundw
      case rel => exact LRel.next w l ss b2 w2 k s hkl HSS.out O2.out B2.out
      case measure => simp [intOf]; omega
    · have hfin : OB wr w.heap.size (.slice Ab X.length cb) (l ++ putL (by_ ss)) := by
        have h := OBK.out
        have e2 := HX.out
        rw [List.take_of_length_le (by have := HLM.out; omega)] at e2
        unfold putL
        rw [by_length, e2]
        exact h
      have HF := Lib.hid hfin
      clear hfin
      go_wp2_with fail
      go_ret
      exact ⟨_, rfl, HF.out, hbel⟩
end Go.Proofs.Ytpcojppadeagiaa.Cod
