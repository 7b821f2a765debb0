/-
  The contract of the reader's method 'sorted' of package coding where the code of ascending strings stands at the index. Conditions: the reader lies in a block of its own, above the bytes that it reads; the code is there.
-/
import Derived.Test.YtpcojppadeagiaaCodMany
import Derived.Laws.Concat
namespace Go.Proofs.Ytpcojppadeagiaa.Cod
open Go.RowKit Wd

theorem bodyS_append (last : List UInt8) (a b : List (List UInt8)) : bodyS last (a ++ b) = bodyS last a ++ bodyS (a.getLastD last) b := by
  induction a generalizing last with
  | nil => simp [bodyS]
  | cons x a ih => simp only [List.cons_append, bodyS, ih, List.append_assoc, List.getLastD_cons]

/-- what a round of 'sorted' keeps -/
def HRel (w : World) (g : Nat) (A : Option Addr) (n c at0 : Nat) (ss : List ByteArray) (v1 s1 i1 : Value) (wr : World) : Prop :=
  ∃ (k : Nat) (last : ByteArray), k ≤ ss.length ∧ last.size ≤ 140737488355328 ∧ i1 = .int .i64 (k : Int) ∧ s1 = .string last ∧ last.data.toList = (by_ (ss.take k)).getLastD [] ∧
    wr.ownsRow w.heap.size 9 1 v1 k (vs (ss.take k)) ∧ Rdr wr g A n c (at0 + (put ss.length).length + (bodyS [] (by_ (ss.take k))).length) ∧ Upd g w wr

theorem sorted_at (l rest : List UInt8) (ss : List ByteArray) (at0 k : Nat) (last s : List UInt8) (hd : l.drop at0 = putS (by_ ss) ++ rest) (hk : k < ss.length) (hl : last = (by_ (ss.take k)).getLastD []) (hs : s = (ss.getD k ByteArray.empty).data.toList) :
    l.drop (at0 + (put ss.length).length + (bodyS [] (by_ (ss.take k))).length) = put (commonL last s) ++ (putT (s.drop (commonL last s)) ++ (bodyS s (by_ (ss.drop (k + 1))) ++ rest)) := by
  unfold putS at hd
  rw [by_length, List.append_assoc] at hd
  have h1 := drop_more _ _ _ _ hd
  have e : bodyS [] (by_ ss) = bodyS [] (by_ (ss.take k)) ++ (put (commonL last s) ++ (putT (s.drop (commonL last s)) ++ bodyS s (by_ (ss.drop (k + 1))))) := by
    rw [by_split ss k, bodyS_append, by_cons_drop ss k hk, ← hl, ← hs]
    rfl
  rw [e, List.append_assoc] at h1
  rw [drop_more _ _ _ _ h1, List.append_assoc, List.append_assoc]
theorem asc_at (ss : List ByteArray) (k : Nat) (last s : List UInt8) (ha : asc (by_ ss) = true) (hk : k < ss.length) (h0 : 0 < k) (hl : last = (by_ (ss.take k)).getLastD []) (hs : s = (ss.getD k ByteArray.empty).data.toList) : Op.bytesLess last s = true := by
  have h1 : asc (by_ (ss.take (k + 1))) = true := by
    unfold asc at ha ⊢
    rw [by_split ss (k + 1)] at ha
    exact ascF_left _ _ _ _ ha
  unfold asc at h1
  rw [take_snocS ss k hk, by_snoc, ascF_snoc, ← hl, ← hs] at h1
  have e : (by_ (ss.take k)).isEmpty = false := by
    rw [Bool.eq_false_iff]; intro h
    rw [List.isEmpty_iff_length_eq_zero, by_length, List.length_take] at h
    omega
  simpa [e] using (Bool.and_eq_true_iff.1 h1).2

theorem less_asymm (a b : List UInt8) (h : Op.bytesLess a b = true) : Op.bytesLess b a = false ∧ ¬ b = a := by
  induction a generalizing b with
  | nil => cases b <;> simp_all [Op.bytesLess]
  | cons x a ih =>
    match b with
    | [] => simp [Op.bytesLess] at h
    | y :: b =>
      simp only [Op.bytesLess, Bool.or_eq_true, Bool.and_eq_true, decide_eq_true_eq, beq_iff_eq] at h ⊢
      rcases h with h | ⟨rfl, h⟩
      · have h1 : ¬ y < x := UInt8.not_lt.2 (UInt8.le_of_lt h)
        have h2 : y ≠ x := fun e => by subst e; exact UInt8.lt_irrefl _ h
        simp [h1, h2]
      · obtain ⟨h1, h2⟩ := ih b h
        simp [UInt8.lt_irrefl, h1, h2]
theorem cat_back (last s : ByteArray) (cm : Nat) (h : cm = commonL last.data.toList s.data.toList) : last.extract 0 cm ++ (⟨(s.data.toList.drop cm).toArray⟩ : ByteArray) = s := by
  apply ba_ext
  have e : (last.extract 0 cm ++ (⟨(s.data.toList.drop cm).toArray⟩ : ByteArray)).data.toList = (last.extract 0 cm).data.toList ++ s.data.toList.drop cm := by simp
  rw [e, Lib.extract_data, List.drop_zero, Nat.sub_zero, h, rebuilt]

set_option maxRecDepth 100000 in
set_option maxHeartbeats 4000000 in
theorem sorted_ok (g : Nat) (A : Option Addr) (n c at0 : Nat) (l rest : List UInt8) (ss : List ByteArray) (w : World) (hg : Rdr w g A n c at0) (hr : Reads w g 1 A n (bs l)) (hc : n ≤ c) (hnil : A = none → c = 0) (hn : n ≤ 140737488355328)
    (hd : l.drop at0 = putS (by_ ss) ++ rest) (hasc : asc (by_ ss) = true) (hroom : ss.length * 16 ≤ 140737488355328) (hstr : ∀ s ∈ ss, s.size ≤ 140737488355328) :
    Calls Try.prog 43 #[.pointer (some ⟨g, 0, none⟩)] w (GPost w g A n c (at0 + (putS (by_ ss)).length) ss) := by
  obtain ⟨i0, hi, hz0, hz1, hz2⟩ := info_parts Try.infoStr
  have HI := Lib.hid hi
  have HR := Lib.hid hr
  have HLen := Lib.hid (show l.length = n by have := hr.1; rw [bs_length] at this; omega)
  have HNil := Lib.hid hnil
  have hglt := hg.lt
  have HD := Lib.hid hd
  have HStr := Lib.hid hstr
  have HAsc := Lib.hid hasc
  have HM := Lib.hid (many_ok g A n c at0 ss.length l (bodyS [] (by_ ss) ++ rest) w hg hr (by omega) (by rw [hd]; unfold putS; rw [by_length, List.append_assoc]) (by have := bodyS_many [] (by_ ss); rw [by_length] at this; rw [List.length_append]; omega))
  clear hi hr hnil hd hg hstr hasc
  go_enter Try.func43, Try.ntmps43
  go_wp2_with fail
  refine HM.out.mono ?_
  rintro e w1 ⟨rfl, hrd, hup⟩
  have R1 := Lib.hid hrd
  have U1 := Lib.hid hup
  clear hrd hup HM
  go_wp2_with fail
  go_loopw [3, 4, 5] (fun v1 s1 i1 wr => HRel w g A n c at0 ss v1 s1 i1 wr) (fun _ _ i _ => ss.length - (intOf i).toNat)
  case atStart => exact ⟨0, ByteArray.empty, Nat.zero_le _, Nat.zero_le _, rfl, rfl, rfl, World.ownsRow_nil _ _ _ _, by simpa [by_, bodyS] using R1.out, U1.out⟩
  case round =>
    obtain ⟨k, last, hk, hlsz, rfl, rfl, hlast, hown, hrd, hup⟩ := hrel
    have HO := Lib.hid hown
    have HRD := Lib.hid hrd
    have HUP := Lib.hid hup
    have HLA := Lib.hid hlast
    clear hown hrd hup hlast
    by_cases hlt : k < ss.length
    · obtain ⟨s, hs⟩ : ∃ s, s = ss.getD k ByteArray.empty := ⟨_, rfl⟩
      have hat := Lib.hid (sorted_at l rest ss at0 k last.data.toList s.data.toList HD.out hlt HLA.out (by rw [hs]))
      generalize ha1 : at0 + (put ss.length).length + (bodyS [] (by_ (ss.take k))).length = a1 at hat HRD
      have HA1 := Lib.hid ha1
      clear ha1
      have hcl := commonL_le last.data.toList s.data.toList
      have hcl2 := commonL_left last.data.toList s.data.toList
      rw [ba_len] at hcl hcl2
      obtain ⟨cm, hcm⟩ : ∃ cm, cm = commonL last.data.toList s.data.toList := ⟨_, rfl⟩
      rw [← hcm] at hcl hcl2 hat
      have HCM := Lib.hid hcm
      have hsz : s.size ≤ 140737488355328 := HStr.out s (by rw [hs]; simp [List.getD, hlt])
      have hN : rd (l.drop a1) = some (cm, (put cm).length) := by rw [hat.out]; exact rd_put _ _ (lt64 (by omega))
      have hat2 := drop_more _ _ _ _ hat.out
      have hT : rdT (l.drop (a1 + (put cm).length)) = some (s.data.toList.drop cm, (putT (s.data.toList.drop cm)).length) := by rw [hat2]; exact rdT_put _ _ (lt64 (by rw [List.length_drop, ba_len]; omega))
      have hle : a1 + (put cm).length ≤ n := by
        have h := congrArg List.length hat2
        have := putT_pos (s.data.toList.drop cm)
        rw [List.length_drop, List.length_append, HLen.out] at h
        omega
      have HT := Lib.hid hT
      have HN := Lib.hid hN
      have HSS := Lib.hid hs
      have hcat := cat_back last s cm hcm
      obtain ⟨t, ht⟩ : ∃ t : ByteArray, t = ⟨(s.data.toList.drop cm).toArray⟩ := ⟨_, rfl⟩
      rw [← ht] at hcat
      have HTT := Lib.hid ht
      have hts : t.size ≤ s.size := by rw [ht]; show (s.data.toList.drop cm).toArray.size ≤ _; simp
      have hes : (last.extract 0 cm).size = cm := by simp; omega
      have hadd : ∀ W : World, (Op.stringOp .add (last.extract 0 cm) t).run Try.prog W = .ok (.string s) W := fun W => by rw [run_string_add_sum _ _ _ (by rw [hes]; omega), hcat]
      clear hes hcat hts
      have hrg := HR.out.grown HUP.out (Nat.le_of_lt hglt) (fun k hk => by injection hk with hk; omega)
      have HNX := Lib.hid (number_any g A n c a1 l wr HRD.out hrg (by omega) (by omega))
      have g2 : (k : Int) < (ss.length : Int) := by omega
      have i1 : (cm : Int) ≤ (last.size : Int) := by omega
      have hb := HUP.out.size
      clear hN hT hs hcm hat2 ht hrg
      go_wp2_with fail
      refine HNX.out.mono ?_
      intro e w2 hpost
      rw [HN.out] at hpost
      obtain ⟨rfl, hrd2, hup2⟩ := hpost
      have U2 := Lib.hid (HUP.out.trans hup2)
      have R2 := Lib.hid hrd2
      have O2 := Lib.hid (HO.out.kept hup2 (.inr (own_apart HO.out hglt)))
      clear hrd2 hup2 HNX HN
      go_wp2_with fail
      have hrg := Lib.hid ((HR.out.grown U2.out (Nat.le_of_lt hglt) (fun k hk => by injection hk with hk; omega)))
      go_region_held3 (fun _ => True) (exact trivial)
        (first
          | (go_at_call 37; (with_reducible refine (text_any g A n c (a1 + (put cm).length) l _ ?_ ?_ hc HNil.out hn (by omega)).mono ?_); (· exact R2.out.drew); (· exact hrg.out.drew); intro e w3 hpost; rw [HT.out] at hpost; obtain ⟨rfl, hrd3, hup3⟩ := hpost; rw [← HTT.out]))
      have U3 := Lib.hid (show Upd g w w3 by exact (U2.out.drew).trans hup3)
      have R3 := Lib.hid hrd3
      have O3 := Lib.hid (show w3.ownsRow w.heap.size 9 1 u3 k (vs (ss.take k)) by exact World.ownsRow.kept (w := w2.drew) (by exact O2.out.drew) hup3 (.inr (own_apart O2.out hglt)))
      clear hrd3 hup3 hadd
      have hle : k ≠ 0 → Op.bytesLess last.data.toList s.data.toList = true := fun h => asc_at ss k _ _ HAsc.out hlt (by omega) HLA.out (by rw [HSS.out])
      have hw : IntKind.i64.wrap (cm : Int) = (cm : Int) := IntWalk.i64_in _ (by omega)
      by_cases hk0 : k = 0
      case' pos =>
        have hk0' : (k : Int) ≤ 0 := by omega
        clear hle hk0
        go_wp2_with fail
      case' neg =>
        have hk0' : (0 : Int) < (k : Int) := by omega
        obtain ⟨hl1, hl2⟩ := less_asymm _ _ (hle hk0)
        rw [← ByteArray.toList_eq, ← ByteArray.toList_eq] at hl1 hl2
        have hl3 : (s.toList == last.toList) = false := by rw [beq_eq_false_iff_ne]; exact hl2
        clear hle hk0
        go_wp2_with fail
      all_goals
        refine (common_any last s _ hlsz hsz).mono ?_
        rintro e w4 ⟨rfl, hb4⟩
        rw [← HCM.out]
        have hne : ((cm : Int) != (cm : Int)) = false := by simp
        have hg4 : w3.grownBy w4 none := ⟨hb4.os, hb4.tape, hb4.output, hb4.size, fun i hi _ => hb4.block i hi⟩
        have U4 := Lib.hid (U3.out.grown hg4 (fun j hj => by cases hj))
        have R4 := Lib.hid (R3.out.grown hg4 (by simp))
        have O4 := Lib.hid (O3.out.kept hg4 (by cases hv : u3.ownBlock with | none => exact .inl rfl | some x => exact .inr (by simp)))
        clear hb4 hg4
        go_wp2_with (at_builtin; refine wpList_append_any _ rfl (.tmp 48) (.tmp 50) _ rfl w.heap.size 9 i0 _ 1 16 Try.underlying39 HI.out hz0 hz1 hz2 rfl (by decide) _ _ _ rfl (O4.out.alloc _) _ _ _ _ _ rfl (Reads.lit _ _ _ _ _ _ rfl rfl) (by intro u hu; simp at hu; subst hu; rfl) (by unfold maxLen; omega) (by omega) (by have := U4.out.size; simp; omega) ?_; intro v' w5 hown' hgr hat')
        have U5 := Lib.hid ((U4.out.alloc _).grown hgr (fun j hj => (O4.out.lt j hj).1))
        have R5 := Lib.hid ((R4.out.alloc _).grown hgr (Ne.symm (own_apart O4.out hglt)))
        have O5 := Lib.hid (show w5.ownsRow w.heap.size 9 1 v' (k + 1) (vs (ss.take (k + 1))) by rw [vs_take_snoc ss k hlt, ← HSS.out]; exact hown')
        clear hgr hat' hown'
        go_wp2_with fail
        go_roundw
        case rel =>
          refine ⟨k + 1, s, by omega, hsz, by go_num, rfl, by rw [take_snocS ss k hlt, ← HSS.out, by_snoc]; simp, O5.out, ?_, U5.out⟩
          have hfin := R5.out
          rw [take_snocS ss k hlt, by_snoc, bodyS_snoc, ← HLA.out, ← HSS.out, ← HCM.out, List.length_append, List.length_append, ← Nat.add_assoc, ← Nat.add_assoc, HA1.out]
          exact hfin
        case measure => simp [intOf]; omega
    · obtain rfl : k = ss.length := by omega
      have hO := HO.out
      have hR := HRD.out
      rw [List.take_length] at hO hR
      have O := Lib.hid hO
      have R := Lib.hid hR
      clear hO hR
      go_wp2_with fail
      go_ret
      refine ⟨_, rfl, O.out, ?_, HUP.out⟩
      unfold putS
      rw [by_length, List.length_append, ← Nat.add_assoc]
      exact R.out
end Go.Proofs.Ytpcojppadeagiaa.Cod
