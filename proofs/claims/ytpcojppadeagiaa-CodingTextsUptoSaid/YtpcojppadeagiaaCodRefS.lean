/-
  The contracts of the reference's codes of lists and of ascending strings (henkanref12: common, List, Sorted). Conditions: the slices can be read; the bytes of the result fit a slice.
-/
import Derived.Test.YtpcojppadeagiaaCodWorks
namespace Go.Proofs.Ytpcojppadeagiaa.Cod
open Go.RowKit Wd

set_option maxHeartbeats 1000000 in
theorem commonR_any (a b : ByteArray) (w : World) (ha : a.size ≤ 140737488355328) (_hb : b.size ≤ 140737488355328) :
    Calls Try.prog 40 #[.string a, .string b] w fun e w' => e = .returned (.int .i64 (commonL a.data.toList b.data.toList : Int)) ∧ Below w.heap.size w w' := by
  go_enter Try.func40, Try.ntmps40
  go_wp2_with fail
  go_loopw [5] (fun i wr => ∃ k : Nat, k ≤ a.size ∧ k ≤ b.size ∧ i = .int .i64 k ∧ a.data.toList.take k = b.data.toList.take k ∧ Below w.heap.size w wr) (fun i _ => a.size - (intOf i).toNat)
  case atStart => exact ⟨0, Nat.zero_le _, Nat.zero_le _, rfl, by simp, Below.refl _ _⟩
  case round =>
    obtain ⟨k, hka, hkb, rfl, heq, hbel⟩ := hrel
    have HE := Lib.hid heq
    clear heq
    have LA := Lib.hid (ba_len a)
    have LB := Lib.hid (ba_len b)
    by_cases hlt : k < a.size ∧ k < b.size
    · obtain ⟨h1, h2⟩ := hlt
      have g1 : (k : Int) < (a.size : Int) := by omega
      have g2 : (k : Int) < (b.size : Int) := by omega
      have g0 : (0 : Int) ≤ (k : Int) := by omega
      by_cases hxy : a[k] = b[k]
      · have ht : (((a[k]'h1).toNat : Int) == ((b[k]'h2).toNat : Int)) = true := by rw [hxy]; simp
        have hn := Lib.hid (take_both _ _ k HE.out (by have := LA.out; omega) (by have := LB.out; omega) (by rw [← ba_get a k h1, ← ba_get b k h2, hxy]))
        clear hxy
        go_wp2_with fail
        go_quiet (fail)
        go_wp2_with fail
        go_roundw
        case rel => exact ⟨k + 1, by omega, by omega, by go_num, hn.out, below_drewN hbel _⟩
        case measure => simp [intOf]; omega
      · have ht : (((a[k]'h1).toNat : Int) == ((b[k]'h2).toNat : Int)) = false := by
          rw [beq_eq_false_iff_ne]; intro h; exact hxy (UInt8.toNat_inj.1 (by omega))
        have hn := Lib.hid (commonL_stop _ _ k HE.out (by have := LA.out; omega) (by have := LB.out; omega) (.inr (.inr (by rw [← ba_get a k h1, ← ba_get b k h2]; exact hxy))))
        clear hxy
        go_wp2_with fail
        go_quiet (fail)
        go_wp2_with fail
        go_ret
        exact ⟨by rw [hn.out]; rfl, below_drewN hbel _⟩
    · have hn := Lib.hid (commonL_stop _ _ k HE.out (by have := LA.out; omega) (by have := LB.out; omega) (by have := LA.out; have := LB.out; omega))
      by_cases hs : k < a.size
      · have hd0 : decide (k < a.size) = true := by simpa using hs
        have hd : decide (k < b.size) = false := by simp; omega
        have hge : b.size ≤ k := by omega
        clear hlt
        go_wp2_with fail
        go_quiet (fail)
        go_wp2_with fail
        go_ret
        exact ⟨by rw [hn.out]; rfl, below_drewN hbel _⟩
      · have hd : decide (k < a.size) = false := by simp; omega
        have hge : a.size ≤ k := by omega
        clear hlt
        go_wp2_with fail
        go_quiet (fail)
        go_wp2_with fail
        go_ret
        exact ⟨by rw [hn.out]; rfl, below_drewN hbel _⟩

theorem less_total (a b : List UInt8) (h : Op.bytesLess a b = false) : Op.bytesLess b a = true ∨ b = a := by
  induction a generalizing b with
  | nil => cases b <;> simp_all [Op.bytesLess]
  | cons x a ih =>
    match b with
    | [] => simp [Op.bytesLess]
    | y :: b =>
      simp only [Op.bytesLess, Bool.or_eq_false_iff, Bool.and_eq_false_iff, decide_eq_false_iff_not, beq_eq_false_iff_ne] at h
      simp only [Op.bytesLess, Bool.or_eq_true, Bool.and_eq_true, decide_eq_true_eq, beq_iff_eq, List.cons.injEq]
      obtain ⟨h1, h2⟩ := h
      by_cases hyx : y < x
      · exact .inl (.inl hyx)
      · have he : x = y := UInt8.le_antisymm (UInt8.not_lt.1 hyx) (UInt8.not_lt.1 h1)
        subst he
        rcases h2 with h2 | h2
        · exact absurd rfl h2
        · rcases ih b h2 with h3 | h3
          · exact .inl (.inr ⟨rfl, h3⟩)
          · exact .inr ⟨rfl, h3⟩

set_option maxRecDepth 100000 in
set_option maxHeartbeats 1000000 in
theorem listR_any (A2 : Option Addr) (m c2 : Nat) (ss : List ByteArray) (w : World) (hr : RS w A2 m ss) (hm : m ≤ 140737488355328) (hn : 20 + room ss ≤ 140737488355328) :
    Calls Try.prog 26 #[.slice A2 m c2] w fun e w' => ∃ b, e = .returned b ∧ OB w' w.heap.size b (putL (by_ ss)) ∧ Below w.heap.size w w' := by
  obtain ⟨i0, hi, hz0, hz1, hz2⟩ := info_parts Try.infoU8
  have HI := Lib.hid hi
  have HR := Lib.hid hr
  have HLM := Lib.hid hr.len
  clear hr hi
  go_enter Try.func26, Try.ntmps26
  go_wp2_with fail
  refine (uintR_any m w (lt64 hm)).mono ?_
  rintro e w1 ⟨b, rfl, hown, hb1⟩
  have O1 := Lib.hid (OB.of hown)
  have B1 := Lib.hid hb1
  clear hown hb1
  go_wp2_with fail
  go_loopw [3, 4] (fun b1 i1 wr => LRel w [] ss b1 i1 wr) (fun _ i _ => m - (intOf i).toNat)
  case atStart => exact ⟨0, Nat.zero_le _, rfl, by simpa [by_, bodyL, HLM.out] using O1.out, B1.out⟩
  case round =>
    obtain ⟨k, hk, rfl, hob, hbel⟩ := hrel
    have hkm : k ≤ m := by have := HLM.out; omega
    have hbl := bodyL_len (ss.take k)
    have hXl : (([] : List UInt8) ++ (put ss.length ++ bodyL (by_ (ss.take k)))).length ≤ 10 + room (ss.take k) := by
      have := put_len ss.length
      simp only [List.length_append, List.length_nil]; omega
    generalize hX : ([] : List UInt8) ++ (put ss.length ++ bodyL (by_ (ss.take k))) = X at hob hXl
    have HX := Lib.hid hX
    have OBK := Lib.hid hob
    clear hX hob hbl hk
    by_cases hlt : k < m
    · obtain ⟨ad, rfl, hb1, hc1⟩ := (HR.out.keep hbel).at_ hlt
      have hkl : k < ss.length := by have := HLM.out; omega
      have hroom := room_take ss k hkl
      obtain ⟨s, hs⟩ : ∃ s, s = ss.getD k ByteArray.empty := ⟨_, rfl⟩
      rw [← hs] at hc1 hroom
      have HSS := Lib.hid hs
      have g2 : (k : Int) < (m : Int) := by omega
      clear hs
      go_wp2_with fail
      refine (textR_any s _ (by omega)).mono ?_
      rintro e w2 ⟨b2, rfl, hown2, hb2⟩
      obtain ⟨A2, c2', rfl, hs2⟩ := own_sb hown2
      have S2 := Lib.hid hs2
      have B2 := Lib.hid (hbel.trans (hb2.mono hbel.size))
      have hg2 : wr.grownBy w2 none := ⟨hb2.os, hb2.tape, hb2.output, hb2.size, fun i hi _ => hb2.block i hi⟩
      have O2 := Lib.hid (World.ownsRow.kept OBK.out hg2 (by cases hv : u3.ownBlock with | none => exact .inl rfl | some x => exact .inr (by simp)))
      have hpt := putT_len s.data.toList
      rw [ba_len] at hpt
      generalize hT : putT s.data.toList = T at S2 hpt
      have HT := Lib.hid hT
      clear hown2 hs2 hb2 hg2 hT
      go_wp2_with (at_builtin; refine wpList_append_any _ rfl (.tmp 15) (.tmp 20) _ rfl w.heap.size 5 i0 _ 1 1 Try.underlying22 HI.out hz0 hz1 hz2 rfl (by decide) _ _ _ rfl O2.out _ A2 T.length c2' (bs T) rfl S2.out.rb (bs_one T) (by unfold maxLen; omega) (by omega) B2.out.size ?_; intro v3 w3 hown3 hg3 hat3)
      have B3 := Lib.hid (own_below B2.out (Nat.le_refl _) O2.out (Nat.le_refl _) hg3)
      have O3 := Lib.hid (show OB w3 w.heap.size v3 (([] ++ (put ss.length ++ bodyL (by_ (ss.take k)))) ++ putT s.data.toList) by
        rw [HX.out, HT.out]; refine OB.of (n := X.length + T.length) ?_; rw [bs_append]; exact hown3)
      clear hown3 hg3 hat3
      go_wp2_with fail
      go_roundw
      case rel => exact LRel.next w [] ss v3 w3 k s hkl HSS.out O3.out B3.out
      case measure => simp [intOf]; omega
    · have hfin : OB wr w.heap.size u3 (putL (by_ ss)) := by
        have h := OBK.out
        have e2 := HX.out
        rw [List.take_of_length_le (by have := HLM.out; omega), List.nil_append] at e2
        unfold putL
        rw [by_length, e2]
        exact h
      have HF := Lib.hid hfin
      clear hfin
      go_wp2_with fail
      go_ret
      exact ⟨_, rfl, HF.out, hbel⟩

theorem own_keep {w w2 : World} {base n : Nat} {e : TypeId} {v : Value} {xs : List Value} (h : w.ownsRow base e 1 v n xs) (hb : Below w.heap.size w w2) : w2.ownsRow base e 1 v n xs :=
  World.ownsRow.kept (row := none) h ⟨hb.os, hb.tape, hb.output, hb.size, fun i hi _ => hb.block i hi⟩ (by cases hv : v.ownBlock with | none => exact .inl rfl | some x => exact .inr (by simp))

set_option maxRecDepth 100000 in
set_option maxHeartbeats 4000000 in
theorem sortedR_any (A2 : Option Addr) (m c2 : Nat) (ss : List ByteArray) (w : World) (hr : RS w A2 m ss) (hm : m ≤ 140737488355328) (hn : 20 + room ss ≤ 140737488355328) :
    Calls Try.prog 22 #[.slice A2 m c2] w (SPost w [] ss) := by
  obtain ⟨i0, hi, hz0, hz1, hz2⟩ := info_parts Try.infoU8
  have HI := Lib.hid hi
  have HR := Lib.hid hr
  have HLM := Lib.hid hr.len
  clear hr hi
  go_enter Try.func22, Try.ntmps22
  go_wp2_with fail
  refine (uintR_any m w (lt64 hm)).mono ?_
  rintro e w1 ⟨b, rfl, hown, hb1⟩
  have O1 := Lib.hid (OB.of hown)
  have B1 := Lib.hid hb1
  clear hown hb1
  go_wp2_with fail
  go_loopw [4, 5, 6] (fun b1 s1 i1 wr => SRel w [] ss b1 s1 i1 wr) (fun _ _ i _ => m - (intOf i).toNat)
  case atStart => exact ⟨0, ByteArray.empty, Nat.zero_le _, Nat.zero_le _, rfl, rfl, rfl, rfl, by simpa [by_, bodyS, HLM.out] using O1.out, B1.out⟩
  case round =>
    obtain ⟨k, last, hk, hlsz, rfl, rfl, hlast, hasc, hob, hbel⟩ := hrel
    have hkm : k ≤ m := by have := HLM.out; omega
    have hbl := bodyS_len [] (ss.take k)
    have hXl : (([] : List UInt8) ++ (put ss.length ++ bodyS [] (by_ (ss.take k)))).length ≤ 10 + room (ss.take k) := by
      have := put_len ss.length
      simp only [List.length_append, List.length_nil]; omega
    generalize hX : ([] : List UInt8) ++ (put ss.length ++ bodyS [] (by_ (ss.take k))) = X at hob hXl
    have HX := Lib.hid hX
    have OBK := Lib.hid hob
    have HLA := Lib.hid hlast
    have HAS := Lib.hid hasc
    clear hX hob hbl hk hlast hasc
    by_cases hlt : k < m
    · obtain ⟨ad, rfl, hb0, hc0⟩ := HR.out.at_ hlt
      have hc1 := (hbel.cell (p := ad.add k) (by rw [block_of_add]; exact hb0)).trans hc0
      have hkl : k < ss.length := by have := HLM.out; omega
      have hroom := room_take ss k hkl
      obtain ⟨s, hs⟩ : ∃ s, s = ss.getD k ByteArray.empty := ⟨_, rfl⟩
      rw [← hs] at hc0 hc1 hroom
      have HC0 := Lib.hid hc0
      clear hc0
      have HSS := Lib.hid hs
      have g2 : (k : Int) < (m : Int) := by omega
      have g0 : (0 : Int) ≤ (k : Int) := by omega
      clear hs
      have hcl := commonL_le last.data.toList s.data.toList
      rw [ba_len s] at hcl
      obtain ⟨cm, hcm⟩ : ∃ cm, cm = commonL last.data.toList s.data.toList := ⟨_, rfl⟩
      rw [← hcm] at hcl
      have HCM := Lib.hid hcm
      clear hcm
      have hssz : s.size ≤ 140737488355328 := by omega
      by_cases hok : (decide (k = 0) || Op.bytesLess last.data.toList s.data.toList) = true
      · have HOK := Lib.hid hok
        have hcmp : k ≠ 0 → Op.bytesLess last.data.toList s.data.toList = true := by
          intro h
          simpa [h] using hok
        clear hok
        by_cases hk0 : k = 0
        case' pos =>
          have hk0' : (k : Int) ≤ 0 := by omega
          clear hk0 hcmp
          go_wp2_with fail
        case' neg =>
          have hk0' : (0 : Int) < (k : Int) := by omega
          obtain ⟨hl1, hl2⟩ := less_asymm _ _ (hcmp hk0)
          rw [← ByteArray.toList_eq, ← ByteArray.toList_eq] at hl1 hl2
          have hl3 : (s.toList == last.toList) = false := by rw [beq_eq_false_iff_ne]; exact hl2
          clear hk0 hcmp
          go_wp2_with fail
        all_goals
          refine (commonR_any last s _ hlsz hssz).mono ?_
          rintro e w2 ⟨rfl, hb2⟩
          rw [← HCM.out]
          have O2 := Lib.hid (own_keep OBK.out hb2)
          have B2 := Lib.hid (hbel.trans (hb2.mono hbel.size))
          have hc2 := (B2.out.cell (p := ad.add k) (by rw [block_of_add]; exact hb0)).trans HC0.out
          clear hb2 hc1
          have i1 : (cm : Int) ≤ (s.size : Int) := by omega
          have i0' : (0 : Int) ≤ (cm : Int) := by omega
          have wv : IntKind.u64.wrap (cm : Int) = (cm : Int) := by rw [IntKind.wrap_u64]; omega
          go_wp2_with fail
          obtain ⟨T, hT⟩ : ∃ T, T = putT (s.extract cm s.size).data.toList := ⟨_, rfl⟩
          have hTl : T.length ≤ s.size + 10 := by
            have h := putT_len (s.extract cm s.size).data.toList
            rw [ba_len, ext_size] at h
            rw [hT]; omega
          have HT := Lib.hid hT.symm
          have hpl := put_len cm
          clear hT
          go_region_held3 (fun w' => w'.cell? (ad.add k) = some (.string s)) (first | go_keep | exact hcu | exact hct | exact hca | exact hcf)
            (first
              | (go_at_call 11; (with_reducible refine (uintR_any cm _ (lt64 (by omega))).mono ?_); rintro e wu ⟨bu, rfl, hou, hbu⟩; obtain ⟨Au, cu, rfl, hsu⟩ := own_sb hou; have SU := Lib.hid hsu; have OU := Lib.hid (own_keep (w := w2.drew) (by exact O2.out) hbu); have BU : Hid (Below w.heap.size w wu) := Lib.hid (by exact (B2.out.drew).trans (hbu.mono B2.out.size)); have hcu := (BU.out.cell (p := ad.add k) (by rw [block_of_add]; exact hb0)).trans HC0.out; clear hou hsu hbu)
              | (go_at_call 24; (with_reducible refine (textR_any (s.extract cm s.size) _ ?_).mono ?_); (· rw [ext_size]; omega); rintro e wt ⟨bt, rfl, hot, hbt⟩; rw [HT.out] at hot; obtain ⟨At, ct, rfl, hst⟩ := own_sb hot; have ST := Lib.hid hst; have OT := Lib.hid (own_keep OA.out hbt); have BT := Lib.hid (BA.out.trans (hbt.mono BA.out.size)); have hct := (BT.out.cell (p := ad.add k) (by rw [block_of_add]; exact hb0)).trans HC0.out; clear hot hst hbt OA BA)
              | (refine step_append_any _ (by rfl) (.tmp 34) (.tmp 37) _ (by rfl) w.heap.size 5 i0 _ 1 1 Try.underlying22 HI.out hz0 hz1 hz2 rfl (by decide) _ X.length (bs X) (by rfl) OU.out _ Au (put cm).length cu (bs (put cm)) (by rfl) SU.out.rb (bs_one (put cm)) (by unfold maxLen; omega) (by omega) BU.out.size ?_; intro va wa howna hga hata; have BA := Lib.hid (own_below BU.out (Nat.le_refl _) OU.out (Nat.le_refl _) hga); have OA := Lib.hid (show wa.ownsRow w.heap.size 5 1 va (X.length + (put cm).length) (bs (X ++ put cm)) by rw [bs_append]; exact howna); have hca := (BA.out.cell (p := ad.add k) (by rw [block_of_add]; exact hb0)).trans HC0.out; clear howna hga hata OU SU BU)
              | (refine step_append_any _ (by rfl) (.tmp 38) (.tmp 45) _ (by rfl) w.heap.size 5 i0 _ 1 1 Try.underlying22 HI.out hz0 hz1 hz2 rfl (by decide) _ (X.length + (put cm).length) (bs (X ++ put cm)) (by rfl) OT.out _ At T.length ct (bs T) (by rfl) ST.out.rb (bs_one T) (by unfold maxLen; omega) (by omega) BT.out.size ?_; intro vf wf hownf hgf hatf; have BF := Lib.hid (own_below BT.out (Nat.le_refl _) OT.out (Nat.le_refl _) hgf); have OF := Lib.hid (show OB wf w.heap.size vf ((X ++ put cm) ++ T) by refine OB.of (n := X.length + (put cm).length + T.length) ?_; rw [bs_append (X ++ put cm)]; exact hownf); have hcf := (BF.out.cell (p := ad.add k) (by rw [block_of_add]; exact hb0)).trans HC0.out; clear hownf hgf hatf))
          have hO4 := OF.out
          rw [← HX.out, ← HT.out, ext_end, HCM.out] at hO4
          have O4 := Lib.hid hO4
          clear hO4 hcu hca hct hcf wv hc2
          have hcw := (BF.out.cell (p := ad.add k) (by rw [block_of_add]; exact hb0)).trans HC0.out
          go_wp2_with fail
          go_roundw
          case rel => exact SRel.next w [] ss vf wf k last s hkl HSS.out HLA.out HAS.out HOK.out O4.out BF.out hssz
          case measure => simp [intOf]; omega
      · have HNO := Lib.hid (show asc (by_ ss) = false from asc_bad ss k (by rw [asc_step ss k last s hkl HSS.out HLA.out HAS.out]; exact Bool.eq_false_iff.2 hok))
        have hk0' : (0 : Int) < (k : Int) := by
          have : k ≠ 0 := fun h => hok (by simp [h])
          omega
        have hle := less_total last.data.toList s.data.toList (by rw [Bool.eq_false_iff]; intro h; exact hok (by simp [h]))
        rw [← ByteArray.toList_eq, ← ByteArray.toList_eq] at hle
        clear hok
        rcases hle with hle | hle
        · go_wp2_with fail
          go_ret2
          exact SPost.bad HNO.out hbel
        · by_cases hle2 : Op.bytesLess s.toList last.toList = true
          · clear hle
            go_wp2_with fail
            go_ret2
            exact SPost.bad HNO.out hbel
          · have hle3 : (s.toList == last.toList) = true := by rw [hle]; simp
            have hle4 : Op.bytesLess s.toList last.toList = false := Bool.eq_false_iff.2 hle2
            have HLE := Lib.hid hle
            clear hle hle2
            go_wp2_with fail
            go_ret2
            exact SPost.bad HNO.out hbel
    · have hke : k = ss.length := by have := HLM.out; omega
      have hfin : OB wr w.heap.size u4 ([] ++ putS (by_ ss)) := by
        have h := OBK.out
        have e : ss.take k = ss := List.take_of_length_le (by omega)
        have e2 := HX.out
        rw [e] at e2
        unfold putS
        rw [by_length, e2]
        exact h
      have hA : asc (by_ ss) = true := by
        have h := HAS.out
        rwa [List.take_of_length_le (by omega)] at h
      have HF := Lib.hid hfin
      have HA := Lib.hid hA
      clear hfin hA hke
      go_wp2_with fail
      go_ret2
      exact SPost.good HA.out HF.out hbel
end Go.Proofs.Ytpcojppadeagiaa.Cod
