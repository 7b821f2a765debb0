/-
  The contracts of what the reference reads (henkanref12: begins, ReadUint, ReadInt, ReadText) and of the program's Int. Conditions: the bytes can be read.
-/
import Derived.Test.YtkllfnaofapfnaaDoorCodReadS
import Derived.Laws.DeepNot64
namespace Go.Proofs.YtkllfnaofapfnaaDoor.Cod
open Go.RowKit Wd

theorem take_grow (l l2 : List UInt8) (at0 k : Nat) (h1 : at0 + k < l.length) (h2 : k < l2.length) : ((l.drop at0).take (k + 1) = l2.take (k + 1)) ↔ ((l.drop at0).take k = l2.take k ∧ l.getD (at0 + k) 0 = l2.getD k 0) := by
  have e1 : (l.drop at0).take (k + 1) = (l.drop at0).take k ++ [l.getD (at0 + k) 0] := by
    rw [List.take_succ_eq_append_getElem (by rw [List.length_drop]; omega)]
    simp [List.getD, h1]
  have e2 : l2.take (k + 1) = l2.take k ++ [l2.getD k 0] := by
    rw [List.take_succ_eq_append_getElem h2]
    simp [List.getD, h2]
  rw [e1, e2]
  constructor
  · intro h
    obtain ⟨h1, h2⟩ := List.append_inj' h rfl
    exact ⟨h1, by simpa using h2⟩
  · rintro ⟨h1, h2⟩
    rw [h1, h2]
theorem take_differs (l l2 : List UInt8) (at0 k m : Nat) (hk : k < m) (h1 : at0 + k < l.length) (h : l.getD (at0 + k) 0 ≠ l2.getD k 0) : ¬ (l.drop at0).take m = l2 := by
  intro e
  apply h
  rw [← e]
  simp [List.getD, hk, h1]

set_option maxHeartbeats 1000000 in
theorem begins_any (A A2 : Option Addr) (n c n2 c2 at0 : Nat) (l l2 : List UInt8) (w : World) (hr : RB w A n l) (hr2 : RB w A2 n2 l2) (hle : at0 + n2 ≤ n) (hn : n ≤ 140737488355328) :
    Calls Tryd.prog 81 #[.slice A n c, .int .i64 (at0 : Int), .slice A2 n2 c2] w fun e w' => e = .returned (.bool (decide ((l.drop at0).take n2 = l2))) ∧ Below w.heap.size w w' := by
  have HR := Lib.hid hr
  have HR2 := Lib.hid hr2
  clear hr hr2
  go_enter Tryd.func81, Tryd.ntmps81
  go_wp2_with fail
  go_loopw [7] (fun i wr => ∃ k : Nat, k ≤ n2 ∧ i = .int .i64 k ∧ (l.drop at0).take k = l2.take k ∧ Below w.heap.size w wr) (fun i _ => n2 - (intOf i).toNat)
  case atStart => exact ⟨0, Nat.zero_le _, rfl, by simp, Below.refl _ _⟩
  case round =>
    obtain ⟨k, hk, rfl, heq, hbel⟩ := hrel
    have HE := Lib.hid heq
    clear heq
    have hl1 := HR.out.len
    have hl2 := HR2.out.len
    by_cases hlt : k < n2
    · obtain ⟨ad, rfl, hb1, hc1⟩ := (HR.out.keep hbel).at_ (show at0 + k < n by omega)
      obtain ⟨ad2, rfl, hb2, hc2⟩ := (HR2.out.keep hbel).at_ hlt
      have g0 : (0 : Int) ≤ (at0 : Int) + (k : Int) := by omega
      have g1 : (at0 : Int) + (k : Int) < (n : Int) := by omega
      have g2 : (k : Int) < (n2 : Int) := by omega
      have g3 : (0 : Int) ≤ (k : Int) := by omega
      have gw : IntKind.i64.wrap ((at0 : Int) + (k : Int)) = (at0 : Int) + (k : Int) := IntWalk.i64_in _ (by omega)
      have gt : ((at0 : Int) + (k : Int)).toNat = at0 + k := by omega
      by_cases hxy : l.getD (at0 + k) 0 = l2.getD k 0
      · have hn1 := Lib.hid ((take_grow l l2 at0 k (by omega) (by omega)).2 ⟨HE.out, hxy⟩)
        rw [hxy] at hc1
        generalize l2.getD k 0 = y at hc1 hc2 hxy
        clear hxy hl1 hl2
        go_wp2_with fail
        go_quiet (fail)
        clear gw gt
        go_wp2_with fail
        go_roundw
        case rel => exact ⟨k + 1, by omega, by go_num, hn1.out, below_drewN hbel _⟩
        case measure => simp [intOf]; omega
      · have hd := Lib.hid (take_differs l l2 at0 k n2 hlt (by omega) hxy)
        have hne : (((l.getD (at0 + k) 0).toNat : Int) != ((l2.getD k 0).toNat : Int)) = true := by
          rw [bne_iff_ne]; intro h; apply hxy; exact UInt8.toNat_inj.1 (by omega)
        generalize l2.getD k 0 = y at hc2 hne
        generalize l.getD (at0 + k) 0 = x at hc1 hne
        clear hxy hl1 hl2
        go_wp2_with fail
        go_quiet (fail)
        clear gw gt
        go_wp2_with fail
        go_ret
        exact ⟨by rw [decide_eq_false hd.out]; rfl, below_drewN hbel _⟩
    · obtain rfl : k = n2 := by omega
      have hfin : (l.drop at0).take k = l2 := by rw [HE.out, List.take_of_length_le (by omega)]
      have HF := Lib.hid hfin
      clear hfin hl1 hl2
      go_wp2_with fail
      go_ret
      exact ⟨by rw [decide_eq_true HF.out]; rfl, hbel⟩
/-- what a round of the reference's ReadUint keeps -/
def QRel (w : World) (D : List UInt8) (v1 o1 i1 : Value) (wr : World) : Prop :=
  ∃ i v o : Nat, i ≤ 10 ∧ i ≤ D.length ∧ v1 = .int .u64 (v : Int) ∧ o1 = .int .u64 (o : Int) ∧ i1 = .int .i64 (i : Int) ∧ v = dsum (D.take i) % 2 ^ 64 ∧ o = 128 ^ i % 2 ^ 64 ∧ (∀ j, j < i → 128 ≤ (D.getD j 0).toNat) ∧ Below w.heap.size w wr

theorem wrap_u64_nat (x : Nat) : IntKind.u64.wrap (x : Int) = ((x % 2 ^ 64 : Nat) : Int) := by
  rw [IntKind.wrap_u64, Int.natCast_emod]; rfl
theorem digit_sum (D : List UInt8) (i v o : Nat) (x : UInt8) (hiD : i < D.length) (hv : v = dsum (D.take i) % 2 ^ 64) (ho : o = 128 ^ i % 2 ^ 64) (hx : D.getD i 0 = x) :
    IntKind.u64.wrap ((v : Int) + IntKind.u64.wrap ((o : Int) * ((x.toNat : Int) % 128))) = ((dsum (D.take (i + 1)) % 2 ^ 64 : Nat) : Int) := by
  have e1 : (o : Int) * ((x.toNat : Int) % 128) = ((o * (x.toNat % 128) : Nat) : Int) := by rw [Int.natCast_mul, Int.natCast_emod]; rfl
  have e2 : D.take (i + 1) = D.take i ++ [x] := by
    rw [List.take_succ_eq_append_getElem hiD, ← hx]; simp [List.getD, hiD]
  rw [e1, wrap_u64_nat, ← Int.natCast_add, wrap_u64_nat, e2, dsum_snoc, List.length_take, Nat.min_eq_left (by omega), hv, ho]
  congr 1
  rw [Nat.add_mod, Nat.mod_mod, Nat.mod_mod, Nat.mod_mul_mod, ← Nat.add_mod]
theorem digit_one (i o : Nat) (ho : o = 128 ^ i % 2 ^ 64) : IntKind.u64.wrap ((o : Int) * 128) = ((128 ^ (i + 1) % 2 ^ 64 : Nat) : Int) := by
  have e1 : (o : Int) * 128 = ((o * 128 : Nat) : Int) := by rw [Int.natCast_mul]; rfl
  rw [e1, wrap_u64_nat, ho, Nat.pow_succ 128 i]
  congr 1
  rw [Nat.mod_mul_mod]

set_option maxRecDepth 100000 in
set_option maxHeartbeats 2000000 in
theorem readUint_pos (A : Option Addr) (n c at0 : Nat) (l : List UInt8) (w : World) (hr : RB w A n l) (hn : n ≤ 140737488355328) (hat : at0 ≤ 9223372036854775807) :
    Calls Tryd.prog 69 #[.slice A n c, .int .i64 (at0 : Int)] w (RPost w (rd (l.drop at0)) at0) := by
  have HR := Lib.hid hr
  have hlen := hr.len
  have hDl : (l.drop at0).length = n - at0 := by rw [List.length_drop, hlen]
  have HL := Lib.hid hlen
  have HDL := Lib.hid hDl
  clear hr hlen hDl
  go_enter Tryd.func69, Tryd.ntmps69
  go_wp2_with fail
  go_loopw [7, 8, 9] (fun v1 o1 i1 wr => QRel w (l.drop at0) v1 o1 i1 wr) (fun _ _ i _ => 10 - (intOf i).toNat)
  case atStart => exact ⟨0, 0, 1, by omega, Nat.zero_le _, rfl, rfl, rfl, by simp [dsum], by decide, fun j hj => absurd hj (by omega), Below.refl _ _⟩
  case round =>
    obtain ⟨i, v, o, hi, hiD, rfl, rfl, rfl, hv, ho, hall, hbel⟩ := hrel
    have hi2 : i ≤ n - at0 := by have := HDL.out; omega
    have HV := Lib.hid hv
    have HO := Lib.hid ho
    have HA := Lib.hid hall
    have hvb : v ≤ 18446744073709551615 := by have : (2 : Nat) ^ 64 = 18446744073709551616 := by decide
                                              have := Nat.mod_lt (dsum ((l.drop at0).take i)) (Nat.two_pow_pos 64); omega
    have hob : o ≤ 18446744073709551615 := by have : (2 : Nat) ^ 64 = 18446744073709551616 := by decide
                                              have := Nat.mod_lt (128 ^ i) (Nat.two_pow_pos 64); omega
    clear hv ho hall hiD
    by_cases hlt : i < 10 ∧ at0 + i < n
    · obtain ⟨h10, hin⟩ := hlt
      obtain ⟨ad, rfl, hb1, hc1⟩ := (HR.out.keep hbel).at_ hin
      have hx8 : (l.getD (at0 + i) 0).toNat < 256 := (l.getD (at0 + i) 0).toNat_lt
      have hgD : (l.drop at0).getD i 0 = l.getD (at0 + i) 0 := by simp [List.getD]
      have HG := Lib.hid hgD
      clear hgD
      generalize l.getD (at0 + i) 0 = x at hc1 hx8 HG
      have g0 : (at0 : Int) < (n : Int) := by omega
      have g1 : (at0 : Int) + (i : Int) < (n : Int) := by omega
      have g2 : (i : Int) < (n : Int) - (at0 : Int) := by omega
      have hDlt : i < (l.drop at0).length := by have := HDL.out; omega
      have wv := digit_sum (l.drop at0) i v o x hDlt HV.out HO.out HG.out
      have wo := digit_one i o HO.out
      by_cases h128 : x.toNat < 128
      · obtain ⟨V, hV⟩ : ∃ V, V = dsum ((l.drop at0).take (i + 1)) % 2 ^ 64 := ⟨_, rfl⟩
        rw [← hV] at wv
        have hfd := ref_found (l.drop at0) i HA.out (by rw [HG.out]; exact h128)
        rw [← hV] at hfd
        have hVl : V < 2 ^ 64 := by rw [hV]; exact Nat.mod_lt _ (Nat.two_pow_pos 64)
        have HF := Lib.hid hfd
        have HVl := Lib.hid hVl
        have h128' : (x.toNat : Int) < 128 := by omega
        clear hV hfd hVl wo
        go_wp2_with fail
        refine (uintR_any V _ HVl.out).mono ?_
        rintro e w1 ⟨b, rfl, hown, hb⟩
        obtain ⟨A1, c1, rfl, hs1⟩ := own_sb hown
        have S1 := Lib.hid hs1.rb
        have R1 := Lib.hid ((HR.out.keep hbel).keep hb)
        have B1 := Lib.hid (hbel.trans (hb.mono hbel.size))
        clear hown hs1 hb wv
        have hpl := put_len V
        generalize hm : (put V).length = m at S1 hpl HF ⊢
        have HM := Lib.hid hm
        clear hm
        by_cases hlen : m = i + 1
        · have htest : ((m : Int) == (i : Int) + 1) = true := by rw [beq_iff_eq]; omega
          have HLn := Lib.hid hlen
          have hmn : at0 + m ≤ n := by omega
          clear hlen
          go_wp2_with fail
          refine (begins_any _ _ n c m c1 at0 l (put V) _ R1.out S1.out hmn hn).mono ?_
          rintro e w2 ⟨rfl, hb2⟩
          have B2 := Lib.hid (B1.out.trans (hb2.mono B1.out.size))
          clear hb2
          by_cases hbeg : (l.drop at0).take m = put V
          · rw [decide_eq_true hbeg]
            have hR : rd (l.drop at0) = some (V, m) := by rw [HF.out, if_pos ⟨HLn.out, by rw [← HLn.out]; exact hbeg⟩, HLn.out]
            have HRR := Lib.hid hR
            clear hR hbeg
            go_wp2_with fail
            go_ret3
            exact RPost.good HRR.out (by omega) B2.out
          · rw [decide_eq_false hbeg]
            have hR : rd (l.drop at0) = none := by rw [HF.out, if_neg (fun h => hbeg (by rw [HLn.out]; exact h.2))]
            have HRR := Lib.hid hR
            clear hR hbeg
            go_wp2_with fail
            go_ret3
            exact RPost.bad HRR.out B2.out
        · have htest : ((m : Int) == (i : Int) + 1) = false := by rw [beq_eq_false_iff_ne]; omega
          have hR : rd (l.drop at0) = none := by rw [HF.out, if_neg (fun h => hlen h.1)]
          have HRR := Lib.hid hR
          clear hR hlen
          go_wp2_with fail
          go_ret3
          exact RPost.bad HRR.out B1.out
      · have h128' : (128 : Int) ≤ (x.toNat : Int) := by omega
        have hall1 : ∀ j, j < i + 1 → 128 ≤ ((l.drop at0).getD j 0).toNat := by
          intro j hj
          rcases Nat.lt_or_ge j i with h | h
          · exact HA.out j h
          · obtain rfl : j = i := by omega
            rw [HG.out]; omega
        have HA1 := Lib.hid hall1
        have WV := Lib.hid wv
        have WO := Lib.hid wo
        clear hall1 wv wo
        go_wp2_with fail
        go_roundw
        case rel => exact ⟨i + 1, _, _, by omega, by omega, by rw [WV.out], by rw [WO.out], by go_num, rfl, rfl, HA1.out, hbel⟩
        case measure => simp [intOf]; omega
    · have hR : rd (l.drop at0) = none := ref_none (l.drop at0) i HA.out (by have := HDL.out; omega)
      have HRR := Lib.hid hR
      clear hR
      by_cases h10 : i < 10
      · have hge : n ≤ at0 + i := by omega
        by_cases ha : at0 < n
        · have g2 : (n : Int) - (at0 : Int) ≤ (i : Int) := by omega
          go_wp2_with fail
          go_ret3
          exact RPost.bad HRR.out hbel
        · go_wp2_with fail
          go_ret3
          exact RPost.bad HRR.out hbel
      · go_wp2_with fail
        go_ret3
        exact RPost.bad HRR.out hbel
theorem readUint_neg (A : Option Addr) (n c : Nat) (at0 : Int) (w : World) (hat : at0 < 0) :
    Calls Tryd.prog 69 #[.slice A n c, .int .i64 at0] w fun e w' => e = .returned (.tuple #[.int .u64 0, .int .i64 0, .bool false]) ∧ w = w' := by
  go_enter Tryd.func69, Tryd.ntmps69
  go_wp2_with fail
  go_loop [9] (fun i => i = .int .i64 0) (fun i => (intOf i).toNat)
  case atStart => rfl
  case round =>
    subst hrel
    go_wp2_with fail
    go_ret3
    exact ⟨rfl, rfl⟩

theorem readUint_any (A : Option Addr) (n c : Nat) (at0 : Int) (l : List UInt8) (w : World) (hs : RB w A n l) (hn : n ≤ 140737488355328) (hat : at0 ≤ 9223372036854775807) :
    Calls Tryd.prog 69 #[.slice A n c, .int .i64 at0] w (UPost w l at0) := by
  by_cases h : at0 < 0
  · refine (readUint_neg A n c at0 w h).mono ?_
    rintro e w' ⟨rfl, rfl⟩
    unfold UPost uintOf
    rw [if_pos h]
    exact ⟨Below.refl _ _, rfl⟩
  · obtain ⟨k, rfl⟩ := Int.eq_ofNat_of_zero_le (by omega : 0 ≤ at0)
    unfold UPost uintOf
    rw [if_neg h]
    exact readUint_pos A n c k l w hs hn (by omega)

theorem uintOf_lt {l : List UInt8} {at0 : Int} {v k : Nat} (h : uintOf l at0 = some (v, k)) : v < 2 ^ 64 := by
  unfold uintOf at h
  split at h
  · cases h
  · exact (rd_sound _ _ _ h).1

theorem textOf_none {l : List UInt8} {at0 : Int} (h : uintOf l at0 = none) : textOf l at0 = none := by
  unfold textOf; unfold uintOf at h
  split
  · rfl
  · rename_i hn
    rw [if_neg hn] at h
    exact rdT_none h
theorem textOf_some {l : List UInt8} {at0 : Int} {v k : Nat} (h : uintOf l at0 = some (v, k)) : 0 ≤ at0 ∧ at0.toNat + k ≤ l.length ∧ textOf l at0 = if v ≤ l.length - (at0.toNat + k) then some ((l.drop (at0.toNat + k)).take v, k + v) else none := by
  unfold textOf; unfold uintOf at h
  split at h
  · cases h
  · rename_i hn
    have hs := rd_sound _ _ _ h
    have hp := put_pos v
    rw [List.length_drop] at hs
    rw [if_neg hn, rdT_some h, List.length_drop, List.drop_drop, Nat.sub_sub]
    exact ⟨by omega, by omega, rfl⟩

set_option maxRecDepth 100000 in
set_option maxHeartbeats 1000000 in
theorem readText_any (A : Option Addr) (n c : Nat) (at0 : Int) (l : List UInt8) (w : World) (hs : SB w A n c l) (hn : n ≤ 140737488355328) (hat : at0 ≤ 9223372036854775807) :
    Calls Tryd.prog 70 #[.slice A n c, .int .i64 at0] w (UTPost w l at0) := by
  have hcap := hs.cap
  have HC := Lib.hid (readUint_any A n c at0 l w hs.rb (by omega) hat)
  have HS := Lib.hid hs
  clear hs
  go_enter Tryd.func70, Tryd.ntmps70
  go_wp2_with fail
  refine HC.out.mono ?_
  intro e w1 hpost
  unfold UPost at hpost
  generalize hR : uintOf l at0 = R at hpost
  have HRR := Lib.hid hR
  clear hR HC
  rcases R with _ | ⟨v, k⟩
  · obtain ⟨hb, rfl⟩ := hpost
    go_wp2_with fail
    go_ret3
    exact RTPost.bad (textOf_none HRR.out) hb
  · obtain ⟨hb, rfl⟩ := hpost
    obtain ⟨h0, hle, hT⟩ := textOf_some HRR.out
    rw [HS.out.rb.len] at hle hT
    obtain ⟨a1, ha1⟩ : ∃ a1, a1 = at0.toNat + k := ⟨_, rfl⟩
    rw [← ha1] at hle hT ⊢
    have HA1 := Lib.hid ha1
    have HT := Lib.hid hT
    have SW := Lib.hid (HS.out.keep hb)
    have HB := Lib.hid hb
    clear ha1 hT hb
    by_cases hbig : v ≤ n - a1
    · have hp := RB.part SW.out.rb SW.out.cap (lo := a1) (m := v) (by omega)
      have hstr := RB.run_string (P := Tryd.prog) (RB.of_reads hp) (c - a1) 25 5 9 Tryd.underlying25 Tryd.underlying5 Tryd.underlying9
      have hb' : (v : Int) ≤ (n : Int) - (a1 : Int) := by omega
      have hfin := Lib.hid (show textOf l at0 = some ((l.drop a1).take v, k + v) by rw [HT.out, if_pos hbig])
      clear hp
      by_cases hca : c = a1
      · have hv0 : v = 0 := by omega
        subst hv0
        rw [if_pos hca] at hstr
        have HCA := Lib.hid hca
        have hca' : (c : Int) = (a1 : Int) := by omega
        clear hca
        go_wp2_with fail
        go_ret3
        exact RTPost.good (v := (l.drop a1).take 0) hfin.out (by have := HA1.out; omega) HB.out
      · rcases A with _ | ad
        · exact absurd (SW.out.nil rfl) (by omega)
        rw [if_neg hca] at hstr
        simp only [Option.map_some] at hstr
        have hca' : ¬ (c : Int) = (a1 : Int) := by omega
        go_wp2_with fail
        go_ret3
        exact RTPost.good hfin.out (by have := HA1.out; omega) HB.out
    · have hb' : (n : Int) - (a1 : Int) < (v : Int) := by omega
      have hfin := Lib.hid (show textOf l at0 = none by rw [HT.out, if_neg hbig])
      go_wp2_with fail
      go_ret3
      exact RTPost.bad hfin.out HB.out
end Go.Proofs.YtkllfnaofapfnaaDoor.Cod
