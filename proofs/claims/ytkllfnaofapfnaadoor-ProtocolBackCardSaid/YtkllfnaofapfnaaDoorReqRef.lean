/-
  The contracts of small functions of package henkanref42: in, has, flag, uints. Conditions: the numbers can be read, none is negative.
-/
import Derived.Test.YtkllfnaofapfnaaDoorProtEnc
namespace Go.Proofs.YtkllfnaofapfnaaDoor.Prot
open Go.RowKit Wd Utf Cod

theorem in_any (z lo hi : Int) (w : World) : Calls Tryd.prog 65 #[.int .i64 z, .int .i64 lo, .int .i64 hi] w fun e w' => e = .returned (.bool (nb z lo hi)) ∧ w = w' := by
  by_cases h1 : lo ≤ z
  · by_cases h2 : z ≤ hi
    · rw [nb_true h1 h2]
      go_enter Tryd.func65, Tryd.ntmps65
      go_wp2_with fail
      go_ret
      exact ⟨rfl, rfl⟩
    · rw [nb_false (fun h => h2 h.2)]
      have h2' : hi < z := by omega
      go_enter Tryd.func65, Tryd.ntmps65
      go_wp2_with fail
      go_ret
      exact ⟨rfl, rfl⟩
  · rw [nb_false (fun h => h1 h.1)]
    have h1' : z < lo := by omega
    go_enter Tryd.func65, Tryd.ntmps65
    go_wp2_with fail
    go_ret
    exact ⟨rfl, rfl⟩
theorem hasS_nb (z : Int) : hasS z = (nb z 2 5 || z == 9) := by
  rw [Bool.eq_iff_iff]
  simp only [hasS, nb, Bool.or_eq_true, decide_eq_true_eq, beq_iff_eq]
  omega
theorem has_any (z : Int) (w : World) : Calls Tryd.prog 47 #[.int .i64 z] w fun e w' => e = .returned (.bool (hasS z)) ∧ w = w' := by
  rw [hasS_nb]
  rcases h : nb z 2 5 with _ | _
  all_goals
    have H := Lib.hid h
    clear h
    go_enter Tryd.func47, Tryd.ntmps47
    go_wp2_with fail
    refine (in_any z 2 5 _).mono ?_
    rintro e wq ⟨rfl, rfl⟩
    rw [H.out]
    go_wp2_with fail
    go_ret
    exact ⟨rfl, rfl⟩
theorem flag_any (b : Bool) (w : World) : Calls Tryd.prog 49 #[.bool b] w fun e w' => e = .returned (.int .i64 ((bitN b : Nat) : Int)) ∧ w = w' := by
  rcases b with _ | _
  all_goals
    go_enter Tryd.func49, Tryd.ntmps49
    go_wp2_with fail
    go_ret
    exact ⟨rfl, rfl⟩
theorem uints_snoc {l : List Int} {j : Nat} (h : j < l.length) : (l.take (j + 1)).flatMap (fun z => put z.toNat) = (l.take j).flatMap (fun z => put z.toNat) ++ put (l.getD j 0).toNat := by
  rw [List.take_succ_eq_append_getElem h, List.flatMap_append]
  simp [List.getD, h]
set_option maxRecDepth 100000 in
set_option maxHeartbeats 2000000 in
theorem uints_any (A : Option Addr) (n c : Nat) (zs : List Int) (w : World) (h : RI .i64 w A n zs) (hn : n ≤ 100000) (hz : ∀ z ∈ zs, 0 ≤ z ∧ z ≤ 9223372036854775807) :
    Calls Tryd.prog 46 #[.slice A n c] w fun e w' => ∃ b L, e = .returned b ∧ w'.ownsRow w.heap.size 5 1 b L (bs (zs.flatMap fun z => put z.toNat)) ∧ L ≤ 10 * n ∧ Below w.heap.size w w' := by
  obtain ⟨i0, hi, hz0, hz1, hz2⟩ := info_parts Tryd.infoU8
  have HI := Lib.hid hi
  have H := Lib.hid h
  have HZ := Lib.hid hz
  have HLEN := Lib.hid h.len
  clear h hi hz
  go_enter Tryd.func46, Tryd.ntmps46
  go_wp2_with fail
  go_loopw [3, 4] (fun b i wr => ∃ (k L : Nat), k ≤ n ∧ i = .int .i64 (k : Int) ∧ wr.ownsRow w.heap.size 5 1 b L (bs ((zs.take k).flatMap fun z => put z.toNat)) ∧ L ≤ 10 * k ∧ Below w.heap.size w wr) (fun _ i _ => n - (intOf i).toNat)
  case atStart => exact ⟨0, 0, Nat.zero_le _, rfl, World.ownsRow_nil _ _ _ _, by omega, Below.refl _ _⟩
  case round =>
    obtain ⟨k, L, hk, rfl, hown, hL, hb⟩ := hrel
    have OWN := Lib.hid hown
    have B0 := Lib.hid hb
    clear hown
    by_cases hlt : k < n
    · obtain ⟨ad, rfl, hbl, hc⟩ := H.out.at_ hlt
      have hc' := (hb.cell (p := ad.add k) (by rw [block_of_add]; exact hbl)).trans hc
      have hkl : k < zs.length := by rw [HLEN.out]; exact hlt
      have hzk := HZ.out (zs.getD k 0) (by rw [List.getD, List.getElem?_eq_getElem hkl, Option.getD_some]; exact List.getElem_mem _)
      have HSN := Lib.hid (uints_snoc hkl)
      obtain ⟨zn, hzn⟩ := Int.eq_ofNat_of_zero_le hzk.1
      rw [hzn] at hc' hzk HSN
      have hpl := put_len zn
      have hwz : IntKind.u64.wrap (zn : Int) = (zn : Int) := by rw [IntKind.wrap_u64]; omega
      have hz64 : zn < 2 ^ 64 := Nat.lt_of_le_of_lt (show zn ≤ 9223372036854775807 by omega) (by decide)
      have HU := Lib.hid (uintR_any zn wr hz64)
      clear hb hc hkl hzn hz64
      go_wp2_with fail
      refine HU.out.mono ?_
      rintro e w1 ⟨b1, rfl, ho1, hb1⟩
      obtain ⟨A1, c1, rfl, hs1⟩ := own_sb ho1
      have S1 := Lib.hid hs1
      have O1 := Lib.hid (own_keep OWN.out hb1)
      have B1 : Hid (Below w.heap.size w w1) := Lib.hid (B0.out.trans (hb1.mono B0.out.size))
      have hz1' := B1.out.size
      clear ho1 hs1 hb1 HU
      go_wp2_with (at_builtin; refine wpList_append_any _ rfl (.tmp 11) (.tmp 17) _ rfl w.heap.size 5 i0 _ 1 1 Tryd.underlying25 HI.out hz0 hz1 hz2 rfl (by decide) _ L _ rfl O1.out _ A1 (put zn).length c1 (bs (put zn)) rfl S1.out.rb (bs_one _) (by unfold maxLen; omega) (by omega) (by omega) ?_; intro v2 w2 hown2 hg2 hat2; have O2 := Lib.hid hown2; have B2 : Hid (Below w.heap.size w w2) := Lib.hid (own_below B1.out (Nat.le_refl _) O1.out (Nat.le_refl _) hg2); clear hown2 hg2 hat2)
      go_roundw
      case rel => exact ⟨k + 1, L + (put zn).length, by omega, by go_num, by rw [HSN.out, bs_append]; exact O2.out, by omega, B2.out⟩
      case measure => simp [intOf]; omega
    · obtain rfl : k = n := by omega
      have HT : Hid (zs.take k = zs) := Lib.hid (List.take_of_length_le (by rw [HLEN.out]; omega))
      go_wp2_with fail
      go_ret
      have h2 := OWN.out
      rw [HT.out] at h2
      exact ⟨_, L, rfl, h2, hL, B0.out⟩
end Go.Proofs.YtkllfnaofapfnaaDoor.Prot
