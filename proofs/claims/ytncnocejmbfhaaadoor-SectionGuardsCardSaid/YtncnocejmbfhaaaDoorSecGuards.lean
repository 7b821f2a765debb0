/-
  The walk of the law SectionGuards. Conditions: the arguments can be read, within the form's reach; the table of package crc holds its numbers. (Printed by gen/secguards.py.)
-/
import Derived.Test.YtncnocejmbfhaaaDoorSecSplits
namespace Go.Proofs.YtncnocejmbfhaaaDoor.Sec
open Go.RowKit Wd Cod Crc

theorem upd_ne (x : UInt8) (z : Nat) (h0 : 0 < z) (h1 : z ≤ 255) : UInt8.ofNat ((x.toNat + z) % 256) ≠ x := by
  intro e
  have h := congrArg UInt8.toNat e
  rw [toNat_small _ (Nat.mod_lt _ (by decide))] at h
  have := x.toNat_lt
  omega

set_option maxRecDepth 100000 in
set_option maxHeartbeats 2000000 in
theorem guards_any (A : Option Addr) (n c : Nat) (ps : List PV) (z1 z2 : Int) (w : World) (ht : Tab w) (h : RP w A n ps) (hf : Fit ps) (hn : n ≤ 140737488355328) (b1 : -9223372036854775808 ≤ z1 ∧ z1 ≤ 9223372036854775807) (b2 : 0 ≤ z2 ∧ z2 ≤ 255) :
    Calls Tryd.prog 7 #[.slice A n c, .int .i64 z1, .int .u8 z2] w fun e w' => e = .returned (.bool true) ∧ Below w.heap.size w w' := by
  have T_0 := Lib.hid ht
  have H_0 := Lib.hid h
  have B_0 : Hid (Below w.heap.size w w) := Lib.hid (Below.refl _ _)
  have HFEW := Lib.hid (few_any A n c ps w h hf hn)
  clear ht h hn
  rcases hfew : fewB ps with _ | _
  · rw [hfew] at HFEW
    go_enter Tryd.func7, Tryd.ntmps7
    go_wp2_with fail
    refine HFEW.out.mono ?_
    rintro e wq ⟨rfl, rfl⟩
    go_wp2_with fail
    go_ret
    exact ⟨rfl, B_0.out⟩
  · obtain ⟨hroom, h80, h5, hnm⟩ := fewB_room hfew
    rw [hfew] at HFEW
    rw [H_0.out.len] at h80
    have HR := Lib.hid hroom
    clear hroom h5 hnm hfew
    go_enter Tryd.func7, Tryd.ntmps7
    go_wp2_with fail
    refine HFEW.out.mono ?_
    rintro e wq ⟨rfl, rfl⟩
    clear HFEW
    go_wp2_with fail
    refine (join_any A n c ps _ T_0.out H_0.out HR.out (by omega)).mono ?_
    rintro e w1 ⟨hb1, hj⟩
    have T_1 := Lib.hid (T_0.out.keep' hb1)
    have H_1 := Lib.hid (H_0.out.keep hb1)
    have B_1 := Lib.hid (B_0.out.trans (hb1.mono B_0.out.size))
    clear B_0
    clear hb1
    rcases hj with ⟨hck, v2, rfl, hown2⟩ | ⟨hck, rfl⟩
    · skip
      have HNO := Lib.hid (fun k v m (h1 : k < (file (pts ps)).length) (h2 : v ≠ (file (pts ps))[k]) (h : file m = (file (pts ps)).set k v) => file_set k v h1 h2 h)
      have hlen : (file (pts ps)).length ≤ 1073741824 := file_room HR.out hck
      have hpos : 0 < (file (pts ps)).length := by have h1 := file_length (pts ps); omega
      obtain ⟨g, c2, rfl⟩ := own_some hown2 hpos
      clear hck
      generalize file (pts ps) = F at hown2 HNO hlen hpos ⊢
      obtain ⟨N2, hN2⟩ : ∃ N, N = F.length := ⟨_, rfl⟩
      rw [← hN2] at hown2 hlen hpos ⊢
      have OW := Lib.hid hown2
      have HN2 := Lib.hid hN2
      clear hown2 hN2
      by_cases c1 : z1 < 0
      · skip
        skip
        go_wp2_with fail
        refine (works_any _ T_1.out).mono ?_
        rintro e w2ab ⟨rfl, hb2ab⟩
        have T_2ab := Lib.hid (T_1.out.keep' hb2ab)
        clear T_1
        have H_2ab := Lib.hid (H_1.out.keep hb2ab)
        clear H_1
        have B_2ab := Lib.hid (B_1.out.trans (hb2ab.mono B_1.out.size))
        clear B_1
        clear hb2ab
        go_wp2_with fail
        go_ret
        exact ⟨rfl, B_2ab.out⟩
      · skip
        have c1' : 0 ≤ z1 := by omega
        by_cases c3 : (N2 : Int) ≤ z1
        · skip
          skip
          go_wp2_with fail
          refine (works_any _ T_1.out).mono ?_
          rintro e w2acd ⟨rfl, hb2acd⟩
          have T_2acd := Lib.hid (T_1.out.keep' hb2acd)
          clear T_1
          have H_2acd := Lib.hid (H_1.out.keep hb2acd)
          clear H_1
          have B_2acd := Lib.hid (B_1.out.trans (hb2acd.mono B_1.out.size))
          clear B_1
          clear hb2acd
          go_wp2_with fail
          go_ret
          exact ⟨rfl, B_2acd.out⟩
        · skip
          have c3' : z1 < (N2 : Int) := by omega
          by_cases c4 : z2 = 0
          · skip
            have c5 : (z2 == 0) = true := by rw [beq_iff_eq]; exact c4
            go_wp2_with fail
            refine (works_any _ T_1.out).mono ?_
            rintro e w2acef ⟨rfl, hb2acef⟩
            have T_2acef := Lib.hid (T_1.out.keep' hb2acef)
            clear T_1
            have H_2acef := Lib.hid (H_1.out.keep hb2acef)
            clear H_1
            have B_2acef := Lib.hid (B_1.out.trans (hb2acef.mono B_1.out.size))
            clear B_1
            clear hb2acef
            go_wp2_with fail
            go_ret
            exact ⟨rfl, B_2acef.out⟩
          · skip
            have c5 : (z2 == 0) = false := by rw [beq_eq_false_iff_ne]; exact c4
            obtain ⟨k, rfl⟩ := Int.eq_ofNat_of_zero_le c1'
            obtain ⟨y, rfl⟩ := Int.eq_ofNat_of_zero_le b2.1
            have hk : k < N2 := by omega
            have hkF : k < F.length := by rw [← HN2.out]; exact hk
            have cc : w1.cell? ⟨g, k, none⟩ = some (.int .u8 (F[k].toNat : Int)) := by rw [OW.out.cellAt k (by omega), bs_at F k hkF]
            have ff := OW.out.frozenAt k
            have hx := F[k].toNat_lt
            have hw : IntKind.u8.wrap ((F[k].toNat : Int) + (y : Int)) = (((F[k].toNat + y) % 256 : Nat) : Int) := by rw [IntKind.wrap_u8]; omega
            have hst := (OW.out.stored k (.int .u8 (((F[k].toNat + y) % 256 : Nat) : Int))).1
            rw [bs_set F k _ (Nat.mod_lt _ (by decide))] at hst
            have OW2 := Lib.hid hst
            have NEQ := Lib.hid (fun m => HNO.out k (UInt8.ofNat ((F[k].toNat + y) % 256)) m hkF (upd_ne _ y (by omega) (by omega)))
            have BB : Hid (Below w.heap.size w (w1.setCell ⟨g, k, none⟩ (.int .u8 (((F[k].toNat + y) % 256 : Nat) : Int)))) := Lib.hid (B_1.out.setCell (p := ⟨g, k, none⟩) (by have := (OW.out.lt g rfl).1; exact this) _)
            clear hst
            generalize F.set k (UInt8.ofNat ((F[k].toNat + y) % 256)) = F2 at OW2 NEQ
            generalize (F[k].toNat + y) % 256 = yy at hw OW2 BB
            generalize F[k].toNat = xx at cc hw hx
            have T_w := Lib.hid (T_0.out.keep' BB.out)
            have H_w := Lib.hid (H_0.out.keep BB.out)
            have S2 := Lib.hid (own_sb1 OW2.out)
            go_wp2_with fail
            refine (split_any (some ⟨g, 0, none⟩) N2 c2 F2 _ T_w.out S2.out (by omega)).mono ?_
            rintro e w2aceg ⟨hb2aceg, A3, n3, c3, q3, z, rfl, hop, hn3, hc3, hr3, hspl⟩
            have T_2aceg := Lib.hid (T_w.out.keep' hb2aceg)
            clear T_w
            have H_2aceg := Lib.hid (H_w.out.keep hb2aceg)
            clear H_w
            have S2_2aceg := Lib.hid (S2.out.keep hb2aceg)
            clear S2
            have B_2aceg := Lib.hid (BB.out.trans (hb2aceg.mono BB.out.size))
            clear BB
            clear hb2aceg
            rcases hspl.cases with ⟨_, _, hbad⟩ | ⟨hz, hnil⟩
            · exact absurd hbad (NEQ.out _)
            obtain rfl : n3 = 0 := by
              have h1 := congrArg List.length hnil
              rw [pts_length, hop.len] at h1
              exact h1
            clear hop hr3 hspl hnil hn3
            rcases hz with rfl | rfl
            · skip
              go_wp2_with fail
              refine (works_any _ T_2aceg.out).mono ?_
              rintro e w3acegh ⟨rfl, hb3acegh⟩
              have T_3acegh := Lib.hid (T_2aceg.out.keep' hb3acegh)
              clear T_2aceg
              have H_3acegh := Lib.hid (H_2aceg.out.keep hb3acegh)
              clear H_2aceg
              have S2_3acegh := Lib.hid (S2_2aceg.out.keep hb3acegh)
              clear S2_2aceg
              have B_3acegh := Lib.hid (B_2aceg.out.trans (hb3acegh.mono B_2aceg.out.size))
              clear B_2aceg
              clear hb3acegh
              go_wp2_with fail
              go_ret
              exact ⟨rfl, B_3acegh.out⟩
            · skip
              go_wp2_with fail
              refine (works_any _ T_2aceg.out).mono ?_
              rintro e w3acegi ⟨rfl, hb3acegi⟩
              have T_3acegi := Lib.hid (T_2aceg.out.keep' hb3acegi)
              clear T_2aceg
              have H_3acegi := Lib.hid (H_2aceg.out.keep hb3acegi)
              clear H_2aceg
              have S2_3acegi := Lib.hid (S2_2aceg.out.keep hb3acegi)
              clear S2_2aceg
              have B_3acegi := Lib.hid (B_2aceg.out.trans (hb3acegi.mono B_2aceg.out.size))
              clear B_2aceg
              clear hb3acegi
              go_wp2_with fail
              go_ret
              exact ⟨rfl, B_3acegi.out⟩
    · skip
      have hne := ne_bool hck
      clear hck
      generalize chk (pts ps) = z at hne
      go_wp2_with fail
      refine (works_any _ T_1.out).mono ?_
      rintro e w2z ⟨rfl, hb2z⟩
      have T_2z := Lib.hid (T_1.out.keep' hb2z)
      clear T_1
      have H_2z := Lib.hid (H_1.out.keep hb2z)
      clear H_1
      have B_2z := Lib.hid (B_1.out.trans (hb2z.mono B_1.out.size))
      clear B_1
      clear hb2z
      go_wp2_with fail
      go_ret
      exact ⟨rfl, B_2z.out⟩
end Go.Proofs.YtncnocejmbfhaaaDoor.Sec
