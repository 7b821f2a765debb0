/-
  The contract of the reference's Split: the parts of a file. Conditions: the bytes can be read, within the form's reach.
-/
import Derived.Test.YtncnocejmbfhaaaDoorSecGuess
namespace Go.Proofs.YtncnocejmbfhaaaDoor.Sec
open Go.RowKit Wd Cod Crc

/-- how the reference's Split ends -/
def SplPostR (w : World) (b : List UInt8) (e : Ending) (w' : World) : Prop :=
  Below w.heap.size w w' ∧ ∃ (A : Option Addr) (n c : Nat) (ps : List PV) (z : Nat), e = .returned (.tuple #[.slice A n c, .int .i64 ((z : Nat) : Int)]) ∧ OQ 47 w.heap.size w' A n c ps ∧ n ≤ 64 ∧ Room ps ∧ Spl b z (pts ps)
theorem SplPostR.bad {w w' : World} {b : List UInt8} {z : Nat} (hb : Below w.heap.size w w') (h : Spl b z []) : SplPostR w b (.returned (.tuple #[.slice none 0 0, .int .i64 (z : Int)])) w' :=
  ⟨hb, none, 0, 0, [], z, rfl, OQ.nil _ _ _, Nat.zero_le _, Room.nil, h⟩
theorem splR_none {b : List UInt8} (h0 : code0 b = 0) (h : ∀ L, chk L = 0 → file L ≠ b) : Spl b 5 [] := .inr (.inr ⟨h0, rfl, rfl, h⟩)
theorem splR_bad {b : List UInt8} {l : List Pt} (h0 : code0 b = 0) (h : ∀ L, chk L = 0 → file L = b → l = L) (hl : chk l ≠ 0 ∨ file l ≠ b) : Spl b 5 [] :=
  .inr (.inr ⟨h0, rfl, rfl, fun L hc hf => by
    obtain rfl := h L hc hf
    rcases hl with hl | hl
    · exact hl hc
    · exact hl hf⟩)

set_option maxRecDepth 100000 in
set_option maxHeartbeats 2000000 in
theorem splitR_any (A : Option Addr) (nb c : Nat) (l : List UInt8) (w : World) (hs : SB w A nb c l) (hn : nb ≤ 1073741824) :
    Calls Tryd.prog 18 #[.slice A nb c] w (SplPostR w l) := by
  have HS := Lib.hid hs
  have HLEN := Lib.hid hs.rb.len
  have hcap := hs.cap
  clear hs
  by_cases h9 : nb < 9
  · have HP := Lib.hid (spl_form (b := l) (.inl (by rw [HLEN.out]; exact h9)))
    go_enter Tryd.func18, Tryd.ntmps18
    go_wp2_with fail
    go_ret2
    exact SplPostR.bad (Below.refl _ _) HP.out
  · rcases A with _ | ad
    · exact absurd (HS.out.nil rfl) (by omega)
    obtain ⟨m, rfl⟩ : ∃ m, nb = m + 4 := ⟨nb - 4, by omega⟩
    have Q4 := Lib.hid (RB.upto HS.out.rb (k := 4) (by omega))
    by_cases h5 : l.take 4 = magic
    case neg =>
      have HP := Lib.hid (spl_form (b := l) (.inr h5))
      have h5' : (l.take 4 == magic) = false := by rw [beq_eq_false_iff_ne]; exact h5
      clear h5
      go_enter Tryd.func18, Tryd.ntmps18
      go_wp2_with fail
      refine (same_any (some ad) _ 4 c 4 4 (l.take 4) magic _ (Q4.out.alloc _) (sb_lit w _ _ _ 4 _ magic rfl rfl rfl).rb).mono ?_
      rintro e w1 ⟨rfl, rfl⟩
      rw [h5']
      go_wp2_with fail
      go_ret2
      exact SplPostR.bad ((Below.refl _ _).alloc (Nat.le_refl _) _) HP.out
    case pos =>
      have H5 := Lib.hid h5
      have h5' : (l.take 4 == magic) = true := by rw [beq_iff_eq]; exact h5
      have hp1 := RB.part HS.out.rb HS.out.cap (lo := m) (m := 4) (by omega)
      have hp2 := RB.upto HS.out.rb (k := m) (by omega)
      have hd4 : (l.drop m).take 4 = l.drop m := List.take_of_length_le (by rw [List.length_drop, HLEN.out]; omega)
      rw [if_neg (by omega), Option.map_some, hd4] at hp1
      have P1 := Lib.hid (RB.of_reads hp1)
      have P2 := Lib.hid hp2
      clear h5 hp1 hp2 hd4
      go_enter Tryd.func18, Tryd.ntmps18
      go_wp2_with fail
      refine (same_any (some ad) _ 4 c 4 4 (l.take 4) magic _ (Q4.out.alloc _) (sb_lit w _ _ _ 4 _ magic rfl rfl rfl).rb).mono ?_
      rintro e w0 ⟨rfl, hw0⟩
      rw [h5']
      have B0 : Hid (Below w.heap.size w w0) := Lib.hid (by subst hw0; exact (Below.refl _ _).alloc (Nat.le_refl _) _)
      have P10 := Lib.hid (P1.out.keep B0.out)
      have P20 := Lib.hid (P2.out.keep B0.out)
      clear hw0 P1 P2 Q4
      have e1 : (m : Int) + 4 - 4 = (m : Int) := by omega
      have e2 : (0 : Int) ≤ (m : Int) := by omega
      have e3 : (m : Int) ≤ (m : Int) + 4 := by omega
      have e4 : (m : Int) ≤ (c : Int) := by omega
      have e5 : (m : Int) + 4 ≤ (c : Int) := by omega
      have e6 : IntKind.i64.wrap ((m : Int) + 4 - 4) = (m : Int) := by rw [IntKind.wrap_i64]; omega
      have e7 : IntKind.i64.wrap (m : Int) = (m : Int) := by rw [IntKind.wrap_i64]; omega
      go_wp2_with fail
      go_region_held3 (fun _ => True) (exact trivial)
        (first
          | (go_at_call 30; (with_reducible refine (sumR_any (some ad) m c (l.take m) _ ?_ (by omega)).mono ?_); (· exact P20.out); rintro e wS ⟨rfl, rfl⟩)
          | (go_at_call 29; (with_reducible refine (fourR_any (Crc.add 0#32 (l.take m)) _).mono ?_); rintro e w1 ⟨b1, rfl, hown1, hb1⟩; obtain ⟨A1, c1, rfl, hs1⟩ := own_sb hown1; have S1 := Lib.hid hs1; have B1 : Hid (Below w.heap.size w w1) := Lib.hid (by exact (B0.out.drew).trans (hb1.mono B0.out.size)); have Q1 := Lib.hid (RB.keep (w := w0.drew) (by exact P10.out) hb1); clear hown1 hs1 hb1)
          | (go_at_call 31; (with_reducible refine (same_any (some (ad.add m)) A1 4 (c - m) 4 c1 (l.drop m) (four (Crc.add 0#32 (l.take m))) _ ?_ ?_).mono ?_); (· exact Q1.out); (· exact S1.out.rb); rintro e w2 ⟨rfl, rfl⟩))
      clear e1 e2 e3 e4 e5 e6 e7 P10 P20
      by_cases hsum : l.drop m = four (Crc.add 0#32 (l.take m))
      case neg =>
        have hq : (l.drop m == four (Crc.add 0#32 (l.take m))) = false := by rw [beq_eq_false_iff_ne]; exact hsum
        have HP := Lib.hid (spl_sum HLEN.out (by rw [HLEN.out]; omega) H5.out hsum)
        clear hsum
        rw [hq]
        go_wp2_with fail
        go_ret2
        exact SplPostR.bad B1.out HP.out
      case pos =>
        have H0 := Lib.hid (code_zero HLEN.out (by rw [HLEN.out]; omega) H5.out hsum)
        have hq : (l.drop m == four (Crc.add 0#32 (l.take m))) = true := by rw [beq_iff_eq]; exact hsum
        clear hsum
        rw [hq]
        go_wp2_with fail
        refine (guess_any ad (m + 4) c l _ (HS.out.keep B1.out) (by omega) (by omega)).mono ?_
        rintro e w3 ⟨hb3, A3, n3, c3, okb, rfl, hcase⟩
        have B3 : Hid (Below w.heap.size w w3) := Lib.hid (B1.out.trans (hb3.mono B1.out.size))
        rcases hcase with ⟨rfl, hnone⟩ | ⟨rfl, ps, hrp, hn64, hroom, hall⟩
        · have HN := Lib.hid (splR_none H0.out hnone)
          clear hnone hb3
          go_wp2_with fail
          go_ret2
          exact SplPostR.bad B3.out HN.out
        · have HRP := Lib.hid (hrp.lower B1.out.size)
          have HR := Lib.hid hroom
          have HA := Lib.hid hall
          clear hrp hroom hall hb3
          go_wp2_with fail
          refine (joinR_any A3 n3 c3 ps _ HRP.out.rp HR.out (by omega)).mono ?_
          rintro e w4 ⟨hb4, hj⟩
          have RP4 := Lib.hid (HRP.out.keep hb4)
          have B4 : Hid (Below w.heap.size w w4) := Lib.hid (B3.out.trans (hb4.mono B3.out.size))
          rcases hj with ⟨hck, v, rfl, hown⟩ | ⟨hck, rfl⟩
          · obtain ⟨A5, c5, rfl, hs5⟩ := own_sb hown
            have HCK := Lib.hid hck
            have S5 := Lib.hid hs5.rb
            clear hck hown hs5 hb4
            obtain ⟨N, hN⟩ : ∃ N, N = (file (pts ps)).length := ⟨_, rfl⟩
            rw [← hN] at S5 ⊢
            clear hN
            go_wp2_with fail
            refine (same_any (some ad) A5 (m + 4) c N c5 l (file (pts ps)) _ (HS.out.rb.keep B4.out) S5.out).mono ?_
            rintro e w5 ⟨rfl, rfl⟩
            by_cases hf : file (pts ps) = l
            · have hq : (l == file (pts ps)) = true := by rw [beq_iff_eq]; exact hf.symm
              have HP := Lib.hid (spl_good H0.out HCK.out hf)
              clear hf
              rw [hq]
              go_wp2_with fail
              go_ret2
              exact ⟨B4.out, A3, n3, c3, ps, 0, rfl, RP4.out, hn64, HR.out, HP.out⟩
            · have hq : (l == file (pts ps)) = false := by rw [beq_eq_false_iff_ne]; exact fun h => hf h.symm
              have HP := Lib.hid (splR_bad H0.out HA.out (.inr hf))
              clear hf
              rw [hq]
              go_wp2_with fail
              go_ret2
              exact SplPostR.bad B4.out HP.out
          · have hne := ne_bool hck
            have HP := Lib.hid (splR_bad H0.out HA.out (.inl hck))
            clear hck hb4
            generalize chk (pts ps) = z at hne ⊢
            go_wp2_with fail
            go_ret2
            exact SplPostR.bad B4.out HP.out
end Go.Proofs.YtncnocejmbfhaaaDoor.Sec
