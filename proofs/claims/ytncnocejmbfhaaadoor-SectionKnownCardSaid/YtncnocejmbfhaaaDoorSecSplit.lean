/-
  The contract of Split of package section: the parts of a file. Conditions: the bytes can be read, within the form's reach; the table of package crc holds its numbers.
-/
import Derived.Test.YtncnocejmbfhaaaDoorSecPartsW
import Derived.Deep.RegionHeld3
namespace Go.Proofs.YtncnocejmbfhaaaDoor.Sec
open Go.RowKit Wd Cod Crc

/-- how Split ends -/
def SplPost (w : World) (b : List UInt8) (e : Ending) (w' : World) : Prop :=
  Below w.heap.size w w' ∧ ∃ (A : Option Addr) (n c : Nat) (ps : List PV) (z : Nat), e = .returned (.tuple #[.slice A n c, .int .i64 ((z : Nat) : Int)]) ∧ OP w.heap.size w' A n ps ∧ n ≤ 64 ∧ n ≤ c ∧ Room ps ∧ Spl b z (pts ps)
theorem RB.upto {w : World} {A : Option Addr} {n k : Nat} {l : List UInt8} (h : RB w A n l) (hk : k ≤ n) : RB w A k (l.take k) := by
  have := Reads.upto h hk
  rw [Nat.mul_one, bs_take] at this
  exact this
theorem OP.lower {lo lo' : Nat} {w : World} {A : Option Addr} {n : Nat} {ps : List PV} (h : OP lo w A n ps) (hl : lo' ≤ lo) : OP lo' w A n ps :=
  ⟨fun p hp => own_mono (h.own p hp) hl, by
    rcases h.blk with h0 | ⟨g, hg, rfl, hb⟩
    · exact .inl h0
    · exact .inr ⟨g, by omega, rfl, hb⟩, h.len⟩
theorem OP.nil (lo : Nat) (w : World) : OP lo w none 0 [] := ⟨fun p hp => (by cases hp), .inl rfl, rfl⟩
theorem Room.nil : Room [] := ⟨fun p hp => (by cases hp), by simp [pts, total]⟩
theorem SplPost.bad {w w' : World} {b : List UInt8} {z : Nat} (hb : Below w.heap.size w w') (h : Spl b z []) : SplPost w b (.returned (.tuple #[.slice none 0 0, .int .i64 (z : Int)])) w' :=
  ⟨hb, none, 0, 0, [], z, rfl, OP.nil _ _, Nat.zero_le _, Nat.le_refl _, Room.nil, h⟩
theorem spl_form {b : List UInt8} (h : b.length < 9 ∨ b.take 4 ≠ magic) : Spl b 5 [] := by
  have e : code0 b = 5 := by unfold code0; rw [if_pos h]
  exact .inl ⟨by rw [e]; decide, e.symm, rfl⟩
theorem spl_sum {b : List UInt8} {m : Nat} (hm : b.length = m + 4) (h9 : 9 ≤ b.length) (h4 : b.take 4 = magic) (h : b.drop m ≠ sum4 (b.take m)) : Spl b 11 [] := by
  have e : code0 b = 11 := by
    unfold code0
    rw [if_neg (fun hh => hh.elim (by omega) (fun x => x h4)), if_pos]
    rw [show b.length - 4 = m by omega]; exact h
  exact .inl ⟨by rw [e]; decide, e.symm, rfl⟩
theorem code_zero {b : List UInt8} {m : Nat} (hm : b.length = m + 4) (h9 : 9 ≤ b.length) (h4 : b.take 4 = magic) (h : b.drop m = sum4 (b.take m)) : code0 b = 0 := by
  unfold code0
  rw [if_neg (fun hh => hh.elim (by omega) (fun x => x h4)), if_neg]
  rw [show b.length - 4 = m by omega]; exact fun hh => hh h
theorem file_body {b : List UInt8} {m : Nat} {L : List Pt} (hm : b.length = m + 4) (h : file L = b) : body L = b.take m := by
  subst h
  rw [← file_take, hm]; rfl
theorem spl_none {b : List UInt8} {m : Nat} (h0 : code0 b = 0) (hm : b.length = m + 4) (h : ∀ L, chk L = 0 → body L ≠ b.take m) : Spl b 5 [] :=
  .inr (.inr ⟨h0, rfl, rfl, fun L hc hf => h L hc (file_body hm hf)⟩)
theorem spl_bad {b : List UInt8} {m : Nat} {l : List Pt} (h0 : code0 b = 0) (hm : b.length = m + 4) (h : ∀ L, chk L = 0 → body L = b.take m → l = L) (hl : chk l ≠ 0 ∨ file l ≠ b) : Spl b 5 [] :=
  .inr (.inr ⟨h0, rfl, rfl, fun L hc hf => by
    obtain rfl := h L hc (file_body hm hf)
    rcases hl with hl | hl
    · exact hl hc
    · exact hl hf⟩)
theorem spl_good {b : List UInt8} {l : List Pt} (h0 : code0 b = 0) (hl : chk l = 0) (hf : file l = b) : Spl b 0 l := .inr (.inl ⟨h0, rfl, hl, hf⟩)

set_option maxRecDepth 100000 in
set_option maxHeartbeats 2000000 in
theorem split_any (A : Option Addr) (nb c : Nat) (l : List UInt8) (w : World) (ht : Tab w) (hs : SB w A nb c l) (hn : nb ≤ 1073741824) :
    Calls Tryd.prog 17 #[.slice A nb c] w (SplPost w l) := by
  have HT := Lib.hid ht
  have HS := Lib.hid hs
  have HLEN := Lib.hid hs.rb.len
  have hcap := hs.cap
  clear ht hs
  by_cases h9 : nb < 9
  · have HP := Lib.hid (spl_form (b := l) (.inl (by rw [HLEN.out]; exact h9)))
    go_enter Tryd.func17, Tryd.ntmps17
    go_wp2_with fail
    go_ret2
    exact SplPost.bad (Below.refl _ _) HP.out
  · rcases A with _ | ad
    · exact absurd (HS.out.nil rfl) (by omega)
    obtain ⟨m, rfl⟩ : ∃ m, nb = m + 4 := ⟨nb - 4, by omega⟩
    have h4 := RB.run_string (P := Tryd.prog) (RB.upto HS.out.rb (k := 4) (by omega)) c 26 5 9 Tryd.underlying26 Tryd.underlying5 Tryd.underlying9
    by_cases h5 : l.take 4 = magic
    case neg =>
      have HP := Lib.hid (spl_form (b := l) (.inr h5))
      have h5' : (l.take 4 == [72, 78, 75, 49]) = false := by rw [beq_eq_false_iff_ne]; exact h5
      clear h5
      go_enter Tryd.func17, Tryd.ntmps17
      go_wp2_with fail
      go_ret2
      exact SplPost.bad (Below.refl _ _) HP.out
    case pos =>
      have H5 := Lib.hid h5
      have h5' : (l.take 4 == [72, 78, 75, 49]) = true := by rw [beq_iff_eq]; exact h5
      have hp1 := RB.part HS.out.rb HS.out.cap (lo := m) (m := 4) (by omega)
      have hp2 := RB.upto HS.out.rb (k := m) (by omega)
      have hd4 : (l.drop m).take 4 = l.drop m := List.take_of_length_le (by rw [List.length_drop, HLEN.out]; omega)
      rw [if_neg (by omega), Option.map_some, hd4] at hp1
      have P1 := Lib.hid (RB.of_reads hp1)
      have P2 := Lib.hid hp2
      clear h5 hp1 hp2 hd4
      have e1 : (m : Int) + 4 - 4 = (m : Int) := by omega
      have e2 : (0 : Int) ≤ (m : Int) := by omega
      have e3 : (m : Int) ≤ (m : Int) + 4 := by omega
      have e4 : (m : Int) ≤ (c : Int) := by omega
      have e5 : (m : Int) + 4 ≤ (c : Int) := by omega
      go_enter Tryd.func17, Tryd.ntmps17
      go_wp2_with fail
      go_region_held3 (fun _ => True) (exact trivial)
        (first
          | (go_at_call 25; (with_reducible refine (sumBytes_any (some ad) m c (l.take m) _ ?_ ?_ (by omega)).mono ?_); (· exact HT.out); (· exact P2.out); rintro e w1 ⟨b1, rfl, hown1, hb1⟩; obtain ⟨A1, c1, rfl, hs1⟩ := own_sb hown1; have S1 := Lib.hid hs1; have B1 : Hid (Below w.heap.size w w1) := Lib.hid (by exact ((Below.refl w.heap.size w).drew).trans hb1); have Q1 := Lib.hid (RB.keep (w := w.drew) (by exact P1.out) hb1); clear hown1 hs1 hb1)
          | (go_at_call 32; (with_reducible refine (equal_any (some (ad.add m)) A1 4 (c - m) 4 c1 (l.drop m) (sum4 (l.take m)) _ ?_ ?_).mono ?_); (· exact Q1.out); (· exact S1.out.rb); rintro e w2 ⟨rfl, rfl⟩))
      clear e1 e2 e3 e4 e5 h4
      by_cases hsum : l.drop m = sum4 (l.take m)
      case neg =>
        have hq : (l.drop m == sum4 (l.take m)) = false := by rw [beq_eq_false_iff_ne]; exact hsum
        have HP := Lib.hid (spl_sum HLEN.out (by rw [HLEN.out]; omega) H5.out hsum)
        clear hsum
        rw [hq]
        go_wp2_with fail
        go_ret2
        exact SplPost.bad B1.out HP.out
      case pos =>
        have H0 := Lib.hid (code_zero HLEN.out (by rw [HLEN.out]; omega) H5.out hsum)
        have hq : (l.drop m == sum4 (l.take m)) = true := by rw [beq_iff_eq]; exact hsum
        have e2 : (0 : Int) ≤ (m : Int) := by omega
        have e4 : (m : Int) ≤ (c : Int) := by omega
        clear hsum
        rw [hq]
        go_wp2_with fail
        refine (parts_any (some ad) m c (l.take m) _ ⟨P2.out.keep B1.out, by omega, fun h => by cases h⟩ (by omega) (by omega)).mono ?_
        rintro e w3 ⟨hb3, A3, n3, c3, okb, rfl, hcase⟩
        have B3 : Hid (Below w.heap.size w w3) := Lib.hid (B1.out.trans (hb3.mono B1.out.size))
        rcases hcase with ⟨rfl, hnone⟩ | ⟨rfl, ps, hop, hn64, hnc, hroom, hall⟩
        · have HN := Lib.hid (spl_none H0.out HLEN.out hnone)
          clear hnone hb3
          go_wp2_with fail
          go_ret2
          exact SplPost.bad B3.out HN.out
        · have HOP : Hid (OP w.heap.size w3 A3 n3 ps) := Lib.hid (hop.lower B1.out.size)
          have HR := Lib.hid hroom
          have HA := Lib.hid hall
          clear hop hroom hall hb3
          go_wp2_with fail
          refine (join_any A3 n3 c3 ps _ (HT.out.keep' B3.out) HOP.out.rp HR.out (by omega)).mono ?_
          rintro e w4 ⟨hb4, hj⟩
          have OP4 := Lib.hid (HOP.out.keep hb4)
          have B4 : Hid (Below w.heap.size w w4) := Lib.hid (B3.out.trans (hb4.mono B3.out.size))
          rcases hj with ⟨hck, v, rfl, hown⟩ | ⟨hck, rfl⟩
          · obtain ⟨A5, c5, rfl, hs5⟩ := own_sb hown
            have HCK := Lib.hid hck
            have S5 := Lib.hid hs5.rb
            clear hck hown hs5 hb4
            obtain ⟨N, hN⟩ : ∃ N, N = (file (pts ps)).length := ⟨_, rfl⟩
            rw [← hN] at S5 ⊢
            clear hN
            go_wp2_with fail
            refine (equal_any A5 (some ad) N c5 (m + 4) c (file (pts ps)) l _ S5.out (HS.out.rb.keep B4.out)).mono ?_
            rintro e w5 ⟨rfl, rfl⟩
            by_cases hf : file (pts ps) = l
            · have hq : (file (pts ps) == l) = true := by rw [beq_iff_eq]; exact hf
              have HP := Lib.hid (spl_good H0.out HCK.out hf)
              clear hf
              rw [hq]
              go_wp2_with fail
              go_ret2
              exact ⟨B4.out, A3, n3, c3, ps, 0, rfl, OP4.out, hn64, hnc, HR.out, HP.out⟩
            · have hq : (file (pts ps) == l) = false := by rw [beq_eq_false_iff_ne]; exact hf
              have HP := Lib.hid (spl_bad H0.out HLEN.out HA.out (.inr hf))
              clear hf
              rw [hq]
              go_wp2_with fail
              go_ret2
              exact SplPost.bad B4.out HP.out
          · have hne := ne_bool hck
            have HP := Lib.hid (spl_bad H0.out HLEN.out HA.out (.inl hck))
            clear hck hb4
            generalize chk (pts ps) = z at hne ⊢
            go_wp2_with fail
            go_ret2
            exact SplPost.bad B4.out HP.out
end Go.Proofs.YtncnocejmbfhaaaDoor.Sec
