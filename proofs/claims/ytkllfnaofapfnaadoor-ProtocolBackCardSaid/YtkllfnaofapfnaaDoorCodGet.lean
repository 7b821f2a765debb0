/-
  The contracts of the reader's methods of package coding: what number and text read, and that they give up by a panic with 'failure' where nothing can be read. Conditions: the reader lies in a block of its own, above the bytes that it reads.
-/
import Derived.Test.YtkllfnaofapfnaaDoorCodPut
import Derived.Deep.RegionHeld3
import Derived.BigQuiet
import Derived.WalkLawsBesides
import Derived.Deep.QuietTactic
namespace Go.Proofs.YtkllfnaofapfnaaDoor.Cod
open Go.RowKit Wd

/-- the reader's block: the bytes and the index -/
def Rdr (w : World) (g : Nat) (A : Option Addr) (n c at0 : Nat) : Prop := Blk w g 126 #[.slice A n c, .int .i64 (at0 : Int)]

/-- what a round of 'number' keeps -/
def NRel (w : World) (g : Nat) (A : Option Addr) (n c at0 : Nat) (l : List UInt8) (R : Option (Nat × Nat)) (v1 s1 : Value) (wr : World) : Prop :=
  ∃ i acc : Nat, i ≤ 9 ∧ v1 = .int .u64 (acc : Int) ∧ s1 = .int .i64 ((7 * i : Nat) : Int) ∧ acc < 2 ^ (7 * i) ∧ Rdr wr g A n c (at0 + i) ∧ Upd g w wr ∧
    (rdI i acc (l.drop (at0 + i))).map (fun x => (x.1, x.2 + i)) = R

/-- the panic of a reader that gives up -/
def failed : Ending := .panicked [{ v := .iface 124 (.agg #[]), recovered := false }]

/-- how 'number' ends -/
def NPost (w : World) (g : Nat) (A : Option Addr) (n c at0 : Nat) (R : Option (Nat × Nat)) (e : Ending) (w' : World) : Prop :=
  match R with
  | none => e = failed ∧ (∃ at1 : Nat, Rdr w' g A n c at1) ∧ Upd g w w'
  | some (v, k) => e = .returned (.int .u64 (v : Int)) ∧ Rdr w' g A n c (at0 + k) ∧ Upd g w w'
theorem NPost.bad {w : World} {g : Nat} {A : Option Addr} {n c at0 at1 : Nat} {R : Option (Nat × Nat)} {w' : World} (hR : R = none) (h1 : Rdr w' g A n c at1) (h2 : Upd g w w') : NPost w g A n c at0 R failed w' := by
  subst hR; exact ⟨rfl, ⟨at1, h1⟩, h2⟩
theorem NPost.good {w : World} {g : Nat} {A : Option Addr} {n c at0 v k : Nat} {R : Option (Nat × Nat)} {w' : World} (hR : R = some (v, k)) (h1 : Rdr w' g A n c (at0 + k)) (h2 : Upd g w w') : NPost w g A n c at0 R (.returned (.int .u64 (v : Int))) w' := by
  subst hR; exact ⟨rfl, h1, h2⟩

theorem NPost.upd {w : World} {g : Nat} {A : Option Addr} {n c at0 : Nat} {R : Option (Nat × Nat)} {e : Ending} {w' : World} (h : NPost w g A n c at0 R e w') : Upd g w w' := by
  rcases R with _ | ⟨v, k⟩
  · exact h.2.2
  · exact h.2.2
theorem drop_at (l : List UInt8) (k : Nat) (h : k < l.length) : l.drop k = l.getD k 0 :: l.drop (k + 1) := by
  rw [List.drop_eq_getElem_cons h]; simp [List.getD, h]
theorem rdI_end (i acc : Nat) (l : List UInt8) (k : Nat) (h : l.length ≤ k) : rdI i acc (l.drop k) = none := by
  rw [List.drop_eq_nil_of_le h]; rfl

theorem or_digit (acc x i : Nat) (hx : x < 256) (hi : i ≤ 9) (h9 : i = 9 → x ≤ 1) (hacc : acc < 2 ^ (7 * i)) :
    bits .or .u64 (acc : Int) (IntKind.u64.wrap (IntKind.u64.wrap (bits .and .u8 (x : Int) 127) * 2 ^ (7 * i))) = ((acc + x % 128 * 2 ^ (7 * i) : Nat) : Int) := by
  have e64 : (2 : Nat) ^ 64 = 18446744073709551616 := by decide
  have ea : bits .and .u8 (x : Int) 127 = ((x % 128 : Nat) : Int) := by
    rw [show (127 : Int) = ((127 : Nat) : Int) from rfl, u8_and_nat _ _ hx (by decide)]
    have := Nat.and_two_pow_sub_one_eq_mod x 7
    rw [show (2 : Nat) ^ 7 - 1 = 127 from rfl, show (2 : Nat) ^ 7 = 128 from rfl] at this
    rw [this]
  have hb : x % 128 * 2 ^ (7 * i) < 2 ^ 64 := by
    by_cases h : i = 9
    · subst h
      have := h9 rfl
      have h1 : x % 128 * 2 ^ 63 ≤ 1 * 2 ^ 63 := Nat.mul_le_mul (by omega) (Nat.le_refl _)
      exact Nat.lt_of_le_of_lt h1 (by decide)
    · have h1 : x % 128 * 2 ^ (7 * i) ≤ 127 * 2 ^ 56 := Nat.mul_le_mul (by omega) (Nat.pow_le_pow_right (by decide) (by omega))
      exact Nat.lt_of_le_of_lt h1 (by decide)
  have hacc64 : acc < 2 ^ 64 := Nat.lt_of_lt_of_le hacc (Nat.pow_le_pow_right (by decide) (by omega))
  have ew1 : IntKind.u64.wrap ((x % 128 : Nat) : Int) = ((x % 128 : Nat) : Int) := by rw [IntKind.wrap_u64]; omega
  have ew2 : IntKind.u64.wrap (((x % 128 : Nat) : Int) * 2 ^ (7 * i)) = ((x % 128 * 2 ^ (7 * i) : Nat) : Int) := by
    rw [IntKind.wrap_u64]
    have : ((x % 128 : Nat) : Int) * 2 ^ (7 * i) = ((x % 128 * 2 ^ (7 * i) : Nat) : Int) := by rw [Int.natCast_mul, Int.natCast_pow]; rfl
    rw [this]
    exact Int.emod_eq_of_lt (Int.natCast_nonneg _) (by rw [e64] at hb; omega)
  rw [ea, ew1, ew2, u64_or_nat _ _ (by omega) (by omega)]
  have := Nat.two_pow_add_eq_or_of_lt hacc (x % 128)
  rw [Nat.or_comm, Nat.mul_comm (x % 128), ← this, Nat.add_comm]

theorem Rdr.step {wr : World} {g : Nat} {A : Option Addr} {n c at0 i : Nat} (h : Rdr wr g A n c (at0 + i)) (q : Nat) : Rdr ((wr.drewN q).setCell ⟨g, 1, none⟩ (.int .i64 ((at0 : Int) + (i : Int) + 1))) g A n c (at0 + (i + 1)) := by
  have h1 := (h.drewN q).set_ 1 (.int .i64 ((at0 : Int) + (i : Int) + 1))
  have e : ((at0 + (i + 1) : Nat) : Int) = (at0 : Int) + (i : Int) + 1 := by omega
  unfold Rdr
  rw [e]
  exact h1

theorem NRel.next {w wr : World} {g : Nat} {A : Option Addr} {n c at0 : Nat} {l : List UInt8} {R : Option (Nat × Nat)} (i acc : Nat) (x : UInt8) (q : Nat) (hi : i ≤ 9) (hacc : acc < 2 ^ (7 * i)) (hrd : Rdr wr g A n c (at0 + i)) (hup : Upd g w wr)
    (hrel : (rdI i acc (l.drop (at0 + i))).map (fun x => (x.1, x.2 + i)) = R) (hdrop : l.drop (at0 + i) = x :: l.drop (at0 + i + 1)) (hbad : ¬ (i = 9 ∧ 1 < x.toNat ∨ 0 < i ∧ x.toNat = 0)) (h128 : ¬ x.toNat < 128) :
    NRel w g A n c at0 l R (.int .u64 (bits .or .u64 (acc : Int) (IntKind.u64.wrap (IntKind.u64.wrap (bits .and .u8 (x.toNat : Int) 127) * 2 ^ (7 * i))))) (.int .i64 (7 * (i : Int) + 7))
      ((wr.drewN q).setCell ⟨g, 1, none⟩ (.int .i64 ((at0 : Int) + (i : Int) + 1))) := by
  have hx : x.toNat < 256 := x.toNat_lt
  have hi9 : i ≠ 9 := fun h => hbad (.inl ⟨h, by omega⟩)
  refine ⟨i + 1, acc + x.toNat % 128 * 2 ^ (7 * i), by omega, by rw [or_digit acc x.toNat i hx hi (fun h => absurd h hi9) hacc], ?_, ?_, hrd.step q, (hup.drewN q).set_ 1 _, ?_⟩
  · congr 1
  · rw [pow7]
    have h1 : x.toNat % 128 * 2 ^ (7 * i) ≤ 127 * 2 ^ (7 * i) := Nat.mul_le_mul (by omega) (Nat.le_refl _)
    omega
  · rw [← hrel, hdrop]
    simp only [rdI]
    rw [if_neg hbad, if_neg h128, Option.map_map, show at0 + i + 1 = at0 + (i + 1) by omega]
    congr 1
    funext y
    simp only [Function.comp, Prod.mk.injEq, true_and]
    try omega

set_option maxRecDepth 100000 in
set_option maxHeartbeats 2000000 in
theorem number_any (g : Nat) (A : Option Addr) (n c at0 : Nat) (l : List UInt8) (w : World) (hg : Rdr w g A n c at0) (hr : Reads w g 1 A n (bs l)) (hn : n ≤ 140737488355328) (ha : at0 ≤ 9223372036854775807) :
    Calls Tryd.prog 77 #[.pointer (some ⟨g, 0, none⟩)] w (NPost w g A n c at0 (rd (l.drop at0))) := by
  have hlen : l.length = n := by have := hr.1; rw [bs_length] at this; omega
  have HG := Lib.hid hg
  have HR := Lib.hid hr
  have HLen := Lib.hid hlen
  clear hg hr hlen
  go_enter Tryd.func77, Tryd.ntmps77
  go_wp2_with fail
  go_loopw [3, 4] (fun v1 s1 wr => NRel w g A n c at0 l (rd (l.drop at0)) v1 s1 wr) (fun _ s _ => 70 - (intOf s).toNat)
  case atStart => exact ⟨0, 0, by omega, rfl, rfl, by simp, HG.out, Upd.refl _ _, by unfold rd; simp⟩
  case round =>
    obtain ⟨i, acc, hi, rfl, rfl, hacc, hrd, hup, hrel⟩ := hrel
    have c0 := hrd.cell 0
    have c1 := hrd.cell 1
    have f1 := hrd.frozen 1
    have RD := Lib.hid hrd
    have UP := Lib.hid hup
    have HA := Lib.hid hacc
    have HRel := Lib.hid hrel
    clear hrd hup hacc hrel
    simp at c0 c1
    by_cases hlt : at0 + i < n
    · obtain ⟨ad, u, rfl, hbl, hx, hcell⟩ := HR.out.at_ hlt
      have hl2 := HLen.out
      rw [bs_at l _ (by omega)] at hx
      injection hx with hx
      subst hx
      have hdrop := drop_at l (at0 + i) (by omega)
      have hget : l.getD (at0 + i) 0 = l[at0 + i] := by simp [List.getD, show at0 + i < l.length by omega]
      rw [hget] at hdrop
      generalize l[at0 + i] = x at hcell hdrop
      have hcell' : wr.cell? (ad.add (at0 + i)) = some (.int .u8 (x.toNat : Int)) := by
        have hne : some (ad.add (at0 + i)).block ≠ some g := by rw [block_of_add]; intro h; injection h with h; omega
        exact UP.out.cell hcell hne
      have hx8 : x.toNat < 256 := x.toNat_lt
      have HD := Lib.hid hdrop
      clear hdrop hget hl2 hcell
      have g1 : ((at0 + i : Nat) : Int) < (n : Int) := by omega
      have g0 : (0 : Int) ≤ (at0 : Int) + (i : Int) := by omega
      have g2 : (at0 : Int) + (i : Int) < (n : Int) := by omega
      by_cases hbad : i = 9 ∧ 1 < x.toNat ∨ 0 < i ∧ x.toNat = 0
      · have hR : rd (l.drop at0) = none := by
          rw [← HRel.out, HD.out]
          simp only [rdI]
          rw [if_pos hbad]; rfl
        have HRn := Lib.hid hR
        clear hR
        rcases hbad with ⟨h9, h1⟩ | ⟨h0, hx0⟩
        · have h9' : 7 * (i : Int) = 63 := by omega
          have h1' : (1 : Int) < (x.toNat : Int) := by omega
          clear h9 hx8
          go_wp2_with fail
          go_quiet (fail)
          go_wp2_with fail
          go_quiet (fail)
          go_wp2_with fail
          exact ⟨rfl, NPost.bad HRn.out (RD.out.drewN _) (UP.out.drewN _)⟩
        · have h0' : (0 : Int) < 7 * (i : Int) := by omega
          have hx0' : ((x.toNat : Int) == 0) = true := by rw [hx0]; rfl
          have hx1' : (x.toNat : Int) ≤ 1 := by omega
          clear hx0 hx8
          go_wp2_with fail
          go_quiet (fail)
          go_wp2_with fail
          go_quiet (fail)
          go_wp2_with fail
          all_goals exact ⟨rfl, NPost.bad HRn.out (RD.out.drewN _) (UP.out.drewN _)⟩
      · have HB := Lib.hid hbad
        have n1 : i = 9 → x.toNat ≤ 1 := fun h => by omega
        have n2 : 0 < i → x.toNat ≠ 0 := fun h => by omega
        clear hbad
        by_cases h128 : x.toNat < 128
        · have hR : rd (l.drop at0) = some (acc + x.toNat % 128 * 2 ^ (7 * i), i + 1) := by
            rw [← HRel.out, HD.out]
            simp only [rdI]
            rw [if_neg HB.out, if_pos h128, Nat.add_comm i 1]; rfl
          have hval := or_digit acc x.toNat i hx8 hi n1 HA.out
          have HRn := Lib.hid hR
          have HVal := Lib.hid hval
          have H128 : (x.toNat : Int) < 128 := by omega
          clear hR hval
          rcases (show i = 0 ∨ (0 < i ∧ i ≠ 9) ∨ i = 9 by omega) with h0 | ⟨h0, h9⟩ | h9
          · have h0' : 7 * (i : Int) ≤ 0 := by omega
            clear n1 n2 h0
            go_wp2_with fail
            go_quiet (fail)
            go_wp2_with fail
            go_quiet (fail)
            go_wp2_with fail
            go_ret
            rw [HVal.out]
            exact NPost.good HRn.out (RD.out.step _) ((UP.out.drewN _).set_ 1 _)
          · have hx0 : ((x.toNat : Int) == 0) = false := by have := n2 h0; simp; omega
            have h0' : (0 : Int) < 7 * (i : Int) := by omega
            have h9' : ¬ 7 * (i : Int) = 63 := by omega
            clear n1 n2
            go_wp2_with fail
            go_quiet (fail)
            go_wp2_with fail
            go_quiet (fail)
            go_wp2_with fail
            go_ret
            rw [HVal.out]
            exact NPost.good HRn.out (RD.out.step _) ((UP.out.drewN _).set_ 1 _)
          · have hx0 : ((x.toNat : Int) == 0) = false := by have := n2 (by omega); simp; omega
            have hx1 : (x.toNat : Int) ≤ 1 := by have := n1 h9; omega
            have h9' : 7 * (i : Int) = 63 := by omega
            have hval9 := HVal.out
            rw [show (2 : Int) ^ (7 * i) = 9223372036854775808 from by rw [h9]; decide] at hval9
            have HVal9 := Lib.hid hval9
            clear n1 n2 h9 hval9
            go_wp2_with fail
            go_quiet (fail)
            go_wp2_with fail
            go_quiet (fail)
            go_wp2_with fail
            go_ret
            rw [HVal9.out]
            exact NPost.good HRn.out (RD.out.step _) ((UP.out.drewN _).set_ 1 _)
        · have hi9 : ¬ 7 * (i : Int) = 63 := fun h => by have := n1 (by omega); omega
          clear n1 n2
          go_wp2_with fail
          go_quiet (fail)
          go_wp2_with fail
          go_quiet (fail)
          go_wp2_with fail
          all_goals go_roundw
          all_goals first
            | exact NRel.next i acc x _ hi HA.out RD.out UP.out HRel.out HD.out HB.out h128
            | (simp only [intOf]; done)
            | (simp only [intOf]; omega)
    · have hge : (n : Int) ≤ ((at0 + i : Nat) : Int) := by omega
      have hR : rd (l.drop at0) = none := by
        rw [← HRel.out, rdI_end i acc l (at0 + i) (by have := HLen.out; omega)]; rfl
      have HRn := Lib.hid hR
      clear hR
      go_wp2_with fail
      go_quiet (fail)
      go_wp2_with fail
      exact ⟨rfl, NPost.bad HRn.out (RD.out.drewN _) (UP.out.drewN _)⟩

end Go.Proofs.YtkllfnaofapfnaaDoor.Cod
