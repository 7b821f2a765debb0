/-
  The contract of the reader's method 'text' of package coding: what it reads, and that it gives up by a panic with 'failure' where nothing can be read. Conditions: the reader lies in a block of its own, above the bytes that it reads.
-/
import Derived.Test.YtkllfnaofapfnaaDoorCodGet
import Derived.Deep.RegionHeld3
import Derived.WalkSpells
import Derived.IntWalk
namespace Go.Proofs.YtkllfnaofapfnaaDoor.Cod
open Go.RowKit Wd

/-- how 'text' ends -/
def TPost (w : World) (g : Nat) (A : Option Addr) (n c at0 : Nat) (R : Option (List UInt8 × Nat)) (e : Ending) (w' : World) : Prop :=
  match R with
  | none => e = failed ∧ (∃ at1 : Nat, Rdr w' g A n c at1) ∧ Upd g w w'
  | some (s, k) => e = .returned (.string ⟨s.toArray⟩) ∧ Rdr w' g A n c (at0 + k) ∧ Upd g w w'
theorem TPost.bad {w : World} {g : Nat} {A : Option Addr} {n c at0 at1 : Nat} {R : Option (List UInt8 × Nat)} {w' : World} (hR : R = none) (h1 : Rdr w' g A n c at1) (h2 : Upd g w w') : TPost w g A n c at0 R failed w' := by
  subst hR; exact ⟨rfl, ⟨at1, h1⟩, h2⟩
theorem TPost.good {w : World} {g : Nat} {A : Option Addr} {n c at0 k : Nat} {s : List UInt8} {R : Option (List UInt8 × Nat)} {w' : World} (hR : R = some (s, k)) (h1 : Rdr w' g A n c (at0 + k)) (h2 : Upd g w w') : TPost w g A n c at0 R (.returned (.string ⟨s.toArray⟩)) w' := by
  subst hR; exact ⟨rfl, h1, h2⟩
theorem TPost.upd {w : World} {g : Nat} {A : Option Addr} {n c at0 : Nat} {R : Option (List UInt8 × Nat)} {e : Ending} {w' : World} (h : TPost w g A n c at0 R e w') : Upd g w w' := by
  rcases R with _ | ⟨v, k⟩
  · exact h.2.2
  · exact h.2.2

theorem rdT_none {l : List UInt8} (h : rd l = none) : rdT l = none := by unfold rdT; rw [h]
theorem rdT_some {l : List UInt8} {v k : Nat} (h : rd l = some (v, k)) : rdT l = if v ≤ l.length - k then some ((l.drop k).take v, k + v) else none := by unfold rdT; rw [h]

/-- the part of a slice from lo to hi, as the model cuts it -/
theorem RB.part {w : World} {B n c : Nat} {A : Option Addr} {l : List UInt8} (h : Reads w B 1 A n (bs l)) (hc : n ≤ c) {lo m : Nat} (hm : lo + m ≤ n) :
    Reads w B 1 (if c = lo then A else A.map (·.add lo)) m (bs ((l.drop lo).take m)) := by
  have h1 := Reads.cut h (k := lo) (cap := c) (by omega) hc
  have h2 := h1.upto (k := m) (by omega)
  rw [Nat.mul_one, Nat.mul_one, bs_drop, bs_take] at h2
  exact h2

theorem Rdr.moved {wr : World} {g : Nat} {A : Option Addr} {n c at0 k a1 : Nat} (h : Rdr wr g A n c (at0 + k)) (ha : a1 = at0 + k) (v q : Nat) : Rdr ((wr.drewN q).setCell ⟨g, 1, none⟩ (.int .i64 ((a1 : Int) + (v : Int)))) g A n c (at0 + (k + v)) := by
  have h1 := (h.drewN q).set_ 1 (.int .i64 ((a1 : Int) + (v : Int)))
  have e : ((at0 + (k + v) : Nat) : Int) = (a1 : Int) + (v : Int) := by omega
  unfold Rdr
  rw [e]
  exact h1

set_option maxRecDepth 100000 in
set_option maxHeartbeats 2000000 in
theorem text_any (g : Nat) (A : Option Addr) (n c at0 : Nat) (l : List UInt8) (w : World) (hg : Rdr w g A n c at0) (hr : Reads w g 1 A n (bs l)) (hc : n ≤ c) (hnil : A = none → c = 0) (hn : n ≤ 140737488355328) (ha : at0 ≤ 9223372036854775807) :
    Calls Tryd.prog 79 #[.pointer (some ⟨g, 0, none⟩)] w (TPost w g A n c at0 (rdT (l.drop at0))) := by
  have hlen : l.length = n := by have := hr.1; rw [bs_length] at this; omega
  have HR := Lib.hid hr
  have HLen := Lib.hid hlen
  have HN := Lib.hid (number_any g A n c at0 l w hg hr (by omega) ha)
  have HNil := Lib.hid hnil
  have hglt := hg.lt
  clear hg hr hlen hnil
  go_enter Tryd.func79, Tryd.ntmps79
  go_wp2_with fail
  refine HN.out.mono ?_
  intro e w1 hpost
  generalize hR : rd (l.drop at0) = R at hpost
  have HRR := Lib.hid hR
  clear hR
  rcases R with _ | ⟨v, k⟩
  · obtain ⟨rfl, ⟨at1, h1⟩, h2⟩ := hpost
    unfold failed
    exact ⟨rfl, TPost.bad (rdT_none HRR.out) h1 h2⟩
  · obtain ⟨rfl, hrd, hup⟩ := hpost
    obtain ⟨hv, hk, hx1, hx2⟩ := rd_sound _ _ _ HRR.out
    rw [List.length_drop, HLen.out] at hk
    have hT := rdT_some HRR.out
    rw [List.length_drop, HLen.out, List.drop_drop] at hT
    have hpos : 0 < k := by have := put_pos v; omega
    clear hx1 hx2
    have HT := Lib.hid hT
    have HV := Lib.hid hv
    clear hT hv
    have HRD := Lib.hid hrd
    have HUP := Lib.hid hup
    have c0 : w1.cell? ⟨g, 0, none⟩ = some (.slice A n c) := hrd.cell 0
    have c1 : w1.cell? ⟨g, 1, none⟩ = some (.int .i64 ((at0 + k : Nat) : Int)) := hrd.cell 1
    have f1 := hrd.frozen 1
    clear hrd hup HN
    obtain ⟨a1, ha1⟩ : ∃ a1, a1 = at0 + k := ⟨_, rfl⟩
    rw [← ha1] at c1
    have hle : a1 ≤ n := by omega
    have HA1 := Lib.hid ha1
    clear ha1 hk
    have i1 : (a1 : Int) ≤ (n : Int) := by omega
    have i2 : (a1 : Int) ≤ (c : Int) := by omega
    by_cases hbig : v ≤ n - a1
    · have hb : (v : Int) ≤ (n : Int) - (a1 : Int) := by omega
      have i3 : (a1 : Int) + (v : Int) ≤ (c : Int) := by omega
      have i4 : (0 : Int) ≤ (v : Int) := by omega
      have hrw : Reads w1 g 1 A n (bs l) := HR.out.grown HUP.out (Nat.le_of_lt hglt) (fun k hk => by injection hk with hk; omega)
      have hp := RB.part hrw hc (lo := a1) (m := v) (by omega)
      have hstr := fun nq => RB.run_string (P := Tryd.prog) (w := w1.drewN nq) (RB.of_reads ((hp.drewN nq).more (by have := HRD.out.lt; exact Nat.le_of_lt this))) (c - a1) 25 5 9 Tryd.underlying25 Tryd.underlying5 Tryd.underlying9
      have wv : IntKind.i64.wrap (v : Int) = (v : Int) := IntWalk.i64_in _ (by omega)
      have ws : IntKind.i64.wrap ((a1 : Int) + (v : Int)) = (a1 : Int) + (v : Int) := IntWalk.i64_in _ (by omega)
      have hfin : rdT (l.drop at0) = some ((l.drop a1).take v, k + v) := by rw [HT.out, if_pos (by have := HA1.out; omega), HA1.out]
      have HF := Lib.hid hfin
      clear hfin hrw hp
      by_cases hca : c = a1
      · have hv0 : v = 0 := by omega
        subst hv0
        rw [if_pos hca] at hstr
        have hca' : (c : Int) = (a1 : Int) := by omega
        have HCA := Lib.hid hca
        clear hca
        go_wp2_with fail
        go_quiet (fail)
        go_wp2_with fail
        go_quiet (fail)
        clear hstr
        go_wp2_with fail
        go_ret
        exact TPost.good (by rw [HF.out]; rfl) (by have := HRD.out.moved HA1.out 0; simpa using this _) ((HUP.out.drewN _).set_ 1 _)
      · rcases A with _ | ad
        · exact absurd (HNil.out rfl) (by omega)
        rw [if_neg hca] at hstr
        simp only [Option.map_some] at hstr
        have hca' : ¬ (c : Int) = (a1 : Int) := by omega
        go_wp2_with fail
        go_quiet (fail)
        go_wp2_with fail
        go_quiet (fail)
        clear hstr
        go_wp2_with fail
        go_ret
        exact TPost.good HF.out (HRD.out.moved HA1.out _ _) ((HUP.out.drewN _).set_ 1 _)
    · have hb : (n : Int) - (a1 : Int) < (v : Int) := by omega
      go_wp2_with fail
      go_quiet (fail)
      go_wp2_with fail
      exact ⟨rfl, TPost.bad (by rw [HT.out, if_neg (by have := HA1.out; omega)]) (HRD.out.drewN _) (HUP.out.drewN _)⟩

end Go.Proofs.YtkllfnaofapfnaaDoor.Cod
