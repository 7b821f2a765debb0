/-
  The walk of the law SectionKnown. Conditions: the table of package crc holds its numbers.
-/
import Derived.Test.YtncnocejmbfhaaaDoorSecLaws
namespace Go.Proofs.YtncnocejmbfhaaaDoor.Sec
open Go.RowKit Wd Cod Crc

def f0 : List UInt8 := file []
def f1 : List UInt8 := f0.set 8 (UInt8.ofNat (((f0.getD 8 0).toNat + 1) % 256))
def fk (k : Nat) : List UInt8 := if k = 9 then f1 else f0
theorem fk_next (k : Nat) (hk : k < 9) (hl : k < (fk k).length) : (fk k).set k (UInt8.ofNat (((fk k)[k].toNat + k / 8) % 256)) = fk (k + 1) := by
  have h : ∀ i : Fin 9, (fk i.val).set i.val (UInt8.ofNat ((((fk i.val).getD i.val 0).toNat + i.val / 8) % 256)) = fk (i.val + 1) := by decide +kernel
  have := h ⟨k, hk⟩
  simp only [List.getD, List.getElem?_eq_getElem hl, Option.getD_some] at this
  exact this
theorem f0_len : f0.length = 9 := by decide
theorem f0_take : f0.take 5 = [72, 78, 75, 49, 0] := by decide
theorem chk_nil : chk [] = 0 := by decide
theorem f1_code : code0 f1 = 11 := by decide +kernel
def psU : List PV := [⟨⟨#[65]⟩, none, 0, 0, []⟩]
def psW : List PV := [⟨⟨#[97]⟩, none, 0, 0, []⟩, ⟨⟨#[97]⟩, none, 0, 0, []⟩]
theorem psU_chk : chk (pts psU) = 1 := by decide
theorem psW_chk : chk (pts psW) = 4 := by decide
theorem psU_room : Room psU := ⟨fun p hp => by simp only [psU, List.mem_singleton] at hp; subst hp; decide, by decide⟩
theorem psW_room : Room psW := ⟨fun p hp => by simp only [psW, List.mem_cons, List.not_mem_nil, or_false] at hp; rcases hp with rfl | rfl <;> decide, by decide⟩
theorem psU_sb (w : World) : ∀ p ∈ psU, SB w p.A p.n p.c p.d := fun p hp => by simp only [psU, List.mem_singleton] at hp; subst hp; exact sb_nil w
theorem psW_sb (w : World) : ∀ p ∈ psW, SB w p.A p.n p.c p.d := fun p hp => by simp only [psW, List.mem_cons, List.not_mem_nil, or_false] at hp; rcases hp with rfl | rfl <;> exact sb_nil w
def bad : List UInt8 := [72, 78, 75, 50, 0, 0, 0, 0, 0]
theorem bad_code : code0 bad = 5 := by decide
theorem spl_code {b : List UInt8} {c z : Nat} {l : List Pt} (h : Spl b z l) (hc : code0 b = c) (h0 : c ≠ 0) : z = c ∧ l = [] := by
  rcases h with ⟨_, h1, h2⟩ | ⟨k, _⟩ | ⟨k, _⟩
  · exact ⟨h1.trans hc, h2⟩
  · exact absurd (hc.symm.trans k) h0
  · exact absurd (hc.symm.trans k) h0

set_option maxRecDepth 100000 in
set_option maxHeartbeats 4000000 in
theorem known_any (w : World) (ht : Tab w) : Calls Tryd.prog 10 #[] w fun e w' => e = .returned (.bool true) ∧ Below w.heap.size w w' := by
  obtain ⟨i0, hi, hz0, hz1, hz2⟩ := info_parts Tryd.infoU8
  have HI := Lib.hid hi
  have T_0 := Lib.hid ht
  clear ht hi
  go_enter Tryd.func10, Tryd.ntmps10
  go_wp2_with fail
  refine (join_any none 0 0 [] _ T_0.out (RP.nil _ _) Room.nil (by omega)).mono ?_
  rintro e w1 ⟨hb1, hj⟩
  obtain ⟨_, v1, rfl, hown⟩ := hj.resolve_right (fun h => h.1 chk_nil)
  have hown1 : w1.ownsRow w.heap.size 5 1 v1 9 (bs f0) := by
    have := hown
    rw [show file (pts []) = f0 from rfl, f0_len] at this
    exact this
  obtain ⟨A1, c1, rfl, hs1⟩ := own_sb hown1
  have S1 := Lib.hid hs1
  have B1 := Lib.hid hb1
  have hcap1 := hs1.cap
  rcases A1 with _ | ad1
  · exact absurd (S1.out.nil rfl) (by omega)
  clear hown hown1 hs1 hj hb1
  go_wp2_with fail
  refine (split_any (some ad1) 9 c1 f0 _ (T_0.out.keep' B1.out) S1.out (by omega)).mono ?_
  rintro e w2 ⟨hb2, A2, n2, c2, q2, z, rfl, hop, hn2, hc2, hr2, hspl⟩
  obtain ⟨rfl, hp2⟩ := Spl.file hspl chk_nil
  obtain rfl : n2 = 0 := by
    have h1 := congrArg List.length hp2
    rw [pts_length, hop.len] at h1
    exact h1
  have S2 := Lib.hid (S1.out.keep hb2)
  have B2 : Hid (Below w.heap.size w w2) := Lib.hid (B1.out.trans (hb2.mono B1.out.size))
  clear hb2 hop hr2 hspl hp2 hn2
  go_wp2_with fail
  refine (join_any _ 1 1 psU _ (T_0.out.keep' (B2.out.alloc B2.out.size _)) (rp_lit _ _ _ 1 _ _ rfl rfl rfl (psU_sb _)) psU_room (by omega)).mono ?_
  rintro e w3 ⟨hb3, hj⟩
  obtain ⟨_, rfl⟩ := hj.resolve_left (fun h => by have := h.1; rw [psU_chk] at this; cases this)
  rw [psU_chk]
  have S3 := Lib.hid ((S2.out.alloc _).keep hb3)
  have B3 : Hid (Below w.heap.size w w3) := Lib.hid ((B2.out.alloc B2.out.size _).trans (hb3.mono (by have := B2.out.size; simp at this ⊢; omega)))
  clear hb3 hj
  go_wp2_with fail
  refine (join_any _ 2 2 psW _ (T_0.out.keep' (B3.out.alloc B3.out.size _)) (rp_lit _ _ _ 2 _ _ rfl rfl rfl (psW_sb _)) psW_room (by omega)).mono ?_
  rintro e w4 ⟨hb4, hj⟩
  obtain ⟨_, rfl⟩ := hj.resolve_left (fun h => by have := h.1; rw [psW_chk] at this; cases this)
  rw [psW_chk]
  have S4 := Lib.hid ((S3.out.alloc _).keep hb4)
  have B4 : Hid (Below w.heap.size w w4) := Lib.hid ((B3.out.alloc B3.out.size _).trans (hb4.mono (by have := B3.out.size; simp at this ⊢; omega)))
  clear hb4 hj
  go_wp2_with (at_builtin; refine wpList_append_any _ rfl (.tmp 39) (.tmp 40) _ rfl w4.heap.size 5 i0 _ 1 1 Tryd.underlying26 HI.out hz0 hz1 hz2 rfl (by decide) _ _ _ rfl (own_empty _ _) _ (some ad1) 9 c1 (bs f0) rfl (S4.out.alloc _).rb (bs_one f0) (by unfold maxLen; omega) (by omega) (by simp) ?_; intro v5 w5 hown5 hg5 hat5; have O5 : Hid (w5.ownsRow w4.heap.size 5 1 v5 9 (bs f0)) := Lib.hid (by simpa using hown5); have B45 : Hid (Below w4.heap.size w4 w5) := Lib.hid (own_below ((Below.refl _ _).alloc (Nat.le_refl _) _) (Nat.le_refl _) (own_empty _ _) (Nat.le_refl _) hg5); have B5 : Hid (Below w.heap.size w w5) := Lib.hid (B4.out.trans (B45.out.mono B4.out.size)); clear hown5 hg5 hat5)
  obtain ⟨g, c5, rfl⟩ := own_some O5.out (by omega)
  go_loopw [10] (fun i wr => ∃ k : Nat, k ≤ 9 ∧ i = .int .i64 (k : Int) ∧ wr.ownsRow w4.heap.size 5 1 (.slice (some ⟨g, 0, none⟩) 9 c5) 9 (bs (fk k)) ∧ Below w.heap.size w wr ∧ Upd g w5 wr) (fun i _ => 9 - (intOf i).toNat)
  case atStart => exact ⟨0, by omega, rfl, O5.out, B5.out, Upd.refl _ _⟩
  case round =>
    obtain ⟨k, hk, rfl, hrow, hb, hu⟩ := hrel
    have ROW := Lib.hid hrow
    have BB := Lib.hid hb
    have UU := Lib.hid hu
    clear hrow hb hu
    by_cases hlt : k < 9
    · have hlk : (fk k).length = 9 := own_len ROW.out
      have cc : wr.cell? ⟨g, k, none⟩ = some (.int .u8 ((fk k)[k].toNat : Int)) := by rw [ROW.out.cellAt k (by omega), bs_at _ k (by omega)]
      have ff := ROW.out.frozenAt k
      have hx := (fk k)[k].toNat_lt
      have h1 : (k : Int) < 9 := by omega
      go_wp2_with fail
      have e1 : (((fk k)[k].toNat : Int) + (k : Int) / 8) % 256 = ((((fk k)[k].toNat + k / 8) % 256 : Nat) : Int) := by omega
      rw [e1]
      refine ⟨⟨k + 1, by omega, by go_num, ?_, BB.out.setCell (p := ⟨g, k, none⟩) (Nat.le_trans B4.out.size (ROW.out.lt g rfl).1) _, UU.out.set_ k _⟩, by simp [intOf]; omega⟩
      have h2 := (ROW.out.stored k (.int .u8 ((((fk k)[k].toNat + k / 8) % 256 : Nat) : Int))).1
      rw [bs_set _ k _ (Nat.mod_lt _ (by decide)), fk_next k hlt (by omega)] at h2
      exact h2
    · obtain rfl : k = 9 := by omega
      have S6 := Lib.hid (own_sb1 ROW.out)
      have S1W : Hid (SB wr (some ad1) 9 c1 f0) := Lib.hid (S4.out.keep (B45.out.trans (UU.out.below B45.out.size (ROW.out.lt g rfl).1)))
      go_wp2_with fail
      refine (split_any (some ⟨g, 0, none⟩) 9 c5 f1 _ (T_0.out.keep' BB.out) S6.out (by omega)).mono ?_
      rintro e w6 ⟨hb6, A6, n6, c6, q6, z, rfl, hop, hn6, hc6, hr6, hspl⟩
      obtain ⟨rfl, _⟩ := spl_code hspl f1_code (by decide)
      have S7 := Lib.hid (S1W.out.keep hb6)
      have B6 : Hid (Below w.heap.size w w6) := Lib.hid (BB.out.trans (hb6.mono BB.out.size))
      clear hb6 hop hr6 hspl S6 S1W
      have kc := fun (w : World) (C : Array Value) (n c : Nat) => Lib.run_convert_bytes_const (P := Tryd.prog) w 26 5 C n c Tryd.underlying26 Tryd.underlying5
      go_wp2_with fail
      refine (split_any _ 9 9 bad _ (T_0.out.keep' (B6.out.alloc B6.out.size _)) (sb_lit w6 _ _ _ 9 _ bad rfl rfl rfl) (by omega)).mono ?_
      rintro e w8 ⟨hb8, A8, n8, c8, q8, z8, rfl, hop, hn8, hc8, hr8, hspl⟩
      obtain ⟨rfl, _⟩ := spl_code hspl bad_code (by decide)
      have S8 := Lib.hid ((S7.out.alloc _).keep hb8)
      have B8 : Hid (Below w.heap.size w w8) := Lib.hid ((B6.out.alloc B6.out.size _).trans (hb8.mono (by have := B6.out.size; simp at this ⊢; omega)))
      clear hb8 hop hr8 hspl
      go_wp2_with fail
      refine (find_any none 0 0 [] ⟨#[97]⟩ _ (RP.nil _ _) (fun p hp => by cases hp) (by omega)).mono ?_
      rintro e w9 ⟨hb9, hf9⟩
      obtain rfl := hf9
      have S9 := Lib.hid (S8.out.keep hb9)
      have B9 : Hid (Below w.heap.size w w9) := Lib.hid (B8.out.trans (hb9.mono B8.out.size))
      have hstr := RB.run_string (P := Tryd.prog) (RB.upto S9.out.rb (k := 5) (by omega)) c1 26 5 9 Tryd.underlying26 Tryd.underlying5 Tryd.underlying9
      rw [f0_take] at hstr
      have hc5 : (5 : Int) ≤ (c1 : Int) := by omega
      clear hb9
      go_wp2_with fail
      refine (works_any _ (T_0.out.keep' B9.out)).mono ?_
      rintro e w10 ⟨rfl, hb10⟩
      have B10 := Lib.hid (B9.out.trans (hb10.mono B9.out.size))
      clear hb10 hstr
      go_wp2_with fail
      go_ret
      exact ⟨rfl, B10.out⟩
end Go.Proofs.YtncnocejmbfhaaaDoor.Sec
