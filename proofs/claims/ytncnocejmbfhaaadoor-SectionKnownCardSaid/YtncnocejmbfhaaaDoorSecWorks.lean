/-
  The contract of works: the example of the chapter on files of parts holds. Conditions: the table of package crc holds its numbers.
-/
import Derived.Test.YtncnocejmbfhaaaDoorSecLaw0
namespace Go.Proofs.YtncnocejmbfhaaaDoor.Sec
open Go.RowKit Wd Cod Crc

/-- a row of parts, made of a literal -/
theorem rp_lit (w : World) (C : Array Value) (T : TypeId) (n B : Nat) (ps : List PV) (hB : w.heap.size = B) (hC : C.toList = pc ps) (hn : ps.length = n) (h : ∀ p ∈ ps, SB w p.A p.n p.c p.d) :
    RP (w.alloc (.cells C T)) (some ⟨B, 0, none⟩) n ps :=
  ⟨Reads.litN w C T _ 2 n B (pc ps) hB hC (by rw [pc_length, hn]), fun p hp => (h p hp).alloc _⟩
def exp (b : Nat) : PV := ⟨⟨#[97, 98]⟩, some ⟨b, 0, none⟩, 2, 2, [7, 8]⟩
theorem exp_room (b : Nat) : Room [exp b] := ⟨fun p hp => (by simp at hp; subst hp; exact (show (2 : Nat) ≤ 1099511627776 by decide)), (show (2 : Nat) ≤ 1099511627776 by decide)⟩
def ex0 : List Pt := [⟨⟨#[97, 98]⟩, [7, 8]⟩]
theorem ex0_chk : chk ex0 = 0 := by decide
theorem ex0_len : (file ex0).length = 15 := by decide
theorem ex0_take : (file ex0).take 11 = [72, 78, 75, 49, 1, 2, 97, 98, 2, 7, 8] := by decide
theorem ex0_look : look ex0 ⟨#[97, 98]⟩ = some [7, 8] := by decide

set_option maxRecDepth 100000 in
set_option maxHeartbeats 1000000 in
theorem works_any (w : World) (ht : Tab w) : Calls Tryd.prog 16 #[] w fun e w' => e = .returned (.bool true) ∧ Below w.heap.size w w' := by
  have HT := Lib.hid ht
  have S0 := Lib.hid (sb_lit w #[.int .u8 7, .int .u8 8] 5 (0, 0) 2 _ [7, 8] rfl rfl rfl)
  clear ht
  go_enter Tryd.func16, Tryd.ntmps16
  go_wp2_with fail
  have B0 : Hid (Below w.heap.size w (w.alloc (.cells #[.int .u8 7, .int .u8 8] 5))) := Lib.hid ((Below.refl _ _).alloc (Nat.le_refl _) _)
  refine (join_any _ 1 1 [exp w.heap.size] _ (HT.out.keep' (B0.out.alloc B0.out.size _)) (rp_lit _ _ _ 1 _ _ (by simp) rfl rfl (fun p hp => by simp at hp; subst hp; exact S0.out)) (exp_room _) (by omega)).mono ?_
  rintro e w1 ⟨hb1, hj⟩
  have B1 : Hid (Below w.heap.size w w1) := Lib.hid ((B0.out.alloc B0.out.size _).trans (hb1.mono (by simp; omega)))
  have hj' := hj.resolve_right (fun h => h.1 ex0_chk)
  obtain ⟨_, v, rfl, hown⟩ := hj'
  have hown' : w1.ownsRow w.heap.size 5 1 v 15 (bs (file ex0)) := own_mono (by have := hown; rw [show (pts [exp w.heap.size]) = ex0 from rfl, ex0_len] at this; exact this) (by simp; omega)
  obtain ⟨A1, c1, rfl, hs1⟩ := own_sb hown'
  have HFI := Lib.hid (fun c m (h : Spl (file ex0) c m) => Spl.file h ex0_chk)
  have htk := ex0_take
  have hfl := ex0_len
  generalize file ex0 = F at hs1 HFI htk hfl
  have S1 := Lib.hid hs1
  have hcap := hs1.cap
  have hstr := RB.run_string (P := Tryd.prog) (RB.upto hs1.rb (k := 11) (by omega)) c1 26 5 9 Tryd.underlying26 Tryd.underlying5 Tryd.underlying9
  rw [htk] at hstr
  have hc11 : (11 : Int) ≤ (c1 : Int) := by omega
  clear hb1 hj hown hown' hs1 htk hfl
  rcases A1 with _ | ad
  · exact absurd (S1.out.nil rfl) (by omega)
  go_wp2_with fail
  clear hstr hc11
  refine (split_any (some ad) 15 c1 F _ (HT.out.keep' B1.out) S1.out (by omega)).mono ?_
  rintro e w2 ⟨hb2, A2, n2, c2, ps2, z, rfl, hop, hn64, hnc, hroom, hspl⟩
  obtain ⟨rfl, hp2⟩ := HFI.out _ _ hspl
  have B2 : Hid (Below w.heap.size w w2) := Lib.hid (B1.out.trans (hb2.mono B1.out.size))
  obtain rfl : n2 = 1 := by
    have h1 := congrArg List.length hp2
    rw [pts_length, hop.len] at h1
    exact h1
  have HF := Lib.hid (find_any A2 1 c2 ps2 ⟨#[97, 98]⟩ w2 hop.rp (fun p hp => (by
    have h1 := hroom.sum
    have h2 := le_total (l := pts ps2) (p := p.pt) (List.mem_map_of_mem hp)
    have h3 := (own_sb1 (hop.own p hp)).rb.len
    have h4 : p.pt.data.length = p.d.length := rfl
    omega)) (by omega))
  rw [hp2, ex0_look] at HF
  clear hb2 hop hroom hspl HFI hp2 hn64
  go_wp2_with fail
  refine HF.out.mono ?_
  rintro e w3 ⟨hb3, A3, n3, c3, rfl, hs3⟩
  have B3 : Hid (Below w.heap.size w w3) := Lib.hid (B2.out.trans (hb3.mono B2.out.size))
  have hstr := hs3.rb.run_string (P := Tryd.prog) c3 26 5 9 Tryd.underlying26 Tryd.underlying5 Tryd.underlying9
  clear hb3 hs3 HF
  go_wp2_with fail
  go_ret
  exact ⟨rfl, B3.out⟩
end Go.Proofs.YtncnocejmbfhaaaDoor.Sec
