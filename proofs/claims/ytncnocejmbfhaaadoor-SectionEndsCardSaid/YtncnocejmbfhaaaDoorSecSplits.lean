/-
  The walk of the law SectionSplits. Conditions: the bytes can be read, within the form's reach; the table of package crc holds its numbers. (Printed by gen/secsplits.py.)
-/
import Derived.Test.YtncnocejmbfhaaaDoorSecLaws
namespace Go.Proofs.YtncnocejmbfhaaaDoor.Sec
open Go.RowKit Wd Cod Crc

theorem own_same {w w' : World} {B size n : Nat} {e : TypeId} {v : Value} {xs : List Value} (h : w.ownsRow B e size v n xs) (hs : ∀ i, v.ownBlock = some i → w'.heap[i]? = w.heap[i]?) : w'.ownsRow B e size v n xs := by
  refine ⟨h.1, ?_⟩
  rcases h.2 with hn | ⟨g, cap, cur, rfl, hb, hg, rest⟩
  · exact .inl hn
  · exact .inr ⟨g, cap, cur, rfl, hb, (hs g rfl).trans hg, rest⟩
/-- parts that lie above the data that were written over -/
theorem OQ.spo {T : TypeId} {B : Nat} {w w' : World} {A : Option Addr} {n c : Nat} {ps qs : List PV} (h : OQ T B w A n c qs) (hs : Spo ps w w') (hlt : ∀ p ∈ ps, ∀ k, (Value.slice p.A p.n p.c).ownBlock = some k → k < B) : OQ T B w' A n c qs := by
  have hk : ∀ {v : Value} {e : TypeId} {size n : Nat} {xs : List Value}, w.ownsRow B e size v n xs → w'.ownsRow B e size v n xs := fun hv =>
    own_same hv (fun i hi => hs.block i (hv.lt i hi).2 (fun p hp e => by have h1 := hlt p hp i e; have h2 := (hv.lt i hi).1; omega))
  exact ⟨fun p hp => hk (h.own p hp), hk h.row⟩
theorem Spo.below {ps : List PV} {w w' : World} {B : Nat} (hs : Spo ps w w') (hB : B ≤ w.heap.size) (h : ∀ p ∈ ps, ∀ k, (Value.slice p.A p.n p.c).ownBlock = some k → B ≤ k) : Below B w w' :=
  ⟨hs.os, hs.tape, hs.output, hs.size, fun i hi => hs.block i (by omega) (fun p hp e => by have := h p hp i e; omega)⟩

set_option maxRecDepth 100000 in
set_option maxHeartbeats 2000000 in
theorem splits_any (A : Option Addr) (n c : Nat) (l : List UInt8) (w : World) (ht : Tab w) (h : SB w A n c l) (hn : n ≤ 140737488355328) :
    Calls Tryd.prog 4 #[.slice A n c] w fun e w' => e = .returned (.bool true) ∧ Below w.heap.size w w' := by
  have T_0 := Lib.hid ht
  have H_0 := Lib.hid h
  have B_0 : Hid (Below w.heap.size w w) := Lib.hid (Below.refl _ _)
  clear ht h
  by_cases h1 : 10000 < n
  · have h1' : (10000 : Int) < (n : Int) := by omega
    go_enter Tryd.func4, Tryd.ntmps4
    go_wp2_with fail
    go_ret
    exact ⟨rfl, B_0.out⟩
  · have h1' : (n : Int) ≤ 10000 := by omega
    go_enter Tryd.func4, Tryd.ntmps4
    go_wp2_with fail
    refine (split_any A n c l _ T_0.out H_0.out (by omega)).mono ?_
    rintro e w1 ⟨hb1, A1, n1, c1, q1, z, rfl, hop, hn1, hc1, hr1, hspl⟩
    have T_1 := Lib.hid (T_0.out.keep' hb1)
    have H_1 := Lib.hid (H_0.out.keep hb1)
    have B_1 := Lib.hid (B_0.out.trans (hb1.mono B_0.out.size))
    clear B_0
    clear hb1
    have O_n := Lib.hid hop
    have HR1 := Lib.hid hr1
    have SPL := Lib.hid hspl
    have DLO : Hid (∀ p ∈ q1, ∀ k, (Value.slice p.A p.n p.c).ownBlock = some k → w.heap.size ≤ k ∧ k < w1.heap.size) := Lib.hid (fun p hp k hk => (hop.own p hp).lt k hk)
    clear hop hr1 hspl
    go_wp2_with fail
    refine (splitR_any A n c l _ H_1.out (by omega)).mono ?_
    rintro e w2 ⟨hb2, A2, n2, c2, q2, z2, rfl, hoq, hn2, hr2, hspl⟩
    have T_2 := Lib.hid (T_1.out.keep' hb2)
    clear T_1
    have H_2 := Lib.hid (H_1.out.keep hb2)
    clear H_1
    have O_2 := Lib.hid (O_n.out.keep hb2)
    clear O_n
    have B_2 := Lib.hid (B_1.out.trans (hb2.mono B_1.out.size))
    clear B_1
    clear hb2
    have Q_n := Lib.hid hoq
    have HR2 := Lib.hid hr2
    obtain ⟨rfl, hp⟩ := Spl.uniq SPL.out hspl
    have HP12 := Lib.hid hp
    clear hoq hr2 hspl hp
    go_wp2_with fail
    refine (theirs_any A1 n1 c1 q1 _ O_2.out.rp HR1.out (by omega)).mono ?_
    rintro e w3 ⟨hb3, A3, n3, c3, q3, rfl, ho3, hn3, hp3⟩
    have T_3 := Lib.hid (T_2.out.keep' hb3)
    clear T_2
    have H_3 := Lib.hid (H_2.out.keep hb3)
    clear H_2
    have O_3 := Lib.hid (O_2.out.keep hb3)
    clear O_2
    have Q_3 := Lib.hid (Q_n.out.keep hb3)
    clear Q_n
    have B_3 := Lib.hid (B_2.out.trans (hb3.mono B_2.out.size))
    clear B_2
    clear hb3
    have R_n := Lib.hid ho3
    have HP3 := Lib.hid hp3
    have hnn3 : n3 ≤ 100 := by rw [hn3, O_3.out.len]; omega
    clear ho3 hp3 hn3
    go_wp2_with fail
    refine (same_parts A3 A2 n3 c3 n2 c2 q3 q2 _ R_n.out.rp Q_3.out.rp (by omega)).mono ?_
    rintro e w4 ⟨⟨x, rfl, hx⟩, hb4⟩
    have T_4 := Lib.hid (T_3.out.keep' hb4)
    clear T_3
    have H_4 := Lib.hid (H_3.out.keep hb4)
    clear H_3
    have O_4 := Lib.hid (O_3.out.keep hb4)
    clear O_3
    have Q_4 := Lib.hid (Q_3.out.keep hb4)
    clear Q_3
    have R_4 := Lib.hid (R_n.out.keep hb4)
    clear R_n
    have B_4 := Lib.hid (B_3.out.trans (hb4.mono B_3.out.size))
    clear B_3
    clear hb4
    obtain rfl : x = true := hx.2 (by rw [HP3.out, HP12.out])
    clear hx
    clear R_4
    go_wp2_with fail
    refine (spoil_any w.heap.size A1 n1 c1 q1 _ O_4.out (fit_room O_4.out.rp HR1.out) (by omega)).mono ?_
    rintro e w5 ⟨rfl, hspo⟩
    have hb5 : Below w.heap.size w4 w5 := hspo.below B_4.out.size (fun p hp k hk => (DLO.out p hp k hk).1)
    have Q_5 := Lib.hid (Q_4.out.spo hspo (fun p hp k hk => (DLO.out p hp k hk).2))
    have B_5 := Lib.hid (B_4.out.trans hb5)
    have T_5 := Lib.hid (T_0.out.keep' B_5.out)
    have H_5 := Lib.hid (H_0.out.keep B_5.out)
    clear hspo hb5
    go_wp2_with fail
    refine (split_any A n c l _ T_5.out H_5.out (by omega)).mono ?_
    rintro e w6 ⟨hb6, A7, n7, c7, q7, z7, rfl, hop, hn7, hc7, hr7, hspl⟩
    have T_6 := Lib.hid (T_5.out.keep' hb6)
    clear T_5
    have H_6 := Lib.hid (H_5.out.keep hb6)
    clear H_5
    have Q_6 := Lib.hid (Q_5.out.keep hb6)
    clear Q_5
    have B_6 := Lib.hid (B_5.out.trans (hb6.mono B_5.out.size))
    clear B_5
    clear hb6
    have P_n := Lib.hid hop
    have HR7 := Lib.hid hr7
    obtain ⟨rfl, hp⟩ := Spl.uniq SPL.out hspl
    have HP17 := Lib.hid hp
    clear hop hr7 hspl hp
    go_wp2_with fail
    refine (theirs_any A7 n7 c7 q7 _ P_n.out.rp HR7.out (by omega)).mono ?_
    rintro e w7 ⟨hb7, A8, n8, c8, q8, rfl, ho8, hn8, hp8⟩
    have T_7 := Lib.hid (T_6.out.keep' hb7)
    clear T_6
    have H_7 := Lib.hid (H_6.out.keep hb7)
    clear H_6
    have Q_7 := Lib.hid (Q_6.out.keep hb7)
    clear Q_6
    have P_7 := Lib.hid (P_n.out.keep hb7)
    clear P_n
    have B_7 := Lib.hid (B_6.out.trans (hb7.mono B_6.out.size))
    clear B_6
    clear hb7
    have R_n := Lib.hid ho8
    have HP8 := Lib.hid hp8
    have hnn8 : n8 ≤ 100 := by rw [hn8, P_7.out.len]; omega
    clear ho8 hp8 hn8
    go_wp2_with fail
    refine (same_parts A8 A2 n8 c8 n2 c2 q8 q2 _ R_n.out.rp Q_7.out.rp (by omega)).mono ?_
    rintro e w8 ⟨⟨x, rfl, hx⟩, hb8⟩
    have T_8 := Lib.hid (T_7.out.keep' hb8)
    clear T_7
    have H_8 := Lib.hid (H_7.out.keep hb8)
    clear H_7
    have Q_8 := Lib.hid (Q_7.out.keep hb8)
    clear Q_7
    have P_8 := Lib.hid (P_7.out.keep hb8)
    clear P_7
    have R_8 := Lib.hid (R_n.out.keep hb8)
    clear R_n
    have B_8 := Lib.hid (B_7.out.trans (hb8.mono B_7.out.size))
    clear B_7
    clear hb8
    obtain rfl : x = true := hx.2 (by rw [HP8.out, ← HP17.out, HP12.out])
    clear hx
    go_wp2_with fail
    refine (works_any _ T_8.out).mono ?_
    rintro e w9 ⟨rfl, hb9⟩
    have T_9 := Lib.hid (T_8.out.keep' hb9)
    clear T_8
    have H_9 := Lib.hid (H_8.out.keep hb9)
    clear H_8
    have Q_9 := Lib.hid (Q_8.out.keep hb9)
    clear Q_8
    have P_9 := Lib.hid (P_8.out.keep hb9)
    clear P_8
    have R_9 := Lib.hid (R_8.out.keep hb9)
    clear R_8
    have B_9 := Lib.hid (B_8.out.trans (hb9.mono B_8.out.size))
    clear B_8
    clear hb9
    go_wp2_with fail
    go_ret
    exact ⟨rfl, B_9.out⟩
end Go.Proofs.YtncnocejmbfhaaaDoor.Sec
