/-
  The law UndoKnown: the examples of the chapter. Conditions: the tables lie. (Printed by gen/undknown.py.)
-/
import Derived.Test.YtebjfigjfhghcaaDoorUndWorks
namespace Go.Proofs.YtebjfigjfhghcaaDoor.Und
open Go.RowKit Wd Utf

/-- the letter of a number -/
def chK (k : Nat) : ByteArray := Utf8.encode (65 + (k : Int))
theorem chK_size : ∀ k, k < 17 → (chK k).size ≤ 1048576 := by
  have h : ((List.range 17).all fun k => decide ((chK k).size ≤ 1048576)) = true := by kernel_rfl
  intro k hk
  exact of_decide_eq_true (List.all_eq_true.1 h k (List.mem_range.2 hk))
/-- the step of a number -/
def stepQ (t : ByteArray) : Stp := { todayQ with texts := [t], focus := 0, commit := t }
def stepK (k : Nat) : Stp := stepQ (chK k)
theorem stepK_ok : ∀ k, k < 17 → okB (stepK k) = true := by
  have h : ((List.range 17).all fun k => okB (stepK k)) = true := by kernel_rfl
  intro k hk
  exact List.all_eq_true.1 h k (List.mem_range.2 hk)
theorem stepQ_commit (t : ByteArray) : (stepQ t).commit = t := rfl
theorem stepK_commit (k : Nat) : (stepK k).commit = chK k := stepQ_commit _
theorem stepQ_in {W : World} {Ai Ab Af At B : Option Addr} {ni ci nb cb nf cf nt ct : Nat} {caret mode focus : Int} {pend prev commit t : ByteArray} {conv : Bool} (h : SpIn W ⟨Ai, ni, ci, caret, pend, mode, conv, Ab, nb, cb, Af, nf, cf, At, nt, ct, focus, prev, commit⟩ todayQ) (hr : RS W B 1 [t]) (hk : t.size ≤ 1048576) :
    SpIn W ⟨Ai, ni, ci, caret, pend, mode, conv, Ab, nb, cb, Af, nf, cf, B, 1, 1, 0, prev, t⟩ (stepQ t) := by
  obtain ⟨a1, a2, a3, a4, a5, a6, a7, a8, a9, a10, a11, a12, a13, a14, a15, a16, a17, a18, a19, a20, a21⟩ := h
  unfold stepQ
  exact ⟨a1, a2, a3, hr, a5, a6, a7, a8, rfl, a10, rfl, a12, a13, a14, by simp only; omega, by simp only; omega, a17, by intro x hx; rw [List.mem_singleton.1 hx]; exact hk, a19, a20, hk⟩
def badQ : Stp := { todayQ with texts := [⟨#[230, 152, 142, 230, 151, 165]⟩] }
theorem bad_ok : okB badQ = false := by kernel_rfl
theorem bad_all : (([] : List Stp) ++ [badQ]).all okB = false := by simp [bad_ok]
theorem badQ_in {W : World} {Ai Ab Af At B : Option Addr} {ni ci nb cb nf cf nt ct : Nat} {caret mode focus : Int} {pend prev commit : ByteArray} {conv : Bool} (h : SpIn W ⟨Ai, ni, ci, caret, pend, mode, conv, Ab, nb, cb, Af, nf, cf, At, nt, ct, focus, prev, commit⟩ todayQ) (hr : RS W B 1 [⟨#[230, 152, 142, 230, 151, 165]⟩]) :
    SpIn W ⟨Ai, ni, ci, caret, pend, mode, conv, Ab, nb, cb, Af, nf, cf, B, 1, 1, focus, prev, commit⟩ badQ := by
  obtain ⟨a1, a2, a3, a4, a5, a6, a7, a8, a9, a10, a11, a12, a13, a14, a15, a16, a17, a18, a19, a20, a21⟩ := h
  unfold badQ
  exact ⟨a1, a2, a3, hr, a5, a6, a7, a8, a9, a10, a11, a12, a13, a14, by simp only; omega, by simp only; omega, a17, by intro x hx; rw [List.mem_singleton.1 hx]; decide, a19, a20, a21⟩
/-- a step of a mode and a text -/
def modeQ (t : ByteArray) : Stp := ⟨[], 0, ⟨#[]⟩, 1, false, [], [], [], 0, ⟨#[]⟩, t⟩
def modeP (t : ByteArray) : Sp := ⟨none, 0, 0, 0, ⟨#[]⟩, 1, false, none, 0, 0, none, 0, 0, none, 0, 0, 0, ⟨#[]⟩, t⟩
theorem modeQ_in (W : World) (t : ByteArray) (ht : t.size ≤ 1048576) : SpIn W (modeP t) (modeQ t) := by
  unfold modeP modeQ
  exact ⟨RT.nil _ _, Reads.none_, RO.nil _ _, Reads.none_, rfl, rfl, rfl, rfl, rfl, rfl, rfl, (by dsimp only; omega), (by dsimp only; omega), (by dsimp only; omega), (by dsimp only; omega), (by dsimp only; omega), (by intro x hx; cases hx), (by intro x hx; cases hx), (by dsimp only; decide), (by dsimp only; decide), ht⟩
theorem mode_ok : okB (modeQ ⟨#[120]⟩) = true := by kernel_rfl
theorem mode_bad : okB (modeQ ⟨#[]⟩) = false := by kernel_rfl
theorem lastN_snoc {α : Type} (l : List α) (q : α) : lastN 16 (lastN 16 l ++ [q]) = lastN 16 (l ++ [q]) := by
  unfold lastN
  by_cases h : l.length ≤ 16
  · rw [Nat.sub_eq_zero_of_le h, List.drop_zero]
  · have e : l.drop (l.length - 16) ++ [q] = (l ++ [q]).drop (l.length - 16) := by rw [List.drop_append, Nat.sub_eq_zero_of_le (Nat.sub_le _ _)]; rfl
    rw [e, List.drop_drop, List.length_drop, List.length_append]
    congr 1
    simp only [List.length_cons, List.length_nil]
    omega
theorem okK {k : Nat} (hk : k < 17) : (lastN 16 ((List.range k).map stepK) ++ [stepK k]).all okB = true := by
  rw [List.all_eq_true]
  intro x hx
  rcases List.mem_append.1 hx with hx | hx
  · have hx := List.mem_of_mem_drop hx
    obtain ⟨i, hi, rfl⟩ := List.mem_map.1 hx
    exact stepK_ok i (by have := List.mem_range.1 hi; omega)
  · simp at hx; subst hx; exact stepK_ok k hk
theorem pushK {k : Nat} (hk : k < 17) : pushV (lastN 16 ((List.range k).map stepK) ++ [stepK k]) = lastN 16 ((List.range (k + 1)).map stepK) := by
  rw [pushV_ok (okK hk), lastN_snoc, List.range_succ, List.map_append]
  rfl
theorem popK {m : Nat} (h1 : 1 ≤ m) (hm : m ≤ 16) : popV ((List.range m).map fun i => stepK (i + 1)) = ((List.range (m - 1)).map (fun i => stepK (i + 1)), stepK m, true) := by
  obtain ⟨n, rfl⟩ : ∃ n, m = n + 1 := ⟨m - 1, by omega⟩
  rw [popV_ok (n := n) (q := stepK (n + 1)) (by simp) (by rw [List.getElem?_map, List.getElem?_range (Nat.lt_succ_self n)]; rfl) (stepK_ok _ (by omega))]
  rw [Nat.add_sub_cancel, List.range_succ, List.map_append, List.take_append_of_le_length (by simp), List.take_of_length_le (by simp)]
theorem lastK : lastN 16 ((List.range 17).map stepK) = (List.range 16).map fun i => stepK (i + 1) := by
  unfold lastN
  rw [List.length_map, List.length_range, ← List.map_drop, show (List.range 17).drop (17 - 16) = (List.range 16).map (· + 1) from by decide, List.map_map]
  rfl
theorem PL.setl {T ity : TypeId} {lo g : Nat} {w : World} {v : Value} {rs : List (Sp × Stp)} (h : PL T ity lo w v rs) (hg : g < lo) (j : Nat) (u : Value) : PL T ity lo (w.setCell ⟨g, j, none⟩ u) v rs := by
  obtain ⟨A0, c0, d, c, full, h1, h2, h3, h4, h5⟩ := h.cut
  exact ⟨A0, c0, d, c, full, h1.setl hg j u, h2, h3, h4, h5⟩
set_option maxRecDepth 100000 in
set_option maxHeartbeats 8000000 in
theorem known_any (w : World) (hT : Tabs w) : Calls Tryd.prog 9 #[] w fun e w' => e = .returned (.bool true) ∧ Below w.heap.size w w' := by
  have HT := Lib.hid hT
  have B0 : Hid (Below w.heap.size w (w.alloc (.cells #[.slice none 0 0] 46))) := Lib.hid ((Below.refl _ _).alloc (Nat.le_refl _) _)
  have K0 : Hid (Blk (w.alloc (.cells #[.slice none 0 0] 46)) w.heap.size 46 #[.slice none 0 0]) := Lib.hid (Blk.new w _ _)
  clear hT
  go_enter Tryd.func9, Tryd.ntmps9
  go_wp2_with fail
  generalize (w.alloc (.cells #[.slice none 0 0] 46)) = W0 at B0 K0 ⊢
  go_loopw [2] (fun i wr => ∃ k : Nat, ∃ v rs, k ≤ 17 ∧ i = .int .i64 (k : Int) ∧ Blk wr w.heap.size 46 #[v] ∧ PL 31 75 (w.heap.size + 1) wr v rs ∧ rs.map (fun p : Sp × Stp => p.2) = lastN 16 ((List.range k).map stepK) ∧ Below w.heap.size w wr) (fun i _ => 17 - (intOf i).toNat)
  case atStart => exact ⟨0, _, [], Nat.zero_le _, rfl, K0.out, PL.nil _ _ _ _, rfl, B0.out⟩
  case round =>
    obtain ⟨k, v, rs, hk, rfl, hkb, hpl, hmap, hbl⟩ := hrel
    obtain ⟨A1, c1, rfl, _, _⟩ := hpl.form
    have K := Lib.hid hkb
    have P := Lib.hid hpl
    have M := Lib.hid hmap
    have B := Lib.hid hbl
    clear hkb hpl hmap hbl K0 B0
    by_cases hlt : k < 17
    · go_wp2_with fail
      with_reducible refine (today_any _).mono ?_
      rintro e w1 ⟨r, rfl, hin, hb1⟩
      have HIN := Lib.hid hin
      have B1 := Lib.hid (B.out.trans (hb1.mono B.out.size))
      have K1 := Lib.hid (K.out.below hb1 K.out.lt)
      have P1 := Lib.hid (P.out.keep hb1)
      clear hin hb1 K P B
      obtain ⟨Ai, ni, ci, caret, pend, mode, conv, Ab, nb, cb, Af, nf, cf, At, nt, ct, focus, prev, commit⟩ := r
      unfold Sp.cells
      simp only
      have hrl : rs.length ≤ 16 := by have := congrArg List.length M.out; rw [List.length_map] at this; unfold lastN at this; rw [List.length_drop, List.length_map, List.length_range] at this; omega
      have p0 : w1.cell? ⟨w.heap.size, 0, none⟩ = some (.slice A1 rs.length c1) := K1.out.cell 0
      have hw1 := K1.out.lt
      generalize hj : rs.length = j at *
      go_wp2_with fail
      have hcz := chK_size k hlt
      have hst : stepK k = stepQ (chK k) := rfl
      have hch : Utf8.encode (65 + (k : Int)) = chK k := rfl
      rw [hch]
      have hw2 : (w1.alloc (.cells #[.slice Ai ni ci, .int .i64 caret, .string pend, .int .i64 mode, .bool conv, .slice Ab nb cb, .slice Af nf cf, .slice (some ⟨w1.heap.size + 1, 0, none⟩) 1 1, .int .i64 0, .string prev, .string (chK k)] 31)).heap.size = w1.heap.size + 1 := by simp
      have BA : Hid (Below w1.heap.size w1 ((w1.alloc (.cells #[.slice Ai ni ci, .int .i64 caret, .string pend, .int .i64 mode, .bool conv, .slice Ab nb cb, .slice Af nf cf, .slice (some ⟨w1.heap.size + 1, 0, none⟩) 1 1, .int .i64 0, .string prev, .string (chK k)] 31)).alloc (.cells #[.string (chK k)] 9))) := Lib.hid (((Below.refl _ _).alloc (Nat.le_refl _) _).alloc (by simp) _)
      have hws : ((w1.alloc (.cells #[.slice Ai ni ci, .int .i64 caret, .string pend, .int .i64 mode, .bool conv, .slice Ab nb cb, .slice Af nf cf, .slice (some ⟨w1.heap.size + 1, 0, none⟩) 1 1, .int .i64 0, .string prev, .string (chK k)] 31)).alloc (.cells #[.string (chK k)] 9)).heap.size = w1.heap.size + 1 + 1 := by simp
      have RT1 : Hid (RS ((w1.alloc (.cells #[.slice Ai ni ci, .int .i64 caret, .string pend, .int .i64 mode, .bool conv, .slice Ab nb cb, .slice Af nf cf, .slice (some ⟨w1.heap.size + 1, 0, none⟩) 1 1, .int .i64 0, .string prev, .string (chK k)] 31)).alloc (.cells #[.string (chK k)] 9)) (some ⟨w1.heap.size + 1, 0, none⟩) 1 [chK k]) := Lib.hid (rs_lit (w1.alloc (.cells #[.slice Ai ni ci, .int .i64 caret, .string pend, .int .i64 mode, .bool conv, .slice Ab nb cb, .slice Af nf cf, .slice (some ⟨w1.heap.size + 1, 0, none⟩) 1 1, .int .i64 0, .string prev, .string (chK k)] 31)) #[.string (chK k)] 9 (0, 0) 1 _ [chK k] hw2 rfl rfl)
      have IN2 : Hid (SpIn ((w1.alloc (.cells #[.slice Ai ni ci, .int .i64 caret, .string pend, .int .i64 mode, .bool conv, .slice Ab nb cb, .slice Af nf cf, .slice (some ⟨w1.heap.size + 1, 0, none⟩) 1 1, .int .i64 0, .string prev, .string (chK k)] 31)).alloc (.cells #[.string (chK k)] 9)) ⟨Ai, ni, ci, caret, pend, mode, conv, Ab, nb, cb, Af, nf, cf, some ⟨w1.heap.size + 1, 0, none⟩, 1, 1, 0, prev, chK k⟩ (stepK k)) := Lib.hid (stepQ_in (HIN.out.keep BA.out) RT1.out (chK_size k hlt))
      have B2 := Lib.hid (B1.out.trans (BA.out.mono B1.out.size))
      have K2 := Lib.hid (K1.out.below BA.out hw1)
      have RP2 : Hid (RP ((w1.alloc (.cells #[.slice Ai ni ci, .int .i64 caret, .string pend, .int .i64 mode, .bool conv, .slice Ab nb cb, .slice Af nf cf, .slice (some ⟨w1.heap.size + 1, 0, none⟩) 1 1, .int .i64 0, .string prev, .string (chK k)] 31)).alloc (.cells #[.string (chK k)] 9)) A1 j rs) := Lib.hid (by obtain ⟨A', c', e', hrp, _⟩ := (P1.out.keep BA.out).form; rw [hj] at hrp e'; injection e' with e1; subst e1; exact hrp)
      generalize ((w1.alloc (.cells #[.slice Ai ni ci, .int .i64 caret, .string pend, .int .i64 mode, .bool conv, .slice Ab nb cb, .slice Af nf cf, .slice (some ⟨w1.heap.size + 1, 0, none⟩) 1 1, .int .i64 0, .string prev, .string (chK k)] 31)).alloc (.cells #[.string (chK k)] 9)) = W2 at BA RT1 IN2 B2 K2 RP2 hws ⊢
      have HPU := Lib.hid (push_any A1 j c1 rs _ (stepK k) _ (HT.out.keep B2.out) RP2.out IN2.out (by omega))
      rw [M.out, okK hlt, pushK hlt] at HPU
      unfold Sp.cells at HPU
      simp only at HPU
      with_reducible refine (HPU.out).mono ?_
      rintro e w3 ⟨v3, rs3, rfl, hpl3, hmap3, hb3⟩
      obtain ⟨A3, c3, rfl, _, _⟩ := hpl3.form
      have P3 := Lib.hid (hpl3.lower (lo' := w.heap.size + 1) (by omega))
      have M3 := Lib.hid hmap3
      have K3 := Lib.hid (K2.out.below hb3 K2.out.lt)
      have B3 := Lib.hid (B2.out.trans (hb3.mono B2.out.size))
      clear hpl3 hmap3 hb3 HPU BA RT1 IN2 B2 K2 RP2 P1 B1 K1 HIN M p0
      rw [errI_t]
      generalize hj3 : rs3.length = j3 at *
      have q0 : w3.cell? ⟨w.heap.size, 0, none⟩ = some (.slice A1 j c1) := K3.out.cell 0
      have q1 : w3.frozen? ⟨w.heap.size, 0, none⟩ = false := K3.out.frozen 0
      have q2 : (w3.alloc (.cells #[.slice A3 j3 c3] 46)).frozen? ⟨w.heap.size, 0, none⟩ = false := (K3.out.alloc _).frozen 0
      have q3 : (w3.alloc (.cells #[.slice A3 j3 c3] 46)).cell? ⟨w.heap.size, 0, none⟩ = some (.slice A1 j c1) := (K3.out.alloc _).cell 0
      have hw3 := K3.out.lt
      clear hst hch hcz
      generalize chK k = T
      go_wp2_with fail
      go_roundw
      case rel => exact ⟨k + 1, .slice A3 j3 c3, rs3, by omega, by go_num, (K3.out.set_ 0 _).alloc _, (P3.out.setl (Nat.lt_succ_self _) 0 _).keep ((Below.refl _ _).alloc (Nat.le_refl _) _), M3.out, (B3.out.setCell (p := ⟨w.heap.size, 0, none⟩) (Nat.le_refl _) _).alloc (by have := B3.out.size; simpa using this) _⟩
      case measure => simp [intOf]; omega
    · have HKN : Hid (k = 17) := Lib.hid (by omega)
      have M2 : Hid (rs.map (fun p : Sp × Stp => p.2) = (List.range 16).map fun i => stepK (i + 1)) := Lib.hid (by have h := M.out; rw [HKN.out] at h; exact h.trans lastK)
      clear M
      go_wp2_with fail
      go_loopw [6] (fun i wr => ∃ m : Nat, ∃ v rs, m ≤ 16 ∧ i = .int .i64 (m : Int) ∧ Blk wr w.heap.size 46 #[v] ∧ PL 31 75 (w.heap.size + 1) wr v rs ∧ rs.map (fun p : Sp × Stp => p.2) = (List.range m).map (fun i => stepK (i + 1)) ∧ Below w.heap.size w wr) (fun i _ => (intOf i).toNat)
      case atStart => exact ⟨16, _, rs, Nat.le_refl _, rfl, K.out, P.out, M2.out, B.out⟩
      case round =>
        clear K P M2 B
        rename World => wq
        obtain ⟨m, v2, rs2, hm, rfl, hkb, hpl, hmap, hbl⟩ := hrel
        obtain ⟨A1, c1, rfl, hrp, hc1⟩ := hpl.form
        have K := Lib.hid hkb
        have P := Lib.hid hpl
        have M := Lib.hid hmap
        have B := Lib.hid hbl
        have RP1 := Lib.hid hrp
        have hl2 : rs2.length = m := by have := congrArg List.length hmap; rwa [List.length_map, List.length_map, List.length_range] at this
        clear hkb hpl hmap hbl hrp
        rw [hl2] at RP1 hc1
        have p0 : wq.cell? ⟨w.heap.size, 0, none⟩ = some (.slice A1 rs2.length c1) := K.out.cell 0
        rw [hl2] at p0
        have hwq := K.out.lt
        by_cases h1 : 1 ≤ m
        · have HP := Lib.hid (pop_any A1 m c1 rs2 wq (HT.out.keep B.out) RP1.out (by omega) hc1)
          rw [M.out, popK h1 hm] at HP
          go_wp2_with fail
          with_reducible refine (HP.out).mono ?_
          rintro e w3 ⟨v3, r3, rfl, rs3, hpl3, hmap3, hown3, hb3⟩
          obtain ⟨A3, c3, rfl, _, _⟩ := hpl3.form
          have hcm := hown3.inn.commit
          rw [stepK_commit] at hcm
          have P3 := Lib.hid (hpl3.lower (lo' := w.heap.size + 1) hwq)
          have M3 := Lib.hid hmap3
          have K3 := Lib.hid (K.out.below hb3 K.out.lt)
          have B3 := Lib.hid (B.out.trans (hb3.mono B.out.size))
          clear hpl3 hmap3 hown3 hb3 HP K P M B RP1 p0
          obtain ⟨Ai, ni, ci, caret, pend, mode, conv, Ab, nb, cb, Af, nf, cf, At, nt, ct, focus, prev, commit⟩ := r3
          unfold Sp.cells
          simp only at hcm ⊢
          subst hcm
          unfold chK
          generalize hj3 : rs3.length = j3 at *
          have hmm : (m : Int) - 1 = ((m - 1 : Nat) : Int) := by omega
          have q0 : w3.cell? ⟨w.heap.size, 0, none⟩ = some (.slice A1 m c1) := by have := K3.out.cell 0; rw [hl2] at this; exact this
          have q1 : w3.frozen? ⟨w.heap.size, 0, none⟩ = false := K3.out.frozen 0
          have q2 : ((w3.alloc (.cells #[.slice A3 j3 c3] 46)).alloc (.cells #[.slice Ai ni ci, .int .i64 caret, .string pend, .int .i64 mode, .bool conv, .slice Ab nb cb, .slice Af nf cf, .slice At nt ct, .int .i64 focus, .string prev, .string (Utf8.encode (65 + (m : Int)))] 31)).frozen? ⟨w.heap.size, 0, none⟩ = false := ((K3.out.alloc _).alloc _).frozen 0
          have q3 : ((w3.alloc (.cells #[.slice A3 j3 c3] 46)).alloc (.cells #[.slice Ai ni ci, .int .i64 caret, .string pend, .int .i64 mode, .bool conv, .slice Ab nb cb, .slice Af nf cf, .slice At nt ct, .int .i64 focus, .string prev, .string (Utf8.encode (65 + (m : Int)))] 31)).cell? ⟨w.heap.size, 0, none⟩ = some (.slice A1 m c1) := by have := ((K3.out.alloc (.cells #[.slice A3 j3 c3] 46)).alloc (.cells #[.slice Ai ni ci, .int .i64 caret, .string pend, .int .i64 mode, .bool conv, .slice Ab nb cb, .slice Af nf cf, .slice At nt ct, .int .i64 focus, .string prev, .string (Utf8.encode (65 + (m : Int)))] 31)).cell 0; rw [hl2] at this; exact this
          have hw3 := K3.out.lt
          have hce : ∀ s : ByteArray, (s.toList == s.toList) = true := fun s => by simp
          go_wp2_with fail
          go_roundw
          case rel => exact ⟨m - 1, .slice A3 j3 c3, rs3, by omega, rfl, ((K3.out.set_ 0 _).alloc _).alloc _, (P3.out.setl (Nat.lt_succ_self _) 0 _).keep (((Below.refl _ _).alloc (Nat.le_refl _) _).alloc (by simp) _), M3.out, ((B3.out.setCell (p := ⟨w.heap.size, 0, none⟩) (Nat.le_refl _) _).alloc (by have := B3.out.size; simpa using this) _).alloc (by have := B3.out.size; simp; omega) _⟩
          case measure => simp [intOf]; omega
        · have hm0 : m = 0 := by omega
          subst hm0
          have HP := Lib.hid (pop_any A1 0 c1 rs2 wq (HT.out.keep B.out) RP1.out (by omega) hc1)
          rw [M.out, List.range_zero, List.map_nil, popV_nil] at HP
          go_wp2_with fail
          with_reducible refine (HP.out).mono ?_
          rintro e w3 ⟨v3, r3, rfl, rs3, hpl3, hmap3, hown3, hb3⟩
          have B3 := Lib.hid (B.out.trans (hb3.mono B.out.size))
          obtain ⟨A3, c3, rfl, _, _⟩ := hpl3.form
          clear hpl3 hmap3 hown3 hb3 HP K P M B RP1 p0
          obtain ⟨Ai, ni, ci, caret, pend, mode, conv, Ab, nb, cb, Af, nf, cf, At, nt, ct, focus, prev, commit⟩ := r3
          unfold Sp.cells
          simp only
          go_wp2_with fail
          have BT : Hid (Below w3.heap.size w3 ((w3.alloc (.cells #[.slice A3 rs3.length c3] 46)).alloc (.cells #[.slice Ai ni ci, .int .i64 caret, .string pend, .int .i64 mode, .bool conv, .slice Ab nb cb, .slice Af nf cf, .slice At nt ct, .int .i64 focus, .string prev, .string commit] 31))) := Lib.hid (((Below.refl _ _).alloc (Nat.le_refl _) _).alloc (by simp) _)
          have B3 := Lib.hid (B3.out.trans (BT.out.mono B3.out.size))
          clear BT
          generalize ((w3.alloc (.cells #[.slice A3 rs3.length c3] 46)).alloc (.cells #[.slice Ai ni ci, .int .i64 caret, .string pend, .int .i64 mode, .bool conv, .slice Ab nb cb, .slice Af nf cf, .slice At nt ct, .int .i64 focus, .string prev, .string commit] 31)) = W3 at B3 ⊢
          with_reducible refine (today_any _).mono ?_
          rintro e w4 ⟨r4, rfl, hin4, hb4⟩
          have IN4 := Lib.hid hin4
          have B4 := Lib.hid (B3.out.trans (hb4.mono B3.out.size))
          clear hin4 hb4 B3
          obtain ⟨Ai, ni, ci, caret, pend, mode, conv, Ab, nb, cb, Af, nf, cf, At, nt, ct, focus, prev, commit⟩ := r4
          unfold Sp.cells
          simp only
          go_wp2_with fail
          have s1 : (w4.alloc (.cells #[.slice Ai ni ci, .int .i64 caret, .string pend, .int .i64 mode, .bool conv, .slice Ab nb cb, .slice Af nf cf, .slice (some ⟨w4.heap.size + 1, 0, none⟩) 1 1, .int .i64 focus, .string prev, .string commit] 31)).heap.size = w4.heap.size + 1 := by simp
          have s2 : ((w4.alloc (.cells #[.slice Ai ni ci, .int .i64 caret, .string pend, .int .i64 mode, .bool conv, .slice Ab nb cb, .slice Af nf cf, .slice (some ⟨w4.heap.size + 1, 0, none⟩) 1 1, .int .i64 focus, .string prev, .string commit] 31)).alloc (.cells #[.string ⟨#[230, 152, 142, 230, 151, 165]⟩] 9)).heap.size = w4.heap.size + 1 + 1 := by simp
          have BA : Hid (Below w4.heap.size w4 (((w4.alloc (.cells #[.slice Ai ni ci, .int .i64 caret, .string pend, .int .i64 mode, .bool conv, .slice Ab nb cb, .slice Af nf cf, .slice (some ⟨w4.heap.size + 1, 0, none⟩) 1 1, .int .i64 focus, .string prev, .string commit] 31)).alloc (.cells #[.string ⟨#[230, 152, 142, 230, 151, 165]⟩] 9)).alloc (.cells #[.slice none 0 0, .int .i64 0, .string ⟨#[]⟩, .int .i64 1, .bool false, .slice none 0 0, .slice none 0 0, .slice none 0 0, .int .i64 0, .string ⟨#[]⟩, .string ⟨#[120]⟩] 31))) := Lib.hid ((((Below.refl _ _).alloc (Nat.le_refl _) _).alloc (by simp) _).alloc (by simp; omega) _)
          have RT5 : Hid (RS (((w4.alloc (.cells #[.slice Ai ni ci, .int .i64 caret, .string pend, .int .i64 mode, .bool conv, .slice Ab nb cb, .slice Af nf cf, .slice (some ⟨w4.heap.size + 1, 0, none⟩) 1 1, .int .i64 focus, .string prev, .string commit] 31)).alloc (.cells #[.string ⟨#[230, 152, 142, 230, 151, 165]⟩] 9)).alloc (.cells #[.slice none 0 0, .int .i64 0, .string ⟨#[]⟩, .int .i64 1, .bool false, .slice none 0 0, .slice none 0 0, .slice none 0 0, .int .i64 0, .string ⟨#[]⟩, .string ⟨#[120]⟩] 31)) (some ⟨w4.heap.size + 1, 0, none⟩) 1 [⟨#[230, 152, 142, 230, 151, 165]⟩]) := Lib.hid (RS.alloc (rs_lit (w4.alloc (.cells #[.slice Ai ni ci, .int .i64 caret, .string pend, .int .i64 mode, .bool conv, .slice Ab nb cb, .slice Af nf cf, .slice (some ⟨w4.heap.size + 1, 0, none⟩) 1 1, .int .i64 focus, .string prev, .string commit] 31)) #[.string ⟨#[230, 152, 142, 230, 151, 165]⟩] 9 (0, 0) 1 _ [⟨#[230, 152, 142, 230, 151, 165]⟩] s1 rfl rfl) _)
          have KB : Hid (Blk (((w4.alloc (.cells #[.slice Ai ni ci, .int .i64 caret, .string pend, .int .i64 mode, .bool conv, .slice Ab nb cb, .slice Af nf cf, .slice (some ⟨w4.heap.size + 1, 0, none⟩) 1 1, .int .i64 focus, .string prev, .string commit] 31)).alloc (.cells #[.string ⟨#[230, 152, 142, 230, 151, 165]⟩] 9)).alloc (.cells #[.slice none 0 0, .int .i64 0, .string ⟨#[]⟩, .int .i64 1, .bool false, .slice none 0 0, .slice none 0 0, .slice none 0 0, .int .i64 0, .string ⟨#[]⟩, .string ⟨#[120]⟩] 31)) (w4.heap.size + 1 + 1) 31 #[.slice none 0 0, .int .i64 0, .string ⟨#[]⟩, .int .i64 1, .bool false, .slice none 0 0, .slice none 0 0, .slice none 0 0, .int .i64 0, .string ⟨#[]⟩, .string ⟨#[120]⟩]) := Lib.hid (by have h := Blk.new ((w4.alloc (.cells #[.slice Ai ni ci, .int .i64 caret, .string pend, .int .i64 mode, .bool conv, .slice Ab nb cb, .slice Af nf cf, .slice (some ⟨w4.heap.size + 1, 0, none⟩) 1 1, .int .i64 focus, .string prev, .string commit] 31)).alloc (.cells #[.string ⟨#[230, 152, 142, 230, 151, 165]⟩] 9)) 31 #[.slice none 0 0, .int .i64 0, .string ⟨#[]⟩, .int .i64 1, .bool false, .slice none 0 0, .slice none 0 0, .slice none 0 0, .int .i64 0, .string ⟨#[]⟩, .string ⟨#[120]⟩]; rwa [s2] at h)
          have B5 := Lib.hid (B4.out.trans (BA.out.mono B4.out.size))
          have IN5 := Lib.hid (badQ_in (IN4.out.keep BA.out) RT5.out)
          clear s1 s2 B4 IN4 RT5 BA
          generalize (((w4.alloc (.cells #[.slice Ai ni ci, .int .i64 caret, .string pend, .int .i64 mode, .bool conv, .slice Ab nb cb, .slice Af nf cf, .slice (some ⟨w4.heap.size + 1, 0, none⟩) 1 1, .int .i64 focus, .string prev, .string commit] 31)).alloc (.cells #[.string ⟨#[230, 152, 142, 230, 151, 165]⟩] 9)).alloc (.cells #[.slice none 0 0, .int .i64 0, .string ⟨#[]⟩, .int .i64 1, .bool false, .slice none 0 0, .slice none 0 0, .slice none 0 0, .int .i64 0, .string ⟨#[]⟩, .string ⟨#[120]⟩] 31)) = W5 at KB B5 IN5 ⊢
          have HPU := Lib.hid (push_any none 0 0 [] _ badQ _ (HT.out.keep B5.out) (RP.nil _ _) IN5.out (Nat.zero_le _))
          rw [List.map_nil, bad_all] at HPU
          unfold Sp.cells at HPU
          simp only at HPU
          with_reducible refine (HPU.out).mono ?_
          rintro e w6 ⟨v6, rs6, rfl, hpl6, hmap6, hb6⟩
          obtain ⟨A6, c6, rfl, _, _⟩ := hpl6.form
          have KB := Lib.hid (KB.out.below hb6 KB.out.lt)
          have B6 := Lib.hid (B5.out.trans (hb6.mono B5.out.size))
          clear hpl6 hmap6 hb6 HPU B5 IN5
          rw [errI_f]
          have k0 : w6.cell? ⟨w4.heap.size + 1 + 1, 0, none⟩ = some (.slice none 0 0) := KB.out.cell 0
          have k1 : w6.cell? ⟨w4.heap.size + 1 + 1, 1, none⟩ = some (.int .i64 0) := KB.out.cell 1
          have k2 : w6.cell? ⟨w4.heap.size + 1 + 1, 2, none⟩ = some (.string ⟨#[]⟩) := KB.out.cell 2
          have k3 : w6.cell? ⟨w4.heap.size + 1 + 1, 3, none⟩ = some (.int .i64 1) := KB.out.cell 3
          have k4 : w6.cell? ⟨w4.heap.size + 1 + 1, 4, none⟩ = some (.bool false) := KB.out.cell 4
          have k5 : w6.cell? ⟨w4.heap.size + 1 + 1, 5, none⟩ = some (.slice none 0 0) := KB.out.cell 5
          have k6 : w6.cell? ⟨w4.heap.size + 1 + 1, 6, none⟩ = some (.slice none 0 0) := KB.out.cell 6
          have k7 : w6.cell? ⟨w4.heap.size + 1 + 1, 7, none⟩ = some (.slice none 0 0) := KB.out.cell 7
          have k8 : w6.cell? ⟨w4.heap.size + 1 + 1, 8, none⟩ = some (.int .i64 0) := KB.out.cell 8
          have k9 : w6.cell? ⟨w4.heap.size + 1 + 1, 9, none⟩ = some (.string ⟨#[]⟩) := KB.out.cell 9
          have k10 : w6.cell? ⟨w4.heap.size + 1 + 1, 10, none⟩ = some (.string ⟨#[120]⟩) := KB.out.cell 10
          have BA : Hid (Below w6.heap.size w6 (w6.alloc (.cells #[.slice A6 rs6.length c6] 46))) := Lib.hid ((Below.refl _ _).alloc (Nat.le_refl _) _)
          have B7 := Lib.hid (B6.out.trans (BA.out.mono B6.out.size))
          have KB := Lib.hid (KB.out.alloc (.cells #[.slice A6 rs6.length c6] 46))
          have m0 : (w6.alloc (.cells #[.slice A6 rs6.length c6] 46)).cell? ⟨w4.heap.size + 1 + 1, 0, none⟩ = some (.slice none 0 0) := KB.out.cell 0
          have m1 : (w6.alloc (.cells #[.slice A6 rs6.length c6] 46)).cell? ⟨w4.heap.size + 1 + 1, 1, none⟩ = some (.int .i64 0) := KB.out.cell 1
          have m2 : (w6.alloc (.cells #[.slice A6 rs6.length c6] 46)).cell? ⟨w4.heap.size + 1 + 1, 2, none⟩ = some (.string ⟨#[]⟩) := KB.out.cell 2
          have m3 : (w6.alloc (.cells #[.slice A6 rs6.length c6] 46)).cell? ⟨w4.heap.size + 1 + 1, 3, none⟩ = some (.int .i64 1) := KB.out.cell 3
          have m4 : (w6.alloc (.cells #[.slice A6 rs6.length c6] 46)).cell? ⟨w4.heap.size + 1 + 1, 4, none⟩ = some (.bool false) := KB.out.cell 4
          have m5 : (w6.alloc (.cells #[.slice A6 rs6.length c6] 46)).cell? ⟨w4.heap.size + 1 + 1, 5, none⟩ = some (.slice none 0 0) := KB.out.cell 5
          have m6 : (w6.alloc (.cells #[.slice A6 rs6.length c6] 46)).cell? ⟨w4.heap.size + 1 + 1, 6, none⟩ = some (.slice none 0 0) := KB.out.cell 6
          have m7 : (w6.alloc (.cells #[.slice A6 rs6.length c6] 46)).cell? ⟨w4.heap.size + 1 + 1, 7, none⟩ = some (.slice none 0 0) := KB.out.cell 7
          have m8 : (w6.alloc (.cells #[.slice A6 rs6.length c6] 46)).cell? ⟨w4.heap.size + 1 + 1, 8, none⟩ = some (.int .i64 0) := KB.out.cell 8
          have m9 : (w6.alloc (.cells #[.slice A6 rs6.length c6] 46)).cell? ⟨w4.heap.size + 1 + 1, 9, none⟩ = some (.string ⟨#[]⟩) := KB.out.cell 9
          have m10 : (w6.alloc (.cells #[.slice A6 rs6.length c6] 46)).cell? ⟨w4.heap.size + 1 + 1, 10, none⟩ = some (.string ⟨#[120]⟩) := KB.out.cell 10
          have HC1 := Lib.hid (fun (W : World) (hW : Below w.heap.size w W) => check_any (modeP ⟨#[120]⟩) (modeQ ⟨#[120]⟩) W (HT.out.keep hW) (modeQ_in W _ (by decide)))
          have HC2 := Lib.hid (fun (W : World) (hW : Below w.heap.size w W) => check_any (modeP ⟨#[]⟩) (modeQ ⟨#[]⟩) W (HT.out.keep hW) (modeQ_in W _ (by decide)))
          rw [mode_ok, errI_t] at HC1
          rw [mode_bad, errI_f] at HC2
          unfold Sp.cells modeP at HC1 HC2
          simp only at HC1 HC2
          go_wp2_with fail
          with_reducible refine (HC1.out _ B7.out).mono ?_
          rintro e w8 ⟨rfl, hb8⟩
          have B8 := Lib.hid (B7.out.trans (hb8.mono B7.out.size))
          clear hb8 B7 B6 BA
          go_wp2_with fail
          with_reducible refine (HC2.out _ B8.out).mono ?_
          rintro e w9 ⟨rfl, hb9⟩
          have B9 := Lib.hid (B8.out.trans (hb9.mono B8.out.size))
          clear hb9 B8
          go_wp2_with fail
          with_reducible refine (works_any _ (HT.out.keep B9.out)).mono ?_
          rintro e w10 ⟨rfl, hb10⟩
          have B10 := Lib.hid (B9.out.trans (hb10.mono B9.out.size))
          go_wp2_with fail
          go_ret
          exact ⟨rfl, B10.out⟩
end Go.Proofs.YtebjfigjfhghcaaDoor.Und
