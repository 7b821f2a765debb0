/-
  The law UndoTexts. Conditions: the text and the steps can be read, their lengths are bounded; the tables lie. (Printed by gen/undtexts.py.)
-/
import Derived.Test.YtebjfigjfhghcaaDoorUndKnown
import Derived.Deep.RegionHeld3
import Derived.Deep.RegionLaw
namespace Go.Proofs.YtebjfigjfhghcaaDoor.Und
open Go.RowKit Wd Utf

/-- the texts, one after the other -/
def txt (t : ByteArray) (l : List Stp) : Nat → ByteArray
  | 0 => t
  | j + 1 => txt t l j ++ (l.getD j zeroS).commit
theorem txt_size {t : ByteArray} {l : List Stp} (hl : ∀ q ∈ l, q.commit.size ≤ 1048576) : ∀ j, (txt t l j).size ≤ t.size + j * 1048576
  | 0 => by simp [txt]
  | j + 1 => by
    have h1 := txt_size (t := t) hl j
    have h2 : (l.getD j zeroS).commit.size ≤ 1048576 := by
      rcases Nat.lt_or_ge j l.length with h | h
      · rw [List.getD_eq_getElem?_getD, List.getElem?_eq_getElem h]; exact hl _ (List.getElem_mem h)
      · rw [List.getD_eq_getElem?_getD, List.getElem?_eq_none h]; decide
    simp only [txt, ByteArray.size_append]
    omega
theorem txt_snoc (t : ByteArray) (l : List Stp) (k : Nat) : vs ((List.range (k + 1)).map (txt t l)) ++ [.string (txt t l (k + 1))] = vs ((List.range (k + 2)).map (txt t l)) := by
  rw [List.range_succ (n := k + 1), List.map_append, vs_append]
  rfl
theorem apply_cat {t : ByteArray} {q : Stp} (ho : okB q = true) : applyS (t ++ q.commit) q = (t, true) := by
  have h1 : (t ++ q.commit).data.toList = t.data.toList ++ q.commit.data.toList := by simp
  have hl : q.commit.data.toList.length = q.commit.size := by rw [Array.length_toList]; rfl
  unfold applyS applyL
  rw [h1, ho, List.length_append, hl, Nat.add_sub_cancel, List.drop_left, List.take_left]
  simp
theorem PL.keptg {T ity : TypeId} {lo : Nat} {w w' : World} {v : Value} {rs : List (Sp × Stp)} {row : Option Nat} (h : PL T ity lo w v rs) (hg : w.grownBy w' row) (hr : ∀ g, row = some g → g < lo) : PL T ity lo w' v rs := by
  obtain ⟨A0, c0, d, c, full, h1, h2, h3, h4, h5⟩ := h.cut
  have key : ∀ {n size : Nat} {e : TypeId} {u : Value} {xs : List Value}, w.ownsRow lo e size u n xs → w'.ownsRow lo e size u n xs := fun {n size e u xs} ho => by
    refine ho.kept hg ?_
    rcases ho.2 with ⟨rfl, _⟩ | ⟨g', cap, cur, rfl, hb, _⟩
    · exact .inl rfl
    · refine .inr fun hh => ?_
      have := hr g' hh.symm
      omega
  refine ⟨A0, c0, d, c, full, ⟨key h1.row, fun p hp => ?_⟩, h2, h3, h4, h5⟩
  have hs := h1.els p hp
  have i := hs.inn
  have a1 := key hs.it
  have a2 := key hs.bo
  have a3 := key hs.fx
  have a4 := key hs.tx
  exact ⟨a1, a2, a3, a4, ⟨RT.of_own a1, RI.of_own a2, RO.of_own a3, RS.of_own a4, i.caret, i.pend, i.mode, i.conv, i.focus, i.prev, i.commit, i.ni, i.nb, i.nf, i.nt, i.tcap, i.szi, i.szt, i.szp, i.szv, i.szm⟩⟩
theorem own_blt {w : World} {base size n : Nat} {e : TypeId} {v : Value} {xs : List Value} (h : w.ownsRow base e size v n xs) : ∀ g, v.ownBlock = some g → g < w.heap.size := fun g hg => (h.lt g hg).2
theorem own_nb {w : World} {base size n g : Nat} {e t : TypeId} {v : Value} {xs : List Value} {cs : Array Value} (h : w.ownsRow base e size v n xs) (hb : Blk w g t cs) (he : e ≠ t) : v.ownBlock ≠ some g := by
  rcases h.2 with ⟨rfl, _⟩ | ⟨g', cap, cur, rfl, _, hg', _⟩
  · intro hh; cases hh
  · intro hh
    simp only [Value.ownBlock, Option.some.injEq] at hh
    subst hh
    unfold Blk at hb
    rw [hg'] at hb
    injection hb with hb
    injection hb with _ h2
    exact he h2
theorem own_setg {w : World} {base size n g : Nat} {e : TypeId} {v : Value} {xs : List Value} (h : w.ownsRow base e size v n xs) (hne : v.ownBlock ≠ some g) (j : Nat) (u : Value) : (w.setCell ⟨g, j, none⟩ u).ownsRow base e size v n xs := h.kept (row := some g) ((Upd.refl g w).set_ j _) (.inr hne)
theorem popT {L : List Stp} {d m : Nat} (hd : d < m) (hm : m ≤ L.length) (ho : L.all okB = true) : popV ((L.take m).drop d) = ((L.take (m - 1)).drop d, L.getD (m - 1) zeroS, true) := by
  obtain ⟨k, rfl⟩ : ∃ k, m = k + 1 := ⟨m - 1, by omega⟩
  have hq : L[k]? = some (L.getD k zeroS) := by rw [List.getD_eq_getElem?_getD, List.getElem?_eq_getElem (by omega)]; rfl
  have e : (L.take (k + 1)).drop d = (L.take k).drop d ++ [L.getD k zeroS] := by
    rw [List.take_add_one, hq, List.drop_append, Nat.sub_eq_zero_of_le (by rw [List.length_take]; omega)]
    rfl
  have hl : ((L.take k).drop d).length = k - d := by rw [List.length_drop, List.length_take, Nat.min_eq_left (by omega)]
  rw [e, popV_ok (n := k - d) (q := L.getD k zeroS) (by rw [List.length_append, hl]; rfl) (by rw [List.getElem?_append_right (by omega), hl, Nat.sub_self]; rfl) (List.all_eq_true.1 ho _ (List.mem_of_getElem? hq)), List.take_append_of_le_length (by omega), List.take_of_length_le (by omega)]
  rfl
theorem below_via2 {w w1 W w2 : World} {B : Nat} (h : Below B w w1) (hb : Below W.heap.size W w2) (hc : Below w1.heap.size w1 W) (hB : B ≤ w1.heap.size) : Below B w w2 := (h.trans (hc.mono hB)).trans (hb.mono (Nat.le_trans hB hc.size))
theorem blk_via2 {w1 W w2 : World} {g : Nat} {t : TypeId} {cs : Array Value} (h : Blk w1 g t cs) (hb : Below W.heap.size W w2) (hc : Below w1.heap.size w1 W) : Blk w2 g t cs := (h.below hc h.lt).below hb (Nat.lt_of_lt_of_le h.lt hc.size)
theorem push_take {L : List Stp} {k : Nat} {q : Stp} (hq : L[k]? = some q) : lastN 16 (L.take k) ++ [q] = lastN 16 (L.take k) ++ [q] ∧ lastN 16 (lastN 16 (L.take k) ++ [q]) = lastN 16 (L.take (k + 1)) := by
  refine ⟨rfl, ?_⟩
  obtain ⟨hk, rfl⟩ := List.getElem?_eq_some_iff.1 hq
  rw [lastN_snoc, List.take_succ_eq_append_getElem hk]
theorem all_last {l : List Stp} (h : l.all okB = true) : (lastN 16 l).all okB = true := by
  rw [List.all_eq_true] at h ⊢
  exact fun x hx => h x (List.mem_of_mem_drop hx)
theorem all_snoc {l : List Stp} {q : Stp} (h : l.all okB = true) : (l ++ [q]).all okB = okB q := by rw [List.all_append, h]; simp
set_option maxRecDepth 100000 in
set_option maxHeartbeats 8000000 in
theorem texts_any (t : ByteArray) (A : Option Addr) (n c : Nat) (ps : List (Sp × Stp)) (w : World) (hT : Tabs w) (hs : RP w A n ps) (hm : n ≤ 1048576) (ht : t.size ≤ 1048576) :
    Calls Tryd.prog 8 #[.string t, .slice A n c] w fun e w' => e = .returned (.bool true) ∧ Below w.heap.size w w' := by
  obtain ⟨i0, hi, hz0, hz1, hz2⟩ := info_parts info_cloneS
  have HI := Lib.hid hi
  have HT := Lib.hid hT
  have HS := Lib.hid hs
  clear hT hs hi
  by_cases h40 : n ≤ 40
  · have HCM : Hid (∀ q ∈ ps.map (·.2), q.commit.size ≤ 1048576) := Lib.hid (by intro q hq; obtain ⟨p, hp, rfl⟩ := List.mem_map.1 hq; have h := HS.out.2 p hp; rw [h.commit]; exact h.szm)
    obtain ⟨L, hL⟩ : ∃ L, ps.map (·.2) = L := ⟨_, rfl⟩
    have HL := Lib.hid hL
    have hLn : L.length = n := by rw [← hL, List.length_map, HS.out.len]
    rw [hL] at HCM
    clear hL
    have B0 : Hid (Below w.heap.size w ((w.alloc (.cells #[.string t] 9)).alloc (.cells #[.slice none 0 0] 46))) := Lib.hid (((Below.refl _ _).alloc (Nat.le_refl _) _).alloc (by simp) _)
    have K0 : Hid (Blk ((w.alloc (.cells #[.string t] 9)).alloc (.cells #[.slice none 0 0] 46)) (w.heap.size + 1) 46 #[.slice none 0 0]) := Lib.hid (by have h := Blk.new (w.alloc (.cells #[.string t] 9)) 46 #[.slice none 0 0]; rwa [show (w.alloc (.cells #[.string t] 9)).heap.size = w.heap.size + 1 by simp] at h)
    have O0 : Hid (((w.alloc (.cells #[.string t] 9)).alloc (.cells #[.slice none 0 0] 46)).ownsRow w.heap.size 9 1 (.slice (some ⟨w.heap.size, 0, none⟩) 1 1) 1 (vs ((List.range 1).map (txt t L)))) := Lib.hid (own_keep (World.ownsRow_lit w #[.string t] 1 (Nat.le_refl _) (by decide) rfl) ((Below.refl _ _).alloc (Nat.le_refl _) _))
    have hz2 : ((w.alloc (.cells #[.string t] 9)).alloc (.cells #[.slice none 0 0] 46)).heap.size = w.heap.size + 1 + 1 := by simp
    go_enter Tryd.func8, Tryd.ntmps8
    go_wp2_with fail
    generalize ((w.alloc (.cells #[.string t] 9)).alloc (.cells #[.slice none 0 0] 46)) = W0 at B0 K0 O0 hz2 ⊢
    go_loopw [5, 7] (fun o i wr => ∃ k : Nat, ∃ v rs lo, k ≤ n ∧ i = .int .i64 (k : Int) ∧ wr.ownsRow w.heap.size 9 1 o (k + 1) (vs ((List.range (k + 1)).map (txt t L))) ∧ Blk wr (w.heap.size + 1) 46 #[v] ∧ PL 31 75 lo wr v rs ∧ w.heap.size + 1 + 1 ≤ lo ∧ rs.map (fun p : Sp × Stp => p.2) = lastN 16 (L.take k) ∧ (L.take k).all okB = true ∧ Below w.heap.size w wr) (fun _ i _ => n - (intOf i).toNat)
    case atStart => exact ⟨0, _, [], w.heap.size + 1 + 1, Nat.zero_le _, rfl, O0.out, K0.out, PL.nil _ _ _ _, Nat.le_refl _, rfl, rfl, B0.out⟩
    case round =>
      obtain ⟨k, v, rs, lo, hk, rfl, ho5, hkb, hpl, hlo, hmap, hall, hbl⟩ := hrel
      obtain ⟨A2, c2, rfl, hrp, _⟩ := hpl.form
      obtain ⟨A5, c5, rfl, hc5⟩ := own_form ho5
      have O := Lib.hid ho5
      have K := Lib.hid hkb
      have P := Lib.hid hpl
      have M := Lib.hid hmap
      have HA := Lib.hid hall
      have B := Lib.hid hbl
      have RP2 := Lib.hid hrp
      have hrl : rs.length ≤ 16 := by have := congrArg List.length hmap; rw [List.length_map] at this; unfold lastN at this; rw [List.length_drop, List.length_take] at this; omega
      clear ho5 hkb hpl hmap hall hbl hrp O0 K0 B0 hz2
      generalize hj : rs.length = j at *
      by_cases hlt : k < n
      · obtain ⟨ad, ⟨r, q⟩, rfl, hp, hin, hbk, hcw⟩ := HS.out.all_ hlt
        have HLK : Hid (L[k]? = some q) := Lib.hid (by rw [← HL.out, List.getElem?_map, hp]; rfl)
        have hcm : q.commit = r.commit := hin.commit
        have hsm := hin.szm
        have HPU := Lib.hid (fun (W : World) (hW : Below wr.heap.size wr W) => push_any A2 j c2 rs r q W ((HT.out.keep B.out).keep hW) (RP2.out.keep hW) (hin.keep (B.out.trans (hW.mono B.out.size))) (by omega))
        have HAS := Lib.hid (all_snoc (q := q) (all_last HA.out))
        simp only [M.out, HAS.out] at HPU
        obtain ⟨Ai, ni, ci, caret, pend, mode, conv, Ab, nb, cb, Af, nf, cf, At, nt, ct, focus, prev, commit⟩ := r
        unfold Sp.cells at HPU
        simp only at HPU hcw hcm hsm
        have CW := Lib.hid hcw
        clear hp hin hcw
        have hgq : w.heap.size + 1 ≠ (⟨wr.heap.size, 0, none⟩ : Addr).block := by have := K.out.lt; show w.heap.size + 1 ≠ wr.heap.size; omega
        have hgl : w.heap.size ≤ (⟨wr.heap.size, 0, none⟩ : Addr).block := B.out.size
        have KD := Lib.hid (show wr.drew.cell? ⟨w.heap.size + 1, 0, none⟩ = some (.slice A2 j c2) ∧ wr.drew.cell? (ad.add (k * 11)) = some (.slice Ai ni ci) ∧ wr.drew.cell? (⟨(ad.add (k * 11)).block, (ad.add (k * 11)).off + 1, none⟩) = some (.int .i64 caret) ∧ wr.drew.cell? (⟨(ad.add (k * 11)).block, (ad.add (k * 11)).off + 2, none⟩) = some (.string pend) ∧ wr.drew.cell? (⟨(ad.add (k * 11)).block, (ad.add (k * 11)).off + 3, none⟩) = some (.int .i64 mode) ∧ wr.drew.cell? (⟨(ad.add (k * 11)).block, (ad.add (k * 11)).off + 4, none⟩) = some (.bool conv) ∧ wr.drew.cell? (⟨(ad.add (k * 11)).block, (ad.add (k * 11)).off + 5, none⟩) = some (.slice Ab nb cb) ∧ wr.drew.cell? (⟨(ad.add (k * 11)).block, (ad.add (k * 11)).off + 6, none⟩) = some (.slice Af nf cf) ∧ wr.drew.cell? (⟨(ad.add (k * 11)).block, (ad.add (k * 11)).off + 7, none⟩) = some (.slice At nt ct) ∧ wr.drew.cell? (⟨(ad.add (k * 11)).block, (ad.add (k * 11)).off + 8, none⟩) = some (.int .i64 focus) ∧ wr.drew.cell? (⟨(ad.add (k * 11)).block, (ad.add (k * 11)).off + 9, none⟩) = some (.string prev) ∧ wr.drew.cell? (⟨(ad.add (k * 11)).block, (ad.add (k * 11)).off + 10, none⟩) = some (.string commit) from ⟨K.out.cell 0, CW.out _ B.out.drew⟩)
        go_wp2_with fail
        go_region_held3 (fun w' => w'.cell? ⟨w.heap.size + 1, 0, none⟩ = some (.slice A2 j c2) ∧ w'.cell? (ad.add (k * 11)) = some (.slice Ai ni ci) ∧ w'.cell? (⟨(ad.add (k * 11)).block, (ad.add (k * 11)).off + 1, none⟩) = some (.int .i64 caret) ∧ w'.cell? (⟨(ad.add (k * 11)).block, (ad.add (k * 11)).off + 2, none⟩) = some (.string pend) ∧ w'.cell? (⟨(ad.add (k * 11)).block, (ad.add (k * 11)).off + 3, none⟩) = some (.int .i64 mode) ∧ w'.cell? (⟨(ad.add (k * 11)).block, (ad.add (k * 11)).off + 4, none⟩) = some (.bool conv) ∧ w'.cell? (⟨(ad.add (k * 11)).block, (ad.add (k * 11)).off + 5, none⟩) = some (.slice Ab nb cb) ∧ w'.cell? (⟨(ad.add (k * 11)).block, (ad.add (k * 11)).off + 6, none⟩) = some (.slice Af nf cf) ∧ w'.cell? (⟨(ad.add (k * 11)).block, (ad.add (k * 11)).off + 7, none⟩) = some (.slice At nt ct) ∧ w'.cell? (⟨(ad.add (k * 11)).block, (ad.add (k * 11)).off + 8, none⟩) = some (.int .i64 focus) ∧ w'.cell? (⟨(ad.add (k * 11)).block, (ad.add (k * 11)).off + 9, none⟩) = some (.string prev) ∧ w'.cell? (⟨(ad.add (k * 11)).block, (ad.add (k * 11)).off + 10, none⟩) = some (.string commit)) (first | with_reducible exact KD.out | with_reducible exact KJ.out | with_reducible exact ⟨((K.out.alloc _).drew).cell 0, CW.out _ (B.out.alloc B.out.size _).drew⟩ | with_reducible exact ⟨(K3.out.alloc _).cell 0, CW.out _ (B3.out.alloc B3.out.size _)⟩ | with_reducible exact ⟨(K3.out.far hgq _).cell 0, CW.out _ (B3.out.setCell hgl _)⟩ | exact ⟨((K3.out.alloc _).far (by simp; omega) _).cell 0, CW.out _ ((B3.out.alloc B3.out.size _).setCell (by simp; omega) _)⟩ | go_keep) ((go_at_call 14; (with_reducible refine (HPU.out _ ?_).mono ?_); (· (first | with_reducible exact (Below.refl _ _).drew | with_reducible exact ((Below.refl _ _).alloc (Nat.le_refl _) _).drew)); rintro e w3 ⟨v3, rs3, rfl, hpl3, hmap3, hb3⟩; obtain ⟨A3, c3, rfl, _, _⟩ := hpl3.form; have P3 := Lib.hid hpl3; have M3 := Lib.hid hmap3; have B3 := Lib.hid (below_via2 B.out hb3 (by first | with_reducible exact (Below.refl _ _).drew | with_reducible exact ((Below.refl _ _).alloc (Nat.le_refl _) _).drew) B.out.size); have K3 := Lib.hid (blk_via2 K.out hb3 (by first | with_reducible exact (Below.refl _ _).drew | with_reducible exact ((Below.refl _ _).alloc (Nat.le_refl _) _).drew)); (try (have Q3 := Lib.hid (Blk.below (Blk.new wr 46 #[.slice none 0 0]).drew hb3 (by simp)); have q30 : w3.cell? ⟨wr.heap.size, 0, none⟩ = some (.slice none 0 0) := Q3.out.cell 0; have q31 : w3.frozen? ⟨wr.heap.size, 0, none⟩ = false := Q3.out.frozen 0)); have O3 := Lib.hid (own_keep (own_keep O.out (by first | with_reducible exact (Below.refl _ _).drew | with_reducible exact ((Below.refl _ _).alloc (Nat.le_refl _) _).drew)) hb3); have hw3 : w.heap.size + 1 < w3.heap.size := K3.out.lt; have KJ := Lib.hid (show w3.cell? ⟨w.heap.size + 1, 0, none⟩ = some (.slice A2 j c2) ∧ w3.cell? (ad.add (k * 11)) = some (.slice Ai ni ci) ∧ w3.cell? (⟨(ad.add (k * 11)).block, (ad.add (k * 11)).off + 1, none⟩) = some (.int .i64 caret) ∧ w3.cell? (⟨(ad.add (k * 11)).block, (ad.add (k * 11)).off + 2, none⟩) = some (.string pend) ∧ w3.cell? (⟨(ad.add (k * 11)).block, (ad.add (k * 11)).off + 3, none⟩) = some (.int .i64 mode) ∧ w3.cell? (⟨(ad.add (k * 11)).block, (ad.add (k * 11)).off + 4, none⟩) = some (.bool conv) ∧ w3.cell? (⟨(ad.add (k * 11)).block, (ad.add (k * 11)).off + 5, none⟩) = some (.slice Ab nb cb) ∧ w3.cell? (⟨(ad.add (k * 11)).block, (ad.add (k * 11)).off + 6, none⟩) = some (.slice Af nf cf) ∧ w3.cell? (⟨(ad.add (k * 11)).block, (ad.add (k * 11)).off + 7, none⟩) = some (.slice At nt ct) ∧ w3.cell? (⟨(ad.add (k * 11)).block, (ad.add (k * 11)).off + 8, none⟩) = some (.int .i64 focus) ∧ w3.cell? (⟨(ad.add (k * 11)).block, (ad.add (k * 11)).off + 9, none⟩) = some (.string prev) ∧ w3.cell? (⟨(ad.add (k * 11)).block, (ad.add (k * 11)).off + 10, none⟩) = some (.string commit) from ⟨K3.out.cell 0, CW.out _ B3.out⟩); clear hpl3 hmap3 hb3))
        all_goals
          have hblt := own_blt O.out
          have hwr : w.heap.size + 1 < wr.heap.size := K.out.lt
          first
            | (have KF := Lib.hid (K3.out.alloc (.cells #[.slice A3 rs3.length c3] 46))
               have PF := Lib.hid ((P3.out.keep ((Below.refl w3.heap.size w3).alloc (Nat.le_refl _) (.cells #[.slice A3 rs3.length c3] 46))).lower (lo' := wr.heap.size) (Nat.le_refl _))
               have OF := Lib.hid (own_keep O3.out ((Below.refl w3.heap.size w3).alloc (Nat.le_refl _) (.cells #[.slice A3 rs3.length c3] 46)))
               have BF := Lib.hid (B3.out.alloc B3.out.size (.cells #[.slice A3 rs3.length c3] 46))
               have q8 : (w3.alloc (.cells #[.slice A3 rs3.length c3] 46)).cell? ⟨w3.heap.size, 0, none⟩ = some (.slice A3 rs3.length c3) := (Blk.new w3 46 #[.slice A3 rs3.length c3]).cell 0
               generalize (w3.alloc (.cells #[.slice A3 rs3.length c3] 46)) = wF at KF PF OF BF q8 ⊢)
            | (have Q4 := Q3
               have KF := Lib.hid (K3.out.far (p := ⟨wr.heap.size, 0, none⟩) (by show w.heap.size + 1 ≠ wr.heap.size; omega) (.slice A3 rs3.length c3))
               have PF := Lib.hid ((P3.out.setl (g := wr.heap.size) (by show wr.heap.size < (wr.alloc _).heap.size; simp) 0 (.slice A3 rs3.length c3)).lower (lo' := wr.heap.size) (by show wr.heap.size ≤ (wr.alloc _).heap.size; simp))
               have OF := Lib.hid (own_setg O3.out (g := wr.heap.size) (fun h => absurd (hblt _ h) (Nat.lt_irrefl _)) 0 (.slice A3 rs3.length c3))
               have BF := Lib.hid (B3.out.setCell (p := ⟨wr.heap.size, 0, none⟩) (by show w.heap.size ≤ wr.heap.size; omega) (.slice A3 rs3.length c3))
               have q8 : (w3.setCell ⟨wr.heap.size, 0, none⟩ (.slice A3 rs3.length c3)).cell? ⟨wr.heap.size, 0, none⟩ = some (.slice A3 rs3.length c3) := (Q4.out.set_ 0 (.slice A3 rs3.length c3)).cell 0
               generalize (w3.setCell ⟨wr.heap.size, 0, none⟩ (.slice A3 rs3.length c3)) = wF at KF PF OF BF q8 ⊢
               clear Q4 Q3 q30 q31)
          clear KJ KD P3 B3 K3 O3 HPU P B K O RP2 hgq hw3
          generalize hj3 : rs3.length = j3 at *
          rcases ho : okB q with _ | _
          · go_wp2_with fail
            with_reducible refine (works_any _ (HT.out.keep BF.out)).mono ?_
            rintro e w4 ⟨rfl, hb4⟩
            go_wp2_with fail
            go_ret
            exact ⟨rfl, BF.out.trans (hb4.mono BF.out.size)⟩
          · have HO := Lib.hid ho
            have q0 : wF.cell? ⟨w.heap.size + 1, 0, none⟩ = some (.slice A2 j c2) := KF.out.cell 0
            have q1 : wF.frozen? ⟨w.heap.size + 1, 0, none⟩ = false := KF.out.frozen 0
            clear ho
            rw [errI_t]
            go_upto_region 12 with fail
            have K6 : Hid (Blk (wF.setCell ⟨w.heap.size + 1, 0, none⟩ (.slice A3 j3 c3)) (w.heap.size + 1) 46 #[.slice A3 j3 c3]) := Lib.hid (KF.out.set_ 0 (.slice A3 j3 c3))
            have P6 := Lib.hid (PF.out.setl (g := w.heap.size + 1) (by omega) 0 (.slice A3 j3 c3))
            have O6 := Lib.hid (own_setg OF.out (own_nb OF.out KF.out (by decide)) 0 (.slice A3 j3 c3))
            have B6 := Lib.hid (BF.out.setCell (p := ⟨w.heap.size + 1, 0, none⟩) (Nat.le_succ _) (.slice A3 j3 c3))
            generalize (wF.setCell ⟨w.heap.size + 1, 0, none⟩ (.slice A3 j3 c3)) = w6 at K6 P6 O6 B6 ⊢
            have hadd : ∀ W : World, (Op.stringOp .add (txt t L k) commit).run Tryd.prog W = .ok (.string (txt t L (k + 1))) W := fun W => by
              have hz := txt_size (t := t) HCM.out k
              rw [run_string_add_sum _ _ _ (by have := Nat.mul_le_mul_right 1048576 (Nat.le_of_lt (Nat.lt_of_lt_of_le hlt h40)); omega)]
              have e : (L.getD k zeroS).commit = commit := by rw [List.getD_eq_getElem?_getD, HLK.out]; exact hcm
              simp only [txt, e]
            obtain ⟨a5, hA5, _, c5k⟩ := (RS.of_own O6.out).at_ (k := k) (Nat.lt_succ_self k)
            subst hA5
            have c5k : w6.cell? (a5.add k) = some (.string (txt t L k)) := by rw [c5k]; simp [List.getD_eq_getElem?_getD]
            have c10 := (CW.out w6 B6.out).2.2.2.2.2.2.2.2.2.2
            have BL := Lib.hid ((Below.refl w6.heap.size w6).alloc (Nat.le_refl _) (.cells #[.string (txt t L (k + 1))] 9))
            have OR := Lib.hid (own_keep O6.out BL.out)
            have hsz6 : w.heap.size ≤ w6.heap.size := B6.out.size
            have hk1 : (k : Int) < ((k + 1 : Nat) : Int) := by omega
            have hk2 : (k : Int) < (k : Int) + 1 := by omega
            generalize hTK : txt t L k = TK at hadd c5k ⊢
            generalize hTN : txt t L (k + 1) = TN at hadd BL OR
            have HTN := Lib.hid hTN
            go_region_law (first
              | (refine step_append_any _ (by rfl) (.tmp 45) (.tmp 56) _ (by rfl) w.heap.size 9 i0 _ 1 16 Tryd.underlying29 HI.out hz0 hz1 hz2 (by kernel_rfl) (by decide) _ (k + 1) (vs ((List.range (k + 1)).map (txt t L))) (by rfl) (by exact OR.out) _ (some ⟨w6.heap.size, 0, none⟩) 1 1 [.string TN] (by rfl) (Reads.litP _ _ _ _ 1 1 _ _ rfl rfl rfl) (by intro u hu; rw [List.mem_singleton.1 hu]; rfl) (by unfold maxLen; omega) (by omega) (by simp; omega) ?_; intro v7 w7 hown7 hg7 hat7; obtain ⟨A7, c7, rfl, hc7⟩ := own_form hown7; have O7 := Lib.hid hown7; have HG7 := Lib.hid hg7; clear hown7 hg7 hat7))
            all_goals
              clear hTN hTK
              have hg7 : ((w6.alloc (.cells #[.string TN] 9)).drew).grownBy w7 (Value.slice (some a5) (k + 1) c5).ownBlock := HG7.out
              have KA : Blk ((w6.alloc (.cells #[.string TN] 9)).drew) (w.heap.size + 1) 46 #[.slice A3 j3 c3] := (K6.out.alloc _).drew
              have K7 := Lib.hid (KA.grown hg7 (fun h => own_nb (own_drew OR.out) KA (by decide) h.symm))
              have P7 := Lib.hid ((P6.out.keep BL.out.drew).keptg hg7 (fun g h => hblt g h))
              have B7 := Lib.hid (own_below (B := w.heap.size) (B6.out.trans (BL.out.drew.mono B6.out.size)) (Nat.le_refl _) (own_drew OR.out) (Nat.le_refl _) hg7)
              have O8 := O7.out
              rw [← HTN.out, txt_snoc] at O8
              have M8 : rs3.map (fun p : Sp × Stp => p.2) = lastN 16 (L.take (k + 1)) := by rw [M3.out, pushV_ok (HAS.out.trans HO.out), (push_take HLK.out).2]
              have HO8 := Lib.hid O8
              have HM8 := Lib.hid M8
              clear KA hg7 HG7 O7 O8 M8
              try go_wp2_with fail
              go_roundw
              case rel => exact ⟨k + 1, .slice A3 j3 c3, rs3, wr.heap.size, by omega, by go_num, HO8.out, K7.out, P7.out, by omega, HM8.out, all_stp HLK.out HA.out HO.out, B7.out⟩
              case measure => simp [intOf]; omega
      · have HKN : Hid (k = n) := Lib.hid (by omega)
        have HA2 : Hid (L.all okB = true) := Lib.hid (by have h := HA.out; rwa [HKN.out, List.take_of_length_le (by omega)] at h)
        have M2 : Hid (rs.map (fun p : Sp × Stp => p.2) = (L.take n).drop (n - 16)) := Lib.hid (by rw [M.out, HKN.out]; unfold lastN; rw [List.length_take, hLn, Nat.min_self])
        have O2 : Hid (wr.ownsRow w.heap.size 9 1 (.slice A5 (n + 1) c5) (n + 1) (vs ((List.range (n + 1)).map (txt t L)))) := Lib.hid (by have h := O.out; rw [HKN.out] at h; exact h)
        obtain ⟨a5, hA5, _, c5k⟩ := (RS.of_own O2.out).at_ (k := n) (Nat.lt_succ_self n)
        subst hA5
        have c5k : wr.cell? (a5.add n) = some (.string (txt t L n)) := by rw [c5k]; simp [List.getD_eq_getElem?_getD]
        have hk1 : (n : Int) < (n : Int) + 1 := by omega
        have hkn : k + 1 = n + 1 := by rw [HKN.out]
        rw [hkn] at hc5 ⊢
        clear hkn
        go_upto_region 14 with fail
        generalize hTK : txt t L n = TK
        go_wp2_with fail
        go_loopw [10, 11] (fun o i wq => ∃ m : Nat, ∃ v rs lo, n - 16 ≤ m ∧ m ≤ n ∧ i = .int .i64 ((m : Int) - 1) ∧ o = .string (txt t L m) ∧ wq.ownsRow w.heap.size 9 1 (.slice (some a5) (n + 1) c5) (n + 1) (vs ((List.range (n + 1)).map (txt t L))) ∧ Blk wq (w.heap.size + 1) 46 #[v] ∧ PL 31 75 lo wq v rs ∧ w.heap.size + 1 + 1 ≤ lo ∧ rs.map (fun p : Sp × Stp => p.2) = (L.take m).drop (n - 16) ∧ Below w.heap.size w wq) (fun _ i _ => (intOf i + 1).toNat)
        case atStart => exact ⟨n, _, rs, lo, Nat.sub_le _ _, Nat.le_refl _, rfl, by rw [hTK], O2.out, K.out, P.out, hlo, M2.out, B.out⟩
        case round =>
          clear O K P M B RP2 O2 M2 c5k hTK HA hc5
          rename World => wq
          obtain ⟨m, v2, rs2, lo2, hm1, hm2, rfl, rfl, ho5, hkb, hpl, hlo2, hmap, hbl⟩ := hrel
          obtain ⟨A2, c2, rfl, hrp, hc2⟩ := hpl.form
          have O := Lib.hid ho5
          have K := Lib.hid hkb
          have P := Lib.hid hpl
          have M := Lib.hid hmap
          have B := Lib.hid hbl
          have RP2 := Lib.hid hrp
          have hrl : rs2.length ≤ 40 := by have := congrArg List.length hmap; rw [List.length_map, List.length_drop, List.length_take] at this; omega
          have hwq := hkb.lt
          clear ho5 hkb hpl hmap hbl hrp
          generalize hj2 : rs2.length = j2 at *
          have p0 : wq.cell? ⟨w.heap.size + 1, 0, none⟩ = some (.slice A2 j2 c2) := K.out.cell 0
          have HP := Lib.hid (pop_any A2 j2 c2 rs2 wq (HT.out.keep B.out) RP2.out (by omega) hc2)
          rw [M.out] at HP
          by_cases hd : n - 16 < m
          · obtain ⟨p, rfl⟩ : ∃ p, m = p + 1 := ⟨m - 1, by omega⟩
            have hmp : ((p + 1 : Nat) : Int) - 1 = (p : Int) := by omega
            rw [hmp]
            have hi0 : (0 : Int) ≤ (p : Int) := by omega
            have hi1 : (n : Int) - 16 ≤ (p : Int) := by omega
            have hi2 : (p : Int) < (n : Int) + 1 := by omega
            have hcq : L.getD p zeroS ∈ L := by rw [List.getD_eq_getElem?_getD, List.getElem?_eq_getElem (show p < L.length by omega)]; exact List.getElem_mem _
            have HOQ : Hid (okB (L.getD p zeroS) = true) := Lib.hid (List.all_eq_true.1 HA2.out _ hcq)
            have HTX : Hid (txt t L (p + 1) = txt t L p ++ (L.getD p zeroS).commit) := Lib.hid rfl
            have htz : (txt t L (p + 1)).size ≤ 9223372036854775807 := by have hz := txt_size (t := t) HCM.out (p + 1); have := Nat.mul_le_mul_right 1048576 (Nat.le_trans hm2 h40); omega
            rw [popT hd (by omega) HA2.out, Nat.add_sub_cancel] at HP
            generalize hq : L.getD p zeroS = q at HP HOQ HTX
            have HAP : Hid (applyS (txt t L (p + 1)) q = (txt t L p, true)) := Lib.hid (by rw [HTX.out]; exact apply_cat HOQ.out)
            clear hcq hq
            go_wp2_with fail
            with_reducible refine (HP.out).mono ?_
            rintro e w3 ⟨v3, r3, rfl, rs3, hpl3, hmap3, hown3, hb3⟩
            obtain ⟨A3, c3, rfl, _, _⟩ := hpl3.form
            have HA3 := Lib.hid (fun (W : World) (hW : Below w3.heap.size w3 W) => apply_any (txt t L (p + 1)) r3 q W ((HT.out.keep (B.out.trans (hb3.mono B.out.size))).keep hW) (hown3.inn.keep hW) htz)
            rw [HAP.out] at HA3
            have P3 := Lib.hid hpl3
            have M3 := Lib.hid hmap3
            have K3 := Lib.hid (K.out.below hb3 hwq)
            have O3 := Lib.hid (own_keep O.out hb3)
            have B3 := Lib.hid (B.out.trans (hb3.mono B.out.size))
            have hb3s := hb3.size
            clear hpl3 hmap3 hown3 hb3 HP K P M B RP2 p0 O HTX HAP htz HOQ
            obtain ⟨Ai, ni, ci, caret, pend, mode, conv, Ab, nb, cb, Af, nf, cf, At, nt, ct, focus, prev, commit⟩ := r3
            unfold Sp.cells at HA3
            unfold Sp.cells
            simp only at HA3 ⊢
            generalize hj3 : rs3.length = j3 at *
            generalize txt t L (p + 1) = TM at HA3
            clear hmp
            go_wp2_with fail
            have BA : Hid (Below w3.heap.size w3 ((w3.alloc (.cells #[.slice A3 j3 c3] 46)).alloc (.cells #[.slice Ai ni ci, .int .i64 caret, .string pend, .int .i64 mode, .bool conv, .slice Ab nb cb, .slice Af nf cf, .slice At nt ct, .int .i64 focus, .string prev, .string commit] 31))) := Lib.hid (((Below.refl _ _).alloc (Nat.le_refl _) _).alloc (by simp) _)
            have KQ : Hid (Blk ((w3.alloc (.cells #[.slice A3 j3 c3] 46)).alloc (.cells #[.slice Ai ni ci, .int .i64 caret, .string pend, .int .i64 mode, .bool conv, .slice Ab nb cb, .slice Af nf cf, .slice At nt ct, .int .i64 focus, .string prev, .string commit] 31)) w3.heap.size 46 #[.slice A3 j3 c3]) := Lib.hid ((Blk.new w3 _ _).alloc _)
            have K4 := Lib.hid (K3.out.below BA.out K3.out.lt)
            have O4 := Lib.hid (own_keep O3.out BA.out)
            have P4 := Lib.hid (P3.out.keep BA.out)
            have B4 := Lib.hid (B3.out.trans (BA.out.mono B3.out.size))
            clear K3 O3 P3
            generalize ((w3.alloc (.cells #[.slice A3 j3 c3] 46)).alloc (.cells #[.slice Ai ni ci, .int .i64 caret, .string pend, .int .i64 mode, .bool conv, .slice Ab nb cb, .slice Af nf cf, .slice At nt ct, .int .i64 focus, .string prev, .string commit] 31)) = W4 at BA KQ K4 O4 P4 B4 ⊢
            with_reducible refine (HA3.out _ BA.out).mono ?_
            rintro e w5 ⟨rfl, hb5⟩
            have KQ5 := Lib.hid (KQ.out.below hb5 KQ.out.lt)
            have K5 := Lib.hid (K4.out.below hb5 K4.out.lt)
            have O5 := Lib.hid (own_keep O4.out hb5)
            have P5 := Lib.hid (P4.out.keep hb5)
            have B5 := Lib.hid (B4.out.trans (hb5.mono B4.out.size))
            clear hb5 KQ K4 O4 P4 B4 BA B3 HA3
            obtain ⟨a6, hA6, _, c5q⟩ := (RS.of_own O5.out).at_ (k := p) (by omega)
            injection hA6 with hA6
            subst hA6
            have c5p : w5.cell? (a5.add p) = some (.string (txt t L p)) := by rw [c5q]; congr 2; simp [List.getD_eq_getElem?_getD, List.getElem?_range (show p < n + 1 by omega)]
            clear c5q
            generalize hTP : txt t L p = TP at c5p ⊢
            have q8 : w5.cell? ⟨w3.heap.size, 0, none⟩ = some (.slice A3 j3 c3) := KQ5.out.cell 0
            have q0 : w5.cell? ⟨w.heap.size + 1, 0, none⟩ = some (.slice A2 j2 c2) := K5.out.cell 0
            have q1 : w5.frozen? ⟨w.heap.size + 1, 0, none⟩ = false := K5.out.frozen 0
            have hce : (TP.toList == TP.toList) = true := by simp
            have HTP := Lib.hid hTP
            go_wp2_with fail
            have K6 : Hid (Blk (w5.setCell ⟨w.heap.size + 1, 0, none⟩ (.slice A3 j3 c3)) (w.heap.size + 1) 46 #[.slice A3 j3 c3]) := Lib.hid (K5.out.set_ 0 (.slice A3 j3 c3))
            have P6 := Lib.hid (P5.out.setl (g := w.heap.size + 1) hwq 0 (.slice A3 j3 c3))
            have O6 := Lib.hid (own_setg O5.out (own_nb O5.out K5.out (by decide)) 0 (.slice A3 j3 c3))
            have B6 := Lib.hid (B5.out.setCell (p := ⟨w.heap.size + 1, 0, none⟩) (Nat.le_succ _) (.slice A3 j3 c3))
            go_roundw
            case rel => exact ⟨p, .slice A3 j3 c3, rs3, wq.heap.size, by omega, by omega, by first | rfl | go_num, by rw [HTP.out], O6.out, K6.out, P6.out, hwq, M3.out, B6.out⟩
            case measure => simp [intOf]
          · have hmn : m = n - 16 := by omega
            have hnil : (L.take m).drop (n - 16) = [] := List.drop_of_length_le (by rw [List.length_take]; omega)
            rw [hnil, popV_nil] at HP
            have hlast : ((m : Int) - 1 < 0) ∨ ((0 : Int) ≤ (m : Int) - 1 ∧ (m : Int) - 1 < (n : Int) - 16) := by omega
            clear hnil
            rcases hlast with hl | ⟨hl, hl2⟩
            all_goals
              go_wp2_with fail
              with_reducible refine (HP.out).mono ?_
              rintro e w3 ⟨v3, r3, rfl, rs3, hpl3, hmap3, hown3, hb3⟩
              obtain ⟨A3, c3, rfl, _, _⟩ := hpl3.form
              have B3 := Lib.hid (B.out.trans (hb3.mono B.out.size))
              clear hpl3 hmap3 hown3 hb3 HP K P M RP2 p0 O
              obtain ⟨Ai, ni, ci, caret, pend, mode, conv, Ab, nb, cb, Af, nf, cf, At, nt, ct, focus, prev, commit⟩ := r3
              unfold Sp.cells
              simp only
              go_wp2_with fail
              have BA : Hid (Below w3.heap.size w3 ((w3.alloc (.cells #[.slice A3 rs3.length c3] 46)).alloc (.cells #[.slice Ai ni ci, .int .i64 caret, .string pend, .int .i64 mode, .bool conv, .slice Ab nb cb, .slice Af nf cf, .slice At nt ct, .int .i64 focus, .string prev, .string commit] 31))) := Lib.hid (((Below.refl _ _).alloc (Nat.le_refl _) _).alloc (by simp) _)
              have B4 := Lib.hid (B3.out.trans (BA.out.mono B3.out.size))
              with_reducible refine (works_any _ (HT.out.keep B4.out)).mono ?_
              rintro e w6 ⟨rfl, hb6⟩
              have B6 := Lib.hid (B4.out.trans (hb6.mono B4.out.size))
              go_wp2_with fail
              go_ret
              exact ⟨rfl, B6.out⟩
  · go_enter Tryd.func8, Tryd.ntmps8
    go_wp2_with fail
    with_reducible refine (works_any w HT.out).mono ?_
    rintro e w1 ⟨rfl, hb1⟩
    go_wp2_with fail
    go_ret
    exact ⟨rfl, hb1⟩
end Go.Proofs.YtebjfigjfhghcaaDoor.Und
