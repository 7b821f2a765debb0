/-
  The contract of copies of package undo. Conditions: the steps can be read, their lengths are bounded.
-/
import Derived.Test.YtebjfigjfhghcaaDoorUndCopy1
namespace Go.Proofs.YtebjfigjfhghcaaDoor.Und
open Go.RowKit Wd Utf

theorem map_snoc {ps rs : List (Sp × Stp)} {k : Nat} {p : Sp × Stp} {r : Sp} (h : rs.map (·.2) = (ps.take k).map (·.2)) (hp : ps[k]? = some p) : (rs ++ [(r, p.2)]).map (·.2) = (ps.take (k + 1)).map (·.2) := by
  obtain ⟨hk, rfl⟩ := List.getElem?_eq_some_iff.1 hp
  rw [List.take_succ_eq_append_getElem hk, List.map_append, List.map_append, h]
  rfl
set_option maxRecDepth 100000 in
set_option maxHeartbeats 8000000 in
theorem copies_any (A : Option Addr) (n c : Nat) (ps : List (Sp × Stp)) (w : World) (hs : RP w A n ps) (hn : n ≤ 1048576) :
    Calls Tryd.prog 32 #[.slice A n c] w fun e w' => ∃ v rs, e = .returned v ∧ OP 31 75 w.heap.size w' v rs ∧ rs.map (·.2) = ps.map (·.2) ∧ Below w.heap.size w w' := by
  have HP := Lib.hid hs
  have K0 : Hid (Blk (w.alloc (.cells #[.slice none 0 0] 44)) w.heap.size 44 #[.slice none 0 0]) := Lib.hid (Blk.new w _ _)
  have B0 : Hid (Below w.heap.size w (w.alloc (.cells #[.slice none 0 0] 44))) := Lib.hid ((Below.refl _ _).alloc (Nat.le_refl _) _)
  clear hs
  go_enter Tryd.func32, Tryd.ntmps32
  go_wp2_with fail
  go_loopw [10] (fun i wr => ∃ k v rs, k ≤ n ∧ i = .int .i64 (k : Int) ∧ rs.map (fun p : Sp × Stp => p.2) = (ps.take k).map (·.2) ∧ OP 31 75 (w.heap.size + 1) wr v rs ∧ Blk wr w.heap.size 44 #[v] ∧ Below w.heap.size w wr) (fun i _ => n - (intOf i).toNat)
  case atStart => exact ⟨0, _, [], Nat.zero_le _, rfl, rfl, OP.nil _ _ _ _, K0.out, B0.out⟩
  case round =>
    obtain ⟨k, v, rs, hk, rfl, hrs, hop, hkb, hbl⟩ := hrel
    have OPS := Lib.hid hop
    have HRS := Lib.hid hrs
    have K := Lib.hid hkb
    have B := Lib.hid hbl
    clear hrs hop hkb hbl K0 B0
    by_cases hlt : k < n
    · obtain ⟨ad, p, rfl, hp, hbk, hin, c0, c1, c2, c3, c4, c5, c6, c7, c8, c9, c10⟩ := (HP.out.keep B.out).at_ hlt
      have HPK := Lib.hid hp
      have HIN := Lib.hid hin
      clear hp hin
      go_wp2_with fail
      have hlen : rs.length = k := by have := congrArg List.length HRS.out; rw [List.length_map, List.length_map, List.length_take, (HP.out).len] at this; omega
      have hb1 := (Below.refl wr.heap.size wr).alloc (Nat.le_refl _) (.cells p.1.cells 31)
      have hw0 := K.out.lt
      refine (copy1_any w.heap.size (w.heap.size + 1) v rs p.1 p.2 _ (HIN.out.keep hb1) (K.out.below hb1 hw0) (OPS.out.keep hb1) (by omega) (by have := hb1.size; omega) (by omega)).mono ?_
      rintro e w2 ⟨rfl, v', r', hk', hop', hb'⟩
      have B2 := Lib.hid ((B.out.trans (hb1.mono (Nat.le_of_lt hw0))).trans hb')
      have K2 := Lib.hid hk'
      have O2 := Lib.hid hop'
      clear hb1 hb' hk' hop' c0 c1 c2 c3 c4 c5 c6 c7 c8 c9 c10
      go_wp2_with fail
      go_roundw
      case rel => exact ⟨k + 1, v', rs ++ [(r', p.2)], by omega, by go_num, map_snoc HRS.out HPK.out, O2.out, K2.out, B2.out⟩
      case measure => simp [intOf]; omega
    · have hkn : k = n := by omega
      subst k
      have kv : wr.cell? ⟨w.heap.size, 0, none⟩ = some v := K.out.cell 0
      obtain ⟨A', c', rfl, _, _⟩ := OPS.out.form
      have HF := Lib.hid (show rs.map (fun p : Sp × Stp => p.2) = ps.map (·.2) by have := HRS.out; rwa [List.take_of_length_le (by rw [HP.out.len]; omega)] at this)
      go_wp2_with fail
      go_ret
      first | exact ⟨_, rfl, ⟨rs, OPS.out.lower (Nat.le_succ _), HF.out⟩, B.out⟩ | exact ⟨_, rfl, rs, OPS.out.lower (Nat.le_succ _), HF.out, B.out⟩ | trace_state
end Go.Proofs.YtebjfigjfhghcaaDoor.Und
