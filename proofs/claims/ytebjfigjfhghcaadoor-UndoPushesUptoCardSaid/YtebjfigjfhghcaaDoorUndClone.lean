/-
  The contracts of slices.Clone of items, numbers, marks and texts: a row of the call's own that reads alike. Conditions: the slice can be read; its length is bounded. (Printed by gen/undclone.py.)
-/
import Derived.Test.YtebjfigjfhghcaaDoorUndWords
import Derived.Lib.SliceRun
namespace Go.Proofs.YtebjfigjfhghcaaDoor.Und
open Go.RowKit Wd Utf

theorem own_form {w : World} {base size n : Nat} {e : TypeId} {v : Value} {xs : List Value} (h : w.ownsRow base e size v n xs) : ∃ A c, v = .slice A n c ∧ n ≤ c := by
  rcases h.2 with ⟨rfl, rfl⟩ | ⟨g, cap, cur, rfl, _, _, hc, _⟩
  · exact ⟨_, _, rfl, Nat.le_refl _⟩
  · exact ⟨_, _, rfl, hc⟩
theorem reads_none {w : World} {B size n : Nat} {xs : List Value} (h : Reads w B size none n xs) : n = 0 ∧ xs = [] := by
  have hn : n = 0 := by
    rcases Nat.eq_zero_or_pos n with h0 | h0
    · exact h0
    · obtain ⟨ad, e, _⟩ := h.2 h0
      cases e
  have := h.1
  subst hn
  rw [Nat.zero_mul] at this
  exact ⟨rfl, List.length_eq_zero_iff.1 this⟩
theorem own_emptyN (w : World) (e : TypeId) (size : Nat) : (w.alloc (.cells #[] e)).ownsRow w.heap.size e size (.slice (some ⟨w.heap.size, 0, none⟩) 0 0) 0 [] :=
  ⟨by simp, .inr ⟨w.heap.size, 0, #[], rfl, Nat.le_refl _, heap_alloc_new w _, Nat.le_refl _, by decide, by simp, by simp⟩⟩
theorem info_cloneI : (Tryd.prog.info? 3).map (fun i => (i.zero, i.size, i.bytes)) = some (some (.int .i64 0), 1, 8) := by kernel_rfl
theorem cloneI_any (A : Option Addr) (n c : Nat) (l : List Int) (w : World) (hs : RI .i64 w A n l) (hn : n ≤ 1048576) :
    Calls Tryd.prog 48 #[.slice A n c] w fun e w' => ∃ v, e = .returned v ∧ w'.ownsRow w.heap.size 3 1 v n (is .i64 l) ∧ Below w.heap.size w w' := by
  obtain ⟨i0, hi, hz0, hz1, hz2⟩ := info_parts info_cloneI
  have HI := Lib.hid hi
  have HS := Lib.hid hs
  clear hi hs
  have hnil := fun (w : World) (a : Option Addr) (n c : Nat) => Lib.run_eql_slice_nil (P := Tryd.prog) w 25 3 a n c 0 0 Tryd.underlying25
  rcases A with _ | ad
  · obtain ⟨rfl, hxs⟩ := reads_none HS.out
    rw [hxs]
    clear HS hn hxs
    go_enter Tryd.func48, Tryd.ntmps48
    go_wp2_with fail
    go_ret
    exact ⟨_, rfl, World.ownsRow_nil _ _ _ _, Below.refl _ _⟩
  · go_enter Tryd.func48, Tryd.ntmps48
    go_wp2_with (at_builtin; refine wpList_append_any _ rfl (.tmp 5) (.tmp 6) _ rfl w.heap.size 3 i0 _ 1 8 Tryd.underlying25 HI.out hz0 hz1 hz2 rfl (by decide) _ _ _ rfl (own_emptyN _ _ _) _ (some ad) n c (is .i64 l) rfl (Reads.alloc HS.out (Nat.le_refl _) _) (is_one _ l) (by unfold maxLen; omega) (by omega) (by simp) ?_; intro v1 w1 hown1 hg1 hat1)
    have hown : w1.ownsRow w.heap.size 3 1 v1 n (is .i64 l) := by simpa using hown1
    have hb1 : Below w.heap.size w w1 := own_below ((Below.refl _ _).alloc (Nat.le_refl _) _) (Nat.le_refl _) (own_emptyN _ _ 1) (Nat.le_refl _) hg1
    go_ret
    exact ⟨v1, rfl, hown, hb1⟩
theorem info_cloneO : (Tryd.prog.info? 4).map (fun i => (i.zero, i.size, i.bytes)) = some (some (.bool false), 1, 1) := by kernel_rfl
theorem cloneO_any (A : Option Addr) (n c : Nat) (l : List Bool) (w : World) (hs : RO w A n l) (hn : n ≤ 1048576) :
    Calls Tryd.prog 49 #[.slice A n c] w fun e w' => ∃ v, e = .returned v ∧ w'.ownsRow w.heap.size 4 1 v n (os l) ∧ Below w.heap.size w w' := by
  obtain ⟨i0, hi, hz0, hz1, hz2⟩ := info_parts info_cloneO
  have HI := Lib.hid hi
  have HS := Lib.hid hs
  clear hi hs
  have hnil := fun (w : World) (a : Option Addr) (n c : Nat) => Lib.run_eql_slice_nil (P := Tryd.prog) w 26 4 a n c 0 0 Tryd.underlying26
  rcases A with _ | ad
  · obtain ⟨rfl, hxs⟩ := reads_none HS.out
    rw [hxs]
    clear HS hn hxs
    go_enter Tryd.func49, Tryd.ntmps49
    go_wp2_with fail
    go_ret
    exact ⟨_, rfl, World.ownsRow_nil _ _ _ _, Below.refl _ _⟩
  · go_enter Tryd.func49, Tryd.ntmps49
    go_wp2_with (at_builtin; refine wpList_append_any _ rfl (.tmp 5) (.tmp 6) _ rfl w.heap.size 4 i0 _ 1 1 Tryd.underlying26 HI.out hz0 hz1 hz2 rfl (by decide) _ _ _ rfl (own_emptyN _ _ _) _ (some ad) n c (os l) rfl (Reads.alloc HS.out (Nat.le_refl _) _) (os_one l) (by unfold maxLen; omega) (by omega) (by simp) ?_; intro v1 w1 hown1 hg1 hat1)
    have hown : w1.ownsRow w.heap.size 4 1 v1 n (os l) := by simpa using hown1
    have hb1 : Below w.heap.size w w1 := own_below ((Below.refl _ _).alloc (Nat.le_refl _) _) (Nat.le_refl _) (own_emptyN _ _ 1) (Nat.le_refl _) hg1
    go_ret
    exact ⟨v1, rfl, hown, hb1⟩
theorem info_cloneS : (Tryd.prog.info? 9).map (fun i => (i.zero, i.size, i.bytes)) = some (some (.string ⟨#[]⟩), 1, 16) := by kernel_rfl
theorem cloneS_any (A : Option Addr) (n c : Nat) (l : List ByteArray) (w : World) (hs : RS w A n l) (hn : n ≤ 1048576) :
    Calls Tryd.prog 50 #[.slice A n c] w fun e w' => ∃ v, e = .returned v ∧ w'.ownsRow w.heap.size 9 1 v n (vs l) ∧ Below w.heap.size w w' := by
  obtain ⟨i0, hi, hz0, hz1, hz2⟩ := info_parts info_cloneS
  have HI := Lib.hid hi
  have HS := Lib.hid hs
  clear hi hs
  have hnil := fun (w : World) (a : Option Addr) (n c : Nat) => Lib.run_eql_slice_nil (P := Tryd.prog) w 29 9 a n c 0 0 Tryd.underlying29
  rcases A with _ | ad
  · obtain ⟨rfl, hxs⟩ := reads_none HS.out
    rw [hxs]
    clear HS hn hxs
    go_enter Tryd.func50, Tryd.ntmps50
    go_wp2_with fail
    go_ret
    exact ⟨_, rfl, World.ownsRow_nil _ _ _ _, Below.refl _ _⟩
  · go_enter Tryd.func50, Tryd.ntmps50
    go_wp2_with (at_builtin; refine wpList_append_any _ rfl (.tmp 5) (.tmp 6) _ rfl w.heap.size 9 i0 _ 1 16 Tryd.underlying29 HI.out hz0 hz1 hz2 rfl (by decide) _ _ _ rfl (own_emptyN _ _ _) _ (some ad) n c (vs l) rfl (Reads.alloc HS.out (Nat.le_refl _) _) (vs_one l) (by unfold maxLen; omega) (by omega) (by simp) ?_; intro v1 w1 hown1 hg1 hat1)
    have hown : w1.ownsRow w.heap.size 9 1 v1 n (vs l) := by simpa using hown1
    have hb1 : Below w.heap.size w w1 := own_below ((Below.refl _ _).alloc (Nat.le_refl _) _) (Nat.le_refl _) (own_emptyN _ _ 1) (Nat.le_refl _) hg1
    go_ret
    exact ⟨v1, rfl, hown, hb1⟩
theorem info_cloneT : (Tryd.prog.info? 75).map (fun i => (i.zero, i.size, i.bytes)) = some (some (.agg #[.string ⟨#[]⟩, .string ⟨#[]⟩]), 2, 32) := by kernel_rfl
theorem cloneT_any (A : Option Addr) (n c : Nat) (l : List (ByteArray × ByteArray)) (w : World) (hs : RT w A n l) (hn : n ≤ 1048576) :
    Calls Tryd.prog 47 #[.slice A n c] w fun e w' => ∃ v, e = .returned v ∧ w'.ownsRow w.heap.size 75 2 v n (ic l) ∧ Below w.heap.size w w' := by
  obtain ⟨i0, hi, hz0, hz1, hz2⟩ := info_parts info_cloneT
  have HI := Lib.hid hi
  have HS := Lib.hid hs
  clear hi hs
  have hnil := fun (w : World) (a : Option Addr) (n c : Nat) => Lib.run_eql_slice_nil (P := Tryd.prog) w 22 75 a n c 0 0 Tryd.underlying22
  rcases A with _ | ad
  · obtain ⟨rfl, hxs⟩ := reads_none HS.out
    rw [hxs]
    clear HS hn hxs
    go_enter Tryd.func47, Tryd.ntmps47
    go_wp2_with fail
    go_ret
    exact ⟨_, rfl, World.ownsRow_nil _ _ _ _, Below.refl _ _⟩
  · go_enter Tryd.func47, Tryd.ntmps47
    go_wp2_with (at_builtin; refine wpList_append_any _ rfl (.tmp 5) (.tmp 6) _ rfl w.heap.size 75 i0 _ 2 32 Tryd.underlying22 HI.out hz0 hz1 hz2 rfl (by decide) _ _ _ rfl (own_emptyN _ _ _) _ (some ad) n c (ic l) rfl (Reads.alloc HS.out (Nat.le_refl _) _) (ic_one l) (by unfold maxLen; omega) (by omega) (by simp) ?_; intro v1 w1 hown1 hg1 hat1)
    have hown : w1.ownsRow w.heap.size 75 2 v1 n (ic l) := by simpa using hown1
    have hb1 : Below w.heap.size w w1 := own_below ((Below.refl _ _).alloc (Nat.le_refl _) _) (Nat.le_refl _) (own_emptyN _ _ 2) (Nat.le_refl _) hg1
    go_ret
    exact ⟨v1, rfl, hown, hb1⟩
end Go.Proofs.YtebjfigjfhghcaaDoor.Und
