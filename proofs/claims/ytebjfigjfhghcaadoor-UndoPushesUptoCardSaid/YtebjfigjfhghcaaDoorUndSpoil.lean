/-
  What spoil of package henkanlaw40 may change: rows between two marks of the heap; its contract. Conditions: the step's rows lie there. (Printed by gen/undspoil.py.)
-/
import Derived.Test.YtebjfigjfhghcaaDoorUndPop
namespace Go.Proofs.YtebjfigjfhghcaaDoor.Und
open Go.RowKit Wd Utf

/-- the kinds of a row's values -/
def kI (v : Value) : Prop := ∃ z : Int, v = .int .i64 z
def kO (v : Value) : Prop := ∃ b : Bool, v = .bool b
def kS (v : Value) : Prop := ∃ s : ByteArray, v = .string s
/-- a row between the marks lo and hi, of values of a kind -/
structure Krow (w : World) (lo hi : Nat) (e : TypeId) (size : Nat) (k : Value → Prop) (A : Option Addr) (n c : Nat) : Prop where
  row : ∃ xs, w.ownsRow lo e size (.slice A n c) n xs ∧ ∀ u ∈ xs, k u
  low : ∀ g, (Value.slice A n c).ownBlock = some g → g < hi
section
variable {w w' : World} {lo hi n c size : Nat} {e : TypeId} {k : Value → Prop} {A : Option Addr}
theorem Krow.of_own {xs : List Value} (h : w.ownsRow lo e size (.slice A n c) n xs) (hk : ∀ u ∈ xs, k u) (hh : w.heap.size ≤ hi) : Krow w lo hi e size k A n c := by
  refine ⟨⟨xs, h, hk⟩, fun g hg => ?_⟩
  rcases h.2 with ⟨h', _⟩ | ⟨g', cap, cur, h', _, hb, _⟩
  · rw [h'] at hg; cases hg
  · rw [h'] at hg
    simp only [Value.ownBlock, Option.some.injEq] at hg
    subst hg
    have : g' < w.heap.size := by
      rcases Nat.lt_or_ge g' w.heap.size with h | h
      · exact h
      · rw [Array.getElem?_eq_none h] at hb; cases hb
    omega
theorem Krow.keep (h : Krow w lo hi e size k A n c) (hb : Below w.heap.size w w') : Krow w' lo hi e size k A n c := by
  obtain ⟨xs, h1, h2⟩ := h.row
  exact ⟨⟨xs, own_keep h1 hb, h2⟩, h.low⟩
theorem Krow.at_ {j : Nat} (h : Krow w lo hi e size k A n c) (hj : j < n * size) : ∃ g ad, A = some ad ∧ ad = ⟨g, 0, none⟩ ∧ lo ≤ g ∧ g < hi ∧ (∃ u, w.cell? ⟨g, j, none⟩ = some u ∧ k u) ∧ w.frozen? ⟨g, j, none⟩ = false ∧ ∃ cur, w.heap[g]? = some (.cells cur e) := by
  obtain ⟨xs, h1, h2⟩ := h.row
  have hh := h1
  rcases hh.2 with ⟨h', h0⟩ | ⟨g, cap, cur, h', hb, hg, _⟩
  · injection h' with _ h' _
    rw [h0, Nat.zero_mul] at hj
    omega
  · injection h' with h' _ _
    subst h'
    have hl : j < xs.length := by rw [h1.1]; exact hj
    refine ⟨g, _, rfl, rfl, hb, h.low g rfl, ⟨xs[j], ?_, h2 _ (List.getElem_mem _)⟩, h1.frozenAt j, ⟨cur, hg⟩⟩
    have hx := h1.cells (g := g) rfl j xs[j] (by rw [List.getElem?_eq_getElem hl])
    have hy : (⟨g, 0, none⟩ : Addr).add j = ⟨g, j, none⟩ := by unfold Addr.add; by_cases h : j = 0 <;> simp [h]
    rwa [hy] at hx
theorem Krow.set_ {g j : Nat} {e' : TypeId} {cur : Array Value} {u : Value} (h : Krow w lo hi e size k A n c) (hg : w.heap[g]? = some (.cells cur e')) (hu : e = e' → k u) : Krow (w.setCell ⟨g, j, none⟩ u) lo hi e size k A n c := by
  obtain ⟨xs, h1, h2⟩ := h.row
  refine ⟨?_, h.low⟩
  by_cases hb : (Value.slice A n c).ownBlock = some g
  · rcases h1.2 with ⟨h', _⟩ | ⟨g', cap, cur', h', _, hg', _⟩
    · rw [h'] at hb; cases hb
    · rw [h'] at hb h1 ⊢
      simp only [Value.ownBlock, Option.some.injEq] at hb
      subst hb
      rw [hg] at hg'
      injection hg' with hg'
      injection hg' with _ he
      refine ⟨xs.set j u, (h1.stored j u).1, fun v hv => ?_⟩
      rcases List.mem_or_eq_of_mem_set hv with hv | hv
      · exact h2 v hv
      · rw [hv]; exact hu he.symm
  · exact ⟨xs, h1.kept (row := some g) ((Upd.refl g w).set_ j _) (.inr hb), h2⟩
end
/-- a step whose rows lie between the marks -/
structure Sob (w : World) (lo hi : Nat) (r : Sp) : Prop where
  it : Krow w lo hi 75 2 kS r.Ai r.ni r.ci
  bo : Krow w lo hi 3 1 kI r.Ab r.nb r.cb
  fx : Krow w lo hi 4 1 kO r.Af r.nf r.cf
  tx : Krow w lo hi 9 1 kS r.At r.nt r.ct
  ni : r.ni ≤ 1048576
  nb : r.nb ≤ 1048576
  nf : r.nf ≤ 1048576
  nt : r.nt ≤ 1048576
theorem Sob.of_own {w : World} {lo hi : Nat} {r : Sp} {q : Stp} (h : SpOwn 75 lo w r q) (hh : w.heap.size ≤ hi) : Sob w lo hi r := by
  refine ⟨Krow.of_own h.it ?_ hh, Krow.of_own h.bo ?_ hh, Krow.of_own h.fx ?_ hh, Krow.of_own h.tx ?_ hh, h.inn.ni, h.inn.nb, h.inn.nf, h.inn.nt⟩
  · intro u hu
    simp only [ic, List.mem_flatMap, ic2, List.mem_cons, List.not_mem_nil, or_false] at hu
    obtain ⟨p, _, rfl | rfl⟩ := hu <;> exact ⟨_, rfl⟩
  · intro u hu; simp only [is, List.mem_map] at hu; obtain ⟨z, _, rfl⟩ := hu; exact ⟨_, rfl⟩
  · intro u hu; simp only [os, List.mem_map] at hu; obtain ⟨z, _, rfl⟩ := hu; exact ⟨_, rfl⟩
  · intro u hu; simp only [vs, List.mem_map] at hu; obtain ⟨z, _, rfl⟩ := hu; exact ⟨_, rfl⟩
section
variable {w w' : World} {lo hi : Nat} {r : Sp}
theorem Sob.keep (h : Sob w lo hi r) (hb : Below w.heap.size w w') : Sob w' lo hi r := ⟨h.it.keep hb, h.bo.keep hb, h.fx.keep hb, h.tx.keep hb, h.ni, h.nb, h.nf, h.nt⟩
theorem Sob.set_ {g j : Nat} {e' : TypeId} {cur : Array Value} {u : Value} (h : Sob w lo hi r) (hg : w.heap[g]? = some (.cells cur e')) (h1 : 75 = e' → kS u) (h2 : 3 = e' → kI u) (h3 : 4 = e' → kO u) (h4 : 9 = e' → kS u) : Sob (w.setCell ⟨g, j, none⟩ u) lo hi r :=
  ⟨h.it.set_ hg h1, h.bo.set_ hg h2, h.fx.set_ hg h3, h.tx.set_ hg h4, h.ni, h.nb, h.nf, h.nt⟩
end
/-- what changed lies between the marks, and is no step -/
structure Mid (lo hi : Nat) (w w' : World) : Prop where
  os : w'.os = w.os
  tape : w'.tape = w.tape
  output : w'.output = w.output
  size : w.heap.size ≤ w'.heap.size
  block : ∀ i, i < w.heap.size → (i < lo ∨ hi ≤ i) → w'.heap[i]? = w.heap[i]?
  step : ∀ i : Nat, (∃ cur : Array Value, w.heap[i]? = some (Obj.cells cur 31)) → w'.heap[i]? = w.heap[i]?
section
variable {lo hi : Nat} {w w' w2 : World}
theorem blt {i : Nat} {o : Obj} (h : w.heap[i]? = some o) : i < w.heap.size := (Array.getElem?_eq_some_iff.1 h).1
theorem Mid.refl (lo hi : Nat) (w : World) : Mid lo hi w w := ⟨rfl, rfl, rfl, Nat.le_refl _, fun _ _ _ => rfl, fun _ _ => rfl⟩
theorem Mid.set_ (h : Mid lo hi w w') {g : Nat} (h1 : lo ≤ g) (h2 : g < hi) {cur : Array Value} {e : TypeId} (hg : w'.heap[g]? = some (.cells cur e)) (he : e ≠ 31) (j : Nat) (u : Value) : Mid lo hi w (w'.setCell ⟨g, j, none⟩ u) := by
  refine ⟨h.os, h.tape, h.output, Nat.le_trans h.size (by simp), fun i hi' ho => (Below.heap_setCell w' ⟨g, j, none⟩ u i (by show i ≠ g; omega)).trans (h.block i hi' ho), fun i hi' => ?_⟩
  refine (Below.heap_setCell w' ⟨g, j, none⟩ u i ?_).trans (h.step i hi')
  show i ≠ g
  rintro rfl
  obtain ⟨c0, h0⟩ := hi'
  rw [h.step i ⟨c0, h0⟩, h0] at hg
  injection hg with hg
  injection hg with _ h2
  exact he h2.symm
theorem Mid.alloc (h : Mid lo hi w w') (o : Obj) : Mid lo hi w (w'.alloc o) :=
  ⟨h.os, h.tape, h.output, Nat.le_trans h.size (by simp), fun i hi' ho => (Below.heap_alloc w' o i (Nat.lt_of_lt_of_le hi' h.size)).trans (h.block i hi' ho), fun i hi' => (Below.heap_alloc w' o i (Nat.lt_of_lt_of_le (blt hi'.choose_spec) h.size)).trans (h.step i hi')⟩
theorem Mid.drew (h : Mid lo hi w w') : Mid lo hi w w'.drew := ⟨h.os, h.tape, h.output, h.size, h.block, h.step⟩
theorem Mid.trans (h : Mid lo hi w w') (h' : Mid lo hi w' w2) : Mid lo hi w w2 :=
  ⟨h'.os.trans h.os, h'.tape.trans h.tape, h'.output.trans h.output, Nat.le_trans h.size h'.size, fun i hi' ho => (h'.block i (Nat.lt_of_lt_of_le hi' h.size) ho).trans (h.block i hi' ho), fun i hi' => (h'.step i (by obtain ⟨c, hc⟩ := hi'; exact ⟨c, (h.step i ⟨c, hc⟩).trans hc⟩)).trans (h.step i hi')⟩
theorem Mid.below (h : Mid lo hi w w') (hl : lo ≤ w.heap.size) : Below lo w w' := ⟨h.os, h.tape, h.output, h.size, fun i hi' => h.block i (Nat.lt_of_lt_of_le hi' hl) (.inl hi')⟩
theorem Mid.of_below (h : Below w.heap.size w w') : Mid lo hi w w' := ⟨h.os, h.tape, h.output, h.size, fun i hi' _ => h.block i hi', fun i hi' => h.block i (blt hi'.choose_spec)⟩
end
theorem Blk.mid {lo hi g : Nat} {w w' : World} {t : TypeId} {cs : Array Value} (h : Blk w g t cs) (hm : Mid lo hi w w') (hg : hi ≤ g) : Blk w' g t cs := (hm.block g h.lt (.inr hg)).trans h
set_option maxRecDepth 100000 in
set_option maxHeartbeats 8000000 in
theorem spoil_any (lo hi : Nat) (P : List Sp) (r : Sp) (hr : r ∈ P) (w : World) (hP : ∀ p ∈ P, Sob w lo hi p) (hlh : hi ≤ w.heap.size) :
    Calls Tryd.prog 18 #[.agg r.cells] w fun e w' => e = .returned (.tuple #[]) ∧ (∀ p ∈ P, Sob w' lo hi p) ∧ Mid lo hi w w' := by
  have hs := hP r hr
  have hni := hs.ni
  have hnb := hs.nb
  have hnf := hs.nf
  have hnt := hs.nt
  have b0 : Below w.heap.size w (w.alloc (.cells r.cells 31)) := (Below.refl _ _).alloc (Nat.le_refl _) _
  have K0 : Hid (Blk (w.alloc (.cells r.cells 31)) w.heap.size 31 r.cells) := Lib.hid (Blk.new w _ _)
  have P0 : Hid (∀ p ∈ P, Sob (w.alloc (.cells r.cells 31)) lo hi p) := Lib.hid (fun p hp => (hP p hp).keep b0)
  have M0 : Hid (Mid lo hi w (w.alloc (.cells r.cells 31))) := Lib.hid ((Mid.refl lo hi w).alloc _)
  have HR := Lib.hid hr
  clear hs hP b0 hr
  obtain ⟨Ai, ni, ci, caret, pend, mode, conv, Ab, nb, cb, Af, nf, cf, At, nt, ct, focus, prev, commit⟩ := r
  unfold Sp.cells at K0 P0 M0
  unfold Sp.cells
  simp only at K0 P0 M0 hni hnb hnf hnt
  go_enter Tryd.func18, Tryd.ntmps18
  go_wp2_with fail
  generalize (w.alloc (.cells #[.slice Ai ni ci, .int .i64 caret, .string pend, .int .i64 mode, .bool conv, .slice Ab nb cb, .slice Af nf cf, .slice At nt ct, .int .i64 focus, .string prev, .string commit] 31)) = W0 at K0 P0 M0 ⊢
  go_loopw [2] (fun i wr => ∃ k : Nat, k ≤ nt ∧ i = .int .i64 (k : Int) ∧ Blk wr w.heap.size 31 #[.slice Ai ni ci, .int .i64 caret, .string pend, .int .i64 mode, .bool conv, .slice Ab nb cb, .slice Af nf cf, .slice At nt ct, .int .i64 focus, .string prev, .string commit] ∧ (∀ p ∈ P, Sob wr lo hi p) ∧ Mid lo hi w wr) (fun i _ => nt - (intOf i).toNat)
  case atStart => exact ⟨0, Nat.zero_le _, rfl, K0.out, P0.out, M0.out⟩
  case round =>
    obtain ⟨k, hk, rfl, h1, h2, h3⟩ := hrel
    clear K0 P0 M0
    rename World => v0
    have K0 := Lib.hid h1
    have P0 := Lib.hid h2
    have M0 := Lib.hid h3
    clear h1 h2 h3
    by_cases hlt : k < nt
    · obtain ⟨g, ad, hA, had, hg1, hg2, ⟨u, hc, _, rfl⟩, hf, cur, hcur⟩ := (P0.out _ HR.out).tx.at_ (j := k) (by simp only; omega)
      simp only at hA
      subst had
      subst hA
      have hgH : g < w.heap.size := by omega
      have k7 : v0.cell? ⟨w.heap.size, 7, none⟩ = some (.slice (some ⟨g, 0, none⟩) nt ct) := K0.out.cell 7
      have KN := Lib.hid ((K0.out).far (p := ⟨g, k, none⟩) (by show w.heap.size ≠ g; omega) (.string ⟨#[63]⟩))
      have PN := Lib.hid (fun p hp => ((P0.out p hp)).set_ (j := k) (u := (.string ⟨#[63]⟩)) hcur (by first | exact fun _ => ⟨_, rfl⟩ | (intro h; exact absurd h (by decide))) (by first | exact fun _ => ⟨_, rfl⟩ | (intro h; exact absurd h (by decide))) (by first | exact fun _ => ⟨_, rfl⟩ | (intro h; exact absurd h (by decide))) (by first | exact fun _ => ⟨_, rfl⟩ | (intro h; exact absurd h (by decide))))
      have MN := Lib.hid ((M0.out).set_ hg1 hg2 hcur (by decide) (k) (.string ⟨#[63]⟩))
      go_wp2_with fail
      go_roundw
      case rel => exact ⟨k + 1, by omega, by go_num, (by exact KN.out), (by exact PN.out), (by exact MN.out)⟩
      case measure => simp [intOf]; omega
    · have hkn : k = nt := by omega
      subst k
      have k7 : v0.cell? ⟨w.heap.size, 7, none⟩ = some (.slice At nt ct) := K0.out.cell 7
      go_wp2_with fail
      go_loopw [3] (fun i wr => ∃ k : Nat, k ≤ nb ∧ i = .int .i64 (k : Int) ∧ Blk wr w.heap.size 31 #[.slice Ai ni ci, .int .i64 caret, .string pend, .int .i64 mode, .bool conv, .slice Ab nb cb, .slice Af nf cf, .slice At nt ct, .int .i64 focus, .string prev, .string commit] ∧ (∀ p ∈ P, Sob wr lo hi p) ∧ Mid lo hi w wr) (fun i _ => nb - (intOf i).toNat)
      case atStart => exact ⟨0, Nat.zero_le _, rfl, K0.out, P0.out, M0.out⟩
      case round =>
        obtain ⟨k, hk, rfl, h1, h2, h3⟩ := hrel
        clear K0 P0 M0
        rename World => v1
        have K0 := Lib.hid h1
        have P0 := Lib.hid h2
        have M0 := Lib.hid h3
        clear h1 h2 h3
        by_cases hlt : k < nb
        · obtain ⟨g, ad, hA, had, hg1, hg2, ⟨u, hc, z, rfl⟩, hf, cur, hcur⟩ := (P0.out _ HR.out).bo.at_ (j := k) (by simp only; omega)
          simp only at hA
          subst had
          subst hA
          have hgH : g < w.heap.size := by omega
          have k5 : v1.cell? ⟨w.heap.size, 5, none⟩ = some (.slice (some ⟨g, 0, none⟩) nb cb) := K0.out.cell 5
          have KN := Lib.hid ((K0.out).far (p := ⟨g, k, none⟩) (by show w.heap.size ≠ g; omega) (.int .i64 (wrap64 (z + 1))))
          have PN := Lib.hid (fun p hp => ((P0.out p hp)).set_ (j := k) (u := (.int .i64 (wrap64 (z + 1)))) hcur (by first | exact fun _ => ⟨_, rfl⟩ | (intro h; exact absurd h (by decide))) (by first | exact fun _ => ⟨_, rfl⟩ | (intro h; exact absurd h (by decide))) (by first | exact fun _ => ⟨_, rfl⟩ | (intro h; exact absurd h (by decide))) (by first | exact fun _ => ⟨_, rfl⟩ | (intro h; exact absurd h (by decide))))
          have MN := Lib.hid ((M0.out).set_ hg1 hg2 hcur (by decide) (k) (.int .i64 (wrap64 (z + 1))))
          go_wp2_with fail
          go_roundw
          case rel => exact ⟨k + 1, by omega, by go_num, (by exact KN.out), (by exact PN.out), (by exact MN.out)⟩
          case measure => simp [intOf]; omega
        · have hkn : k = nb := by omega
          subst k
          have k5 : v1.cell? ⟨w.heap.size, 5, none⟩ = some (.slice Ab nb cb) := K0.out.cell 5
          go_wp2_with fail
          go_loopw [4] (fun i wr => ∃ k : Nat, k ≤ nf ∧ i = .int .i64 (k : Int) ∧ Blk wr w.heap.size 31 #[.slice Ai ni ci, .int .i64 caret, .string pend, .int .i64 mode, .bool conv, .slice Ab nb cb, .slice Af nf cf, .slice At nt ct, .int .i64 focus, .string prev, .string commit] ∧ (∀ p ∈ P, Sob wr lo hi p) ∧ Mid lo hi w wr) (fun i _ => nf - (intOf i).toNat)
          case atStart => exact ⟨0, Nat.zero_le _, rfl, K0.out, P0.out, M0.out⟩
          case round =>
            obtain ⟨k, hk, rfl, h1, h2, h3⟩ := hrel
            clear K0 P0 M0
            rename World => v2
            have K0 := Lib.hid h1
            have P0 := Lib.hid h2
            have M0 := Lib.hid h3
            clear h1 h2 h3
            by_cases hlt : k < nf
            · obtain ⟨g, ad, hA, had, hg1, hg2, ⟨u, hc, b, rfl⟩, hf, cur, hcur⟩ := (P0.out _ HR.out).fx.at_ (j := k) (by simp only; omega)
              simp only at hA
              subst had
              subst hA
              have hgH : g < w.heap.size := by omega
              have k6 : v2.cell? ⟨w.heap.size, 6, none⟩ = some (.slice (some ⟨g, 0, none⟩) nf cf) := K0.out.cell 6
              have KN := Lib.hid ((K0.out.drew).far (p := ⟨g, k, none⟩) (by show w.heap.size ≠ g; omega) (.bool (!b)))
              have PN := Lib.hid (fun p hp => ((P0.out p hp).keep (Below.refl _ _).drew).set_ (j := k) (u := (.bool (!b))) hcur (by first | exact fun _ => ⟨_, rfl⟩ | (intro h; exact absurd h (by decide))) (by first | exact fun _ => ⟨_, rfl⟩ | (intro h; exact absurd h (by decide))) (by first | exact fun _ => ⟨_, rfl⟩ | (intro h; exact absurd h (by decide))) (by first | exact fun _ => ⟨_, rfl⟩ | (intro h; exact absurd h (by decide))))
              have MN := Lib.hid ((M0.out.drew).set_ hg1 hg2 hcur (by decide) (k) (.bool (!b)))
              go_wp2_with fail
              go_region
              all_goals
                go_wp2_with fail
                go_roundw
                case rel => exact ⟨k + 1, by omega, by go_num, (by exact KN.out), (by exact PN.out), (by exact MN.out)⟩
                case measure => simp [intOf]; omega
            · have hkn : k = nf := by omega
              subst k
              have k6 : v2.cell? ⟨w.heap.size, 6, none⟩ = some (.slice Af nf cf) := K0.out.cell 6
              go_wp2_with fail
              go_loopw [5] (fun i wr => ∃ k : Nat, k ≤ ni ∧ i = .int .i64 (k : Int) ∧ Blk wr w.heap.size 31 #[.slice Ai ni ci, .int .i64 caret, .string pend, .int .i64 mode, .bool conv, .slice Ab nb cb, .slice Af nf cf, .slice At nt ct, .int .i64 focus, .string prev, .string commit] ∧ (∀ p ∈ P, Sob wr lo hi p) ∧ Mid lo hi w wr) (fun i _ => ni - (intOf i).toNat)
              case atStart => exact ⟨0, Nat.zero_le _, rfl, K0.out, P0.out, M0.out⟩
              case round =>
                obtain ⟨k, hk, rfl, h1, h2, h3⟩ := hrel
                clear K0 P0 M0
                rename World => v3
                have K0 := Lib.hid h1
                have P0 := Lib.hid h2
                have M0 := Lib.hid h3
                clear h1 h2 h3
                by_cases hlt : k < ni
                · obtain ⟨g, ad, hA, had, hg1, hg2, ⟨u, hc, _, rfl⟩, hf, cur, hcur⟩ := (P0.out _ HR.out).it.at_ (j := k * 2 + 1) (by simp only; omega)
                  simp only at hA
                  subst had
                  subst hA
                  have hgH : g < w.heap.size := by omega
                  have k0 : v3.cell? ⟨w.heap.size, 0, none⟩ = some (.slice (some ⟨g, 0, none⟩) ni ci) := K0.out.cell 0
                  have KN := Lib.hid ((K0.out).far (p := ⟨g, k * 2 + 1, none⟩) (by show w.heap.size ≠ g; omega) (.string ⟨#[63]⟩))
                  have PN := Lib.hid (fun p hp => ((P0.out p hp)).set_ (j := k * 2 + 1) (u := (.string ⟨#[63]⟩)) hcur (by first | exact fun _ => ⟨_, rfl⟩ | (intro h; exact absurd h (by decide))) (by first | exact fun _ => ⟨_, rfl⟩ | (intro h; exact absurd h (by decide))) (by first | exact fun _ => ⟨_, rfl⟩ | (intro h; exact absurd h (by decide))) (by first | exact fun _ => ⟨_, rfl⟩ | (intro h; exact absurd h (by decide))))
                  have MN := Lib.hid ((M0.out).set_ hg1 hg2 hcur (by decide) (k * 2 + 1) (.string ⟨#[63]⟩))
                  go_wp2_with fail
                  go_roundw
                  case rel => exact ⟨k + 1, by omega, by go_num, (by exact KN.out), (by exact PN.out), (by exact MN.out)⟩
                  case measure => simp [intOf]; omega
                · have hkn : k = ni := by omega
                  subst k
                  have k0 : v3.cell? ⟨w.heap.size, 0, none⟩ = some (.slice Ai ni ci) := K0.out.cell 0
                  go_wp2_with fail
                  go_end0
                  exact ⟨rfl, P0.out, M0.out⟩
end Go.Proofs.YtebjfigjfhghcaaDoor.Und
