/-
  Plain words for DecodeReply: how far its readers come, how long are the strings that they give. No program is in sight. Conditions: none. (Printed by gen/repdec.py.)
-/
import Derived.Test.YtkllfnaofapfnaaDoorDecMath
import Derived.Test.YtkllfnaofapfnaaDoorRepWords
namespace Go.Proofs.YtkllfnaofapfnaaDoor.Prot
open Go.RowKit Wd Utf Cod

theorem ba_le {l v : List UInt8} (h : v.length ≤ l.length) : (ba v).size ≤ l.length := by rw [ba_len]; exact h
theorem rRuns_le {l : List UInt8} {most : Nat} : ∀ (k : Nat) (s : St), s.1 ≤ l.length → (rRuns l most k s).2.1 ≤ l.length
  | 0, s, h => h
  | k + 1, s, h => by unfold rRuns; exact rRuns_le k _ (rU_le (rT_le h))
theorem rRuns_len {l : List UInt8} {most : Nat} : ∀ (k : Nat) (s : St), (rRuns l most k s).1.length = k
  | 0, _ => rfl
  | k + 1, s => by unfold rRuns; simp only [List.length_cons]; rw [rRuns_len k]
theorem rRuns_sz {l : List UInt8} {most : Nat} : ∀ (k : Nat) (s : St), s.1 ≤ l.length → ∀ x ∈ (rRuns l most k s).1, x.1.size ≤ l.length
  | 0, s, h, x, hx => by cases hx
  | k + 1, s, h, x, hx => by
    unfold rRuns at hx
    rcases List.mem_cons.1 hx with rfl | hx
    · exact ba_le (rT_len h)
    · exact rRuns_sz k _ (rU_le (rT_le h)) x hx
theorem rTxts_le {l : List UInt8} : ∀ (k : Nat) (s : St), s.1 ≤ l.length → (rTxts l k s).2.1 ≤ l.length
  | 0, s, h => h
  | k + 1, s, h => by unfold rTxts; exact rTxts_le k _ (rT_le h)
theorem rTxts_len {l : List UInt8} : ∀ (k : Nat) (s : St), (rTxts l k s).1.length = k
  | 0, _ => rfl
  | k + 1, s => by unfold rTxts; simp only [List.length_cons]; rw [rTxts_len k]
theorem rTxts_sz {l : List UInt8} : ∀ (k : Nat) (s : St), s.1 ≤ l.length → ∀ x ∈ (rTxts l k s).1, x.size ≤ l.length
  | 0, s, h, x, hx => by cases hx
  | k + 1, s, h, x, hx => by
    unfold rTxts at hx
    rcases List.mem_cons.1 hx with rfl | hx
    · exact ba_le (rT_len h)
    · exact rTxts_sz k _ (rT_le h) x hx
theorem rRunsR_le {l : List UInt8} {most : Nat} : ∀ (k : Nat) (s : St), s.1 ≤ l.length → (rRunsR l most k s).2.1 ≤ l.length
  | 0, s, h => h
  | k + 1, s, h => by
    unfold rRunsR
    split
    · exact h
    · exact rRunsR_le k _ (rU_le (rT_le h))
theorem rRunsR_sz {l : List UInt8} {most : Nat} : ∀ (k : Nat) (s : St), s.1 ≤ l.length → ∀ x ∈ (rRunsR l most k s).1, x.1.size ≤ l.length
  | 0, s, h, x, hx => by cases hx
  | k + 1, s, h, x, hx => by
    unfold rRunsR at hx
    split at hx
    · cases hx
    · rcases List.mem_cons.1 hx with rfl | hx
      · exact ba_le (rT_len h)
      · exact rRunsR_sz k _ (rU_le (rT_le h)) x hx
theorem rTxtsR_le {l : List UInt8} : ∀ (k : Nat) (s : St), s.1 ≤ l.length → (rTxtsR l k s).2.1 ≤ l.length
  | 0, s, h => h
  | k + 1, s, h => by
    unfold rTxtsR
    split
    · exact h
    · exact rTxtsR_le k _ (rT_le h)
theorem rTxtsR_sz {l : List UInt8} : ∀ (k : Nat) (s : St), s.1 ≤ l.length → ∀ x ∈ (rTxtsR l k s).1, x.size ≤ l.length
  | 0, s, h, x, hx => by cases hx
  | k + 1, s, h, x, hx => by
    unfold rTxtsR at hx
    split at hx
    · cases hx
    · rcases List.mem_cons.1 hx with rfl | hx
      · exact ba_le (rT_len h)
      · exact rTxtsR_sz k _ (rT_le h) x hx
theorem Paid.zero {j : Nat} {s : St} (h : Paid j s) : Paid 0 s := ⟨Nat.zero_le _, fun hb => by have := h.2 hb; omega⟩
theorem paid_firstP {l : List UInt8} {most : Nat} : Paid 0 (rU l most (0, false)).2 := by
  refine ⟨Nat.zero_le _, fun h => ?_⟩
  have := rU_moved h
  simp only at this
  omega
theorem Reads.litP (w : World) (C : Array Value) (e : TypeId) (f : Nat × Nat) (size n B : Nat) (xs : List Value) (hB : w.heap.size = B) (hC : C.toList = xs) (hn : xs.length = n * size) :
    Reads (w.alloc (.cells C e f)) (w.alloc (.cells C e f)).heap.size size (some ⟨B, 0, none⟩) n xs := by
  subst hB
  refine ⟨hn, fun _ => ⟨_, rfl, by simp, fun j u hu => ?_⟩⟩
  have ha : (⟨w.heap.size, 0, none⟩ : Addr).add j = ⟨w.heap.size, j, none⟩ := by
    unfold Addr.add; by_cases h : j = 0 <;> simp [h]
  rw [ha, cell_new, ← hu, ← hC, Array.getElem?_toList]
theorem own_diffP {w : World} {b b' n n' s s' : Nat} {e e' : TypeId} {v v' : Value} {xs xs' : List Value} (h : w.ownsRow b e s v n xs) (h' : w.ownsRow b' e' s' v' n' xs') (he : e ≠ e') : v'.ownBlock = none ∨ v'.ownBlock ≠ v.ownBlock := by
  rcases h'.2 with ⟨rfl, _⟩ | ⟨g', cap', cur', rfl, _, hg', _⟩
  · exact .inl rfl
  · refine .inr fun hh => ?_
    rcases h.2 with ⟨rfl, _⟩ | ⟨g, cap, cur, rfl, _, hg, _⟩
    · cases hh
    · simp only [Value.ownBlock, Option.some.injEq] at hh
      subst hh
      rw [hg] at hg'
      injection hg' with hg'
      injection hg' with h1 h2
      exact he h2
theorem run_cells : (Value.agg #[.string ⟨#[]⟩, .int .i64 0]).cells.size = 2 := by kernel_rfl
/-- no reply yet -/
def repZ : Rep := ⟨0, 0, none, 0, 0, 0, none, 0, 0, 0, ⟨#[]⟩, 0, false, none, 0, 0⟩
theorem rpIn0 (w : World) : RpIn w repZ rp0 := ⟨rfl, rfl, rfl, rfl, rfl, rfl, rfl, RR.nil _ _, Reads.none_, sb_nil _, by decide, by decide, by decide, (fun _ h => by cases h), (fun _ h => by cases h), Nat.zero_le _⟩
/-- how DecodeReply ends -/
def DPostP (w : World) (l : List UInt8) (e : Ending) (w' : World) : Prop :=
  Below w.heap.size w w' ∧ ∃ (r : Rep) (q : Rp) (c : Nat), e = .returned (.tuple #[.agg r.cells, .int .i64 (c : Int)]) ∧ RpIn w' r q ∧ DecP l c q ∧ (∀ ad, r.Ap = some ad → w.heap.size ≤ ad.block) ∧ (∀ ad, r.Ac = some ad → w.heap.size ≤ ad.block) ∧ (∀ ad, r.Ad = some ad → w.heap.size ≤ ad.block)
theorem DPostP.bad {w w' : World} {l : List UInt8} (hb : Below w.heap.size w w') (h : DecP l 5 rp0) : DPostP w l (.returned (.tuple #[.agg repZ.cells, .int .i64 5])) w' :=
  ⟨hb, repZ, rp0, 5, rfl, rpIn0 _, h, (fun ad h => by cases h), (fun ad h => by cases h), (fun ad h => by cases h)⟩
theorem DPostP.good {w w' : World} {l : List UInt8} {r : Rep} {q : Rp} (hb : Below w.heap.size w w') (hq : RpIn w' r q) (h : DecP l 0 q) (h1 : ∀ ad, r.Ap = some ad → w.heap.size < ad.block) (h2 : ∀ ad, r.Ac = some ad → w.heap.size < ad.block) (h3 : ∀ ad, r.Ad = some ad → w.heap.size < ad.block) : DPostP w l (.returned (.tuple #[.agg r.cells, .int .i64 0])) w' :=
  ⟨hb, r, q, 0, rfl, hq, h, fun ad e => Nat.le_of_lt (h1 ad e), fun ad e => Nat.le_of_lt (h2 ad e), fun ad e => Nat.le_of_lt (h3 ad e)⟩
end Go.Proofs.YtkllfnaofapfnaaDoor.Prot
