/-
  Words for memory: a map of the call's own from numbers or strings to bools: made, written, asked. Conditions: none.
-/
import Derived.Test.YtkllfnaofapfnaaDoorWords
import Derived.Maps.Own
import Derived.Maps.OwnOps
import Derived.Maps.Views
import Derived.StringKeys
namespace Go.Proofs.YtkllfnaofapfnaaDoor.Wd
open Go.RowKit

/-- block b is a map of at most n entries, of the call's own, whose element at f x is S x (false, if there is none) -/
def BM (P : Program) (w : World) (K E : TypeId) {κ : Type} (f : κ → Lit) (b n : Nat) (S : κ → Bool) : Prop :=
  ∃ D : DataW Unit, w.ownsMap P K (plainElem P E) b n D ∧ Go.Maps.IsMap D ∧ ∀ x, D.atKey (f x) (.lit (.bool false)) = .lit (.bool (S x))
section
variable {P : Program} {w w' : World} {K E : TypeId} {κ : Type} {f : κ → Lit} {b n : Nat} {S : κ → Bool}
theorem BM.made (P : Program) (w : World) (K E : TypeId) {κ : Type} (f : κ → Lit) : BM P (w.alloc (.map #[] 0)) K E f w.heap.size 0 (fun _ => false) :=
  ⟨.map [], World.ownsMap_made w P K _, ⟨[], rfl⟩, fun _ => rfl⟩
theorem BM.kept {row : Option Nat} (h : BM P w K E f b n S) (hg : w.grownBy w' row) (hne : some b ≠ row) : BM P w' K E f b n S := by
  obtain ⟨D, h1, h2, h3⟩ := h
  exact ⟨D, h1.kept hg hne, h2, h3⟩
theorem BM.keep (h : BM P w K E f b n S) (hb : Below w.heap.size w w') : BM P w' K E f b n S :=
  h.kept (row := none) ⟨hb.os, hb.tape, hb.output, hb.size, fun i hi _ => hb.block i hi⟩ (by simp)
theorem BM.alloc (h : BM P w K E f b n S) (o : Obj) : BM P (w.alloc o) K E f b n S := by
  obtain ⟨D, h1, h2, h3⟩ := h
  exact ⟨D, h1.alloc o, h2, h3⟩
theorem BM.drew (h : BM P w K E f b n S) : BM P w.drew K E f b n S := h
theorem BM.drewN (h : BM P w K E f b n S) (q : Nat) : BM P (w.drewN q) K E f b n S := h
theorem BM.lt (h : BM P w K E f b n S) : b < w.heap.size := by
  obtain ⟨D, h1, _⟩ := h
  exact h1.lt
/-- 'm[k]' -/
theorem BM.look (h : BM P w K E f b n S) (L : Go.Maps.Keyed P K) {t : TypeId} (ht : P.underlying t = some (.map K E)) (he : P.underlying E = some .bool) (hz : (zeroValue E).run P w = .ok (.bool false) w) {key : Value} {x : κ} (hk : keyOf P K key = some (f x)) :
    (Instr.lookup t (.map (some b)) key false).run P w = .ok (.bool (S x)) w := by
  obtain ⟨D, h1, _, h3⟩ := h
  obtain ⟨v, ps, hrun, hv⟩ := h1.lookup L ht hz (plainElem_bool he false) hk
  rw [h3 x] at hv
  rw [hrun]
  unfold plainElem at hv
  rw [he] at hv
  cases v <;> simp at hv
  rw [hv.1]
/-- 'm[k] = true' -/
theorem BM.put [DecidableEq κ] (h : BM P w K E f b n S) (L : Go.Maps.Keyed P K) {t : TypeId} (ht : P.underlying t = some (.map K E)) (he : P.underlying E = some .bool) (hn : n < maxLen) (hf : ∀ x y, f x = f y → x = y) {key : Value} {x : κ} (hk : keyOf P K key = some (f x)) (hl : WideAt.IsKeyLit (f x)) :
    ∃ w', (Instr.mapUpdate t (.map (some b)) key (.bool true)).run P w = .ok () w' ∧ BM P w' K E f b (n + 1) (fun y => decide (y = x) || S y) ∧ w.grownBy w' (some b) := by
  obtain ⟨D, h1, h2, h3⟩ := h
  obtain ⟨w', hrun, hown, hg⟩ := h1.update L ht hn hk (plainElem_bool he true)
  refine ⟨w', hrun, ⟨_, hown, ?_, fun y => ?_⟩, hg⟩
  · obtain ⟨l, rfl⟩ := h2
    exact ⟨_, DataW.put_eq ..⟩
  · by_cases hy : y = x
    · subst hy
      rw [Go.Maps.atKey_put_same h2 hl]; simp
    · rw [Go.Maps.atKey_put_other (fun e => hy (hf _ _ e)), h3 y]; simp [hy]
end
end Go.Proofs.YtkllfnaofapfnaaDoor.Wd
