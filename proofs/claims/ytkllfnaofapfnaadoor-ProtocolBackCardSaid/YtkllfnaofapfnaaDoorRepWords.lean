/-
  Words for rows of runs and of strings of the call's own, and for a reply that is kept while other blocks are written. Conditions: none. (Printed by gen/reptold.py.)
-/
import Derived.Test.YtkllfnaofapfnaaDoorRepIn
import Derived.Test.YtkllfnaofapfnaaDoorProtDec
namespace Go.Proofs.YtkllfnaofapfnaaDoor.Prot
open Go.RowKit Wd Utf Cod

theorem infoRun : (Tryd.prog.info? 69).map (fun i => (i.zero, i.size, i.bytes)) = some (some (.agg #[.string ⟨#[]⟩, .int .i64 0]), 2, 24) := by kernel_rfl
theorem infoStr : (Tryd.prog.info? 9).map (fun i => (i.zero, i.size, i.bytes)) = some (some (.string ⟨#[]⟩), 1, 16) := by kernel_rfl
theorem own_emptyS (w : World) (e : TypeId) : (w.alloc (.cells #[] e)).ownsRow w.heap.size e 2 (.slice (some ⟨w.heap.size, 0, none⟩) 0 0) 0 [] :=
  World.ownsRow_made (size := 2) w #[] 0 (Nat.le_refl _) (by decide) rfl
theorem own_sliceS {w : World} {base n size : Nat} {e : TypeId} {v : Value} {xs : List Value} (h : w.ownsRow base e size v n xs) : ∃ A c, v = .slice A n c ∧ n ≤ c := by
  rcases h.2 with ⟨rfl, rfl⟩ | ⟨g, cap, cur, rfl, _, _, hc, _⟩
  · exact ⟨none, 0, rfl, Nat.le_refl _⟩
  · exact ⟨_, cap, rfl, hc⟩
theorem own_sbP {w : World} {base n c : Nat} {e : TypeId} {A : Option Addr} {l : List UInt8} (h : w.ownsRow base e 1 (.slice A n c) n (bs l)) : SB w A n c l := by
  obtain ⟨A', c', e, hs⟩ := own_sb h
  injection e with e1 e2 e3
  subst e1 e3
  exact hs
theorem RR.of_own {w : World} {base n c : Nat} {e : TypeId} {A : Option Addr} {l : List (ByteArray × Int)} (h : w.ownsRow base e 2 (.slice A n c) n (rc l)) : RR w A n l := Reads.of_own h
theorem RpIn.upd {w w' : World} {g : Nat} {r : Rep} {q : Rp} (h : RpIn w r q) (hu : Upd g w w') (h1 : ∀ ad, r.Ap = some ad → ad.block ≠ g) (h2 : ∀ ad, r.Ac = some ad → ad.block ≠ g) (h3 : ∀ ad, r.Ad = some ad → ad.block ≠ g) : RpIn w' r q :=
  ⟨h.err, h.ses, h.caret, h.chosen, h.commit, h.erase, h.taken, Reads.upd h.pre hu h1, Reads.upd h.cands hu h2, SB.upd h.data hu h3, h.np, h.nc, h.nd, h.szp, h.szc, h.szm⟩
end Go.Proofs.YtkllfnaofapfnaaDoor.Prot
