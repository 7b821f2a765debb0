/-
  A reply that came in: what is known of it; whether it is looked at. Conditions: none.
-/
import Derived.Test.YtkllfnaofapfnaaDoorRepChk
namespace Go.Proofs.YtkllfnaofapfnaaDoor.Prot
open Go.RowKit Wd Utf Cod

/-- a reply that came in -/
structure RpOpen (w : World) (r : Rep) (q : Rp) : Prop where
  err : q.err = r.err
  ses : q.ses = r.ses
  caret : q.caret = r.caret
  chosen : q.chosen = r.chosen
  commit : q.commit = r.commit
  erase : q.erase = r.erase
  taken : q.taken = r.taken
  pre : RR w r.Ap r.np q.pre
  cands : RS w r.Ac r.nc q.cands
  data : SB w r.Ad r.nd r.cd q.data
  np : r.np ≤ 140737488355328
  nc : r.nc ≤ 140737488355328
  nd : r.nd ≤ 140737488355328
  szp : ∀ x ∈ q.pre, x.1.size ≤ 140737488355328
  szc : ∀ s ∈ q.cands, s.size ≤ 140737488355328
  szm : r.commit.size ≤ 140737488355328
theorem RpOpen.keep {w w' : World} {r : Rep} {q : Rp} (h : RpOpen w r q) (hb : Below w.heap.size w w') : RpOpen w' r q := ⟨h.err, h.ses, h.caret, h.chosen, h.commit, h.erase, h.taken, h.pre.keep hb, h.cands.keep hb, h.data.keep hb, h.np, h.nc, h.nd, h.szp, h.szc, h.szm⟩
theorem RpOpen.in_ {w : World} {r : Rep} {q : Rp} (h : RpOpen w r q) (hp : r.np ≤ 100000) (hc : r.nc ≤ 100000) : RpIn w r q := ⟨h.err, h.ses, h.caret, h.chosen, h.commit, h.erase, h.taken, h.pre, h.cands, h.data, hp, hc, h.nd, h.szp, h.szc, h.szm⟩
/-- whether a reply is looked at -/
def lightP (r : Rep) (q : Rp) : Bool := decide (r.np ≤ 1100 ∧ r.nc ≤ 1000 ∧ r.commit.size ≤ 10000 ∧ r.nd ≤ 100000 ∧ (∀ x ∈ q.pre, x.1.size ≤ 10000) ∧ ∀ s ∈ q.cands, s.size ≤ 10000)
theorem lightP_parts {r : Rep} {q : Rp} (h : lightP r q = true) : r.np ≤ 1100 ∧ r.nc ≤ 1000 ∧ r.commit.size ≤ 10000 ∧ r.nd ≤ 100000 ∧ (∀ x ∈ q.pre, x.1.size ≤ 10000) ∧ ∀ s ∈ q.cands, s.size ≤ 10000 := of_decide_eq_true h
end Go.Proofs.YtkllfnaofapfnaaDoor.Prot
