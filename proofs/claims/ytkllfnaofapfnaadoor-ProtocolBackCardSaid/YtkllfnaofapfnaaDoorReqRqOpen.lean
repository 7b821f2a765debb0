/-
  A request that came in: what is known of it. Conditions: none.
-/
import Derived.Test.YtkllfnaofapfnaaDoorReqLight
namespace Go.Proofs.YtkllfnaofapfnaaDoor.Prot
open Go.RowKit Wd Utf Cod

/-- a request that came in -/
structure RqOpen (w : World) (r : Req) (q : Rq) : Prop where
  seen : RI .i64 w r.A7 r.n7 q.seen
  data : SB w r.A8 r.n8 r.c8 q.data
  is : IsRq r q.seen q
  n8 : r.n8 ≤ 140737488355328
  bef : r.bef.size ≤ 140737488355328
  sel : r.sel.size ≤ 140737488355328
  sur : r.sur.size ≤ 140737488355328
  kc : r.kc < 256
theorem RqOpen.in_ {w : World} {r : Req} {q : Rq} (h : RqOpen w r q) (hn : r.n7 ≤ 100000) : RqIn w r q := ⟨h.seen, h.data, h.is, hn, h.n8, h.bef, h.sel, h.sur, h.kc⟩
theorem light_parts {r : Req} (h : lightR r = true) : r.bef.size ≤ 100000 ∧ r.sel.size ≤ 100000 ∧ r.sur.size ≤ 100000 ∧ r.n8 ≤ 100000 ∧ r.n7 ≤ 1000 := of_decide_eq_true h
end Go.Proofs.YtkllfnaofapfnaaDoor.Prot
