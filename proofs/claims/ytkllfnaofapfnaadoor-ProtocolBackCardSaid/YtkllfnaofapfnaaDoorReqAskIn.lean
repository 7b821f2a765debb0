/-
  Asked of package henkanlaw42 gives a request that can be read as the request itself. Conditions: the request can be read, within the form's reach.
-/
import Derived.Test.YtkllfnaofapfnaaDoorReqAsked
namespace Go.Proofs.YtkllfnaofapfnaaDoor.Prot
open Go.RowKit Wd Utf Cod

theorem own_sbQ {w : World} {base n c : Nat} {e : TypeId} {A : Option Addr} {l : List UInt8} (h : w.ownsRow base e 1 (.slice A n c) n (bs l)) : SB w A n c l := by
  obtain ⟨A', c', e, hs⟩ := own_sb h
  injection e with e1 e2 e3
  subst e1 e3
  exact hs
theorem askedIn_any (r : Req) (q : Rq) (w : World) (hq : RqIn w r q) :
    Calls Tryd.prog 18 #[.agg r.cells] w fun e w' => Below w.heap.size w w' ∧ ∃ r' : Req, e = .returned (.agg r'.cells) ∧ RqIn w' r' q := by
  refine (asked_any r q w hq).mono ?_
  rintro e w' ⟨hb, A7, A8, c7, c8, rfl, h7, h8⟩
  exact ⟨hb, _, rfl, ⟨RI.of_own h7, own_sbQ h8, ⟨hq.is.kind, hq.is.ses, hq.is.kk, hq.is.kc, hq.is.bef, hq.is.sel, hq.is.on, hq.is.sur, hq.is.seen, hq.is.n7, hq.is.data⟩, hq.n7, hq.n8, hq.bef, hq.sel, hq.sur, hq.kc⟩⟩
end Go.Proofs.YtkllfnaofapfnaaDoor.Prot
