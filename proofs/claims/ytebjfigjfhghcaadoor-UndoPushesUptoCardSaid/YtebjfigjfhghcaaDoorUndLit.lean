/-
  Contracts with the cells of a step spelled out. Conditions: those of the contracts. (Printed by gen/undlit.py.)
-/
import Derived.Test.YtebjfigjfhghcaaDoorUndGiv40
import Derived.Test.YtebjfigjfhghcaaDoorUndSame
import Derived.Test.YtebjfigjfhghcaaDoorUndRef
namespace Go.Proofs.YtebjfigjfhghcaaDoor.Und
open Go.RowKit Wd Utf

theorem given40_l (r : Sp) (q : Stp) (w : World) (hq : SpIn w r q) :
    Calls Tryd.prog 11 #[.agg #[.slice r.Ai r.ni r.ci, .int .i64 r.caret, .string r.pend, .int .i64 r.mode, .bool r.conv, .slice r.Ab r.nb r.cb, .slice r.Af r.nf r.cf, .slice r.At r.nt r.ct, .int .i64 r.focus, .string r.prev, .string r.commit]] w fun e w' => ∃ r' : Sp, e = .returned (.agg #[.slice r'.Ai r'.ni r'.ci, .int .i64 r'.caret, .string r'.pend, .int .i64 r'.mode, .bool r'.conv, .slice r'.Ab r'.nb r'.cb, .slice r'.Af r'.nf r'.cf, .slice r'.At r'.nt r'.ct, .int .i64 r'.focus, .string r'.prev, .string r'.commit]) ∧ SpFr 81 w.heap.size w' r' q ∧ Below w.heap.size w w' := given40_any r q w hq
theorem same_l (r s : Sp) (q : Stp) (w : World) (h1 : SpIn w r q) (h2 : SpIn w s q) :
    Calls Tryd.prog 19 #[.agg #[.slice r.Ai r.ni r.ci, .int .i64 r.caret, .string r.pend, .int .i64 r.mode, .bool r.conv, .slice r.Ab r.nb r.cb, .slice r.Af r.nf r.cf, .slice r.At r.nt r.ct, .int .i64 r.focus, .string r.prev, .string r.commit], .agg #[.slice s.Ai s.ni s.ci, .int .i64 s.caret, .string s.pend, .int .i64 s.mode, .bool s.conv, .slice s.Ab s.nb s.cb, .slice s.Af s.nf s.cf, .slice s.At s.nt s.ct, .int .i64 s.focus, .string s.prev, .string s.commit]] w fun e w' => e = .returned (.bool true) ∧ Below w.heap.size w w' := same_any r s q w h1 h2
theorem pushR_l (A : Option Addr) (n c : Nat) (ps : List (Sp × Stp)) (r : Sp) (q : Stp) (w : World) (hs : RP w A n ps) (hq : SpIn w r q) (hn : n ≤ 40) :
    Calls Tryd.prog 15 #[.slice A n c, .agg #[.slice r.Ai r.ni r.ci, .int .i64 r.caret, .string r.pend, .int .i64 r.mode, .bool r.conv, .slice r.Ab r.nb r.cb, .slice r.Af r.nf r.cf, .slice r.At r.nt r.ct, .int .i64 r.focus, .string r.prev, .string r.commit]] w fun e w' => ∃ A' m c', e = .returned (.tuple #[.slice A' m c', .bool ((ps.map (·.2) ++ [q]).all okB)]) ∧ (∃ rs, RP w' A' m rs ∧ rs.map (·.2) = pushV (ps.map (·.2) ++ [q])) ∧ Below w.heap.size w w' := pushR_any A n c ps r q w hs hq hn
end Go.Proofs.YtebjfigjfhghcaaDoor.Und
