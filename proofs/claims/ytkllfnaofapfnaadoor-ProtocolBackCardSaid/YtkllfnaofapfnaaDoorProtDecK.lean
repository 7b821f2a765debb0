/-
  The contract of DecodeRequest of package protocol. Conditions: the bytes can be read, within the form's reach; the two tables of unicode/utf8 lie as their initialisers lay them. (Printed by gen/protdec.py.)
-/
import Derived.Test.YtkllfnaofapfnaaDoorProtDecA
import Derived.Test.YtkllfnaofapfnaaDoorProtDecB
import Derived.Test.YtkllfnaofapfnaaDoorProtDecC
import Derived.Test.YtkllfnaofapfnaaDoorProtDecD
namespace Go.Proofs.YtkllfnaofapfnaaDoor.Prot
open Go.RowKit Wd Utf Cod

theorem decReq_any (A : Option Addr) (n c : Nat) (l : List UInt8) (w : World) (hT : Tabs w) (hs : SB w A n c l) (hn : n ≤ 100000) :
    Calls Tryd.prog 16 #[.slice A n c] w (DPost w l) := by
  have h := rU_most (l := l) (most := 9) (s := (0, false))
  rcases (show (rU l 9 (0, false)).1 = 0 ∨ (rU l 9 (0, false)).1 = 1 ∨ (rU l 9 (0, false)).1 = 2 ∨ (rU l 9 (0, false)).1 = 3 ∨ (rU l 9 (0, false)).1 = 4 ∨ (rU l 9 (0, false)).1 = 5 ∨ (rU l 9 (0, false)).1 = 6 ∨ (rU l 9 (0, false)).1 = 7 ∨ (rU l 9 (0, false)).1 = 8 ∨ (rU l 9 (0, false)).1 = 9 by omega) with h | h | h | h | h | h | h | h | h | h
  · exact dec_0 A n c l w hT hs hn h
  · exact dec_1 A n c l w hT hs hn h
  · exact dec_2 A n c l w hT hs hn h
  · exact dec_3 A n c l w hT hs hn h
  · exact dec_4 A n c l w hT hs hn h
  · exact dec_5 A n c l w hT hs hn h
  · exact dec_6 A n c l w hT hs hn h
  · exact dec_7 A n c l w hT hs hn h
  · exact dec_8 A n c l w hT hs hn h
  · exact dec_9 A n c l w hT hs hn h
end Go.Proofs.YtkllfnaofapfnaaDoor.Prot
