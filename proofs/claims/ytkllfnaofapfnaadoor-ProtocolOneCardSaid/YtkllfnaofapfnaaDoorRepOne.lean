/-
  The contract of ProtocolOne: what was decoded has no other code. Conditions: the argument can be read, within the form's reach; the two tables of unicode/utf8 lie as their initialisers lay them. (Printed by gen/lawone.py.)
-/
import Derived.Test.YtkllfnaofapfnaaDoorRepDec
import Derived.Test.YtkllfnaofapfnaaDoorRepEnc
import Derived.Test.YtkllfnaofapfnaaDoorProtDecK
import Derived.Test.YtkllfnaofapfnaaDoorProtWorks
import Derived.Deep.DeepCutAuto
namespace Go.Proofs.YtkllfnaofapfnaaDoor.Prot
open Go.RowKit Wd Utf Cod

set_option maxRecDepth 100000 in
set_option maxHeartbeats 8000000 in
theorem one_any (A : Option Addr) (n c : Nat) (l : List UInt8) (w : World) (hT : Tabs w) (hs : SB w A n c l) (hn : n ≤ 140737488355328) :
    Calls Tryd.prog 4 #[.slice A n c] w fun e w' => e = .returned (.bool true) ∧ Below w.heap.size w w' := by
  by_cases hb : n ≤ 100000
  · have gb : (n : Int) ≤ 100000 := by omega
    have HT := Lib.hid hT
    have HS := Lib.hid hs
    clear hT hs
    go_enter Tryd.func4, Tryd.ntmps4
    go_wp2_with fail
    refine (decReq_any A n c l _ HT.out HS.out (by omega)).mono ?_
    rintro e w2 ⟨hb2, r, q, cc0, rfl, hq2, hd2, _, _, _⟩
    obtain ⟨kind, ses, kk, kc, be, sl, on, su, A7, n7, c7, A8, n8, c8⟩ := r
    dsimp only [Req.cells]
    have HD := Lib.hid hd2
    have B2 := Lib.hid hb2
    have Q2 := Lib.hid hq2
    have hal : Below w2.heap.size w2 (w2.alloc (.cells #[.int .i64 kind, .int .i64 ses, .int .i64 kk, .int .u8 (kc : Int), .string be, .string sl, .bool on, .string su, .slice A7 n7 c7, .slice A8 n8 c8] 27)) := (Below.refl _ _).alloc (Nat.le_refl _) _
    have B3 := Lib.hid (B2.out.trans (hal.mono B2.out.size))
    have Q3 := Lib.hid (Q2.out.keep hal)
    have K3 : Hid (Blk (w2.alloc (.cells #[.int .i64 kind, .int .i64 ses, .int .i64 kk, .int .u8 (kc : Int), .string be, .string sl, .bool on, .string su, .slice A7 n7 c7, .slice A8 n8 c8] 27)) w2.heap.size 27 #[.int .i64 kind, .int .i64 ses, .int .i64 kk, .int .u8 (kc : Int), .string be, .string sl, .bool on, .string su, .slice A7 n7 c7, .slice A8 n8 c8]) := Lib.hid (Blk.new _ _ _)
    clear hb2 hq2 hd2 hal B2 Q2
    go_upto_if 20 with fail
    generalize (w2.alloc (.cells #[.int .i64 kind, .int .i64 ses, .int .i64 kk, .int .u8 (kc : Int), .string be, .string sl, .bool on, .string su, .slice A7 n7 c7, .slice A8 n8 c8] 27)) = w3 at *
    go_cut [] (fun wx => Below w.heap.size w wx)
    case first =>
      rcases HD.out with ⟨h0, hck, _, hcode⟩ | ⟨h5, _, _⟩
      · subst h0
        have CK := Lib.hid hck
        have HCO := Lib.hid hcode
        have HE := Lib.hid (encReq_any _ q w3 (HT.out.keep B3.out) Q3.out)
        clear hck hcode
        unfold Req.cells at HE
        simp only at HE
        have x0 : w3.cell? ⟨w2.heap.size, 0, none⟩ = some (.int .i64 kind) := K3.out.cell 0
        have x1 : w3.cell? ⟨w2.heap.size, 1, none⟩ = some (.int .i64 ses) := K3.out.cell 1
        have x2 : w3.cell? ⟨w2.heap.size, 2, none⟩ = some (.int .i64 kk) := K3.out.cell 2
        have x3 : w3.cell? ⟨w2.heap.size, 3, none⟩ = some (.int .u8 (kc : Int)) := K3.out.cell 3
        have x4 : w3.cell? ⟨w2.heap.size, 4, none⟩ = some (.string be) := K3.out.cell 4
        have x5 : w3.cell? ⟨w2.heap.size, 5, none⟩ = some (.string sl) := K3.out.cell 5
        have x6 : w3.cell? ⟨w2.heap.size, 6, none⟩ = some (.bool on) := K3.out.cell 6
        have x7 : w3.cell? ⟨w2.heap.size, 7, none⟩ = some (.string su) := K3.out.cell 7
        have x8 : w3.cell? ⟨w2.heap.size, 8, none⟩ = some (.slice A7 n7 c7) := K3.out.cell 8
        have x9 : w3.cell? ⟨w2.heap.size, 9, none⟩ = some (.slice A8 n8 c8) := K3.out.cell 9
        go_wp2_with fail
        refine HE.out.mono ?_
        rintro e w4 ⟨hb4, ⟨_, A', n', c', rfl, hs4⟩ | ⟨hck', _⟩⟩
        rotate_left
        · exact absurd CK.out hck'
        have B4 := Lib.hid (B3.out.trans (hb4.mono B3.out.size))
        have c1 := hs4.rb.run_string (P := Tryd.prog) c' 25 5 9 Tryd.underlying25 Tryd.underlying5 Tryd.underlying9
        have c2 := (HS.out.keep B4.out).rb.run_string (P := Tryd.prog) c 25 5 9 Tryd.underlying25 Tryd.underlying5 Tryd.underlying9
        rw [HCO.out] at c1
        generalize (⟨l.toArray⟩ : ByteArray) = D at c1 c2
        clear hs4 hb4 HE x0 x1 x2 x3 x4 x5 x6 x7 x8 x9
        go_wp2_with fail
        go_meet
        exact B4.out
      · subst h5
        go_wp2_with fail
        go_meet
        exact B3.out
    have B5 := Lib.hid hcut
    clear hcut HD B3 Q3 K3
    rename World => wb
    go_wp2_with fail
    refine (decRep_any A n c l _ (HT.out.keep B5.out) (HS.out.keep B5.out) (by omega)).mono ?_
    rintro e w6 ⟨hb2, r, q, cc0, rfl, hq2, hd2, _, _, _⟩
    obtain ⟨err, sesp, Ap, np, cp, caret, Ac, nc, cc, chosen, commit, erase, taken, Ad, nd, cd⟩ := r
    dsimp only [Rep.cells]
    have HD := Lib.hid hd2
    have B2 := Lib.hid (B5.out.trans (hb2.mono B5.out.size))
    have Q2 := Lib.hid hq2
    have hal : Below w6.heap.size w6 (w6.alloc (.cells #[.int .i64 err, .int .i64 sesp, .slice Ap np cp, .int .i64 caret, .slice Ac nc cc, .int .i64 chosen, .string commit, .int .i64 erase, .bool taken, .slice Ad nd cd] 34)) := (Below.refl _ _).alloc (Nat.le_refl _) _
    have B3 := Lib.hid (B2.out.trans (hal.mono B2.out.size))
    have Q3 := Lib.hid (Q2.out.keep hal)
    have K3 : Hid (Blk (w6.alloc (.cells #[.int .i64 err, .int .i64 sesp, .slice Ap np cp, .int .i64 caret, .slice Ac nc cc, .int .i64 chosen, .string commit, .int .i64 erase, .bool taken, .slice Ad nd cd] 34)) w6.heap.size 34 #[.int .i64 err, .int .i64 sesp, .slice Ap np cp, .int .i64 caret, .slice Ac nc cc, .int .i64 chosen, .string commit, .int .i64 erase, .bool taken, .slice Ad nd cd]) := Lib.hid (Blk.new _ _ _)
    clear hb2 hq2 hd2 hal B2 Q2 B5
    go_upto_if 41 with fail
    generalize (w6.alloc (.cells #[.int .i64 err, .int .i64 sesp, .slice Ap np cp, .int .i64 caret, .slice Ac nc cc, .int .i64 chosen, .string commit, .int .i64 erase, .bool taken, .slice Ad nd cd] 34)) = w7 at *
    go_cut [] (fun wx => Below w.heap.size w wx)
    case first =>
      rcases HD.out with ⟨h0, hck, hcode⟩ | ⟨h5, _, _⟩
      · subst h0
        have CK := Lib.hid hck
        have HCO := Lib.hid hcode
        have HE := Lib.hid (encP_any _ q w7 (HT.out.keep B3.out) Q3.out)
        clear hck hcode
        unfold Rep.cells at HE
        simp only at HE
        have x0 : w7.cell? ⟨w6.heap.size, 0, none⟩ = some (.int .i64 err) := K3.out.cell 0
        have x1 : w7.cell? ⟨w6.heap.size, 1, none⟩ = some (.int .i64 sesp) := K3.out.cell 1
        have x2 : w7.cell? ⟨w6.heap.size, 2, none⟩ = some (.slice Ap np cp) := K3.out.cell 2
        have x3 : w7.cell? ⟨w6.heap.size, 3, none⟩ = some (.int .i64 caret) := K3.out.cell 3
        have x4 : w7.cell? ⟨w6.heap.size, 4, none⟩ = some (.slice Ac nc cc) := K3.out.cell 4
        have x5 : w7.cell? ⟨w6.heap.size, 5, none⟩ = some (.int .i64 chosen) := K3.out.cell 5
        have x6 : w7.cell? ⟨w6.heap.size, 6, none⟩ = some (.string commit) := K3.out.cell 6
        have x7 : w7.cell? ⟨w6.heap.size, 7, none⟩ = some (.int .i64 erase) := K3.out.cell 7
        have x8 : w7.cell? ⟨w6.heap.size, 8, none⟩ = some (.bool taken) := K3.out.cell 8
        have x9 : w7.cell? ⟨w6.heap.size, 9, none⟩ = some (.slice Ad nd cd) := K3.out.cell 9
        go_wp2_with fail
        refine HE.out.mono ?_
        rintro e w8 ⟨hb4, ⟨_, A', n', c', rfl, hs4, _⟩ | ⟨hck', _⟩⟩
        rotate_left
        · exact absurd CK.out hck'
        have B4 := Lib.hid (B3.out.trans (hb4.mono B3.out.size))
        have c1 := hs4.rb.run_string (P := Tryd.prog) c' 25 5 9 Tryd.underlying25 Tryd.underlying5 Tryd.underlying9
        have c2 := (HS.out.keep B4.out).rb.run_string (P := Tryd.prog) c 25 5 9 Tryd.underlying25 Tryd.underlying5 Tryd.underlying9
        rw [HCO.out] at c1
        generalize (⟨l.toArray⟩ : ByteArray) = D at c1 c2
        clear hs4 hb4 HE x0 x1 x2 x3 x4 x5 x6 x7 x8 x9
        go_wp2_with fail
        go_meet
        exact B4.out
      · subst h5
        go_wp2_with fail
        go_meet
        exact B3.out
    have B9 := Lib.hid hcut
    clear hcut HD B3 Q3 K3
    rename World => wd
    go_wp2_with fail
    refine (works_any wd (HT.out.keep B9.out)).mono ?_
    rintro e wz ⟨rfl, hbz⟩
    have BZ := Lib.hid (B9.out.trans (hbz.mono B9.out.size))
    clear hbz
    go_wp2_with fail
    go_ret
    exact ⟨rfl, BZ.out⟩
  · have gb : (100000 : Int) < (n : Int) := by omega
    go_enter Tryd.func4, Tryd.ntmps4
    go_wp2_with fail
    go_ret
    exact ⟨rfl, Below.refl _ _⟩
end Go.Proofs.YtkllfnaofapfnaaDoor.Prot
