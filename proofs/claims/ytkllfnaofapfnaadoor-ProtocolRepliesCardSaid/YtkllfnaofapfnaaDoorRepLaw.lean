/-
  The contract of ProtocolReplies: the codes of replies are those of the reference. Conditions: the argument can be read, within the form's reach; the two tables of unicode/utf8 lie as their initialisers lay them. (Printed by gen/replaw.py.)
-/
import Derived.Test.YtkllfnaofapfnaaDoorRepLight
import Derived.Test.YtkllfnaofapfnaaDoorRepTold
import Derived.Test.YtkllfnaofapfnaaDoorRepSame
import Derived.Test.YtkllfnaofapfnaaDoorRepEncR
import Derived.Test.YtkllfnaofapfnaaDoorProtWorks
namespace Go.Proofs.YtkllfnaofapfnaaDoor.Prot
open Go.RowKit Wd Utf Cod

set_option maxRecDepth 100000 in
set_option maxHeartbeats 8000000 in
theorem replies_any (r : Rep) (q : Rp) (w : World) (hT : Tabs w) (hq : RpOpen w r q) :
    Calls Tryd.prog 7 #[.agg r.cells] w fun e w' => e = .returned (.bool true) ∧ Below w.heap.size w w' := by
  have HT := Lib.hid hT
  have hb0 : Below w.heap.size w (w.alloc (.cells r.cells 34)) := (Below.refl _ _).alloc (Nat.le_refl _) _
  have HL := Lib.hid (lightReply_any r q _ (hq.keep hb0))
  have B0 := Lib.hid hb0
  have R0 : Hid (Blk (w.alloc (.cells r.cells 34)) w.heap.size 34 r.cells) := Lib.hid (Blk.new w _ _)
  clear hT hb0
  rcases hl : lightP r q with _ | _
  · have HLV := Lib.hid hl
    clear hl hq
    unfold Rep.cells at HL B0 R0 ⊢
    go_enter Tryd.func7, Tryd.ntmps7
    go_wp2_with fail
    refine HL.out.mono ?_
    rintro e w1 ⟨rfl, hb1⟩
    rw [HLV.out]
    have B1 := Lib.hid (B0.out.trans (hb1.mono B0.out.size))
    clear hb1
    go_wp2_with fail
    go_ret
    exact ⟨rfl, B1.out⟩
  · obtain ⟨l1, l2, l3, l4, l5, l6⟩ := lightP_parts hl
    have HLV := Lib.hid hl
    have HQ := Lib.hid (hq.in_ (by omega) (by omega))
    have SP := Lib.hid l5
    have SC := Lib.hid l6
    clear hl hq l5 l6
    obtain ⟨err, ses, Ap, np, cp, caret, Ac, nc, cc, chosen, commit, erase, taken, Ad, nd, cd⟩ := r
    simp only at l1 l2 l3 l4
    unfold Rep.cells at HL B0 R0 ⊢
    simp only at HL B0 R0
    go_enter Tryd.func7, Tryd.ntmps7
    go_wp2_with fail
    refine HL.out.mono ?_
    rintro e w1 ⟨rfl, hb1⟩
    rw [HLV.out]
    have B1 := Lib.hid (B0.out.trans (hb1.mono B0.out.size))
    have R1 := Lib.hid (R0.out.below hb1 R0.out.lt)
    clear hb1 B0 R0 HL HLV
    have k0 : w1.cell? ⟨w.heap.size, 0, none⟩ = some (.int .i64 err) := R1.out.cell 0
    have k1 : w1.cell? ⟨w.heap.size, 1, none⟩ = some (.int .i64 ses) := R1.out.cell 1
    have k2 : w1.cell? ⟨w.heap.size, 2, none⟩ = some (.slice Ap np cp) := R1.out.cell 2
    have k3 : w1.cell? ⟨w.heap.size, 3, none⟩ = some (.int .i64 caret) := R1.out.cell 3
    have k4 : w1.cell? ⟨w.heap.size, 4, none⟩ = some (.slice Ac nc cc) := R1.out.cell 4
    have k5 : w1.cell? ⟨w.heap.size, 5, none⟩ = some (.int .i64 chosen) := R1.out.cell 5
    have k6 : w1.cell? ⟨w.heap.size, 6, none⟩ = some (.string commit) := R1.out.cell 6
    have k7 : w1.cell? ⟨w.heap.size, 7, none⟩ = some (.int .i64 erase) := R1.out.cell 7
    have k8 : w1.cell? ⟨w.heap.size, 8, none⟩ = some (.bool taken) := R1.out.cell 8
    have k9 : w1.cell? ⟨w.heap.size, 9, none⟩ = some (.slice Ad nd cd) := R1.out.cell 9
    have HTO := Lib.hid (told_any (⟨err, ses, Ap, np, cp, caret, Ac, nc, cc, chosen, commit, erase, taken, Ad, nd, cd⟩ : Rep) q w1 (HQ.out.keep B1.out))
    unfold Rep.cells at HTO
    simp only at HTO
    go_wp2_with fail
    refine HTO.out.mono ?_
    rintro e w2 ⟨hb2, r2, rfl, hq2⟩
    obtain ⟨err', ses', Ap', np', cp', caret', Ac', nc', cc', chosen', commit', erase', taken', Ad', nd', cd'⟩ := r2
    simp only
    have Q2 := Lib.hid hq2
    have B2 := Lib.hid (B1.out.trans (hb2.mono B1.out.size))
    have R2 := Lib.hid (R1.out.below hb2 R1.out.lt)
    clear hb2 hq2 HTO k0 k1 k2 k3 k4 k5 k6 k7 k8 k9 B1 R1
    have k0 : w2.cell? ⟨w.heap.size, 0, none⟩ = some (.int .i64 err) := R2.out.cell 0
    have k1 : w2.cell? ⟨w.heap.size, 1, none⟩ = some (.int .i64 ses) := R2.out.cell 1
    have k2 : w2.cell? ⟨w.heap.size, 2, none⟩ = some (.slice Ap np cp) := R2.out.cell 2
    have k3 : w2.cell? ⟨w.heap.size, 3, none⟩ = some (.int .i64 caret) := R2.out.cell 3
    have k4 : w2.cell? ⟨w.heap.size, 4, none⟩ = some (.slice Ac nc cc) := R2.out.cell 4
    have k5 : w2.cell? ⟨w.heap.size, 5, none⟩ = some (.int .i64 chosen) := R2.out.cell 5
    have k6 : w2.cell? ⟨w.heap.size, 6, none⟩ = some (.string commit) := R2.out.cell 6
    have k7 : w2.cell? ⟨w.heap.size, 7, none⟩ = some (.int .i64 erase) := R2.out.cell 7
    have k8 : w2.cell? ⟨w.heap.size, 8, none⟩ = some (.bool taken) := R2.out.cell 8
    have k9 : w2.cell? ⟨w.heap.size, 9, none⟩ = some (.slice Ad nd cd) := R2.out.cell 9
    have hlt2 := R2.out.lt
    have hw3 : Below w2.heap.size w2 (w2.alloc (.cells #[.int .i64 err', .int .i64 ses', .slice Ap' np' cp', .int .i64 caret', .slice Ac' nc' cc', .int .i64 chosen', .string commit', .int .i64 erase', .bool taken', .slice Ad' nd' cd'] 48)) := (Below.refl _ _).alloc (Nat.le_refl _) _
    have B3 := Lib.hid (B2.out.trans (hw3.mono B2.out.size))
    have R3 := Lib.hid (R2.out.below hw3 R2.out.lt)
    have M3 : Hid (Blk (w2.alloc (.cells #[.int .i64 err', .int .i64 ses', .slice Ap' np' cp', .int .i64 caret', .slice Ac' nc' cc', .int .i64 chosen', .string commit', .int .i64 erase', .bool taken', .slice Ad' nd' cd'] 48)) w2.heap.size 48 #[.int .i64 err', .int .i64 ses', .slice Ap' np' cp', .int .i64 caret', .slice Ac' nc' cc', .int .i64 chosen', .string commit', .int .i64 erase', .bool taken', .slice Ad' nd' cd']) := Lib.hid (Blk.new w2 _ _)
    have Q3 := Lib.hid (Q2.out.keep hw3)
    have HE := Lib.hid (encP_any (⟨err, ses, Ap, np, cp, caret, Ac, nc, cc, chosen, commit, erase, taken, Ad, nd, cd⟩ : Rep) q _ (HT.out.keep B3.out) (HQ.out.keep B3.out))
    clear hw3 Q2 B2 R2
    unfold Rep.cells at HE
    simp only at HE
    go_wp2_with fail
    refine HE.out.mono ?_
    rintro e w4 ⟨hb4, hpost⟩
    have B4 := Lib.hid (B3.out.trans (hb4.mono B3.out.size))
    have R4 := Lib.hid (R3.out.below hb4 R3.out.lt)
    have M4 := Lib.hid (M3.out.below hb4 M3.out.lt)
    have Q4 := Lib.hid (Q3.out.keep hb4)
    have HE2 := Lib.hid (encPR_any (⟨err', ses', Ap', np', cp', caret', Ac', nc', cc', chosen', commit', erase', taken', Ad', nd', cd'⟩ : Rep) q w4 Q4.out (fun x hx => Nat.le_trans (SP.out x hx) (by decide)) (fun s hs => Nat.le_trans (SC.out s hs) (by decide)) (by rw [← Q4.out.commit, HQ.out.commit]; simp only; omega))
    clear HE B3 R3 M3 Q3 hb4 hlt2 k0 k1 k2 k3 k4 k5 k6 k7 k8 k9
    unfold Rep.cells at HE2
    simp only at HE2
    have m0 : w4.cell? ⟨w2.heap.size, 0, none⟩ = some (.int .i64 err') := M4.out.cell 0
    have m1 : w4.cell? ⟨w2.heap.size, 1, none⟩ = some (.int .i64 ses') := M4.out.cell 1
    have m2 : w4.cell? ⟨w2.heap.size, 2, none⟩ = some (.slice Ap' np' cp') := M4.out.cell 2
    have m3 : w4.cell? ⟨w2.heap.size, 3, none⟩ = some (.int .i64 caret') := M4.out.cell 3
    have m4 : w4.cell? ⟨w2.heap.size, 4, none⟩ = some (.slice Ac' nc' cc') := M4.out.cell 4
    have m5 : w4.cell? ⟨w2.heap.size, 5, none⟩ = some (.int .i64 chosen') := M4.out.cell 5
    have m6 : w4.cell? ⟨w2.heap.size, 6, none⟩ = some (.string commit') := M4.out.cell 6
    have m7 : w4.cell? ⟨w2.heap.size, 7, none⟩ = some (.int .i64 erase') := M4.out.cell 7
    have m8 : w4.cell? ⟨w2.heap.size, 8, none⟩ = some (.bool taken') := M4.out.cell 8
    have m9 : w4.cell? ⟨w2.heap.size, 9, none⟩ = some (.slice Ad' nd' cd') := M4.out.cell 9
    rcases hpost with ⟨hck, A, n, c, rfl, hs, _⟩ | ⟨hck, rfl⟩
    · have S4 := Lib.hid hs
      have CK := Lib.hid hck
      clear hs hck
      go_wp2_with fail
      refine HE2.out.mono ?_
      rintro e w5 ⟨hb5, ⟨_, A', n', c', rfl, hs5, _⟩ | ⟨hck, _⟩⟩
      rotate_left
      · exact absurd CK.out hck
      have S5 := Lib.hid hs5
      have S45 := Lib.hid (S4.out.keep hb5)
      have B5 := Lib.hid (B4.out.trans (hb5.mono B4.out.size))
      have R5 := Lib.hid (R4.out.below hb5 R4.out.lt)
      have M5 := Lib.hid (M4.out.below hb5 M4.out.lt)
      have Q5 := Lib.hid (Q4.out.keep hb5)
      clear HE2 S4 B4 R4 M4 Q4 hb5 hs5 m0 m1 m2 m3 m4 m5 m6 m7 m8 m9
      have CV1 : Hid (∀ W, Below w5.heap.size w5 W → (convert 25 9 (.slice A n c)).run Tryd.prog W = .ok (.string ⟨(codeP q).toArray⟩) W) := Lib.hid (fun W hb => (S45.out.keep hb).rb.run_string _ _ 5 _ Tryd.underlying25 Tryd.underlying5 Tryd.underlying9)
      have CV2 : Hid (∀ W, Below w5.heap.size w5 W → (convert 25 9 (.slice A' n' c')).run Tryd.prog W = .ok (.string ⟨(codeP q).toArray⟩) W) := Lib.hid (fun W hb => (S5.out.keep hb).rb.run_string _ _ 5 _ Tryd.underlying25 Tryd.underlying5 Tryd.underlying9)
      clear S45 S5 CK
      generalize (⟨(codeP q).toArray⟩ : ByteArray) = D at CV1 CV2
      have k0 : w5.cell? ⟨w.heap.size, 0, none⟩ = some (.int .i64 err) := R5.out.cell 0
      have k1 : w5.cell? ⟨w.heap.size, 1, none⟩ = some (.int .i64 ses) := R5.out.cell 1
      have k2 : w5.cell? ⟨w.heap.size, 2, none⟩ = some (.slice Ap np cp) := R5.out.cell 2
      have k3 : w5.cell? ⟨w.heap.size, 3, none⟩ = some (.int .i64 caret) := R5.out.cell 3
      have k4 : w5.cell? ⟨w.heap.size, 4, none⟩ = some (.slice Ac nc cc) := R5.out.cell 4
      have k5 : w5.cell? ⟨w.heap.size, 5, none⟩ = some (.int .i64 chosen) := R5.out.cell 5
      have k6 : w5.cell? ⟨w.heap.size, 6, none⟩ = some (.string commit) := R5.out.cell 6
      have k7 : w5.cell? ⟨w.heap.size, 7, none⟩ = some (.int .i64 erase) := R5.out.cell 7
      have k8 : w5.cell? ⟨w.heap.size, 8, none⟩ = some (.bool taken) := R5.out.cell 8
      have k9 : w5.cell? ⟨w.heap.size, 9, none⟩ = some (.slice Ad nd cd) := R5.out.cell 9
      have m0 : w5.cell? ⟨w2.heap.size, 0, none⟩ = some (.int .i64 err') := M5.out.cell 0
      have m1 : w5.cell? ⟨w2.heap.size, 1, none⟩ = some (.int .i64 ses') := M5.out.cell 1
      have m2 : w5.cell? ⟨w2.heap.size, 2, none⟩ = some (.slice Ap' np' cp') := M5.out.cell 2
      have m3 : w5.cell? ⟨w2.heap.size, 3, none⟩ = some (.int .i64 caret') := M5.out.cell 3
      have m4 : w5.cell? ⟨w2.heap.size, 4, none⟩ = some (.slice Ac' nc' cc') := M5.out.cell 4
      have m5 : w5.cell? ⟨w2.heap.size, 5, none⟩ = some (.int .i64 chosen') := M5.out.cell 5
      have m6 : w5.cell? ⟨w2.heap.size, 6, none⟩ = some (.string commit') := M5.out.cell 6
      have m7 : w5.cell? ⟨w2.heap.size, 7, none⟩ = some (.int .i64 erase') := M5.out.cell 7
      have m8 : w5.cell? ⟨w2.heap.size, 8, none⟩ = some (.bool taken') := M5.out.cell 8
      have m9 : w5.cell? ⟨w2.heap.size, 9, none⟩ = some (.slice Ad' nd' cd') := M5.out.cell 9
      have KS : Hid (∀ W, Below w5.heap.size w5 W → (∀ j, W.cell? ⟨w.heap.size, j, none⟩ = w5.cell? ⟨w.heap.size, j, none⟩) ∧ (∀ j, W.cell? ⟨w2.heap.size, j, none⟩ = w5.cell? ⟨w2.heap.size, j, none⟩) ∧ (convert 25 9 (.slice A n c)).run Tryd.prog W = .ok (.string D) W ∧ (convert 25 9 (.slice A' n' c')).run Tryd.prog W = .ok (.string D) W) := Lib.hid (fun W hb => ⟨fun j => hb.cell (p := ⟨w.heap.size, j, none⟩) R5.out.lt, fun j => hb.cell (p := ⟨w2.heap.size, j, none⟩) M5.out.lt, CV1.out W hb, CV2.out W hb⟩)
      have hcc5 := Lib.hid (KS.out w5.drew (Below.refl _ _).drew)
      have HA := Lib.hid (told_any (⟨err, ses, Ap, np, cp, caret, Ac, nc, cc, chosen, commit, erase, taken, Ad, nd, cd⟩ : Rep) q w5.drew (HQ.out.keep B5.out.drew))
      have Q5d := Lib.hid (Q5.out.keep (Below.refl _ _).drew)
      unfold Rep.cells at HA
      simp only at HA
      go_wp2_with fail
      go_region_held3 (fun w' => (∀ j, w'.cell? ⟨w.heap.size, j, none⟩ = w5.cell? ⟨w.heap.size, j, none⟩) ∧ (∀ j, w'.cell? ⟨w2.heap.size, j, none⟩ = w5.cell? ⟨w2.heap.size, j, none⟩) ∧ (convert 25 9 (.slice A n c)).run Tryd.prog w' = .ok (.string D) w' ∧ (convert 25 9 (.slice A' n' c')).run Tryd.prog w' = .ok (.string D) w') (first | with_reducible exact hcc5.out | with_reducible exact hcc8.out | with_reducible exact hcc7.out | with_reducible exact hcc6.out)
        (first
          | (go_at_call 22; (with_reducible refine HA.out.mono ?_); rintro e w6 ⟨hb6, r6, rfl, hq6⟩; have Q6 := Lib.hid hq6; have HSM := Lib.hid (sameRep_any r6 (⟨err', ses', Ap', np', cp', caret', Ac', nc', cc', chosen', commit', erase', taken', Ad', nd', cd'⟩ : Rep) q w6 Q6.out (Q5d.out.keep hb6)); have C6 := Lib.hid (((Below.refl w5.heap.size w5).drew).trans hb6); have hcc6 := Lib.hid (KS.out w6 C6.out); unfold Rep.cells at HSM; simp only at HSM; clear hb6 hq6 Q6 HA)
          | (go_at_call 21; (with_reducible refine HSM.out.mono ?_); rintro e w7 ⟨rfl, hb7⟩; have C7 := Lib.hid (C6.out.trans (hb7.mono C6.out.size)); have hcc7 := Lib.hid (KS.out w7 C7.out); have HW := Lib.hid (works_any w7 (HT.out.keep (B5.out.trans (C7.out.mono B5.out.size)))); clear hb7 HSM)
          | (go_at_call 23; (with_reducible refine HW.out.mono ?_); rintro e w8 ⟨rfl, hb8⟩; have C8 := Lib.hid (C7.out.trans (hb8.mono C7.out.size)); have hcc8 := Lib.hid (KS.out w8 C8.out); clear hb8 HW))
      go_wp2_with fail
      go_ret
      exact ⟨rfl, B5.out.trans (C8.out.mono B5.out.size)⟩
    · have CK := Lib.hid hck
      clear hck
      go_wp2_with fail
      refine HE2.out.mono ?_
      rintro e w5 ⟨hb5, ⟨hck, _⟩ | ⟨_, rfl⟩⟩
      · exact absurd hck CK.out
      have B5 := Lib.hid (B4.out.trans (hb5.mono B4.out.size))
      have R5 := Lib.hid (R4.out.below hb5 R4.out.lt)
      have M5 := Lib.hid (M4.out.below hb5 M4.out.lt)
      have Q5 := Lib.hid (Q4.out.keep hb5)
      clear HE2 B4 R4 M4 Q4 hb5 m0 m1 m2 m3 m4 m5 m6 m7 m8 m9
      have CV1 : Hid (∀ W, Below w5.heap.size w5 W → (convert 25 9 (.slice none 0 0)).run Tryd.prog W = .ok (.string ⟨([] : List UInt8).toArray⟩) W) := Lib.hid (fun W _ => (sb_nil W).rb.run_string _ _ 5 _ Tryd.underlying25 Tryd.underlying5 Tryd.underlying9)
      have CV2 := Lib.hid CV1.out
      generalize (⟨([] : List UInt8).toArray⟩ : ByteArray) = D at CV1 CV2
      generalize chkP q = Z at CK ⊢
      have k0 : w5.cell? ⟨w.heap.size, 0, none⟩ = some (.int .i64 err) := R5.out.cell 0
      have k1 : w5.cell? ⟨w.heap.size, 1, none⟩ = some (.int .i64 ses) := R5.out.cell 1
      have k2 : w5.cell? ⟨w.heap.size, 2, none⟩ = some (.slice Ap np cp) := R5.out.cell 2
      have k3 : w5.cell? ⟨w.heap.size, 3, none⟩ = some (.int .i64 caret) := R5.out.cell 3
      have k4 : w5.cell? ⟨w.heap.size, 4, none⟩ = some (.slice Ac nc cc) := R5.out.cell 4
      have k5 : w5.cell? ⟨w.heap.size, 5, none⟩ = some (.int .i64 chosen) := R5.out.cell 5
      have k6 : w5.cell? ⟨w.heap.size, 6, none⟩ = some (.string commit) := R5.out.cell 6
      have k7 : w5.cell? ⟨w.heap.size, 7, none⟩ = some (.int .i64 erase) := R5.out.cell 7
      have k8 : w5.cell? ⟨w.heap.size, 8, none⟩ = some (.bool taken) := R5.out.cell 8
      have k9 : w5.cell? ⟨w.heap.size, 9, none⟩ = some (.slice Ad nd cd) := R5.out.cell 9
      have m0 : w5.cell? ⟨w2.heap.size, 0, none⟩ = some (.int .i64 err') := M5.out.cell 0
      have m1 : w5.cell? ⟨w2.heap.size, 1, none⟩ = some (.int .i64 ses') := M5.out.cell 1
      have m2 : w5.cell? ⟨w2.heap.size, 2, none⟩ = some (.slice Ap' np' cp') := M5.out.cell 2
      have m3 : w5.cell? ⟨w2.heap.size, 3, none⟩ = some (.int .i64 caret') := M5.out.cell 3
      have m4 : w5.cell? ⟨w2.heap.size, 4, none⟩ = some (.slice Ac' nc' cc') := M5.out.cell 4
      have m5 : w5.cell? ⟨w2.heap.size, 5, none⟩ = some (.int .i64 chosen') := M5.out.cell 5
      have m6 : w5.cell? ⟨w2.heap.size, 6, none⟩ = some (.string commit') := M5.out.cell 6
      have m7 : w5.cell? ⟨w2.heap.size, 7, none⟩ = some (.int .i64 erase') := M5.out.cell 7
      have m8 : w5.cell? ⟨w2.heap.size, 8, none⟩ = some (.bool taken') := M5.out.cell 8
      have m9 : w5.cell? ⟨w2.heap.size, 9, none⟩ = some (.slice Ad' nd' cd') := M5.out.cell 9
      have KS : Hid (∀ W, Below w5.heap.size w5 W → (∀ j, W.cell? ⟨w.heap.size, j, none⟩ = w5.cell? ⟨w.heap.size, j, none⟩) ∧ (∀ j, W.cell? ⟨w2.heap.size, j, none⟩ = w5.cell? ⟨w2.heap.size, j, none⟩) ∧ (convert 25 9 (.slice none 0 0)).run Tryd.prog W = .ok (.string D) W ∧ (convert 25 9 (.slice none 0 0)).run Tryd.prog W = .ok (.string D) W) := Lib.hid (fun W hb => ⟨fun j => hb.cell (p := ⟨w.heap.size, j, none⟩) R5.out.lt, fun j => hb.cell (p := ⟨w2.heap.size, j, none⟩) M5.out.lt, CV1.out W hb, CV2.out W hb⟩)
      have hcc5 := Lib.hid (KS.out w5.drew (Below.refl _ _).drew)
      have HA := Lib.hid (told_any (⟨err, ses, Ap, np, cp, caret, Ac, nc, cc, chosen, commit, erase, taken, Ad, nd, cd⟩ : Rep) q w5.drew (HQ.out.keep B5.out.drew))
      have Q5d := Lib.hid (Q5.out.keep (Below.refl _ _).drew)
      unfold Rep.cells at HA
      simp only at HA
      go_wp2_with fail
      go_region_held3 (fun w' => (∀ j, w'.cell? ⟨w.heap.size, j, none⟩ = w5.cell? ⟨w.heap.size, j, none⟩) ∧ (∀ j, w'.cell? ⟨w2.heap.size, j, none⟩ = w5.cell? ⟨w2.heap.size, j, none⟩) ∧ (convert 25 9 (.slice none 0 0)).run Tryd.prog w' = .ok (.string D) w' ∧ (convert 25 9 (.slice none 0 0)).run Tryd.prog w' = .ok (.string D) w') (first | with_reducible exact hcc5.out | with_reducible exact hcc8.out | with_reducible exact hcc7.out | with_reducible exact hcc6.out)
        (first
          | (go_at_call 22; (with_reducible refine HA.out.mono ?_); rintro e w6 ⟨hb6, r6, rfl, hq6⟩; have Q6 := Lib.hid hq6; have HSM := Lib.hid (sameRep_any r6 (⟨err', ses', Ap', np', cp', caret', Ac', nc', cc', chosen', commit', erase', taken', Ad', nd', cd'⟩ : Rep) q w6 Q6.out (Q5d.out.keep hb6)); have C6 := Lib.hid (((Below.refl w5.heap.size w5).drew).trans hb6); have hcc6 := Lib.hid (KS.out w6 C6.out); unfold Rep.cells at HSM; simp only at HSM; clear hb6 hq6 Q6 HA)
          | (go_at_call 21; (with_reducible refine HSM.out.mono ?_); rintro e w7 ⟨rfl, hb7⟩; have C7 := Lib.hid (C6.out.trans (hb7.mono C6.out.size)); have hcc7 := Lib.hid (KS.out w7 C7.out); have HW := Lib.hid (works_any w7 (HT.out.keep (B5.out.trans (C7.out.mono B5.out.size)))); clear hb7 HSM)
          | (go_at_call 23; (with_reducible refine HW.out.mono ?_); rintro e w8 ⟨rfl, hb8⟩; have C8 := Lib.hid (C7.out.trans (hb8.mono C7.out.size)); have hcc8 := Lib.hid (KS.out w8 C8.out); clear hb8 HW))
      go_wp2_with fail
      go_ret
      exact ⟨rfl, B5.out.trans (C8.out.mono B5.out.size)⟩
end Go.Proofs.YtkllfnaofapfnaaDoor.Prot
