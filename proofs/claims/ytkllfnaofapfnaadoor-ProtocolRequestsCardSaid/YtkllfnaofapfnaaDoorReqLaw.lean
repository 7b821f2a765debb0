/-
  The contract of ProtocolRequests: the codes of requests are those of the reference. Conditions: the argument can be read, within the form's reach; the two tables of unicode/utf8 lie as their initialisers lay them.
-/
import Derived.Test.YtkllfnaofapfnaaDoorReqLight
import Derived.Test.YtkllfnaofapfnaaDoorReqAsked
import Derived.Test.YtkllfnaofapfnaaDoorReqSame
import Derived.Test.YtkllfnaofapfnaaDoorProtWorks
namespace Go.Proofs.YtkllfnaofapfnaaDoor.Prot
open Go.RowKit Wd Utf Cod

/-- a request that came in -/
structure RqOpen (w : World) (r : Req) (q : Rq) : Prop where
  seen : RI .i64 w r.A7 r.n7 q.seen
  data : SB w r.A8 r.n8 r.c8 q.data
  is : IsRq r q.seen q
  n8 : r.n8 ≤ 140737488355328
  bef : r.bef.size ≤ 140737488355328
  sel : r.sel.size ≤ 140737488355328
  sur : r.sur.size ≤ 140737488355328
  kc : r.kc < 256
theorem RqOpen.in_ {w : World} {r : Req} {q : Rq} (h : RqOpen w r q) (hn : r.n7 ≤ 100000) : RqIn w r q := ⟨h.seen, h.data, h.is, hn, h.n8, h.bef, h.sel, h.sur, h.kc⟩
theorem light_parts {r : Req} (h : lightR r = true) : r.bef.size ≤ 100000 ∧ r.sel.size ≤ 100000 ∧ r.sur.size ≤ 100000 ∧ r.n8 ≤ 100000 ∧ r.n7 ≤ 1000 := of_decide_eq_true h
/-- what Asked returns can be read as the request itself -/
theorem APost.in_ {w w' : World} {r : Req} {q : Rq} (hq : RqIn w r q) {A7 A8 : Option Addr} {c7 c8 : Nat} (h7 : w'.ownsRow w.heap.size 3 1 (.slice A7 r.n7 c7) r.n7 (is .i64 q.seen)) (h8 : w'.ownsRow w.heap.size 5 1 (.slice A8 r.n8 c8) r.n8 (bs q.data)) : RqIn w' ⟨r.kind, r.ses, r.kk, r.kc, r.bef, r.sel, r.on, r.sur, A7, r.n7, c7, A8, r.n8, c8⟩ q :=
  ⟨RI.of_own h7, own_sb1' h8, ⟨hq.is.kind, hq.is.ses, hq.is.kk, hq.is.kc, hq.is.bef, hq.is.sel, hq.is.on, hq.is.sur, hq.is.seen, hq.is.n7, hq.is.data⟩, hq.n7, hq.n8, hq.bef, hq.sel, hq.sur, hq.kc⟩
set_option maxRecDepth 100000 in
set_option maxHeartbeats 8000000 in
theorem requests_any (r : Req) (q : Rq) (w : World) (hT : Tabs w) (hq : RqOpen w r q) :
    Calls Tryd.prog 5 #[.agg r.cells] w fun e w' => e = .returned (.bool true) ∧ Below w.heap.size w w' := by
  have HT := Lib.hid hT
  have HL := Lib.hid (fun w : World => light_any r w)
  have hb0 : Below w.heap.size w (w.alloc (.cells r.cells 27)) := (Below.refl _ _).alloc (Nat.le_refl _) _
  have B0 := Lib.hid hb0
  have R0 : Hid (RqB w.heap.size r (w.alloc (.cells r.cells 27))) := Lib.hid (Blk.new w _ _)
  clear hT hb0
  rcases hl : lightR r with _ | _
  · have HLV := Lib.hid hl
    clear hl hq
    unfold Req.cells at HL B0 R0 ⊢
    go_enter Tryd.func5, Tryd.ntmps5
    go_wp2_with fail
    refine (HL.out _).mono ?_
    rintro e w1 ⟨rfl, hb1⟩
    rw [HLV.out]
    have B1 := Lib.hid (B0.out.trans (hb1.mono B0.out.size))
    clear hb1
    go_wp2_with fail
    go_ret
    exact ⟨rfl, B1.out⟩
  · obtain ⟨l1, l2, l3, l4, l5⟩ := light_parts hl
    have HLV := Lib.hid hl
    have HQ := Lib.hid (hq.in_ (by omega))
    clear hl hq
    unfold Req.cells at HL B0 R0 ⊢
    go_enter Tryd.func5, Tryd.ntmps5
    go_wp2_with fail
    refine (HL.out _).mono ?_
    rintro e w1 ⟨rfl, hb1⟩
    rw [HLV.out]
    have B1 := Lib.hid (B0.out.trans (hb1.mono B0.out.size))
    have R1 := Lib.hid (R0.out.keep hb1)
    clear hb1 B0 R0 HL HLV
    have k0 := R1.out.c0
    have k1 := R1.out.c1
    have k2 := R1.out.c2
    have k3 := R1.out.c3
    have k4 := R1.out.c4
    have k5 := R1.out.c5
    have k6 := R1.out.c6
    have k7 := R1.out.c7
    have k8 := R1.out.c8
    have k9 := R1.out.c9
    go_wp2_with fail
    refine (asked_any r q _ (HQ.out.keep B1.out)).mono ?_
    rintro e w2 ⟨hb2, A7, A8, c7, c8, rfl, ho7, ho8⟩
    dsimp only [Req.cells]
    have Q2 := Lib.hid (APost.in_ (HQ.out.keep B1.out) ho7 ho8)
    have B2 := Lib.hid (B1.out.trans (hb2.mono B1.out.size))
    have R2 := Lib.hid (R1.out.keep hb2)
    clear ho7 ho8 hb2 k0 k1 k2 k3 k4 k5 k6 k7 k8 k9 B1 R1
    have k0 := R2.out.c0
    have k1 := R2.out.c1
    have k2 := R2.out.c2
    have k3 := R2.out.c3
    have k4 := R2.out.c4
    have k5 := R2.out.c5
    have k6 := R2.out.c6
    have k7 := R2.out.c7
    have k8 := R2.out.c8
    have k9 := R2.out.c9
    have hlt2 := R2.out.lt
    have hw3 : Below w2.heap.size w2 (w2.alloc (.cells (Req.cells ⟨r.kind, r.ses, r.kk, r.kc, r.bef, r.sel, r.on, r.sur, A7, r.n7, c7, A8, r.n8, c8⟩) 42)) := (Below.refl _ _).alloc (Nat.le_refl _) _
    have B3 := Lib.hid (B2.out.trans (hw3.mono B2.out.size))
    have R3 := Lib.hid (R2.out.keep hw3)
    have M3 : Hid (RqR w2.heap.size ⟨r.kind, r.ses, r.kk, r.kc, r.bef, r.sel, r.on, r.sur, A7, r.n7, c7, A8, r.n8, c8⟩ (w2.alloc (.cells (Req.cells ⟨r.kind, r.ses, r.kk, r.kc, r.bef, r.sel, r.on, r.sur, A7, r.n7, c7, A8, r.n8, c8⟩) 42))) := Lib.hid (Blk.new w2 _ _)
    have Q3 := Lib.hid (Q2.out.keep hw3)
    have HE := Lib.hid (encReq_any r q _ (HT.out.keep B3.out) (HQ.out.keep B3.out))
    clear hw3 Q2 B2 R2
    unfold Req.cells at B3 R3 M3 Q3 HE
    simp only at B3 R3 M3 Q3 HE
    go_wp2_with fail
    refine HE.out.mono ?_
    rintro e w4 ⟨hb4, hpost⟩
    have B4 := Lib.hid (B3.out.trans (hb4.mono B3.out.size))
    have R4 := Lib.hid (R3.out.keep hb4)
    have M4 := Lib.hid (RqR.keep M3.out hb4)
    have Q4 := Lib.hid (Q3.out.keep hb4)
    have HE2 := Lib.hid (encR_any _ q w4 Q4.out (by simp only; omega) (by simp only; omega) (by simp only; omega))
    clear HE B3 R3 M3 Q3 hb4 hlt2 k0 k1 k2 k3 k4 k5 k6 k7 k8 k9
    unfold Req.cells at HE2
    simp only at HE2
    have m0 := M4.out.c0
    have m1 := M4.out.c1
    have m2 := M4.out.c2
    have m3 := M4.out.c3
    have m4 := M4.out.c4
    have m5 := M4.out.c5
    have m6 := M4.out.c6
    have m7 := M4.out.c7
    have m8 := M4.out.c8
    have m9 := M4.out.c9
    rcases hpost with ⟨hck, A, n, c, rfl, hs⟩ | ⟨hck, rfl⟩
    · have S4 := Lib.hid hs
      have CK := Lib.hid hck
      clear hs hck
      go_wp2_with fail
      refine HE2.out.mono ?_
      rintro e w5 ⟨hb5, ⟨_, A', n', c', rfl, hs5⟩ | ⟨hck, _⟩⟩
      rotate_left
      · exact absurd CK.out hck
      have S5 := Lib.hid hs5
      have S45 := Lib.hid (S4.out.keep hb5)
      have B5 := Lib.hid (B4.out.trans (hb5.mono B4.out.size))
      have R5 := Lib.hid (R4.out.keep hb5)
      have M5 := Lib.hid (RqR.keep M4.out hb5)
      have Q5 := Lib.hid (Q4.out.keep hb5)
      clear HE2 S4 B4 R4 M4 Q4 hb5 hs5 m0 m1 m2 m3 m4 m5 m6 m7 m8 m9
      have CV1 : Hid (∀ W, Below w5.heap.size w5 W → (convert 25 9 (.slice A n c)).run Tryd.prog W = .ok (.string ⟨(codeR q).toArray⟩) W) := Lib.hid (fun W hb => (S45.out.keep hb).rb.run_string _ _ 5 _ Tryd.underlying25 Tryd.underlying5 Tryd.underlying9)
      have CV2 : Hid (∀ W, Below w5.heap.size w5 W → (convert 25 9 (.slice A' n' c')).run Tryd.prog W = .ok (.string ⟨(codeR q).toArray⟩) W) := Lib.hid (fun W hb => (S5.out.keep hb).rb.run_string _ _ 5 _ Tryd.underlying25 Tryd.underlying5 Tryd.underlying9)
      clear S45 S5 CK
      generalize (⟨(codeR q).toArray⟩ : ByteArray) = D at CV1 CV2
      have k0 := R5.out.c0
      have k1 := R5.out.c1
      have k2 := R5.out.c2
      have k3 := R5.out.c3
      have k4 := R5.out.c4
      have k5 := R5.out.c5
      have k6 := R5.out.c6
      have k7 := R5.out.c7
      have k8 := R5.out.c8
      have k9 := R5.out.c9
      have m0 := M5.out.c0
      have m1 := M5.out.c1
      have m2 := M5.out.c2
      have m3 := M5.out.c3
      have m4 := M5.out.c4
      have m5 := M5.out.c5
      have m6 := M5.out.c6
      have m7 := M5.out.c7
      have m8 := M5.out.c8
      have m9 := M5.out.c9
      simp only at m0 m1 m2 m3 m4 m5 m6 m7 m8 m9
      have KS : Hid (∀ W, Below w5.heap.size w5 W → (∀ j, W.cell? ⟨w.heap.size, j, none⟩ = w5.cell? ⟨w.heap.size, j, none⟩) ∧ (∀ j, W.cell? ⟨w2.heap.size, j, none⟩ = w5.cell? ⟨w2.heap.size, j, none⟩) ∧ (convert 25 9 (.slice A n c)).run Tryd.prog W = .ok (.string D) W ∧ (convert 25 9 ((.slice A' n' c'))).run Tryd.prog W = .ok (.string D) W) := Lib.hid (fun W hb => ⟨fun j => hb.cell (p := ⟨w.heap.size, j, none⟩) R5.out.lt, fun j => hb.cell (p := ⟨w2.heap.size, j, none⟩) M5.out.lt, CV1.out W hb, CV2.out W hb⟩)
      have hcc5 := Lib.hid (KS.out w5.drew (Below.refl _ _).drew)
      have HA := Lib.hid (asked_any r q w5.drew (HQ.out.keep B5.out.drew))
      have B5d := Lib.hid (B5.out.drew)
      have M5d := Lib.hid (Q5.out.keep (Below.refl _ _).drew)
      unfold Req.cells at HA
      go_wp2_with fail
      go_region_held3 (fun w' => (∀ j, w'.cell? ⟨w.heap.size, j, none⟩ = w5.cell? ⟨w.heap.size, j, none⟩) ∧ (∀ j, w'.cell? ⟨w2.heap.size, j, none⟩ = w5.cell? ⟨w2.heap.size, j, none⟩) ∧ (convert 25 9 (.slice A n c)).run Tryd.prog w' = .ok (.string D) w' ∧ (convert 25 9 ((.slice A' n' c'))).run Tryd.prog w' = .ok (.string D) w') (first | with_reducible exact hcc5.out | with_reducible exact hcc8.out | with_reducible exact hcc7.out | with_reducible exact hcc6.out)
        (first
          | (go_at_call 18; (with_reducible refine HA.out.mono ?_); rintro e w6 ⟨hb6, X7, X8, d7, d8, rfl, ho7, ho8⟩; dsimp only [Req.cells]; have Q6 := Lib.hid (APost.in_ (HQ.out.keep B5d.out) ho7 ho8); have Q6' := Lib.hid (M5d.out.keep hb6); have HS := Lib.hid (sameReq_any _ _ q w6 Q6.out Q6'.out); unfold Req.cells at HS; simp only at HS; have C6 := Lib.hid (((Below.refl w5.heap.size w5).drew).trans hb6); have hcc6 := Lib.hid (KS.out w6 C6.out); clear ho7 ho8 hb6 Q6 Q6' HA)
          | (go_at_call 17; (with_reducible refine HS.out.mono ?_); rintro e w7 ⟨rfl, hb7⟩; have C7 := Lib.hid (C6.out.trans (hb7.mono C6.out.size)); have hcc7 := Lib.hid (KS.out w7 C7.out); have HW := Lib.hid (works_any w7 (HT.out.keep (B5.out.trans (C7.out.mono B5.out.size)))); clear hb7 HS)
          | (go_at_call 23; (with_reducible refine HW.out.mono ?_); rintro e w8 ⟨rfl, hb8⟩; have C8 := Lib.hid (C7.out.trans (hb8.mono C7.out.size)); have hcc8 := Lib.hid (KS.out w8 C8.out); clear hb8 HW))
      go_wp2_with fail
      go_ret
      exact ⟨rfl, B5.out.trans (C8.out.mono B5.out.size)⟩
    · have CK := Lib.hid hck
      clear hck
      go_wp2_with fail
      refine HE2.out.mono ?_
      rintro e w5 ⟨hb5, ⟨hck, _⟩ | ⟨_, rfl⟩⟩
      · exact absurd hck CK.out
      have B5 := Lib.hid (B4.out.trans (hb5.mono B4.out.size))
      have R5 := Lib.hid (R4.out.keep hb5)
      have M5 := Lib.hid (RqR.keep M4.out hb5)
      have Q5 := Lib.hid (Q4.out.keep hb5)
      clear HE2 B4 R4 M4 Q4 hb5 m0 m1 m2 m3 m4 m5 m6 m7 m8 m9
      have CV1 : Hid (∀ W, Below w5.heap.size w5 W → (convert 25 9 (.slice none 0 0)).run Tryd.prog W = .ok (.string ⟨([] : List UInt8).toArray⟩) W) := Lib.hid (fun W _ => (sb_nil W).rb.run_string _ _ 5 _ Tryd.underlying25 Tryd.underlying5 Tryd.underlying9)
      have CV2 := Lib.hid CV1.out
      generalize (⟨([] : List UInt8).toArray⟩ : ByteArray) = D at CV1 CV2
      generalize chkR q = Z at CK ⊢
      have k0 := R5.out.c0
      have k1 := R5.out.c1
      have k2 := R5.out.c2
      have k3 := R5.out.c3
      have k4 := R5.out.c4
      have k5 := R5.out.c5
      have k6 := R5.out.c6
      have k7 := R5.out.c7
      have k8 := R5.out.c8
      have k9 := R5.out.c9
      have m0 := M5.out.c0
      have m1 := M5.out.c1
      have m2 := M5.out.c2
      have m3 := M5.out.c3
      have m4 := M5.out.c4
      have m5 := M5.out.c5
      have m6 := M5.out.c6
      have m7 := M5.out.c7
      have m8 := M5.out.c8
      have m9 := M5.out.c9
      simp only at m0 m1 m2 m3 m4 m5 m6 m7 m8 m9
      have KS : Hid (∀ W, Below w5.heap.size w5 W → (∀ j, W.cell? ⟨w.heap.size, j, none⟩ = w5.cell? ⟨w.heap.size, j, none⟩) ∧ (∀ j, W.cell? ⟨w2.heap.size, j, none⟩ = w5.cell? ⟨w2.heap.size, j, none⟩) ∧ (convert 25 9 (.slice none 0 0)).run Tryd.prog W = .ok (.string D) W ∧ (convert 25 9 (.slice none 0 0)).run Tryd.prog W = .ok (.string D) W) := Lib.hid (fun W hb => ⟨fun j => hb.cell (p := ⟨w.heap.size, j, none⟩) R5.out.lt, fun j => hb.cell (p := ⟨w2.heap.size, j, none⟩) M5.out.lt, CV1.out W hb, CV2.out W hb⟩)
      have hcc5 := Lib.hid (KS.out w5.drew (Below.refl _ _).drew)
      have HA := Lib.hid (asked_any r q w5.drew (HQ.out.keep B5.out.drew))
      have B5d := Lib.hid (B5.out.drew)
      have M5d := Lib.hid (Q5.out.keep (Below.refl _ _).drew)
      unfold Req.cells at HA
      go_wp2_with fail
      go_region_held3 (fun w' => (∀ j, w'.cell? ⟨w.heap.size, j, none⟩ = w5.cell? ⟨w.heap.size, j, none⟩) ∧ (∀ j, w'.cell? ⟨w2.heap.size, j, none⟩ = w5.cell? ⟨w2.heap.size, j, none⟩) ∧ (convert 25 9 (.slice none 0 0)).run Tryd.prog w' = .ok (.string D) w' ∧ (convert 25 9 (.slice none 0 0)).run Tryd.prog w' = .ok (.string D) w') (first | with_reducible exact hcc5.out | with_reducible exact hcc8.out | with_reducible exact hcc7.out | with_reducible exact hcc6.out)
        (first
          | (go_at_call 18; (with_reducible refine HA.out.mono ?_); rintro e w6 ⟨hb6, X7, X8, d7, d8, rfl, ho7, ho8⟩; dsimp only [Req.cells]; have Q6 := Lib.hid (APost.in_ (HQ.out.keep B5d.out) ho7 ho8); have Q6' := Lib.hid (M5d.out.keep hb6); have HS := Lib.hid (sameReq_any _ _ q w6 Q6.out Q6'.out); unfold Req.cells at HS; simp only at HS; have C6 := Lib.hid (((Below.refl w5.heap.size w5).drew).trans hb6); have hcc6 := Lib.hid (KS.out w6 C6.out); clear ho7 ho8 hb6 Q6 Q6' HA)
          | (go_at_call 17; (with_reducible refine HS.out.mono ?_); rintro e w7 ⟨rfl, hb7⟩; have C7 := Lib.hid (C6.out.trans (hb7.mono C6.out.size)); have hcc7 := Lib.hid (KS.out w7 C7.out); have HW := Lib.hid (works_any w7 (HT.out.keep (B5.out.trans (C7.out.mono B5.out.size)))); clear hb7 HS)
          | (go_at_call 23; (with_reducible refine HW.out.mono ?_); rintro e w8 ⟨rfl, hb8⟩; have C8 := Lib.hid (C7.out.trans (hb8.mono C7.out.size)); have hcc8 := Lib.hid (KS.out w8 C8.out); clear hb8 HW))
      go_wp2_with fail
      go_ret
      exact ⟨rfl, B5.out.trans (C8.out.mono B5.out.size)⟩
end Go.Proofs.YtkllfnaofapfnaaDoor.Prot
