/-
  The contract of EncodeRequest of package protocol, kind by kind, for requests with nothing wrong. Conditions: as of EncodeRequest. (Printed by gen/protenc.py.)
-/
import Derived.Test.YtkllfnaofapfnaaDoorProtEnc
import Derived.Deep.RegionHeld3
namespace Go.Proofs.YtkllfnaofapfnaaDoor.Prot
open Go.RowKit Wd Utf Cod

theorem getD_mem {l : List Int} {j : Nat} (h : j < l.length) : l.getD j 0 ∈ l := by
  simp only [List.getD, List.getElem?_eq_getElem h, Option.getD_some]
  exact List.getElem_mem _
theorem seen_code {l : List Int} {j : Nat} (h : j < l.length) : (l.take (j + 1)).flatMap (fun z => put z.toNat) = (l.take j).flatMap (fun z => put z.toNat) ++ put (l.getD j 0).toNat := by
  rw [List.take_succ_eq_append_getElem h, List.flatMap_append]
  simp [List.getD, h]
theorem ba_size2 (l : List UInt8) : (⟨l.toArray⟩ : ByteArray).size = l.length := by simp [ByteArray.size]
theorem code_1 {r : Req} {q : Rq} (h : IsRq r q.seen q) (hk : r.kind = 1) : codeR q = put 1 ++ ([]) := by
  have hs : hasS (1 : Int) = false := by decide
  unfold codeR tailR
  rw [h.kind, hk, hs, h.ses, h.kk, h.kc, h.bef, h.sel, h.on, h.sur, h.n7]
  simp
theorem code_2 {r : Req} {q : Rq} (h : IsRq r q.seen q) (hk : r.kind = 2) : codeR q = put 2 ++ (put r.ses.toNat) := by
  have hs : hasS (2 : Int) = true := by decide
  unfold codeR tailR
  rw [h.kind, hk, hs, h.ses, h.kk, h.kc, h.bef, h.sel, h.on, h.sur, h.n7]
  simp
theorem code_3 {r : Req} {q : Rq} (h : IsRq r q.seen q) (hk : r.kind = 3) : codeR q = put 3 ++ (put r.ses.toNat ++ (put r.kk.toNat ++ put r.kc)) := by
  have hs : hasS (3 : Int) = true := by decide
  unfold codeR tailR
  rw [h.kind, hk, hs, h.ses, h.kk, h.kc, h.bef, h.sel, h.on, h.sur, h.n7]
  simp
theorem code_4 {r : Req} {q : Rq} (h : IsRq r q.seen q) (hk : r.kind = 4) : codeR q = put 4 ++ (put r.ses.toNat ++ (putT r.bef.data.toList ++ putT r.sel.data.toList)) := by
  have hs : hasS (4 : Int) = true := by decide
  unfold codeR tailR
  rw [h.kind, hk, hs, h.ses, h.kk, h.kc, h.bef, h.sel, h.on, h.sur, h.n7]
  simp
theorem code_5 {r : Req} {q : Rq} (h : IsRq r q.seen q) (hk : r.kind = 5) : codeR q = put 5 ++ (put r.ses.toNat ++ put (bitN r.on)) := by
  have hs : hasS (5 : Int) = true := by decide
  unfold codeR tailR
  rw [h.kind, hk, hs, h.ses, h.kk, h.kc, h.bef, h.sel, h.on, h.sur, h.n7]
  simp
theorem code_6 {r : Req} {q : Rq} (h : IsRq r q.seen q) (hk : r.kind = 6) : codeR q = put 6 ++ (putT r.sur.data.toList) := by
  have hs : hasS (6 : Int) = false := by decide
  unfold codeR tailR
  rw [h.kind, hk, hs, h.ses, h.kk, h.kc, h.bef, h.sel, h.on, h.sur, h.n7]
  simp
theorem code_7 {r : Req} {q : Rq} (h : IsRq r q.seen q) (hk : r.kind = 7) : codeR q = put 7 ++ (put r.n7 ++ q.seen.flatMap (fun z => put z.toNat)) := by
  have hs : hasS (7 : Int) = false := by decide
  unfold codeR tailR
  rw [h.kind, hk, hs, h.ses, h.kk, h.kc, h.bef, h.sel, h.on, h.sur, h.n7]
  simp
theorem code_8 {r : Req} {q : Rq} (h : IsRq r q.seen q) (hk : r.kind = 8) : codeR q = put 8 ++ (putT q.data) := by
  have hs : hasS (8 : Int) = false := by decide
  unfold codeR tailR
  rw [h.kind, hk, hs, h.ses, h.kk, h.kc, h.bef, h.sel, h.on, h.sur, h.n7]
  simp
theorem code_9 {r : Req} {q : Rq} (h : IsRq r q.seen q) (hk : r.kind = 9) : codeR q = put 9 ++ (put r.ses.toNat) := by
  have hs : hasS (9 : Int) = true := by decide
  unfold codeR tailR
  rw [h.kind, hk, hs, h.ses, h.kk, h.kc, h.bef, h.sel, h.on, h.sur, h.n7]
  simp

set_option maxRecDepth 100000 in
set_option maxHeartbeats 4000000 in
theorem encReq_1 (r : Req) (q : Rq) (w : World) (hT : Tabs w) (hq : RqIn w r q) (hck : chkR q = 0) (hk : r.kind = 1) :
    Calls Tryd.prog 15 #[.agg r.cells] w (EPost w q) := by
  have hb0 : Below w.heap.size w (w.alloc (.cells r.cells 27)) := (Below.refl _ _).alloc (Nat.le_refl _) _
  have Q_0 := Lib.hid (hq.keep hb0)
  have HC := Lib.hid (check_any r q q.seen _ (hT.keep hb0) Q_0.out.seen Q_0.out.n7 Q_0.out.is Q_0.out.bef Q_0.out.sel Q_0.out.sur)
  have B_0 := Lib.hid hb0
  have R_0 : Hid (RqB w.heap.size r (w.alloc (.cells r.cells 27))) := Lib.hid (Blk.new w _ _)
  have HCK := Lib.hid hck
  have OK := Lib.hid (okay_of hck)
  have HCODE := Lib.hid (code_1 hq.is hk)
  rw [hck] at HC
  obtain ⟨se, hse⟩ : ∃ se : Nat, r.ses = (se : Int) := by
    have h1 := OK.out.nses
    rw [hq.is.ses] at h1
    exact Int.eq_ofNat_of_zero_le h1.1
  have hse31 : se ≤ 2147483647 := by
    have h1 := OK.out.nses
    rw [hq.is.ses, hse] at h1
    omega
  have hset : r.ses.toNat = se := by rw [hse]; rfl
  have hl4 : r.bef.size ≤ 4096 := by have := OK.out.lbef; rw [hq.is.bef] at this; exact this
  have hl5 : r.sel.size ≤ 4096 := by have := OK.out.lsel; rw [hq.is.sel] at this; exact this
  have hl7 : r.sur.size ≤ 4096 := by have := OK.out.lsur; rw [hq.is.sur] at this; exact this
  have hl8 : r.n7 ≤ 8 := by have := OK.out.lseen; rw [hq.is.n7] at this; exact this
  have hl9 : r.n8 ≤ 69632 := by have := OK.out.ldata; rw [hq.is.data] at this; exact this
  clear hT hq hck hb0 hset
  unfold Req.cells at HC B_0 Q_0 R_0 ⊢
  rw [hk, hse] at HC B_0 Q_0 R_0 ⊢
  go_enter Tryd.func15, Tryd.ntmps15
  go_wp2_with fail
  refine (HC.out).mono ?_
  rintro e w1 ⟨rfl, hb1⟩
  have Q_1 := Lib.hid (Q_0.out.keep hb1)
  clear Q_0
  have R_1 := Lib.hid (R_0.out.keep hb1)
  clear R_0
  have B_1 := Lib.hid (B_0.out.trans (hb1.mono B_0.out.size))
  clear B_0
  clear hb1
  have d0 := R_1.out.c0
  rw [hk] at d0
  go_wp2_with fail
  refine (putInt_any none 0 0 [] 1 _ (sb_nil _) (by omega) (by omega)).mono ?_
  rintro e w2 ⟨b1, rfl, ho1, hb2⟩
  have Q_2 := Lib.hid (Q_1.out.keep hb2)
  clear Q_1
  have R_2 := Lib.hid (R_1.out.keep hb2)
  clear R_1
  have B_2 := Lib.hid (B_1.out.trans (hb2.mono B_1.out.size))
  clear B_1
  clear hb2
  clear d0
  obtain ⟨A1, c1x, rfl, hs1⟩ := own_sb ho1
  have hnb1 : 0 + (put 1).length ≤ 20 := by have := put_len 1; omega
  generalize 0 + (put 1).length = N1 at hs1 hnb1 ⊢
  have S1_n := Lib.hid hs1
  clear ho1 hs1
  
  have d0 := R_2.out.c0
  rw [hk] at d0
  go_wp2_with fail
  refine (session_has 1 _).mono ?_
  rintro e wq ⟨rfl, rfl⟩
  rw [show hasS (1 : Int) = false by decide]
  go_wp2_with fail
  go_ret2
  exact EPost.good HCK.out B_2.out S1_n.out (by rw [HCODE.out]; simp)

set_option maxRecDepth 100000 in
set_option maxHeartbeats 4000000 in
theorem encReq_2 (r : Req) (q : Rq) (w : World) (hT : Tabs w) (hq : RqIn w r q) (hck : chkR q = 0) (hk : r.kind = 2) :
    Calls Tryd.prog 15 #[.agg r.cells] w (EPost w q) := by
  have hb0 : Below w.heap.size w (w.alloc (.cells r.cells 27)) := (Below.refl _ _).alloc (Nat.le_refl _) _
  have Q_0 := Lib.hid (hq.keep hb0)
  have HC := Lib.hid (check_any r q q.seen _ (hT.keep hb0) Q_0.out.seen Q_0.out.n7 Q_0.out.is Q_0.out.bef Q_0.out.sel Q_0.out.sur)
  have B_0 := Lib.hid hb0
  have R_0 : Hid (RqB w.heap.size r (w.alloc (.cells r.cells 27))) := Lib.hid (Blk.new w _ _)
  have HCK := Lib.hid hck
  have OK := Lib.hid (okay_of hck)
  have HCODE := Lib.hid (code_2 hq.is hk)
  rw [hck] at HC
  obtain ⟨se, hse⟩ : ∃ se : Nat, r.ses = (se : Int) := by
    have h1 := OK.out.nses
    rw [hq.is.ses] at h1
    exact Int.eq_ofNat_of_zero_le h1.1
  have hse31 : se ≤ 2147483647 := by
    have h1 := OK.out.nses
    rw [hq.is.ses, hse] at h1
    omega
  have hset : r.ses.toNat = se := by rw [hse]; rfl
  rw [hset] at HCODE
  have hl4 : r.bef.size ≤ 4096 := by have := OK.out.lbef; rw [hq.is.bef] at this; exact this
  have hl5 : r.sel.size ≤ 4096 := by have := OK.out.lsel; rw [hq.is.sel] at this; exact this
  have hl7 : r.sur.size ≤ 4096 := by have := OK.out.lsur; rw [hq.is.sur] at this; exact this
  have hl8 : r.n7 ≤ 8 := by have := OK.out.lseen; rw [hq.is.n7] at this; exact this
  have hl9 : r.n8 ≤ 69632 := by have := OK.out.ldata; rw [hq.is.data] at this; exact this
  clear hT hq hck hb0 hset
  unfold Req.cells at HC B_0 Q_0 R_0 ⊢
  rw [hk, hse] at HC B_0 Q_0 R_0 ⊢
  go_enter Tryd.func15, Tryd.ntmps15
  go_wp2_with fail
  refine (HC.out).mono ?_
  rintro e w1 ⟨rfl, hb1⟩
  have Q_1 := Lib.hid (Q_0.out.keep hb1)
  clear Q_0
  have R_1 := Lib.hid (R_0.out.keep hb1)
  clear R_0
  have B_1 := Lib.hid (B_0.out.trans (hb1.mono B_0.out.size))
  clear B_0
  clear hb1
  have d0 := R_1.out.c0
  rw [hk] at d0
  go_wp2_with fail
  refine (putInt_any none 0 0 [] 2 _ (sb_nil _) (by omega) (by omega)).mono ?_
  rintro e w2 ⟨b1, rfl, ho1, hb2⟩
  have Q_2 := Lib.hid (Q_1.out.keep hb2)
  clear Q_1
  have R_2 := Lib.hid (R_1.out.keep hb2)
  clear R_1
  have B_2 := Lib.hid (B_1.out.trans (hb2.mono B_1.out.size))
  clear B_1
  clear hb2
  clear d0
  obtain ⟨A1, c1x, rfl, hs1⟩ := own_sb ho1
  have hnb1 : 0 + (put 2).length ≤ 20 := by have := put_len 2; omega
  generalize 0 + (put 2).length = N1 at hs1 hnb1 ⊢
  have S1_n := Lib.hid hs1
  clear ho1 hs1
  
  have d0 := R_2.out.c0
  rw [hk] at d0
  have d1 := R_2.out.c1
  rw [hse] at d1
  go_wp2_with fail
  refine (session_has 2 _).mono ?_
  rintro e wq ⟨rfl, rfl⟩
  rw [show hasS (2 : Int) = true by decide]
  go_wp2_with fail
  refine (putInt_any A1 N1 c1x ([] ++ put 2) se _ S1_n.out (by omega) (by omega)).mono ?_
  rintro e w3 ⟨b2, rfl, ho2, hb3⟩
  have Q_3 := Lib.hid (Q_2.out.keep hb3)
  clear Q_2
  have R_3 := Lib.hid (R_2.out.keep hb3)
  clear R_2
  have S_3 := Lib.hid (S1_n.out.keep hb3)
  clear S1_n
  have B_3 := Lib.hid (B_2.out.trans (hb3.mono B_2.out.size))
  clear B_2
  clear hb3
  clear d0 d1
  obtain ⟨A2, c2x, rfl, hs2⟩ := own_sb ho2
  have hnb2 : N1 + (put se).length ≤ 40 := by have := put_len se; omega
  generalize N1 + (put se).length = N2 at hs2 hnb2 ⊢
  have S2_n := Lib.hid hs2
  clear ho2 hs2
  have d0 := R_3.out.c0
  rw [hk] at d0
  go_wp2_with fail
  go_ret2
  exact EPost.good HCK.out B_3.out S2_n.out (by rw [HCODE.out]; simp)

set_option maxRecDepth 100000 in
set_option maxHeartbeats 4000000 in
theorem encReq_3 (r : Req) (q : Rq) (w : World) (hT : Tabs w) (hq : RqIn w r q) (hck : chkR q = 0) (hk : r.kind = 3) :
    Calls Tryd.prog 15 #[.agg r.cells] w (EPost w q) := by
  have hb0 : Below w.heap.size w (w.alloc (.cells r.cells 27)) := (Below.refl _ _).alloc (Nat.le_refl _) _
  have Q_0 := Lib.hid (hq.keep hb0)
  have HC := Lib.hid (check_any r q q.seen _ (hT.keep hb0) Q_0.out.seen Q_0.out.n7 Q_0.out.is Q_0.out.bef Q_0.out.sel Q_0.out.sur)
  have B_0 := Lib.hid hb0
  have R_0 : Hid (RqB w.heap.size r (w.alloc (.cells r.cells 27))) := Lib.hid (Blk.new w _ _)
  have HCK := Lib.hid hck
  have OK := Lib.hid (okay_of hck)
  have HCODE := Lib.hid (code_3 hq.is hk)
  rw [hck] at HC
  obtain ⟨se, hse⟩ : ∃ se : Nat, r.ses = (se : Int) := by
    have h1 := OK.out.nses
    rw [hq.is.ses] at h1
    exact Int.eq_ofNat_of_zero_le h1.1
  have hse31 : se ≤ 2147483647 := by
    have h1 := OK.out.nses
    rw [hq.is.ses, hse] at h1
    omega
  have hset : r.ses.toNat = se := by rw [hse]; rfl
  rw [hset] at HCODE
  obtain ⟨kkn, hkkn⟩ : ∃ kkn : Nat, r.kk = (kkn : Int) := by
    have h1 := OK.out.nkk (by rw [hq.is.kind, hk])
    rw [hq.is.kk] at h1
    exact Int.eq_ofNat_of_zero_le (by omega)
  have hkk17 : kkn ≤ 17 := by
    have h1 := OK.out.nkk (by rw [hq.is.kind, hk])
    rw [hq.is.kk, hkkn] at h1
    omega
  have hkc := hq.kc
  have hkkt : r.kk.toNat = kkn := by rw [hkkn]; rfl
  rw [hkkt] at HCODE
  have hl4 : r.bef.size ≤ 4096 := by have := OK.out.lbef; rw [hq.is.bef] at this; exact this
  have hl5 : r.sel.size ≤ 4096 := by have := OK.out.lsel; rw [hq.is.sel] at this; exact this
  have hl7 : r.sur.size ≤ 4096 := by have := OK.out.lsur; rw [hq.is.sur] at this; exact this
  have hl8 : r.n7 ≤ 8 := by have := OK.out.lseen; rw [hq.is.n7] at this; exact this
  have hl9 : r.n8 ≤ 69632 := by have := OK.out.ldata; rw [hq.is.data] at this; exact this
  clear hT hq hck hb0 hset
  unfold Req.cells at HC B_0 Q_0 R_0 ⊢
  rw [hk, hse, hkkn] at HC B_0 Q_0 R_0 ⊢
  go_enter Tryd.func15, Tryd.ntmps15
  go_wp2_with fail
  refine (HC.out).mono ?_
  rintro e w1 ⟨rfl, hb1⟩
  have Q_1 := Lib.hid (Q_0.out.keep hb1)
  clear Q_0
  have R_1 := Lib.hid (R_0.out.keep hb1)
  clear R_0
  have B_1 := Lib.hid (B_0.out.trans (hb1.mono B_0.out.size))
  clear B_0
  clear hb1
  have d0 := R_1.out.c0
  rw [hk] at d0
  go_wp2_with fail
  refine (putInt_any none 0 0 [] 3 _ (sb_nil _) (by omega) (by omega)).mono ?_
  rintro e w2 ⟨b1, rfl, ho1, hb2⟩
  have Q_2 := Lib.hid (Q_1.out.keep hb2)
  clear Q_1
  have R_2 := Lib.hid (R_1.out.keep hb2)
  clear R_1
  have B_2 := Lib.hid (B_1.out.trans (hb2.mono B_1.out.size))
  clear B_1
  clear hb2
  clear d0
  obtain ⟨A1, c1x, rfl, hs1⟩ := own_sb ho1
  have hnb1 : 0 + (put 3).length ≤ 20 := by have := put_len 3; omega
  generalize 0 + (put 3).length = N1 at hs1 hnb1 ⊢
  have S1_n := Lib.hid hs1
  clear ho1 hs1
  
  have d0 := R_2.out.c0
  rw [hk] at d0
  have d1 := R_2.out.c1
  rw [hse] at d1
  go_wp2_with fail
  refine (session_has 3 _).mono ?_
  rintro e wq ⟨rfl, rfl⟩
  rw [show hasS (3 : Int) = true by decide]
  go_wp2_with fail
  refine (putInt_any A1 N1 c1x ([] ++ put 3) se _ S1_n.out (by omega) (by omega)).mono ?_
  rintro e w3 ⟨b2, rfl, ho2, hb3⟩
  have Q_3 := Lib.hid (Q_2.out.keep hb3)
  clear Q_2
  have R_3 := Lib.hid (R_2.out.keep hb3)
  clear R_2
  have S_3 := Lib.hid (S1_n.out.keep hb3)
  clear S1_n
  have B_3 := Lib.hid (B_2.out.trans (hb3.mono B_2.out.size))
  clear B_2
  clear hb3
  clear d0 d1
  obtain ⟨A2, c2x, rfl, hs2⟩ := own_sb ho2
  have hnb2 : N1 + (put se).length ≤ 40 := by have := put_len se; omega
  generalize N1 + (put se).length = N2 at hs2 hnb2 ⊢
  have S2_n := Lib.hid hs2
  clear ho2 hs2
  have d0 := R_3.out.c0
  rw [hk] at d0
  have d2 := R_3.out.c2
  rw [hkkn] at d2
  have d3 := R_3.out.c3
  have hx1 := put_len kkn
  have hx2 := put_len r.kc
  have wkc : IntKind.i64.wrap (r.kc : Int) = (r.kc : Int) := by rw [IntKind.wrap_i64]; omega
  go_wp2_with fail
  go_region_held3 (fun w' => w'.cell? ⟨w.heap.size, 2, none⟩ = some (.int .i64 (kkn : Int)) ∧ w'.cell? ⟨w.heap.size, 3, none⟩ = some (.int .u8 (r.kc : Int))) (first | exact hcc4 | exact hcc3 | go_keep)
    (first
      | (go_at_call 35; (with_reducible refine (putInt_any A2 N2 c2x ([] ++ put 3 ++ put se) kkn _ ?_ (by omega) (by omega)).mono ?_); (· exact S2_n.out.drew); rintro e wa ⟨b3, rfl, ho3, hb3⟩; obtain ⟨A3, c3x, rfl, hs3⟩ := own_sb ho3; have S3 := Lib.hid hs3; have R3 := Lib.hid (RqB.keep (wx := w3.drew) (by exact R_3.out) hb3); have B3 : Hid (Below w.heap.size w wa) := Lib.hid (by exact (B_3.out.drew).trans (hb3.mono B_3.out.size)); have hcc3 : (wa.cell? ⟨w.heap.size, 2, none⟩ = some (.int .i64 (kkn : Int)) ∧ wa.cell? ⟨w.heap.size, 3, none⟩ = some (.int .u8 (r.kc : Int))) := (by have h1 := R3.out.c2; have h2 := R3.out.c3; rw [hkkn] at h1; exact ⟨h1, h2⟩); clear ho3 hs3 hb3)
      | (go_at_call 35; (with_reducible refine (putInt_any A3 (N2 + (put kkn).length) c3x ([] ++ put 3 ++ put se ++ put kkn) r.kc _ ?_ (by omega) (by omega)).mono ?_); (· exact S3.out); rintro e wb ⟨b4, rfl, ho4, hb4⟩; obtain ⟨A4, c4x, rfl, hs4⟩ := own_sb ho4; have S4 := Lib.hid hs4; have R4 := Lib.hid (RqB.keep (by exact R3.out) hb4); have B4 : Hid (Below w.heap.size w wb) := Lib.hid (B3.out.trans (hb4.mono B3.out.size)); have hcc4 : (wb.cell? ⟨w.heap.size, 2, none⟩ = some (.int .i64 (kkn : Int)) ∧ wb.cell? ⟨w.heap.size, 3, none⟩ = some (.int .u8 (r.kc : Int))) := (by have h1 := R4.out.c2; have h2 := R4.out.c3; rw [hkkn] at h1; exact ⟨h1, h2⟩); clear ho4 hs4 hb4))
  clear hcc3 hcc4
  go_wp2_with fail
  go_ret2
  exact EPost.good HCK.out B4.out S4.out (by rw [HCODE.out]; simp)

set_option maxRecDepth 100000 in
set_option maxHeartbeats 4000000 in
theorem encReq_4 (r : Req) (q : Rq) (w : World) (hT : Tabs w) (hq : RqIn w r q) (hck : chkR q = 0) (hk : r.kind = 4) :
    Calls Tryd.prog 15 #[.agg r.cells] w (EPost w q) := by
  have hb0 : Below w.heap.size w (w.alloc (.cells r.cells 27)) := (Below.refl _ _).alloc (Nat.le_refl _) _
  have Q_0 := Lib.hid (hq.keep hb0)
  have HC := Lib.hid (check_any r q q.seen _ (hT.keep hb0) Q_0.out.seen Q_0.out.n7 Q_0.out.is Q_0.out.bef Q_0.out.sel Q_0.out.sur)
  have B_0 := Lib.hid hb0
  have R_0 : Hid (RqB w.heap.size r (w.alloc (.cells r.cells 27))) := Lib.hid (Blk.new w _ _)
  have HCK := Lib.hid hck
  have OK := Lib.hid (okay_of hck)
  have HCODE := Lib.hid (code_4 hq.is hk)
  rw [hck] at HC
  obtain ⟨se, hse⟩ : ∃ se : Nat, r.ses = (se : Int) := by
    have h1 := OK.out.nses
    rw [hq.is.ses] at h1
    exact Int.eq_ofNat_of_zero_le h1.1
  have hse31 : se ≤ 2147483647 := by
    have h1 := OK.out.nses
    rw [hq.is.ses, hse] at h1
    omega
  have hset : r.ses.toNat = se := by rw [hse]; rfl
  rw [hset] at HCODE
  have hl4 : r.bef.size ≤ 4096 := by have := OK.out.lbef; rw [hq.is.bef] at this; exact this
  have hl5 : r.sel.size ≤ 4096 := by have := OK.out.lsel; rw [hq.is.sel] at this; exact this
  have hl7 : r.sur.size ≤ 4096 := by have := OK.out.lsur; rw [hq.is.sur] at this; exact this
  have hl8 : r.n7 ≤ 8 := by have := OK.out.lseen; rw [hq.is.n7] at this; exact this
  have hl9 : r.n8 ≤ 69632 := by have := OK.out.ldata; rw [hq.is.data] at this; exact this
  clear hT hq hck hb0 hset
  unfold Req.cells at HC B_0 Q_0 R_0 ⊢
  rw [hk, hse] at HC B_0 Q_0 R_0 ⊢
  go_enter Tryd.func15, Tryd.ntmps15
  go_wp2_with fail
  refine (HC.out).mono ?_
  rintro e w1 ⟨rfl, hb1⟩
  have Q_1 := Lib.hid (Q_0.out.keep hb1)
  clear Q_0
  have R_1 := Lib.hid (R_0.out.keep hb1)
  clear R_0
  have B_1 := Lib.hid (B_0.out.trans (hb1.mono B_0.out.size))
  clear B_0
  clear hb1
  have d0 := R_1.out.c0
  rw [hk] at d0
  go_wp2_with fail
  refine (putInt_any none 0 0 [] 4 _ (sb_nil _) (by omega) (by omega)).mono ?_
  rintro e w2 ⟨b1, rfl, ho1, hb2⟩
  have Q_2 := Lib.hid (Q_1.out.keep hb2)
  clear Q_1
  have R_2 := Lib.hid (R_1.out.keep hb2)
  clear R_1
  have B_2 := Lib.hid (B_1.out.trans (hb2.mono B_1.out.size))
  clear B_1
  clear hb2
  clear d0
  obtain ⟨A1, c1x, rfl, hs1⟩ := own_sb ho1
  have hnb1 : 0 + (put 4).length ≤ 20 := by have := put_len 4; omega
  generalize 0 + (put 4).length = N1 at hs1 hnb1 ⊢
  have S1_n := Lib.hid hs1
  clear ho1 hs1
  
  have d0 := R_2.out.c0
  rw [hk] at d0
  have d1 := R_2.out.c1
  rw [hse] at d1
  go_wp2_with fail
  refine (session_has 4 _).mono ?_
  rintro e wq ⟨rfl, rfl⟩
  rw [show hasS (4 : Int) = true by decide]
  go_wp2_with fail
  refine (putInt_any A1 N1 c1x ([] ++ put 4) se _ S1_n.out (by omega) (by omega)).mono ?_
  rintro e w3 ⟨b2, rfl, ho2, hb3⟩
  have Q_3 := Lib.hid (Q_2.out.keep hb3)
  clear Q_2
  have R_3 := Lib.hid (R_2.out.keep hb3)
  clear R_2
  have S_3 := Lib.hid (S1_n.out.keep hb3)
  clear S1_n
  have B_3 := Lib.hid (B_2.out.trans (hb3.mono B_2.out.size))
  clear B_2
  clear hb3
  clear d0 d1
  obtain ⟨A2, c2x, rfl, hs2⟩ := own_sb ho2
  have hnb2 : N1 + (put se).length ≤ 40 := by have := put_len se; omega
  generalize N1 + (put se).length = N2 at hs2 hnb2 ⊢
  have S2_n := Lib.hid hs2
  clear ho2 hs2
  have d0 := R_3.out.c0
  rw [hk] at d0
  have d4 := R_3.out.c4
  have d5 := R_3.out.c5
  have hx1 : (putT r.bef.data.toList).length ≤ 5000 := by have := put_len r.bef.data.toList.length; have h2 := dl r.bef; unfold putT; rw [List.length_append]; omega
  have hx2 : (putT r.sel.data.toList).length ≤ 5000 := by have := put_len r.sel.data.toList.length; have h2 := dl r.sel; unfold putT; rw [List.length_append]; omega
  go_wp2_with fail
  go_region_held3 (fun w' => w'.cell? ⟨w.heap.size, 4, none⟩ = some (.string r.bef) ∧ w'.cell? ⟨w.heap.size, 5, none⟩ = some (.string r.sel)) (first | exact hcc4 | exact hcc3 | go_keep)
    (first
      | (go_at_call 37; (with_reducible refine (putText_any A2 N2 c2x ([] ++ put 4 ++ put se) r.bef _ ?_ (by omega)).mono ?_); (· exact S2_n.out.drew); rintro e wa ⟨b3, rfl, ho3, hb3⟩; obtain ⟨A3, c3x, rfl, hs3⟩ := own_sb ho3; have S3 := Lib.hid hs3; have R3 := Lib.hid (RqB.keep (wx := w3.drew) (by exact R_3.out) hb3); have B3 : Hid (Below w.heap.size w wa) := Lib.hid (by exact (B_3.out.drew).trans (hb3.mono B_3.out.size)); have hcc3 : (wa.cell? ⟨w.heap.size, 4, none⟩ = some (.string r.bef) ∧ wa.cell? ⟨w.heap.size, 5, none⟩ = some (.string r.sel)) := (by have h1 := R3.out.c4; have h2 := R3.out.c5; exact ⟨h1, h2⟩); clear ho3 hs3 hb3)
      | (go_at_call 37; (with_reducible refine (putText_any A3 (N2 + (putT r.bef.data.toList).length) c3x ([] ++ put 4 ++ put se ++ putT r.bef.data.toList) r.sel _ ?_ (by omega)).mono ?_); (· exact S3.out); rintro e wb ⟨b4, rfl, ho4, hb4⟩; obtain ⟨A4, c4x, rfl, hs4⟩ := own_sb ho4; have S4 := Lib.hid hs4; have R4 := Lib.hid (RqB.keep (by exact R3.out) hb4); have B4 : Hid (Below w.heap.size w wb) := Lib.hid (B3.out.trans (hb4.mono B3.out.size)); have hcc4 : (wb.cell? ⟨w.heap.size, 4, none⟩ = some (.string r.bef) ∧ wb.cell? ⟨w.heap.size, 5, none⟩ = some (.string r.sel)) := (by have h1 := R4.out.c4; have h2 := R4.out.c5; exact ⟨h1, h2⟩); clear ho4 hs4 hb4))
  clear hcc3 hcc4
  go_wp2_with fail
  go_ret2
  exact EPost.good HCK.out B4.out S4.out (by rw [HCODE.out]; simp)

set_option maxRecDepth 100000 in
set_option maxHeartbeats 4000000 in
theorem encReq_5 (r : Req) (q : Rq) (w : World) (hT : Tabs w) (hq : RqIn w r q) (hck : chkR q = 0) (hk : r.kind = 5) :
    Calls Tryd.prog 15 #[.agg r.cells] w (EPost w q) := by
  have hb0 : Below w.heap.size w (w.alloc (.cells r.cells 27)) := (Below.refl _ _).alloc (Nat.le_refl _) _
  have Q_0 := Lib.hid (hq.keep hb0)
  have HC := Lib.hid (check_any r q q.seen _ (hT.keep hb0) Q_0.out.seen Q_0.out.n7 Q_0.out.is Q_0.out.bef Q_0.out.sel Q_0.out.sur)
  have B_0 := Lib.hid hb0
  have R_0 : Hid (RqB w.heap.size r (w.alloc (.cells r.cells 27))) := Lib.hid (Blk.new w _ _)
  have HCK := Lib.hid hck
  have OK := Lib.hid (okay_of hck)
  have HCODE := Lib.hid (code_5 hq.is hk)
  rw [hck] at HC
  obtain ⟨se, hse⟩ : ∃ se : Nat, r.ses = (se : Int) := by
    have h1 := OK.out.nses
    rw [hq.is.ses] at h1
    exact Int.eq_ofNat_of_zero_le h1.1
  have hse31 : se ≤ 2147483647 := by
    have h1 := OK.out.nses
    rw [hq.is.ses, hse] at h1
    omega
  have hset : r.ses.toNat = se := by rw [hse]; rfl
  rw [hset] at HCODE
  have hl4 : r.bef.size ≤ 4096 := by have := OK.out.lbef; rw [hq.is.bef] at this; exact this
  have hl5 : r.sel.size ≤ 4096 := by have := OK.out.lsel; rw [hq.is.sel] at this; exact this
  have hl7 : r.sur.size ≤ 4096 := by have := OK.out.lsur; rw [hq.is.sur] at this; exact this
  have hl8 : r.n7 ≤ 8 := by have := OK.out.lseen; rw [hq.is.n7] at this; exact this
  have hl9 : r.n8 ≤ 69632 := by have := OK.out.ldata; rw [hq.is.data] at this; exact this
  clear hT hq hck hb0 hset
  unfold Req.cells at HC B_0 Q_0 R_0 ⊢
  rw [hk, hse] at HC B_0 Q_0 R_0 ⊢
  go_enter Tryd.func15, Tryd.ntmps15
  go_wp2_with fail
  refine (HC.out).mono ?_
  rintro e w1 ⟨rfl, hb1⟩
  have Q_1 := Lib.hid (Q_0.out.keep hb1)
  clear Q_0
  have R_1 := Lib.hid (R_0.out.keep hb1)
  clear R_0
  have B_1 := Lib.hid (B_0.out.trans (hb1.mono B_0.out.size))
  clear B_0
  clear hb1
  have d0 := R_1.out.c0
  rw [hk] at d0
  go_wp2_with fail
  refine (putInt_any none 0 0 [] 5 _ (sb_nil _) (by omega) (by omega)).mono ?_
  rintro e w2 ⟨b1, rfl, ho1, hb2⟩
  have Q_2 := Lib.hid (Q_1.out.keep hb2)
  clear Q_1
  have R_2 := Lib.hid (R_1.out.keep hb2)
  clear R_1
  have B_2 := Lib.hid (B_1.out.trans (hb2.mono B_1.out.size))
  clear B_1
  clear hb2
  clear d0
  obtain ⟨A1, c1x, rfl, hs1⟩ := own_sb ho1
  have hnb1 : 0 + (put 5).length ≤ 20 := by have := put_len 5; omega
  generalize 0 + (put 5).length = N1 at hs1 hnb1 ⊢
  have S1_n := Lib.hid hs1
  clear ho1 hs1
  
  have d0 := R_2.out.c0
  rw [hk] at d0
  have d1 := R_2.out.c1
  rw [hse] at d1
  go_wp2_with fail
  refine (session_has 5 _).mono ?_
  rintro e wq ⟨rfl, rfl⟩
  rw [show hasS (5 : Int) = true by decide]
  go_wp2_with fail
  refine (putInt_any A1 N1 c1x ([] ++ put 5) se _ S1_n.out (by omega) (by omega)).mono ?_
  rintro e w3 ⟨b2, rfl, ho2, hb3⟩
  have Q_3 := Lib.hid (Q_2.out.keep hb3)
  clear Q_2
  have R_3 := Lib.hid (R_2.out.keep hb3)
  clear R_2
  have S_3 := Lib.hid (S1_n.out.keep hb3)
  clear S1_n
  have B_3 := Lib.hid (B_2.out.trans (hb3.mono B_2.out.size))
  clear B_2
  clear hb3
  clear d0 d1
  obtain ⟨A2, c2x, rfl, hs2⟩ := own_sb ho2
  have hnb2 : N1 + (put se).length ≤ 40 := by have := put_len se; omega
  generalize N1 + (put se).length = N2 at hs2 hnb2 ⊢
  have S2_n := Lib.hid hs2
  clear ho2 hs2
  have d0 := R_3.out.c0
  rw [hk] at d0
  have d6 := R_3.out.c6
  go_wp2_with fail
  refine (putBool_any A2 N2 c2x ([] ++ put 5 ++ put se) r.on _ S2_n.out (by omega)).mono ?_
  rintro e w4 ⟨b3, rfl, ho3, hb4⟩
  have Q_4 := Lib.hid (Q_3.out.keep hb4)
  clear Q_3
  have R_4 := Lib.hid (R_3.out.keep hb4)
  clear R_3
  have S_4 := Lib.hid (S2_n.out.keep hb4)
  clear S2_n
  have B_4 := Lib.hid (B_3.out.trans (hb4.mono B_3.out.size))
  clear B_3
  clear hb4
  obtain ⟨A3, c3x, rfl, hs3⟩ := own_sb ho3
  have hnb3 : N2 + (put (bitN r.on)).length ≤ 100000 := by have := put_len (bitN r.on); omega
  generalize N2 + (put (bitN r.on)).length = N3 at hs3 hnb3 ⊢
  have S3_n := Lib.hid hs3
  clear ho3 hs3
  go_wp2_with fail
  go_ret2
  exact EPost.good HCK.out B_4.out S3_n.out (by rw [HCODE.out]; simp)

set_option maxRecDepth 100000 in
set_option maxHeartbeats 4000000 in
theorem encReq_6 (r : Req) (q : Rq) (w : World) (hT : Tabs w) (hq : RqIn w r q) (hck : chkR q = 0) (hk : r.kind = 6) :
    Calls Tryd.prog 15 #[.agg r.cells] w (EPost w q) := by
  have hb0 : Below w.heap.size w (w.alloc (.cells r.cells 27)) := (Below.refl _ _).alloc (Nat.le_refl _) _
  have Q_0 := Lib.hid (hq.keep hb0)
  have HC := Lib.hid (check_any r q q.seen _ (hT.keep hb0) Q_0.out.seen Q_0.out.n7 Q_0.out.is Q_0.out.bef Q_0.out.sel Q_0.out.sur)
  have B_0 := Lib.hid hb0
  have R_0 : Hid (RqB w.heap.size r (w.alloc (.cells r.cells 27))) := Lib.hid (Blk.new w _ _)
  have HCK := Lib.hid hck
  have OK := Lib.hid (okay_of hck)
  have HCODE := Lib.hid (code_6 hq.is hk)
  rw [hck] at HC
  obtain ⟨se, hse⟩ : ∃ se : Nat, r.ses = (se : Int) := by
    have h1 := OK.out.nses
    rw [hq.is.ses] at h1
    exact Int.eq_ofNat_of_zero_le h1.1
  have hse31 : se ≤ 2147483647 := by
    have h1 := OK.out.nses
    rw [hq.is.ses, hse] at h1
    omega
  have hset : r.ses.toNat = se := by rw [hse]; rfl
  have hl4 : r.bef.size ≤ 4096 := by have := OK.out.lbef; rw [hq.is.bef] at this; exact this
  have hl5 : r.sel.size ≤ 4096 := by have := OK.out.lsel; rw [hq.is.sel] at this; exact this
  have hl7 : r.sur.size ≤ 4096 := by have := OK.out.lsur; rw [hq.is.sur] at this; exact this
  have hl8 : r.n7 ≤ 8 := by have := OK.out.lseen; rw [hq.is.n7] at this; exact this
  have hl9 : r.n8 ≤ 69632 := by have := OK.out.ldata; rw [hq.is.data] at this; exact this
  clear hT hq hck hb0 hset
  unfold Req.cells at HC B_0 Q_0 R_0 ⊢
  rw [hk, hse] at HC B_0 Q_0 R_0 ⊢
  go_enter Tryd.func15, Tryd.ntmps15
  go_wp2_with fail
  refine (HC.out).mono ?_
  rintro e w1 ⟨rfl, hb1⟩
  have Q_1 := Lib.hid (Q_0.out.keep hb1)
  clear Q_0
  have R_1 := Lib.hid (R_0.out.keep hb1)
  clear R_0
  have B_1 := Lib.hid (B_0.out.trans (hb1.mono B_0.out.size))
  clear B_0
  clear hb1
  have d0 := R_1.out.c0
  rw [hk] at d0
  go_wp2_with fail
  refine (putInt_any none 0 0 [] 6 _ (sb_nil _) (by omega) (by omega)).mono ?_
  rintro e w2 ⟨b1, rfl, ho1, hb2⟩
  have Q_2 := Lib.hid (Q_1.out.keep hb2)
  clear Q_1
  have R_2 := Lib.hid (R_1.out.keep hb2)
  clear R_1
  have B_2 := Lib.hid (B_1.out.trans (hb2.mono B_1.out.size))
  clear B_1
  clear hb2
  clear d0
  obtain ⟨A1, c1x, rfl, hs1⟩ := own_sb ho1
  have hnb1 : 0 + (put 6).length ≤ 20 := by have := put_len 6; omega
  generalize 0 + (put 6).length = N1 at hs1 hnb1 ⊢
  have S1_n := Lib.hid hs1
  clear ho1 hs1
  
  have d0 := R_2.out.c0
  rw [hk] at d0
  go_wp2_with fail
  refine (session_has 6 _).mono ?_
  rintro e wq ⟨rfl, rfl⟩
  rw [show hasS (6 : Int) = false by decide]
  have d7 := R_2.out.c7
  go_wp2_with fail
  refine (putText_any A1 N1 c1x ([] ++ put 6) r.sur _ S1_n.out (by omega)).mono ?_
  rintro e w3 ⟨b3, rfl, ho3, hb3⟩
  have Q_3 := Lib.hid (Q_2.out.keep hb3)
  clear Q_2
  have R_3 := Lib.hid (R_2.out.keep hb3)
  clear R_2
  have S_3 := Lib.hid (S1_n.out.keep hb3)
  clear S1_n
  have B_3 := Lib.hid (B_2.out.trans (hb3.mono B_2.out.size))
  clear B_2
  clear hb3
  obtain ⟨A3, c3x, rfl, hs3⟩ := own_sb ho3
  have hnb3 : N1 + (putT r.sur.data.toList).length ≤ 100000 := by have := put_len r.sur.data.toList.length; have h2 := dl r.sur; unfold putT; rw [List.length_append]; omega
  generalize N1 + (putT r.sur.data.toList).length = N3 at hs3 hnb3 ⊢
  have S3_n := Lib.hid hs3
  clear ho3 hs3
  go_wp2_with fail
  go_ret2
  exact EPost.good HCK.out B_3.out S3_n.out (by rw [HCODE.out]; simp)

set_option maxRecDepth 100000 in
set_option maxHeartbeats 4000000 in
theorem encReq_7 (r : Req) (q : Rq) (w : World) (hT : Tabs w) (hq : RqIn w r q) (hck : chkR q = 0) (hk : r.kind = 7) :
    Calls Tryd.prog 15 #[.agg r.cells] w (EPost w q) := by
  have hb0 : Below w.heap.size w (w.alloc (.cells r.cells 27)) := (Below.refl _ _).alloc (Nat.le_refl _) _
  have Q_0 := Lib.hid (hq.keep hb0)
  have HC := Lib.hid (check_any r q q.seen _ (hT.keep hb0) Q_0.out.seen Q_0.out.n7 Q_0.out.is Q_0.out.bef Q_0.out.sel Q_0.out.sur)
  have B_0 := Lib.hid hb0
  have R_0 : Hid (RqB w.heap.size r (w.alloc (.cells r.cells 27))) := Lib.hid (Blk.new w _ _)
  have HCK := Lib.hid hck
  have OK := Lib.hid (okay_of hck)
  have HCODE := Lib.hid (code_7 hq.is hk)
  rw [hck] at HC
  obtain ⟨se, hse⟩ : ∃ se : Nat, r.ses = (se : Int) := by
    have h1 := OK.out.nses
    rw [hq.is.ses] at h1
    exact Int.eq_ofNat_of_zero_le h1.1
  have hse31 : se ≤ 2147483647 := by
    have h1 := OK.out.nses
    rw [hq.is.ses, hse] at h1
    omega
  have hset : r.ses.toNat = se := by rw [hse]; rfl
  have hl4 : r.bef.size ≤ 4096 := by have := OK.out.lbef; rw [hq.is.bef] at this; exact this
  have hl5 : r.sel.size ≤ 4096 := by have := OK.out.lsel; rw [hq.is.sel] at this; exact this
  have hl7 : r.sur.size ≤ 4096 := by have := OK.out.lsur; rw [hq.is.sur] at this; exact this
  have hl8 : r.n7 ≤ 8 := by have := OK.out.lseen; rw [hq.is.n7] at this; exact this
  have hl9 : r.n8 ≤ 69632 := by have := OK.out.ldata; rw [hq.is.data] at this; exact this
  clear hT hq hck hb0 hset
  unfold Req.cells at HC B_0 Q_0 R_0 ⊢
  rw [hk, hse] at HC B_0 Q_0 R_0 ⊢
  go_enter Tryd.func15, Tryd.ntmps15
  go_wp2_with fail
  refine (HC.out).mono ?_
  rintro e w1 ⟨rfl, hb1⟩
  have Q_1 := Lib.hid (Q_0.out.keep hb1)
  clear Q_0
  have R_1 := Lib.hid (R_0.out.keep hb1)
  clear R_0
  have B_1 := Lib.hid (B_0.out.trans (hb1.mono B_0.out.size))
  clear B_0
  clear hb1
  have d0 := R_1.out.c0
  rw [hk] at d0
  go_wp2_with fail
  refine (putInt_any none 0 0 [] 7 _ (sb_nil _) (by omega) (by omega)).mono ?_
  rintro e w2 ⟨b1, rfl, ho1, hb2⟩
  have Q_2 := Lib.hid (Q_1.out.keep hb2)
  clear Q_1
  have R_2 := Lib.hid (R_1.out.keep hb2)
  clear R_1
  have B_2 := Lib.hid (B_1.out.trans (hb2.mono B_1.out.size))
  clear B_1
  clear hb2
  clear d0
  obtain ⟨A1, c1x, rfl, hs1⟩ := own_sb ho1
  have hnb1 : 0 + (put 7).length ≤ 20 := by have := put_len 7; omega
  generalize 0 + (put 7).length = N1 at hs1 hnb1 ⊢
  have S1_n := Lib.hid hs1
  clear ho1 hs1
  
  have d0 := R_2.out.c0
  rw [hk] at d0
  go_wp2_with fail
  refine (session_has 7 _).mono ?_
  rintro e wq ⟨rfl, rfl⟩
  rw [show hasS (7 : Int) = false by decide]
  have d8 := R_2.out.c8
  go_wp2_with fail
  refine (putInt_any A1 N1 c1x ([] ++ put 7) r.n7 _ S1_n.out (by omega) (by omega)).mono ?_
  rintro e w3 ⟨b3, rfl, ho3, hb3⟩
  have Q_3 := Lib.hid (Q_2.out.keep hb3)
  clear Q_2
  have R_3 := Lib.hid (R_2.out.keep hb3)
  clear R_2
  have S_3 := Lib.hid (S1_n.out.keep hb3)
  clear S1_n
  have B_3 := Lib.hid (B_2.out.trans (hb3.mono B_2.out.size))
  clear B_2
  clear hb3
  obtain ⟨A3, c3x, rfl, hs3⟩ := own_sb ho3
  have hnb3 : N1 + (put r.n7).length ≤ 60 := by have := put_len r.n7; omega
  generalize N1 + (put r.n7).length = N3 at hs3 hnb3 ⊢
  have S3_n := Lib.hid hs3
  clear ho3 hs3
  have d8 := R_3.out.c8
  go_wp2_with fail
  go_loopw [5, 68] (fun b i wr => ∃ (j : Nat) (A : Option Addr) (N c : Nat), j ≤ r.n7 ∧ i = .int .i64 (j : Int) ∧ b = .slice A N c ∧ N ≤ 60 + 10 * j ∧ SB wr A N c ([] ++ put 7 ++ put r.n7 ++ (q.seen.take j).flatMap (fun z => put z.toNat)) ∧ Below w.heap.size w wr ∧ RqB w.heap.size r wr ∧ RqIn wr r q) (fun _ i _ => r.n7 - (intOf i).toNat)
  case atStart => exact ⟨0, A3, N3, c3x, Nat.zero_le _, rfl, rfl, by omega, by simpa using S3_n.out, B_3.out, R_3.out, Q_3.out⟩
  case round =>
    obtain ⟨j, A4, N4, c4, hj, rfl, rfl, hN4, hs4, hb4, hr4, hq4⟩ := hrel
    have S4 := Lib.hid hs4
    have B4 := Lib.hid hb4
    have R4 := Lib.hid hr4
    have Q4 := Lib.hid hq4
    clear hs4 hb4 hr4 hq4
    by_cases hlt : j < r.n7
    · obtain ⟨ad, hA, hbl, hc⟩ := Q4.out.seen.at_ hlt
      have hz := OK.out.nseen (q.seen.getD j 0) (getD_mem (by rw [Q4.out.seen.len]; exact hlt))
      have HSN := Lib.hid (seen_code (by rw [Q4.out.seen.len]; exact hlt))
      obtain ⟨zn, hzn⟩ := Int.eq_ofNat_of_zero_le hz.1
      rw [hzn] at hc hz HSN
      rw [hA]
      have hpl := put_len zn
      go_wp2_with fail
      refine (putInt_any A4 N4 c4 _ zn _ S4.out (by omega) (by omega)).mono ?_
      rintro e w5 ⟨b5, rfl, ho5, hb5⟩
      obtain ⟨A5, c5, rfl, hs5⟩ := own_sb ho5
      have S5 := Lib.hid hs5
      have B5 : Hid (Below w.heap.size w w5) := Lib.hid (B4.out.trans (hb5.mono B4.out.size))
      have R5 := Lib.hid (R4.out.keep hb5)
      have Q5 := Lib.hid (Q4.out.keep hb5)
      clear ho5 hs5 hb5
      go_wp2_with fail
      go_roundw
      case rel => exact ⟨j + 1, A5, _, c5, by omega, by go_num, rfl, by omega, by rw [HSN.out]; have := S5.out; simpa using this, B5.out, R5.out, Q5.out⟩
      case measure => simp [intOf]; omega
    · obtain rfl : j = r.n7 := by omega
      go_wp2_with fail
      go_ret2
      exact EPost.good HCK.out B4.out S4.out (by rw [HCODE.out, List.take_of_length_le (by rw [Q4.out.seen.len]; omega)]; simp)

set_option maxRecDepth 100000 in
set_option maxHeartbeats 4000000 in
theorem encReq_8 (r : Req) (q : Rq) (w : World) (hT : Tabs w) (hq : RqIn w r q) (hck : chkR q = 0) (hk : r.kind = 8) :
    Calls Tryd.prog 15 #[.agg r.cells] w (EPost w q) := by
  have hb0 : Below w.heap.size w (w.alloc (.cells r.cells 27)) := (Below.refl _ _).alloc (Nat.le_refl _) _
  have Q_0 := Lib.hid (hq.keep hb0)
  have HC := Lib.hid (check_any r q q.seen _ (hT.keep hb0) Q_0.out.seen Q_0.out.n7 Q_0.out.is Q_0.out.bef Q_0.out.sel Q_0.out.sur)
  have B_0 := Lib.hid hb0
  have R_0 : Hid (RqB w.heap.size r (w.alloc (.cells r.cells 27))) := Lib.hid (Blk.new w _ _)
  have HCK := Lib.hid hck
  have OK := Lib.hid (okay_of hck)
  have HCODE := Lib.hid (code_8 hq.is hk)
  rw [hck] at HC
  obtain ⟨se, hse⟩ : ∃ se : Nat, r.ses = (se : Int) := by
    have h1 := OK.out.nses
    rw [hq.is.ses] at h1
    exact Int.eq_ofNat_of_zero_le h1.1
  have hse31 : se ≤ 2147483647 := by
    have h1 := OK.out.nses
    rw [hq.is.ses, hse] at h1
    omega
  have hset : r.ses.toNat = se := by rw [hse]; rfl
  have hl4 : r.bef.size ≤ 4096 := by have := OK.out.lbef; rw [hq.is.bef] at this; exact this
  have hl5 : r.sel.size ≤ 4096 := by have := OK.out.lsel; rw [hq.is.sel] at this; exact this
  have hl7 : r.sur.size ≤ 4096 := by have := OK.out.lsur; rw [hq.is.sur] at this; exact this
  have hl8 : r.n7 ≤ 8 := by have := OK.out.lseen; rw [hq.is.n7] at this; exact this
  have hl9 : r.n8 ≤ 69632 := by have := OK.out.ldata; rw [hq.is.data] at this; exact this
  clear hT hq hck hb0 hset
  unfold Req.cells at HC B_0 Q_0 R_0 ⊢
  rw [hk, hse] at HC B_0 Q_0 R_0 ⊢
  go_enter Tryd.func15, Tryd.ntmps15
  go_wp2_with fail
  refine (HC.out).mono ?_
  rintro e w1 ⟨rfl, hb1⟩
  have Q_1 := Lib.hid (Q_0.out.keep hb1)
  clear Q_0
  have R_1 := Lib.hid (R_0.out.keep hb1)
  clear R_0
  have B_1 := Lib.hid (B_0.out.trans (hb1.mono B_0.out.size))
  clear B_0
  clear hb1
  have d0 := R_1.out.c0
  rw [hk] at d0
  go_wp2_with fail
  refine (putInt_any none 0 0 [] 8 _ (sb_nil _) (by omega) (by omega)).mono ?_
  rintro e w2 ⟨b1, rfl, ho1, hb2⟩
  have Q_2 := Lib.hid (Q_1.out.keep hb2)
  clear Q_1
  have R_2 := Lib.hid (R_1.out.keep hb2)
  clear R_1
  have B_2 := Lib.hid (B_1.out.trans (hb2.mono B_1.out.size))
  clear B_1
  clear hb2
  clear d0
  obtain ⟨A1, c1x, rfl, hs1⟩ := own_sb ho1
  have hnb1 : 0 + (put 8).length ≤ 20 := by have := put_len 8; omega
  generalize 0 + (put 8).length = N1 at hs1 hnb1 ⊢
  have S1_n := Lib.hid hs1
  clear ho1 hs1
  
  have d0 := R_2.out.c0
  rw [hk] at d0
  go_wp2_with fail
  refine (session_has 8 _).mono ?_
  rintro e wq ⟨rfl, rfl⟩
  rw [show hasS (8 : Int) = false by decide]
  have d9 := R_2.out.c9
  have hcv := Q_2.out.data.rb.run_string (P := Tryd.prog) r.c8 25 5 9 Tryd.underlying25 Tryd.underlying5 Tryd.underlying9
  have hdl := Q_2.out.data.rb.len
  go_wp2_with fail
  refine (putText_any A1 N1 c1x ([] ++ put 8) ⟨q.data.toArray⟩ _ S1_n.out (by rw [ba_size2]; omega)).mono ?_
  rintro e w3 ⟨b3, rfl, ho3, hb3⟩
  have Q_3 := Lib.hid (Q_2.out.keep hb3)
  clear Q_2
  have R_3 := Lib.hid (R_2.out.keep hb3)
  clear R_2
  have S_3 := Lib.hid (S1_n.out.keep hb3)
  clear S1_n
  have B_3 := Lib.hid (B_2.out.trans (hb3.mono B_2.out.size))
  clear B_2
  clear hb3
  clear hcv
  obtain ⟨A3, c3x, rfl, hs3⟩ := own_sb ho3
  have hnb3 : N1 + (putT (⟨q.data.toArray⟩ : ByteArray).data.toList).length ≤ 1000000 := by have := put_len q.data.length; unfold putT; rw [List.length_append]; simp; omega
  generalize N1 + (putT (⟨q.data.toArray⟩ : ByteArray).data.toList).length = N3 at hs3 hnb3 ⊢
  have S3_n := Lib.hid hs3
  clear ho3 hs3
  go_wp2_with fail
  go_ret2
  exact EPost.good HCK.out B_3.out S3_n.out (by rw [HCODE.out]; simp)

set_option maxRecDepth 100000 in
set_option maxHeartbeats 4000000 in
theorem encReq_9 (r : Req) (q : Rq) (w : World) (hT : Tabs w) (hq : RqIn w r q) (hck : chkR q = 0) (hk : r.kind = 9) :
    Calls Tryd.prog 15 #[.agg r.cells] w (EPost w q) := by
  have hb0 : Below w.heap.size w (w.alloc (.cells r.cells 27)) := (Below.refl _ _).alloc (Nat.le_refl _) _
  have Q_0 := Lib.hid (hq.keep hb0)
  have HC := Lib.hid (check_any r q q.seen _ (hT.keep hb0) Q_0.out.seen Q_0.out.n7 Q_0.out.is Q_0.out.bef Q_0.out.sel Q_0.out.sur)
  have B_0 := Lib.hid hb0
  have R_0 : Hid (RqB w.heap.size r (w.alloc (.cells r.cells 27))) := Lib.hid (Blk.new w _ _)
  have HCK := Lib.hid hck
  have OK := Lib.hid (okay_of hck)
  have HCODE := Lib.hid (code_9 hq.is hk)
  rw [hck] at HC
  obtain ⟨se, hse⟩ : ∃ se : Nat, r.ses = (se : Int) := by
    have h1 := OK.out.nses
    rw [hq.is.ses] at h1
    exact Int.eq_ofNat_of_zero_le h1.1
  have hse31 : se ≤ 2147483647 := by
    have h1 := OK.out.nses
    rw [hq.is.ses, hse] at h1
    omega
  have hset : r.ses.toNat = se := by rw [hse]; rfl
  rw [hset] at HCODE
  have hl4 : r.bef.size ≤ 4096 := by have := OK.out.lbef; rw [hq.is.bef] at this; exact this
  have hl5 : r.sel.size ≤ 4096 := by have := OK.out.lsel; rw [hq.is.sel] at this; exact this
  have hl7 : r.sur.size ≤ 4096 := by have := OK.out.lsur; rw [hq.is.sur] at this; exact this
  have hl8 : r.n7 ≤ 8 := by have := OK.out.lseen; rw [hq.is.n7] at this; exact this
  have hl9 : r.n8 ≤ 69632 := by have := OK.out.ldata; rw [hq.is.data] at this; exact this
  clear hT hq hck hb0 hset
  unfold Req.cells at HC B_0 Q_0 R_0 ⊢
  rw [hk, hse] at HC B_0 Q_0 R_0 ⊢
  go_enter Tryd.func15, Tryd.ntmps15
  go_wp2_with fail
  refine (HC.out).mono ?_
  rintro e w1 ⟨rfl, hb1⟩
  have Q_1 := Lib.hid (Q_0.out.keep hb1)
  clear Q_0
  have R_1 := Lib.hid (R_0.out.keep hb1)
  clear R_0
  have B_1 := Lib.hid (B_0.out.trans (hb1.mono B_0.out.size))
  clear B_0
  clear hb1
  have d0 := R_1.out.c0
  rw [hk] at d0
  go_wp2_with fail
  refine (putInt_any none 0 0 [] 9 _ (sb_nil _) (by omega) (by omega)).mono ?_
  rintro e w2 ⟨b1, rfl, ho1, hb2⟩
  have Q_2 := Lib.hid (Q_1.out.keep hb2)
  clear Q_1
  have R_2 := Lib.hid (R_1.out.keep hb2)
  clear R_1
  have B_2 := Lib.hid (B_1.out.trans (hb2.mono B_1.out.size))
  clear B_1
  clear hb2
  clear d0
  obtain ⟨A1, c1x, rfl, hs1⟩ := own_sb ho1
  have hnb1 : 0 + (put 9).length ≤ 20 := by have := put_len 9; omega
  generalize 0 + (put 9).length = N1 at hs1 hnb1 ⊢
  have S1_n := Lib.hid hs1
  clear ho1 hs1
  
  have d0 := R_2.out.c0
  rw [hk] at d0
  have d1 := R_2.out.c1
  rw [hse] at d1
  go_wp2_with fail
  refine (session_has 9 _).mono ?_
  rintro e wq ⟨rfl, rfl⟩
  rw [show hasS (9 : Int) = true by decide]
  go_wp2_with fail
  refine (putInt_any A1 N1 c1x ([] ++ put 9) se _ S1_n.out (by omega) (by omega)).mono ?_
  rintro e w3 ⟨b2, rfl, ho2, hb3⟩
  have Q_3 := Lib.hid (Q_2.out.keep hb3)
  clear Q_2
  have R_3 := Lib.hid (R_2.out.keep hb3)
  clear R_2
  have S_3 := Lib.hid (S1_n.out.keep hb3)
  clear S1_n
  have B_3 := Lib.hid (B_2.out.trans (hb3.mono B_2.out.size))
  clear B_2
  clear hb3
  clear d0 d1
  obtain ⟨A2, c2x, rfl, hs2⟩ := own_sb ho2
  have hnb2 : N1 + (put se).length ≤ 40 := by have := put_len se; omega
  generalize N1 + (put se).length = N2 at hs2 hnb2 ⊢
  have S2_n := Lib.hid hs2
  clear ho2 hs2
  have d0 := R_3.out.c0
  rw [hk] at d0
  go_wp2_with fail
  go_ret2
  exact EPost.good HCK.out B_3.out S2_n.out (by rw [HCODE.out]; simp)
theorem encReq_any (r : Req) (q : Rq) (w : World) (hT : Tabs w) (hq : RqIn w r q) :
    Calls Tryd.prog 15 #[.agg r.cells] w (EPost w q) := by
  by_cases hck : chkR q = 0
  · have h := (okay_of hck).kind
    rw [hq.is.kind] at h
    have h9 : r.kind = 1 ∨ r.kind = 2 ∨ r.kind = 3 ∨ r.kind = 4 ∨ r.kind = 5 ∨ r.kind = 6 ∨ r.kind = 7 ∨ r.kind = 8 ∨ r.kind = 9 := by omega
    rcases h9 with hk | hk | hk | hk | hk | hk | hk | hk | hk
    · exact encReq_1 r q w hT hq hck hk
    · exact encReq_2 r q w hT hq hck hk
    · exact encReq_3 r q w hT hq hck hk
    · exact encReq_4 r q w hT hq hck hk
    · exact encReq_5 r q w hT hq hck hk
    · exact encReq_6 r q w hT hq hck hk
    · exact encReq_7 r q w hT hq hck hk
    · exact encReq_8 r q w hT hq hck hk
    · exact encReq_9 r q w hT hq hck hk
  · exact encReq_bad r q w hT hq hck
end Go.Proofs.YtkllfnaofapfnaaDoor.Prot
