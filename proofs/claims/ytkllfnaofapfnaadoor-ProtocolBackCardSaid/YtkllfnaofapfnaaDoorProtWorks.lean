/-
  The contract of works of package henkanlaw42: the examples of the chapter on requests and replies hold. Conditions: the two tables of unicode/utf8 lie as their initialisers lay them.
-/
import Derived.Test.YtkllfnaofapfnaaDoorProtDecK
import Derived.Test.YtkllfnaofapfnaaDoorRepEnc
import Derived.Test.YtkllfnaofapfnaaDoorFrmProg
import Derived.Lib.SlBytesConst
import Derived.Deep.RegionHeld
namespace Go.Proofs.YtkllfnaofapfnaaDoor.Prot
open Go.RowKit Wd Utf Cod Frm

def exReq : Req := ⟨3, 300, 1, 97, ⟨#[]⟩, ⟨#[]⟩, false, ⟨#[]⟩, none, 0, 0, none, 0, 0⟩
def exQ : Rq := ⟨3, 300, 1, 97, ⟨#[]⟩, ⟨#[]⟩, false, ⟨#[]⟩, [], []⟩
theorem exQ_chk : chkR exQ = 0 := by decide +kernel
theorem exQ_code : codeR exQ = [3, 172, 2, 1, 97] := by decide +kernel
theorem exQ_in (w : World) : RqIn w exReq exQ := ⟨RI.nil _ _, sb_nil _, ⟨rfl, rfl, rfl, rfl, rfl, rfl, rfl, rfl, rfl, rfl, rfl⟩, by decide, by decide, by decide, by decide, by decide, by decide⟩
def exL : List UInt8 := [4, 1, 3, 227, 129, 139, 0]
def exD : Rq := ⟨4, 1, 0, 0, ⟨#[227, 129, 139]⟩, ⟨#[]⟩, false, ⟨#[]⟩, [], []⟩
theorem exD_chk : chkR exD = 0 := by decide +kernel
theorem exD_code : codeR exD = exL := by decide +kernel
theorem exD_dec : DecR exL 0 exD := .inl ⟨rfl, exD_chk, by decide, exD_code⟩
def rep0 : Rep := ⟨0, 0, none, 0, 0, 0, none, 0, 0, 0, ⟨#[]⟩, 0, false, none, 0, 0⟩
theorem rp0_chk : chkP rp0 = 0 := by decide +kernel
theorem rp0_code : codeP rp0 = [0, 0, 0, 0, 0, 0, 0, 0, 0, 0] := by decide +kernel
theorem rep0_in (w : World) : RpIn w rep0 rp0 := ⟨rfl, rfl, rfl, rfl, rfl, rfl, rfl, RR.nil _ _, Reads.none_, sb_nil _, by decide, by decide, by decide, (fun x hx => by cases hx), (fun x hx => by cases hx), by decide⟩
def exF : List UInt8 := [2, 0, 0, 0, 7, 8, 0, 0, 0, 0, 9, 0]
theorem exF_unf : unf exF = some ([[7, 8], []], 10) := by
  have e : exF = frame1 [7, 8] ++ (frame1 [] ++ [9, 0]) := by decide +kernel
  rw [e, unf_frame (by decide), unf_frame (by decide), unf_short (by decide)]
  rfl
theorem infoU8' : (Tryd.prog.info? 5).map (fun i => (i.zero, i.size, i.bytes)) = some (some (.int .u8 0), 1, 1) := by kernel_rfl
/-- 'make([]byte, n)' -/
theorem run_make_u8 (n : Nat) (hn : n ≤ 100000000) (w : World) : (Instr.makeSlice 25 (.int .i64 (n : Int)) (.int .i64 (n : Int))).run Tryd.prog w = .ok (.slice (some ⟨w.heap.size, 0, none⟩) n n) (w.alloc (.cells (bs (List.replicate n 0)).toArray 5)) := by
  obtain ⟨i0, hi, hz0, hz1, hz2⟩ := info_parts infoU8'
  have hb : (i0.bytes : Int) * (n : Int) ≤ 281474976710656 := by rw [hz2]; omega
  have hr := run_make (P := Tryd.prog) w 25 5 i0 _ Tryd.underlying25 hi hz0 .i64 .i64 n n (by omega) (by omega) hb (by omega)
  simp only [Int.toNat_natCast] at hr
  rw [hr, hz1, Nat.mul_one]
  have e : madeCells (Value.int .u8 0).cells n = (bs (List.replicate n 0)).toArray := by
    show madeCells #[.int .u8 0] n = _
    apply Array.ext'
    apply List.ext_getElem?
    intro i
    by_cases hi : i < n
    · have e1 : (madeCells #[.int .u8 0] n).toList[i]? = some ((#[.int .u8 0] : Array Value)[i % 1]!) := by
        simp [madeCells, hi]
      rw [e1, Nat.mod_one]
      simp [bs, hi]
    · rw [List.getElem?_eq_none (by simp [madeCells]; omega), List.getElem?_eq_none (by simp [bs]; omega)]
  rw [e]
theorem make_u8 (n : Nat) (hn : n ≤ 100000000) (w : World) : ∃ W, (Instr.makeSlice 25 (.int .i64 (n : Int)) (.int .i64 (n : Int))).run Tryd.prog w = .ok (.slice (some ⟨w.heap.size, 0, none⟩) n n) W ∧ Below w.heap.size w W ∧ SB W (some ⟨w.heap.size, 0, none⟩) n n (List.replicate n 0) :=
  ⟨_, run_make_u8 n hn w, (Below.refl _ _).alloc (Nat.le_refl _) _, sb_lit w _ _ _ n _ _ rfl (by simp) (by simp)⟩
theorem str_of {w : World} {A : Option Addr} {n c : Nat} {l : List UInt8} (h : SB w A n c l) : (convert 25 9 (.slice A n c)).run Tryd.prog w = .ok (.string ⟨l.toArray⟩) w :=
  h.rb.run_string (P := Tryd.prog) c 25 5 9 Tryd.underlying25 Tryd.underlying5 Tryd.underlying9
theorem two_parts {ps : List BV} (h : ms ps = [[7, 8], []]) : ∃ p0 p1, ps = [p0, p1] ∧ p0.d = [7, 8] ∧ p1.d = [] := by
  match ps, h with
  | [p0, p1], h =>
    simp only [ms, List.map_cons, List.map_nil, List.cons.injEq] at h
    exact ⟨p0, p1, rfl, h.1, h.2.1⟩
  | [], h => cases h
  | [p0], h => simp [ms] at h
  | p0 :: p1 :: p2 :: r, h => simp [ms] at h

set_option maxRecDepth 100000 in
set_option maxHeartbeats 4000000 in
theorem works_any (w : World) (hT : Tabs w) : Calls Tryd.prog 23 #[] w fun e w' => e = .returned (.bool true) ∧ Below w.heap.size w w' := by
  have HT := Lib.hid hT
  have H1 := Lib.hid (encReq_any exReq exQ w hT (exQ_in w))
  clear hT
  go_enter Tryd.func23, Tryd.ntmps23
  go_wp2_with fail
  refine H1.out.mono ?_
  rintro e w1 ⟨hb1, ⟨_, A1, n1, c1, rfl, hs1⟩ | ⟨h, _⟩⟩
  case inr => exact absurd exQ_chk h
  rw [exQ_code] at hs1
  have hn1 : n1 = 5 := hs1.rb.len.symm
  subst hn1
  have B1 := Lib.hid hb1
  have S1 := Lib.hid hs1
  clear hb1 hs1 H1
  have kc := fun (w : World) (C : Array Value) (n c : Nat) => Lib.run_convert_bytes_const (P := Tryd.prog) w 25 5 C n c Tryd.underlying25 Tryd.underlying5
  go_wp2_with fail
  have hs2 := sb_lit w1 #[.int .u8 4, .int .u8 1, .int .u8 3, .int .u8 227, .int .u8 129, .int .u8 139, .int .u8 0] 5 (7, 8) 7 _ exL rfl rfl rfl
  have B1a : Hid (Below w.heap.size w (w1.alloc (.cells #[.int .u8 4, .int .u8 1, .int .u8 3, .int .u8 227, .int .u8 129, .int .u8 139, .int .u8 0] 5 (7, 8)))) := Lib.hid (B1.out.alloc B1.out.size _)
  have S1a := Lib.hid (S1.out.alloc (.cells #[.int .u8 4, .int .u8 1, .int .u8 3, .int .u8 227, .int .u8 129, .int .u8 139, .int .u8 0] 5 (7, 8)))
  have H2 := Lib.hid (decReq_any _ 7 7 exL _ (HT.out.keep B1a.out) hs2 (by decide))
  clear hs2 kc B1 S1
  refine H2.out.mono ?_
  rintro e w2 ⟨hb2, r, q, c, rfl, hin, hdec, _, _, _⟩
  obtain ⟨rfl, rfl⟩ := DecR.uniq hdec exD_dec
  have B2 : Hid (Below w.heap.size w w2) := Lib.hid (B1a.out.trans (hb2.mono B1a.out.size))
  have S2 := Lib.hid (S1a.out.keep hb2)
  obtain ⟨k, se, kk, kc, be, sl, on, su, A7, n7, c7, A8, n8, c8⟩ := r
  obtain rfl : k = 4 := hin.is.kind.symm
  obtain rfl : se = 1 := hin.is.ses.symm
  obtain rfl : be = ⟨#[227, 129, 139]⟩ := hin.is.bef.symm
  obtain rfl : sl = ⟨#[]⟩ := hin.is.sel.symm
  unfold Req.cells
  clear hb2 hin hdec H2 B1a S1a
  go_wp2_with fail
  have hr2 := Blk.new w2 27 #[.int .i64 4, .int .i64 1, .int .i64 kk, .int .u8 (kc : Int), .string ⟨#[227, 129, 139]⟩, .string ⟨#[]⟩, .bool on, .string su, .slice A7 n7 c7, .slice A8 n8 c8]
  have B2a := Lib.hid (B2.out.alloc B2.out.size (.cells #[.int .i64 4, .int .i64 1, .int .i64 kk, .int .u8 (kc : Int), .string ⟨#[227, 129, 139]⟩, .string ⟨#[]⟩, .bool on, .string su, .slice A7 n7 c7, .slice A8 n8 c8] 27))
  have S2a := Lib.hid (S2.out.alloc (.cells #[.int .i64 4, .int .i64 1, .int .i64 kk, .int .u8 (kc : Int), .string ⟨#[227, 129, 139]⟩, .string ⟨#[]⟩, .bool on, .string su, .slice A7 n7 c7, .slice A8 n8 c8] 27))
  have R2 := Lib.hid hr2
  clear hr2 B2 S2
  refine (encP_any rep0 rp0 _ (HT.out.keep B2a.out) (rep0_in _)).mono ?_
  rintro e w3 ⟨hb3, ⟨_, A3, n3, c3, rfl, hs3, _⟩ | ⟨h, _⟩⟩
  case inr => exact absurd rp0_chk h
  rw [rp0_code] at hs3
  have hn3 : n3 = 10 := hs3.rb.len.symm
  subst hn3
  have B3 : Hid (Below w.heap.size w w3) := Lib.hid (B2a.out.trans (hb3.mono B2a.out.size))
  have S3 := Lib.hid (S2a.out.keep hb3)
  have R3 := Lib.hid (R2.out.below hb3 R2.out.lt)
  have T3 := Lib.hid hs3
  clear hb3 hs3 B2a S2a R2
  go_wp2_with fail
  have hs4 := sb_lit w3 #[.int .u8 2, .int .u8 0, .int .u8 0, .int .u8 0, .int .u8 7, .int .u8 8, .int .u8 0, .int .u8 0, .int .u8 0, .int .u8 0, .int .u8 9, .int .u8 0] 5 (0, 0) 12 _ exF rfl rfl rfl
  have bb : Below w3.heap.size w3 (w3.alloc (.cells #[.int .u8 2, .int .u8 0, .int .u8 0, .int .u8 0, .int .u8 7, .int .u8 8, .int .u8 0, .int .u8 0, .int .u8 0, .int .u8 0, .int .u8 9, .int .u8 0] 5)) := (Below.refl _ _).alloc (Nat.le_refl _) _
  refine (unframe_any _ 12 12 exF _ hs4 (by decide)).mono ?_
  rintro e w4 ⟨hb4, ⟨h, _⟩ | ⟨v, ps, k, hu, rfl, hol⟩⟩
  · rw [exF_unf] at h; cases h
  rw [exF_unf] at hu
  injection hu with hu
  injection hu with hu1 hu2
  subst hu2
  obtain ⟨p0, p1, rfl, hp0, hp1⟩ := two_parts hu1.symm
  obtain ⟨Av, cv, rfl, hrl, _⟩ := hol.form
  have hb34 : Below w3.heap.size w3 w4 := bb.trans (hb4.mono bb.size)
  have B4 : Hid (Below w.heap.size w w4) := Lib.hid (B3.out.trans (hb34.mono B3.out.size))
  have hb3d : Below w3.heap.size w3 w4.drew := hb34.drew
  have BD : Hid (Below w.heap.size w w4.drew) := Lib.hid B4.out.drew
  obtain ⟨W5, hmk, hb5, hz5⟩ := make_u8 10 (by decide) w4.drew
  have B5 : Hid (Below w.heap.size w W5) := Lib.hid (BD.out.trans (hb5.mono BD.out.size))
  have h3 : (convert 25 9 (.slice (some ⟨w4.heap.size, 0, none⟩) 10 10)).run Tryd.prog W5 = .ok (.string ⟨#[0, 0, 0, 0, 0, 0, 0, 0, 0, 0]⟩) W5 := str_of hz5
  obtain ⟨ad, x0, rfl, hx0, hbl, hc0, hsb0⟩ := hrl.at_ (k := 0) (by simp)
  obtain ⟨ad', x1, e', hx1, _, hc1, hsb1⟩ := hrl.at_ (k := 1) (by simp)
  injection e' with e'
  subst e'
  injection hx0 with hx0
  injection hx1 with hx1
  subst hx0 hx1
  rw [hp0] at hsb0
  rw [hp1] at hsb1
  have hl1 : p1.n = 0 := hsb1.rb.len.symm
  rw [hl1] at hc1
  have key : ∀ W, Below w4.heap.size w4 W → (convert 25 9 (.slice A1 5 c1)).run Tryd.prog W = .ok (.string ⟨#[3, 172, 2, 1, 97]⟩) W ∧ (convert 25 9 (.slice A3 10 c3)).run Tryd.prog W = .ok (.string ⟨#[0, 0, 0, 0, 0, 0, 0, 0, 0, 0]⟩) W ∧ W.cell? ⟨w2.heap.size, 0, none⟩ = some (.int .i64 4) ∧ W.cell? ⟨w2.heap.size, 1, none⟩ = some (.int .i64 1) ∧ W.cell? ⟨w2.heap.size, 4, none⟩ = some (.string ⟨#[227, 129, 139]⟩) ∧ W.cell? ⟨w2.heap.size, 5, none⟩ = some (.string ⟨#[]⟩) ∧ W.cell? ad = some (.slice p0.A p0.n p0.c) ∧ W.cell? ⟨ad.block, ad.off + 1, none⟩ = some (.slice p1.A 0 p1.c) ∧ (convert 25 9 (.slice p0.A p0.n p0.c)).run Tryd.prog W = .ok (.string ⟨#[7, 8]⟩) W := fun W hW => by
    have hbW : Below w3.heap.size w3 W := hb34.trans (hW.mono hb34.size)
    have R4 := R3.out.below hbW R3.out.lt
    exact ⟨str_of (S3.out.keep hbW), str_of (T3.out.keep hbW), Blk.cell R4 0, Blk.cell R4 1, Blk.cell R4 4, Blk.cell R4 5, (hW.cell (p := ad) hbl).trans hc0, (hW.cell (p := ⟨ad.block, ad.off + 1, none⟩) hbl).trans hc1, str_of (hsb0.keep hW)⟩
  have KD := Lib.hid (key w4.drew ((Below.refl _ _).drew))
  have K5 := Lib.hid (key W5 (((Below.refl w4.heap.size w4).drew).trans hb5))
  have hmk' : (Instr.makeSlice 25 (.int .i64 10) (.int .i64 10)).run Tryd.prog w4.drew = .ok (.slice (some ⟨w4.heap.size, 0, none⟩) 10 10) W5 := hmk
  clear hmk hc0 hc1 hsb0 hsb1 hl1 hp0 hp1 hu1 hol hrl hb4 hb5 hz5 bb hs4 hb34 hb3d key R3 S3 T3
  go_wp2_with fail
  dsimp only [List.append]
  go_region_held (fun w' => (convert 25 9 (.slice A1 5 c1)).run Tryd.prog w' = .ok (.string ⟨#[3, 172, 2, 1, 97]⟩) w' ∧ (convert 25 9 (.slice A3 10 c3)).run Tryd.prog w' = .ok (.string ⟨#[0, 0, 0, 0, 0, 0, 0, 0, 0, 0]⟩) w' ∧ w'.cell? ⟨w2.heap.size, 0, none⟩ = some (.int .i64 4) ∧ w'.cell? ⟨w2.heap.size, 1, none⟩ = some (.int .i64 1) ∧ w'.cell? ⟨w2.heap.size, 4, none⟩ = some (.string ⟨#[227, 129, 139]⟩) ∧ w'.cell? ⟨w2.heap.size, 5, none⟩ = some (.string ⟨#[]⟩) ∧ w'.cell? ad = some (.slice p0.A p0.n p0.c) ∧ w'.cell? ⟨ad.block, ad.off + 1, none⟩ = some (.slice p1.A 0 p1.c) ∧ (convert 25 9 (.slice p0.A p0.n p0.c)).run Tryd.prog w' = .ok (.string ⟨#[7, 8]⟩) w') (first | exact KD.out | exact K5.out | go_keep) (fail)
  go_wp2_with fail
  go_ret
  exact ⟨rfl, B5.out⟩
end Go.Proofs.YtkllfnaofapfnaaDoor.Prot
