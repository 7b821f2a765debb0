/-
  The contracts of putInt, putBool and EncodeRequest of package protocol. Conditions: the request can be read; the two tables of unicode/utf8 lie as their initialisers lay them; lengths are within the form's reach. (Printed by gen/protenc.py.)
-/
import Derived.Test.YtkllfnaofapfnaaDoorProtReq
import Derived.Test.YtkllfnaofapfnaaDoorCodPut
namespace Go.Proofs.YtkllfnaofapfnaaDoor.Prot
open Go.RowKit Wd Utf Cod

theorem putInt_any (A : Option Addr) (n c : Nat) (l : List UInt8) (v : Nat) (w : World) (hs : SB w A n c l) (hv : v ≤ 9223372036854775807) (hn : n + 10 ≤ 140737488355328) :
    Calls Tryd.prog 35 #[.slice A n c, .int .i64 (v : Int)] w fun e w' => ∃ b, e = .returned b ∧ w'.ownsRow w.heap.size 5 1 b (n + (put v).length) (bs (l ++ put v)) ∧ Below w.heap.size w w' := by
  have H := Lib.hid (putUint_any A n c l v w hs (Nat.lt_of_le_of_lt hv (by decide)) hn)
  have hw : IntKind.u64.wrap (v : Int) = (v : Int) := by rw [IntKind.wrap_u64]; omega
  clear hs
  go_enter Tryd.func35, Tryd.ntmps35
  go_wp2_with fail
  refine H.out.mono ?_
  rintro e w1 ⟨b, rfl, hown, hb⟩
  have O := Lib.hid hown
  have B := Lib.hid hb
  clear hown hb
  go_wp2_with fail
  go_ret
  exact ⟨b, rfl, O.out, B.out⟩
theorem putBool_any (A : Option Addr) (n c : Nat) (l : List UInt8) (v : Bool) (w : World) (hs : SB w A n c l) (hn : n + 10 ≤ 140737488355328) :
    Calls Tryd.prog 38 #[.slice A n c, .bool v] w fun e w' => ∃ b, e = .returned b ∧ w'.ownsRow w.heap.size 5 1 b (n + (put (bitN v)).length) (bs (l ++ put (bitN v))) ∧ Below w.heap.size w w' := by
  have H := Lib.hid (putInt_any A n c l (bitN v) w hs (by cases v <;> decide) hn)
  clear hs
  rcases v with _ | _
  all_goals
    go_enter Tryd.func38, Tryd.ntmps38
    go_wp2_with fail
    refine H.out.mono ?_
    rintro e w1 ⟨b, rfl, hown, hb⟩
    have O := Lib.hid hown
    have B := Lib.hid hb
    clear hown hb
    go_wp2_with fail
    go_ret
    exact ⟨b, rfl, O.out, B.out⟩

/-- the request's block -/
def RqB (B : Nat) (r : Req) (wx : World) : Prop := Blk wx B 27 r.cells
section
variable {B : Nat} {r : Req} {wx wy : World}
theorem RqB.keep (h : RqB B r wx) (hb : Below wx.heap.size wx wy) : RqB B r wy := Blk.below h hb (Blk.lt h)
theorem RqB.c0 (h : RqB B r wx) : wx.cell? ⟨B, 0, none⟩ = some (.int .i64 r.kind) := Blk.cell h 0
theorem RqB.c1 (h : RqB B r wx) : wx.cell? ⟨B, 1, none⟩ = some (.int .i64 r.ses) := Blk.cell h 1
theorem RqB.c2 (h : RqB B r wx) : wx.cell? ⟨B, 2, none⟩ = some (.int .i64 r.kk) := Blk.cell h 2
theorem RqB.c3 (h : RqB B r wx) : wx.cell? ⟨B, 3, none⟩ = some (.int .u8 (r.kc : Int)) := Blk.cell h 3
theorem RqB.c4 (h : RqB B r wx) : wx.cell? ⟨B, 4, none⟩ = some (.string r.bef) := Blk.cell h 4
theorem RqB.c5 (h : RqB B r wx) : wx.cell? ⟨B, 5, none⟩ = some (.string r.sel) := Blk.cell h 5
theorem RqB.c6 (h : RqB B r wx) : wx.cell? ⟨B, 6, none⟩ = some (.bool r.on) := Blk.cell h 6
theorem RqB.c7 (h : RqB B r wx) : wx.cell? ⟨B, 7, none⟩ = some (.string r.sur) := Blk.cell h 7
theorem RqB.c8 (h : RqB B r wx) : wx.cell? ⟨B, 8, none⟩ = some (.slice r.A7 r.n7 r.c7) := Blk.cell h 8
theorem RqB.c9 (h : RqB B r wx) : wx.cell? ⟨B, 9, none⟩ = some (.slice r.A8 r.n8 r.c8) := Blk.cell h 9
end
/-- how EncodeRequest ends -/
def EPost (w : World) (q : Rq) (e : Ending) (w' : World) : Prop :=
  Below w.heap.size w w' ∧ ((chkR q = 0 ∧ ∃ A n c, e = .returned (.tuple #[.slice A n c, .int .i64 0]) ∧ SB w' A n c (codeR q)) ∨ (chkR q ≠ 0 ∧ e = .returned (.tuple #[.slice none 0 0, .int .i64 (chkR q : Nat)])))
theorem EPost.bad {w w' : World} {q : Rq} (h : chkR q ≠ 0) (hb : Below w.heap.size w w') : EPost w q (.returned (.tuple #[.slice none 0 0, .int .i64 (chkR q : Nat)])) w' := ⟨hb, .inr ⟨h, rfl⟩⟩
theorem EPost.good {w w' : World} {q : Rq} {A : Option Addr} {n c : Nat} {L : List UInt8} (h : chkR q = 0) (hb : Below w.heap.size w w') (hs : SB w' A n c L) (hL : L = codeR q) : EPost w q (.returned (.tuple #[.slice A n c, .int .i64 0])) w' := by
  subst hL; exact ⟨hb, .inl ⟨h, A, n, c, rfl, hs⟩⟩
/-- what EncodeRequest asks of a request in memory -/
structure RqIn (w : World) (r : Req) (q : Rq) : Prop where
  seen : RI .i64 w r.A7 r.n7 q.seen
  data : SB w r.A8 r.n8 r.c8 q.data
  is : IsRq r q.seen q
  n7 : r.n7 ≤ 100000
  n8 : r.n8 ≤ 140737488355328
  bef : r.bef.size ≤ 140737488355328
  sel : r.sel.size ≤ 140737488355328
  sur : r.sur.size ≤ 140737488355328
  kc : r.kc < 256
theorem RqIn.keep {w w' : World} {r : Req} {q : Rq} (h : RqIn w r q) (hb : Below w.heap.size w w') : RqIn w' r q := ⟨h.seen.keep hb, h.data.keep hb, h.is, h.n7, h.n8, h.bef, h.sel, h.sur, h.kc⟩

set_option maxRecDepth 100000 in
set_option maxHeartbeats 4000000 in
theorem encReq_bad (r : Req) (q : Rq) (w : World) (hT : Tabs w) (hq : RqIn w r q) (hck : chkR q ≠ 0) :
    Calls Tryd.prog 15 #[.agg r.cells] w (EPost w q) := by
  have hb0 : Below w.heap.size w (w.alloc (.cells r.cells 27)) := (Below.refl _ _).alloc (Nat.le_refl _) _
  have HQ := Lib.hid (hq.keep hb0)
  have HC := Lib.hid (check_any r q q.seen _ (hT.keep hb0) HQ.out.seen HQ.out.n7 HQ.out.is HQ.out.bef HQ.out.sel HQ.out.sur)
  have B0 := Lib.hid hb0
  have HCK := Lib.hid hck
  have hne : (((chkR q : Nat) : Int) != 0) = true := by rw [bne_iff_ne]; omega
  clear hT hq hck hb0
  generalize hz : chkR q = z at HC hne
  have HZ := Lib.hid hz
  clear hz
  unfold Req.cells at HC B0 HQ ⊢
  go_enter Tryd.func15, Tryd.ntmps15
  go_wp2_with fail
  refine HC.out.mono ?_
  rintro e w1 ⟨rfl, hb1⟩
  have B1 := Lib.hid (B0.out.trans (hb1.mono B0.out.size))
  clear hb1
  go_wp2_with fail
  go_ret2
  have := EPost.bad HCK.out B1.out
  rw [HZ.out] at this
  exact this
end Go.Proofs.YtkllfnaofapfnaaDoor.Prot
