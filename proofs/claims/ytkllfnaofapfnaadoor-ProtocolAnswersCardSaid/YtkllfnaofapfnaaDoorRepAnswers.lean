/-
  The contract of ProtocolAnswers: exactly the codes of replies are decoded, as by the reference. Conditions: the argument can be read, within the form's reach; the two tables of unicode/utf8 lie as their initialisers lay them. (Printed by gen/lawreads.py.)
-/
import Derived.Test.YtkllfnaofapfnaaDoorRepDecR
import Derived.Test.YtkllfnaofapfnaaDoorRepTS
import Derived.Test.YtkllfnaofapfnaaDoorRepDec
import Derived.Test.YtkllfnaofapfnaaDoorProtWorks
import Derived.Deep.RegionHeld3
namespace Go.Proofs.YtkllfnaofapfnaaDoor.Prot
open Go.RowKit Wd Utf Cod

theorem own_storedP {lo n c g j x : Nat} {w : World} {e : TypeId} {d : List UInt8} (hd : w.ownsRow lo e 1 (.slice (some ⟨g, 0, none⟩) n c) n (bs d)) (hx : x < 256) : ∃ d', (w.setCell ⟨g, j, none⟩ (.int .u8 (x : Int))).ownsRow lo e 1 (.slice (some ⟨g, 0, none⟩) n c) n (bs d') :=
  ⟨d.set j (UInt8.ofNat x), by rw [← Frm.bs_set d j x hx]; exact (hd.stored j _).1⟩
/-- what a round of the change of the copy keeps -/
structure MRep (w : World) (g : Nat) (A : Option Addr) (n c : Nat) (r : Rep) (q : Rp) (wr : World) : Prop where
  row : ∃ d, wr.ownsRow w.heap.size 5 1 (.slice A n c) n (bs d)
  blk : Blk wr g 34 r.cells
  q : RpIn wr r q
  bel : Below w.heap.size w wr
set_option maxRecDepth 100000 in
set_option maxHeartbeats 8000000 in
theorem answers_any (A : Option Addr) (n c : Nat) (l : List UInt8) (w : World) (hT : Tabs w) (hs : SB w A n c l) (hn : n ≤ 140737488355328) :
    Calls Tryd.prog 12 #[.slice A n c] w fun e w' => e = .returned (.bool true) ∧ Below w.heap.size w w' := by
  by_cases hb : n ≤ 100000
  · have gb : (n : Int) ≤ 100000 := by omega
    obtain ⟨i0, hi, hz0, hz1, hz2⟩ := info_parts Tryd.infoU8
    have HI := Lib.hid hi
    have HT := Lib.hid hT
    have HS := Lib.hid hs
    clear hi hT hs
    go_enter Tryd.func12, Tryd.ntmps12
    go_wp2_with (at_builtin; refine wpList_append_any _ rfl (.tmp 12) (.tmp 13) _ rfl w.heap.size 5 i0 _ 1 1 Tryd.underlying25 HI.out hz0 hz1 hz2 rfl (by decide) _ 0 [] rfl (own_empty _ _) _ A n c (bs l) rfl (by exact Reads.alloc HS.out.rb (Nat.le_refl _) _) (bs_one _) (by unfold maxLen; omega) (by omega) (by simp) ?_; intro v1 w1 hown1 hg1 hat1; have O1 : Hid (w1.ownsRow w.heap.size 5 1 v1 n (bs l)) := Lib.hid (by simpa using hown1); have B1 : Hid (Below w.heap.size w w1) := Lib.hid (own_below ((Below.refl _ _).alloc (Nat.le_refl _) _) (Nat.le_refl _) (own_empty _ _) (Nat.le_refl _) hg1); clear hown1 hg1 hat1; obtain ⟨Am, cm, rfl, hsm⟩ := own_sb O1.out; have SM := Lib.hid hsm; clear hsm)
    refine (decRep_any Am n cm l w1 (HT.out.keep B1.out) SM.out (by omega)).mono ?_
    rintro e w2 ⟨hb2, r, q, cc0, rfl, hq2, hd2, h7, h8, h9⟩
    obtain ⟨err, ses, Ap, np, cp, caret, Ac, nc, cc, chosen, commit, erase, taken, Ad, nd, cd⟩ := r
    dsimp only [Rep.cells]
    simp only at h7 h8 h9
    have HD := Lib.hid hd2
    have Q2 := Lib.hid hq2
    have B2 := Lib.hid (B1.out.trans (hb2.mono B1.out.size))
    have O2 := Lib.hid (own_keep O1.out hb2)
    have Z12 := Lib.hid hb2.size
    have LT : Hid (∀ ad, Am = some ad → w.heap.size ≤ ad.block ∧ ad.block < w1.heap.size) := Lib.hid (fun ad e => by subst e; exact O1.out.lt ad.block rfl)
    have FAp := Lib.hid h7
    have FAc := Lib.hid h8
    have FAd := Lib.hid h9
    clear hb2 hq2 hd2 h7 h8 h9 O1 SM B1
    have M0 : Hid (MRep w w2.heap.size Am n cm (⟨err, ses, Ap, np, cp, caret, Ac, nc, cc, chosen, commit, erase, taken, Ad, nd, cd⟩ : Rep) q (w2.alloc (.cells (⟨err, ses, Ap, np, cp, caret, Ac, nc, cc, chosen, commit, erase, taken, Ad, nd, cd⟩ : Rep).cells 34))) := Lib.hid ⟨⟨l, own_keep O2.out ((Below.refl _ _).alloc (Nat.le_refl _) _)⟩, Blk.new w2 _ _, Q2.out.keep ((Below.refl _ _).alloc (Nat.le_refl _) _), B2.out.alloc B2.out.size _⟩
    unfold Rep.cells at M0
    go_wp2_with fail
    go_loopw [6] (fun i wr => ∃ k : Nat, k ≤ n ∧ i = .int .i64 (k : Int) ∧ MRep w w2.heap.size Am n cm (⟨err, ses, Ap, np, cp, caret, Ac, nc, cc, chosen, commit, erase, taken, Ad, nd, cd⟩ : Rep) q wr) (fun i _ => n - (intOf i).toNat)
    case atStart => exact ⟨0, Nat.zero_le _, rfl, M0.out⟩
    case round =>
      obtain ⟨k, hk, rfl, hm⟩ := hrel
      have MM := Lib.hid hm
      clear hm M0
      by_cases hlt : k < n
      · obtain ⟨d, hd⟩ := MM.out.row
        obtain ⟨g, cap, hv⟩ := Frm.own_some hd (by omega)
        injection hv with hv1 hv2 hv3
        subst hv1
        have hgl := LT.out _ rfl
        simp only at hgl
        have hg2 : g ≠ w2.heap.size := by have := Z12.out; omega
        have hx : (bs d)[k]? = some (.int .u8 ((d.getD k 0).toNat : Int)) := by
          have hl := own_lenP hd
          rw [bs_at d k (by omega)]
          simp [List.getD, show k < d.length by omega]
        have c3 : wr.cell? ⟨g, k, none⟩ = some (.int .u8 ((d.getD k 0).toNat : Int)) := by
          rw [hd.cellAt k (by omega)]; exact hx
        have f3 : wr.frozen? ⟨g, k, none⟩ = false := hd.frozenAt k
        have hxb := (d.getD k 0).toNat_lt
        have HDD := Lib.hid hd
        clear hd hx hv2 hv3
        generalize (d.getD k 0).toNat = x at hxb c3
        have hw : IntKind.u8.wrap ((x : Int) + 1) = (((x + 1) % 256 : Nat) : Int) := by rw [IntKind.wrap_u8]; omega
        have HAp : Hid (∀ ad, Ap = some ad → ad.block ≠ g) := Lib.hid (fun ad e => by have := FAp.out ad e; omega)
        have HAc : Hid (∀ ad, Ac = some ad → ad.block ≠ g) := Lib.hid (fun ad e => by have := FAc.out ad e; omega)
        have HAd : Hid (∀ ad, Ad = some ad → ad.block ≠ g) := Lib.hid (fun ad e => by have := FAd.out ad e; omega)
        have M2 : Hid (MRep w w2.heap.size (some ⟨g, 0, none⟩) n cm (⟨err, ses, Ap, np, cp, caret, Ac, nc, cc, chosen, commit, erase, taken, Ad, nd, cd⟩ : Rep) q (wr.setCell ⟨g, k, none⟩ (.int .u8 (((x + 1) % 256 : Nat) : Int)))) := Lib.hid ⟨own_storedP HDD.out (Nat.mod_lt _ (by decide)), Blk.far MM.out.blk (Ne.symm hg2) _, (MM.out.q.upd ((Upd.refl g wr).set_ k _) HAp.out HAc.out HAd.out), MM.out.bel.setCell (p := ⟨g, k, none⟩) hgl.1 _⟩
        obtain ⟨y, hy⟩ : ∃ y, y = (x + 1) % 256 := ⟨_, rfl⟩
        rw [← hy] at hw M2
        clear hy hxb HDD hgl hg2
        go_wp2_with fail
        go_roundw
        case rel => exact ⟨k + 1, by omega, by go_num, M2.out⟩
        case measure => simp [intOf]; omega
      · have hkn : k = n := by omega
        subst k
        clear hlt
        have HB := Lib.hid (decRepR_any A n c l wr (HS.out.keep MM.out.bel) (by omega))
        go_wp2_with fail
        refine HB.out.mono ?_
        rintro e w4 ⟨hb4, r2, q2, cc2, rfl, hq4, hd4, _, _, _⟩
        obtain ⟨hcc, hqq⟩ := DecP.uniq hd4 HD.out
        subst hcc hqq
        obtain ⟨err', ses', Ap', np', cp', caret', Ac', nc', cc', chosen', commit', erase', taken', Ad', nd', cd'⟩ := r2
        dsimp only [Rep.cells]
        have Q4 := Lib.hid (MM.out.q.keep hb4)
        have Q4' := Lib.hid hq4
        have K4 := Lib.hid (MM.out.blk.below hb4 MM.out.blk.lt)
        have B4 := Lib.hid (MM.out.bel.trans (hb4.mono MM.out.bel.size))
        clear HB hb4 hq4 hd4 HD MM O2 Q2 B2
        have hal : Below w4.heap.size w4 (w4.alloc (.cells (⟨err', ses', Ap', np', cp', caret', Ac', nc', cc', chosen', commit', erase', taken', Ad', nd', cd'⟩ : Rep).cells 48)) := (Below.refl _ _).alloc (Nat.le_refl _) _
        have K5 := Lib.hid (K4.out.below hal K4.out.lt)
        have J5 : Hid (Blk (w4.alloc (.cells (⟨err', ses', Ap', np', cp', caret', Ac', nc', cc', chosen', commit', erase', taken', Ad', nd', cd'⟩ : Rep).cells 48)) w4.heap.size 48 (⟨err', ses', Ap', np', cp', caret', Ac', nc', cc', chosen', commit', erase', taken', Ad', nd', cd'⟩ : Rep).cells) := Lib.hid (Blk.new w4 _ _)
        have Q5 := Lib.hid (Q4.out.keep hal)
        have Q5' := Lib.hid (Q4'.out.keep hal)
        have B5 := Lib.hid (B4.out.trans (hal.mono B4.out.size))
        clear hal Q4 Q4' K4 B4
        unfold Rep.cells at K5 J5 B5 Q5 Q5'
        simp only at K5 J5 B5 Q5 Q5'
        go_upto_region 10 with fail
        generalize (w4.alloc (.cells #[.int .i64 err', .int .i64 ses', .slice Ap' np' cp', .int .i64 caret', .slice Ac' nc' cc', .int .i64 chosen', .string commit', .int .i64 erase', .bool taken', .slice Ad' nd' cd'] 48)) = w5 at *
        have k0 : w5.cell? ⟨w2.heap.size, 0, none⟩ = some (.int .i64 err) := K5.out.cell 0
        have m0 : w5.cell? ⟨w4.heap.size, 0, none⟩ = some (.int .i64 err') := J5.out.cell 0
        have k1 : w5.cell? ⟨w2.heap.size, 1, none⟩ = some (.int .i64 ses) := K5.out.cell 1
        have m1 : w5.cell? ⟨w4.heap.size, 1, none⟩ = some (.int .i64 ses') := J5.out.cell 1
        have k2 : w5.cell? ⟨w2.heap.size, 2, none⟩ = some (.slice Ap np cp) := K5.out.cell 2
        have m2 : w5.cell? ⟨w4.heap.size, 2, none⟩ = some (.slice Ap' np' cp') := J5.out.cell 2
        have k3 : w5.cell? ⟨w2.heap.size, 3, none⟩ = some (.int .i64 caret) := K5.out.cell 3
        have m3 : w5.cell? ⟨w4.heap.size, 3, none⟩ = some (.int .i64 caret') := J5.out.cell 3
        have k4 : w5.cell? ⟨w2.heap.size, 4, none⟩ = some (.slice Ac nc cc) := K5.out.cell 4
        have m4 : w5.cell? ⟨w4.heap.size, 4, none⟩ = some (.slice Ac' nc' cc') := J5.out.cell 4
        have k5 : w5.cell? ⟨w2.heap.size, 5, none⟩ = some (.int .i64 chosen) := K5.out.cell 5
        have m5 : w5.cell? ⟨w4.heap.size, 5, none⟩ = some (.int .i64 chosen') := J5.out.cell 5
        have k6 : w5.cell? ⟨w2.heap.size, 6, none⟩ = some (.string commit) := K5.out.cell 6
        have m6 : w5.cell? ⟨w4.heap.size, 6, none⟩ = some (.string commit') := J5.out.cell 6
        have k7 : w5.cell? ⟨w2.heap.size, 7, none⟩ = some (.int .i64 erase) := K5.out.cell 7
        have m7 : w5.cell? ⟨w4.heap.size, 7, none⟩ = some (.int .i64 erase') := J5.out.cell 7
        have k8 : w5.cell? ⟨w2.heap.size, 8, none⟩ = some (.bool taken) := K5.out.cell 8
        have m8 : w5.cell? ⟨w4.heap.size, 8, none⟩ = some (.bool taken') := J5.out.cell 8
        have k9 : w5.cell? ⟨w2.heap.size, 9, none⟩ = some (.slice Ad nd cd) := K5.out.cell 9
        have m9 : w5.cell? ⟨w4.heap.size, 9, none⟩ = some (.slice Ad' nd' cd') := J5.out.cell 9
        have KS : Hid (∀ W, Below w5.heap.size w5 W → (∀ j, W.cell? ⟨w2.heap.size, j, none⟩ = w5.cell? ⟨w2.heap.size, j, none⟩) ∧ (∀ j, W.cell? ⟨w4.heap.size, j, none⟩ = w5.cell? ⟨w4.heap.size, j, none⟩)) := Lib.hid (fun W hb => ⟨fun j => hb.cell (p := ⟨w2.heap.size, j, none⟩) K5.out.lt, fun j => hb.cell (p := ⟨w4.heap.size, j, none⟩) J5.out.lt⟩)
        have hcc5 := Lib.hid (KS.out w5.drew (Below.refl _ _).drew)
        have HA := Lib.hid (told_any (⟨err, ses, Ap, np, cp, caret, Ac, nc, cc, chosen, commit, erase, taken, Ad, nd, cd⟩ : Rep) q2 w5.drew (Q5.out.keep (Below.refl _ _).drew))
        have Q5d := Lib.hid (Q5'.out.keep (Below.refl _ _).drew)
        unfold Rep.cells at HA
        simp only at HA
        go_wp2_with fail
        go_region_held3 (fun w' => (∀ j, w'.cell? ⟨w2.heap.size, j, none⟩ = w5.cell? ⟨w2.heap.size, j, none⟩) ∧ (∀ j, w'.cell? ⟨w4.heap.size, j, none⟩ = w5.cell? ⟨w4.heap.size, j, none⟩)) (first | with_reducible exact hcc5.out | with_reducible exact hcc8.out | with_reducible exact hcc7.out | with_reducible exact hcc6.out)
          (first
            | (go_at_call 22; (with_reducible refine HA.out.mono ?_); rintro e w6 ⟨hb6, r6, rfl, hq6⟩; have Q6 := Lib.hid hq6; have HSM := Lib.hid (sameRep_any r6 (⟨err', ses', Ap', np', cp', caret', Ac', nc', cc', chosen', commit', erase', taken', Ad', nd', cd'⟩ : Rep) q2 w6 Q6.out (Q5d.out.keep hb6)); have C6 := Lib.hid (((Below.refl w5.heap.size w5).drew).trans hb6); have hcc6 := Lib.hid (KS.out w6 C6.out); unfold Rep.cells at HSM; simp only at HSM; clear hb6 hq6 Q6 HA)
            | (go_at_call 21; (with_reducible refine HSM.out.mono ?_); rintro e w7 ⟨rfl, hb7⟩; have C7 := Lib.hid (C6.out.trans (hb7.mono C6.out.size)); have hcc7 := Lib.hid (KS.out w7 C7.out); have HW := Lib.hid (works_any w7 (HT.out.keep (B5.out.trans (C7.out.mono B5.out.size)))); clear hb7 HSM)
            | (go_at_call 23; (with_reducible refine HW.out.mono ?_); rintro e w8 ⟨rfl, hb8⟩; have C8 := Lib.hid (C7.out.trans (hb8.mono C7.out.size)); have hcc8 := Lib.hid (KS.out w8 C8.out); clear hb8 HW))
        go_wp2_with fail
        go_ret
        exact ⟨rfl, B5.out.trans (C8.out.mono B5.out.size)⟩
  · have gb : (100000 : Int) < (n : Int) := by omega
    go_enter Tryd.func12, Tryd.ntmps12
    go_wp2_with fail
    go_ret
    exact ⟨rfl, Below.refl _ _⟩
end Go.Proofs.YtkllfnaofapfnaaDoor.Prot
