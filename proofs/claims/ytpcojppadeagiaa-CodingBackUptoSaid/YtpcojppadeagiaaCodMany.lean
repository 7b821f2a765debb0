/-
  The contracts of the reader's methods 'many' and 'list' of package coding where the code of a list stands at the index. Conditions: the reader lies in a block of its own, above the bytes that it reads; the code is there.
-/
import Derived.Test.YtpcojppadeagiaaCodPutS
import Derived.Test.YtpcojppadeagiaaCodText
namespace Go.Proofs.Ytpcojppadeagiaa.Cod
open Go.RowKit Wd

theorem Try.infoStr : (Try.prog.info? 9).map (fun i => (i.zero, i.size, i.bytes)) = some (some (.string ⟨#[]⟩), 1, 16) := by kernel_rfl

set_option maxRecDepth 100000 in
set_option maxHeartbeats 1000000 in
theorem many_ok (g : Nat) (A : Option Addr) (n c at0 v : Nat) (l rest : List UInt8) (w : World) (hg : Rdr w g A n c at0) (hr : Reads w g 1 A n (bs l)) (hn : n ≤ 140737488355328) (hd : l.drop at0 = put v ++ rest) (hv : v ≤ rest.length) :
    Calls Try.prog 48 #[.pointer (some ⟨g, 0, none⟩)] w fun e w' => e = .returned (.int .i64 (v : Int)) ∧ Rdr w' g A n c (at0 + (put v).length) ∧ Upd g w w' := by
  have hlen : l.length = n := by have := hr.1; rw [bs_length] at this; omega
  have hall : at0 + (put v).length + rest.length = n := by
    have h := congrArg List.length hd
    rw [List.length_drop, List.length_append] at h
    have := put_pos v
    omega
  have HN := Lib.hid (number_any g A n c at0 l w hg hr hn (by omega))
  have HRR := Lib.hid (show rd (l.drop at0) = some (v, (put v).length) by rw [hd]; exact rd_put v rest (lt64 (by omega)))
  clear hg hr hlen hd
  go_enter Try.func48, Try.ntmps48
  go_wp2_with fail
  refine HN.out.mono ?_
  intro e w1 hpost
  rw [HRR.out] at hpost
  obtain ⟨rfl, hrd, hup⟩ := hpost
  obtain ⟨a1, ha1⟩ : ∃ a1, a1 = at0 + (put v).length := ⟨_, rfl⟩
  rw [← ha1] at hrd hall
  have HA1 := Lib.hid ha1
  have HRD := Lib.hid hrd
  have HUP := Lib.hid hup
  have c0 : w1.cell? ⟨g, 0, none⟩ = some (.slice A n c) := hrd.cell 0
  have c1 : w1.cell? ⟨g, 1, none⟩ = some (.int .i64 (a1 : Int)) := hrd.cell 1
  have hb : (v : Int) ≤ (n : Int) - (a1 : Int) := by omega
  have hle : a1 ≤ n := by omega
  clear hrd hup HN ha1 hall
  go_wp2_with fail
  go_quiet (fail)
  go_wp2_with fail
  go_ret
  rw [← HA1.out]
  exact ⟨rfl, HRD.out.drewN _, HUP.out.drewN _⟩

theorem own_apart {w : World} {base n g : Nat} {e : TypeId} {v : Value} {xs : List Value} (h : w.ownsRow base e 1 v n xs) (hg : g < base) : v.ownBlock ≠ some g := by
  intro hv; have := (h.lt g hv).1; omega
theorem ba_back (b : ByteArray) : (⟨b.data.toList.toArray⟩ : ByteArray) = b := by cases b; simp
theorem vs_take_snoc (ss : List ByteArray) (k : Nat) (h : k < ss.length) : vs (ss.take (k + 1)) = vs (ss.take k) ++ [.string (ss.getD k ByteArray.empty)] := by
  rw [take_snocS ss k h, vs_append]; rfl
theorem by_cons_drop (ss : List ByteArray) (k : Nat) (h : k < ss.length) : by_ (ss.drop k) = (ss.getD k ByteArray.empty).data.toList :: by_ (ss.drop (k + 1)) := by
  rw [List.drop_eq_getElem_cons h]
  simp only [by_, List.map_cons, List.getD, List.getElem?_eq_getElem h, Option.getD_some]
theorem by_split (ss : List ByteArray) (k : Nat) : by_ ss = by_ (ss.take k) ++ by_ (ss.drop k) := by
  simp only [by_, ← List.map_append, List.take_append_drop]

/-- how 'list' and 'sorted' end -/
def GPost (w : World) (g : Nat) (A : Option Addr) (n c at1 : Nat) (ss : List ByteArray) (e : Ending) (w' : World) : Prop :=
  ∃ v, e = .returned v ∧ w'.ownsRow w.heap.size 9 1 v ss.length (vs ss) ∧ Rdr w' g A n c at1 ∧ Upd g w w'

/-- what a round of 'list' keeps -/
def GRel (w : World) (g : Nat) (A : Option Addr) (n c at0 : Nat) (ss : List ByteArray) (v1 n1 : Value) (wr : World) : Prop :=
  ∃ k : Nat, k ≤ ss.length ∧ n1 = .int .i64 ((ss.length - k : Nat) : Int) ∧ wr.ownsRow w.heap.size 9 1 v1 k (vs (ss.take k)) ∧ Rdr wr g A n c (at0 + (put ss.length).length + (bodyL (by_ (ss.take k))).length) ∧ Upd g w wr

theorem list_at (l rest : List UInt8) (ss : List ByteArray) (at0 k : Nat) (hd : l.drop at0 = putL (by_ ss) ++ rest) (hk : k < ss.length) :
    l.drop (at0 + (put ss.length).length + (bodyL (by_ (ss.take k))).length) = putT (ss.getD k ByteArray.empty).data.toList ++ (bodyL (by_ (ss.drop (k + 1))) ++ rest) := by
  unfold putL at hd
  rw [by_length, List.append_assoc] at hd
  have h1 := drop_more _ _ _ _ hd
  have e : bodyL (by_ ss) = bodyL (by_ (ss.take k)) ++ (putT (ss.getD k ByteArray.empty).data.toList ++ bodyL (by_ (ss.drop (k + 1)))) := by
    rw [by_split ss k, bodyL_append, by_cons_drop ss k hk]
    rfl
  rw [e, List.append_assoc] at h1
  rw [drop_more _ _ _ _ h1, List.append_assoc]

set_option maxRecDepth 100000 in
set_option maxHeartbeats 1000000 in
theorem list_ok (g : Nat) (A : Option Addr) (n c at0 : Nat) (l rest : List UInt8) (ss : List ByteArray) (w : World) (hg : Rdr w g A n c at0) (hr : Reads w g 1 A n (bs l)) (hc : n ≤ c) (hnil : A = none → c = 0) (hn : n ≤ 140737488355328)
    (hd : l.drop at0 = putL (by_ ss) ++ rest) (hroom : ss.length * 16 ≤ 140737488355328) (hstr : ∀ s ∈ ss, s.size ≤ 140737488355328) :
    Calls Try.prog 42 #[.pointer (some ⟨g, 0, none⟩)] w (GPost w g A n c (at0 + (putL (by_ ss)).length) ss) := by
  obtain ⟨i0, hi, hz0, hz1, hz2⟩ := info_parts Try.infoStr
  have HI := Lib.hid hi
  have HR := Lib.hid hr
  have HLen := Lib.hid (show l.length = n by have := hr.1; rw [bs_length] at this; omega)
  have HNil := Lib.hid hnil
  have hglt := hg.lt
  have HD := Lib.hid hd
  have HStr := Lib.hid hstr
  have HM := Lib.hid (many_ok g A n c at0 ss.length l (bodyL (by_ ss) ++ rest) w hg hr (by omega) (by rw [hd]; unfold putL; rw [by_length, List.append_assoc]) (by have := bodyL_many (by_ ss); rw [by_length] at this; rw [List.length_append]; omega))
  clear hi hr hnil hd hg hstr
  go_enter Try.func42, Try.ntmps42
  go_wp2_with fail
  refine HM.out.mono ?_
  rintro e w1 ⟨rfl, hrd, hup⟩
  have R1 := Lib.hid hrd
  have U1 := Lib.hid hup
  clear hrd hup HM
  go_wp2_with fail
  go_loopw [3, 4] (fun v1 n1 wr => GRel w g A n c at0 ss v1 n1 wr) (fun _ i _ => (intOf i).toNat)
  case atStart => exact ⟨0, Nat.zero_le _, by simp, World.ownsRow_nil _ _ _ _, by simpa [by_, bodyL] using R1.out, U1.out⟩
  case round =>
    obtain ⟨k, hk, rfl, hown, hrd, hup⟩ := hrel
    have HO := Lib.hid hown
    have HRD := Lib.hid hrd
    have HUP := Lib.hid hup
    clear hown hrd hup
    by_cases hlt : k < ss.length
    · have hat := Lib.hid (list_at l rest ss at0 k HD.out hlt)
      generalize ha1 : at0 + (put ss.length).length + (bodyL (by_ (ss.take k))).length = a1 at hat HRD
      have HA1 := Lib.hid ha1
      clear ha1
      obtain ⟨s, hs⟩ : ∃ s, s = ss.getD k ByteArray.empty := ⟨_, rfl⟩
      rw [← hs] at hat
      have hle : a1 ≤ n := by
        have h := congrArg List.length hat.out
        have := putT_pos s.data.toList
        rw [List.length_drop, List.length_append, HLen.out] at h
        omega
      have hsz : s.size ≤ 140737488355328 := HStr.out s (by rw [hs]; simp [List.getD, hlt])
      have hT : rdT (l.drop a1) = some (s.data.toList, (putT s.data.toList).length) := by rw [hat.out]; exact rdT_put _ _ (lt64 (by rw [ba_len]; exact hsz))
      have HT := Lib.hid hT
      have HSS := Lib.hid hs
      have hpos : (0 : Int) < ((ss.length - k : Nat) : Int) := by omega
      have hb := HUP.out.size
      have HTX := Lib.hid (text_any g A n c a1 l wr HRD.out (HR.out.grown HUP.out (Nat.le_of_lt hglt) (fun k hk => by injection hk with hk; omega)) hc HNil.out hn (by omega))
      obtain ⟨q, hq⟩ : ∃ q, q = ss.length - k := ⟨_, rfl⟩
      rw [← hq] at hpos ⊢
      have HQ := Lib.hid hq
      have hqb : q ≤ 140737488355328 := by omega
      clear hT hs hq
      go_wp2_with fail
      refine HTX.out.mono ?_
      intro e w2 hpost
      rw [HT.out] at hpost
      obtain ⟨rfl, hrd2, hup2⟩ := hpost
      rw [ba_back]
      have U2 := Lib.hid (HUP.out.trans hup2)
      have O2 := Lib.hid (HO.out.kept hup2 (.inr (own_apart HO.out hglt)))
      have R2 := Lib.hid hrd2
      clear hrd2 hup2 HTX HT
      go_wp2_with (at_builtin; refine wpList_append_any _ rfl (.tmp 11) (.tmp 14) _ rfl w.heap.size 9 i0 _ 1 16 Try.underlying39 HI.out hz0 hz1 hz2 rfl (by decide) _ _ _ rfl (O2.out.alloc _) _ _ _ _ _ rfl (Reads.lit _ _ _ _ _ _ rfl rfl) (by intro u hu; simp at hu; subst hu; rfl) (by unfold maxLen; omega) (by omega) (by have := U2.out.size; simp; omega) ?_; intro v' w3 hown' hgr hat')
      have U3 := Lib.hid ((U2.out.alloc _).grown hgr (fun j hj => (O2.out.lt j hj).1))
      have R3 := Lib.hid ((R2.out.alloc _).grown hgr (Ne.symm (own_apart O2.out hglt)))
      have O3 := Lib.hid (show w3.ownsRow w.heap.size 9 1 v' (k + 1) (vs (ss.take (k + 1))) by rw [vs_take_snoc ss k hlt, ← HSS.out]; exact hown')
      clear hgr hat' hown'
      go_wp2_with fail
      go_roundw
      case rel =>
        refine ⟨k + 1, by omega, by have := HQ.out; congr 1; omega, O3.out, ?_, U3.out⟩
        rw [take_snocS ss k hlt, by_snoc, bodyL_snoc, ← HSS.out, List.length_append, ← Nat.add_assoc, HA1.out]
        exact R3.out
      case measure => simp [intOf]; omega
    · obtain rfl : k = ss.length := by omega
      have hO := HO.out
      have hR := HRD.out
      rw [List.take_length] at hO hR
      have O := Lib.hid hO
      have R := Lib.hid hR
      clear hO hR
      simp only [Nat.sub_self]
      go_wp2_with fail
      go_ret
      refine ⟨_, rfl, O.out, ?_, HUP.out⟩
      unfold putL
      rw [by_length, List.length_append, ← Nat.add_assoc]
      exact R.out
end Go.Proofs.Ytpcojppadeagiaa.Cod
