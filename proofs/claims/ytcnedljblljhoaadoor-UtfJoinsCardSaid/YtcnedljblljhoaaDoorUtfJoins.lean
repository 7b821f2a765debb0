/-
  The walk of UtfJoins: two valid strings one after the other are a valid string with the characters of both. Conditions: the two tables of unicode/utf8 lie as their initialisers lay them. (Printed by gen/utfjoins.py.)
-/
import Derived.Test.YtcnedljblljhoaaDoorUtfWorks
import Derived.Laws.Concat
namespace Go.Proofs.YtcnedljblljhoaaDoor.Utf
open Go.RowKit Wd

/-- an append whose guard holds -/
theorem wpList_append_wanted {P : Program} (w : World) {ops : Array Oper} {rest : List Oper} {o : Oper} {a : Act} {Q : Exit → Act → World → Prop} (hgd : Region.wanted o (yielded ops a.tmps) = true) (s x : Operand) (t : TypeId)
    (ho : o.op = .call { callee := .builtin .append, args := #[s, x], argTypes := #[t, t] })
    (base : Nat) (e : TypeId) (i : TypeInfo) (z : Value) (size bytes : Nat) (ht : P.underlying t = some (.slice e)) (hi : P.info? e = some i) (hz : i.zero = some z)
    (hsize : i.size = size) (hby : i.bytes = bytes) (hzs : z.cells.size = size) (hsz : 0 < size)
    (v : Value) (n : Nat) (xs : List Value) (hs : a.eval s = v) (hown : w.ownsRow base e size v n xs)
    (B : Nat) (A : Option Addr) (m c : Nat) (news : List Value) (hx : a.eval x = .slice A m c) (hr : Reads w B size A m news) (h1 : ∀ u ∈ news, u.oneCell' = true)
    (h63 : n + m ≤ maxLen) (hbytes : (n + m) * bytes ≤ 140737488355328) (hbase : base ≤ w.heap.size)
    (h : ∀ v' w', w'.ownsRow base e size v' (n + m) (xs ++ news) → w.grownBy w' v.ownBlock → (v'.ownBlock = v.ownBlock ∨ v'.ownBlock = some w.heap.size) → wpList P ops Q rest (a.put o.dst v') w') : wpList P ops Q (o :: rest) a w :=
  wpList_step fun K hK => by
    rw [if_pos hgd]
    exact wp_append_any w s x t ho base e i z size bytes ht hi hz hsize hby hzs hsz v n xs hs hown B A m c news hx hr h1 h63 hbytes hbase fun v' w' h2 h3 h4 => hK _ _ (h v' w' h2 h3 h4)

theorem kept_other {w w' : World} {base n : Nat} {e : TypeId} {v v1 : Value} {xs : List Value} (h : w.ownsRow base e 1 v n xs) (hg : w.grownBy w' v1.ownBlock) (hlt : ∀ k, v1.ownBlock = some k → k < base) : w'.ownsRow base e 1 v n xs := by
  rcases hv : v.ownBlock with _ | k
  · exact h.kept hg (.inl hv)
  · refine h.kept hg (.inr fun he => ?_)
    have h1 := (h.lt k hv).1
    have h2 := hlt k (he.symm.trans hv)
    omega
theorem zs_append (a b : List Nat) : zs (a ++ b) = zs a ++ zs b := by simp [zs]

set_option maxRecDepth 100000 in
set_option maxHeartbeats 4000000 in
theorem joins_any (s t : ByteArray) (w : World) (hT : Tabs w) (hs : s.size ≤ 140737488355328) (ht : t.size ≤ 140737488355328) : Calls Tryd.prog 7 #[.string s, .string t] w fun e w' => e = .returned (.bool true) ∧ Below w.heap.size w w' := by
  obtain ⟨i0, hi, hz0, hz1, hz2⟩ := info_parts Tryd.infoRune
  have HI := Lib.hid hi
  have T0 := Lib.hid hT
  have TW := Lib.hid hT
  clear hT hi
  by_cases hlen : 1500 < s.size
  · have hl : (1500 : Int) < (s.size : Int) := by omega
    go_enter Tryd.func7, Tryd.ntmps7
    go_wp2_with fail
    go_ret
    exact ⟨rfl, Below.refl _ _⟩
  by_cases hlen2 : 1500 < t.size
  · have hl : (s.size : Int) ≤ 1500 := by omega
    have hl2 : (1500 : Int) < (t.size : Int) := by omega
    go_enter Tryd.func7, Tryd.ntmps7
    go_wp2_with fail
    go_ret
    exact ⟨rfl, Below.refl _ _⟩
  have hl : (s.size : Int) ≤ 1500 := by omega
  have hl2 : (t.size : Int) ≤ 1500 := by omega
  have C1 := Lib.hid (fun W hT => runes_any s W (by omega) hT)
  have C2 := Lib.hid (fun W hT => runes_any t W (by omega) hT)
  have V1 := Lib.hid (fun W hT => valid_any s W (by omega) hT)
  have V2 := Lib.hid (fun W hT => valid_any t W (by omega) hT)
  have N1 := Lib.hid (fun W hT => count_any s W (by omega) hT)
  have N2 := Lib.hid (fun W hT => count_any t W (by omega) hT)
  obtain ⟨u, hu⟩ : ∃ u, u = s ++ t := ⟨_, rfl⟩
  have hul : u.data.toList = s.data.toList ++ t.data.toList := by rw [hu]; simp
  have hus : u.size ≤ 3000 := by rw [hu, ByteArray.size_append]; omega
  have hadd : ∀ W : World, (Op.stringOp .add s t).run Tryd.prog W = .ok (.string u) W := fun W => by rw [run_string_add_sum _ _ _ (by omega), ← hu]
  have C3 := Lib.hid (fun W hT => runes_any u W (by omega) hT)
  have N3 := Lib.hid (fun W hT => count_any u W (by omega) hT)
  rw [hul] at C3 N3
  clear hu hul
  unfold cnt at N1 N2 N3
  have hj : ∀ cs ds, runes s.data.toList = some cs → runes t.data.toList = some ds → runes (s.data.toList ++ t.data.toList) = some (cs ++ ds) ∧ cs.length ≤ s.size ∧ ds.length ≤ t.size := by
    intro cs ds h1 h2
    obtain ⟨e1, f1⟩ := (runes_iff _ _).1 h1
    obtain ⟨e2, f2⟩ := (runes_iff _ _).1 h2
    refine ⟨(runes_iff _ _).2 ⟨by rw [txt_append, e1, e2], fun c hc => ?_⟩, ?_, ?_⟩
    · rcases List.mem_append.1 hc with h | h
      · exact f1 c h
      · exact f2 c h
    · have := txt_many cs; rw [← e1, Array.length_toList] at this; exact this
    · have := txt_many ds; rw [← e2, Array.length_toList] at this; exact this
  generalize hR1 : runes s.data.toList = R1 at C1 V1 N1
  generalize hR2 : runes t.data.toList = R2 at C2 V2 N2
  rcases R1 with _ | cs
  · rcases R2 with _ | ds
    all_goals clear hR1 hR2 hj hadd C3 N3
    · go_enter Tryd.func7, Tryd.ntmps7
      go_wp2_with fail
      refine (C1.out _ T0.out).mono ?_
      rintro e w1 ⟨hb1, he⟩
      have hsz_1 := hb1.size
      have Tb_1 := Lib.hid (T0.out.keep hb1)
      clear T0
      have B_1 := Lib.hid hb1
      clear hb1
      have he' : e = .returned (.tuple #[.slice none 0 0, .bool false]) := he
      subst he'
      clear he
      go_wp2_with fail
      refine (C2.out _ Tb_1.out).mono ?_
      rintro e w2 ⟨hb2, he⟩
      have hsz_2 := hb2.size
      have Tb_2 := Lib.hid (Tb_1.out.keep hb2)
      clear Tb_1
      have B_2 := Lib.hid (B_1.out.trans (hb2.mono B_1.out.size))
      clear B_1
      clear hb2
      have he' : e = .returned (.tuple #[.slice none 0 0, .bool false]) := he
      subst he'
      clear he
      go_wp2_with fail
      refine (V1.out _ Tb_2.out).mono ?_
      rintro e w3 ⟨rfl, hb3⟩
      have hsz_3 := hb3.size
      have Tb_3 := Lib.hid (Tb_2.out.keep hb3)
      clear Tb_2
      have B_3 := Lib.hid (B_2.out.trans (hb3.mono B_2.out.size))
      clear B_2
      clear hb3
      go_wp2_with fail
      refine (V2.out _ Tb_3.out).mono ?_
      rintro e w4 ⟨rfl, hb4⟩
      have hsz_4 := hb4.size
      have Tb_4 := Lib.hid (Tb_3.out.keep hb4)
      clear Tb_3
      have B_4 := Lib.hid (B_3.out.trans (hb4.mono B_3.out.size))
      clear B_3
      clear hb4
      go_wp2_with fail
      refine (works_any _ Tb_4.out).mono ?_
      rintro e w5 ⟨rfl, hb5⟩
      have hsz_5 := hb5.size
      have Tb_5 := Lib.hid (Tb_4.out.keep hb5)
      clear Tb_4
      have B_5 := Lib.hid (B_4.out.trans (hb5.mono B_4.out.size))
      clear B_4
      clear hb5
      go_wp2_with fail
      go_ret
      exact ⟨rfl, B_5.out⟩
    · go_enter Tryd.func7, Tryd.ntmps7
      go_wp2_with fail
      refine (C1.out _ T0.out).mono ?_
      rintro e w1 ⟨hb1, he⟩
      have hsz_1 := hb1.size
      have Tb_1 := Lib.hid (T0.out.keep hb1)
      clear T0
      have B_1 := Lib.hid hb1
      clear hb1
      have he' : e = .returned (.tuple #[.slice none 0 0, .bool false]) := he
      subst he'
      clear he
      go_wp2_with fail
      refine (C2.out _ Tb_1.out).mono ?_
      rintro e w2 ⟨hb2, he⟩
      have hsz_2 := hb2.size
      have Tb_2 := Lib.hid (Tb_1.out.keep hb2)
      clear Tb_1
      have B_2 := Lib.hid (B_1.out.trans (hb2.mono B_1.out.size))
      clear B_1
      clear hb2
      obtain ⟨v2, rfl, ho2⟩ := he
      have hlt2 := fun k hk => (ho2.lt k hk).2
      obtain ⟨A2, c2, rfl, _, hcc2⟩ := own_ints ho2
      have O2 := Lib.hid ho2
      clear ho2
      go_wp2_with fail
      refine (V1.out _ Tb_2.out).mono ?_
      rintro e w3 ⟨rfl, hb3⟩
      have hsz_3 := hb3.size
      have Tb_3 := Lib.hid (Tb_2.out.keep hb3)
      clear Tb_2
      have O2_3 := Lib.hid (own_keep O2.out hb3)
      clear O2
      have B_3 := Lib.hid (B_2.out.trans (hb3.mono B_2.out.size))
      clear B_2
      clear hb3
      go_wp2_with fail
      refine (V2.out _ Tb_3.out).mono ?_
      rintro e w4 ⟨rfl, hb4⟩
      have hsz_4 := hb4.size
      have Tb_4 := Lib.hid (Tb_3.out.keep hb4)
      clear Tb_3
      have O2_4 := Lib.hid (own_keep O2_3.out hb4)
      clear O2_3
      have B_4 := Lib.hid (B_3.out.trans (hb4.mono B_3.out.size))
      clear B_3
      clear hb4
      go_wp2_with fail
      refine (works_any _ Tb_4.out).mono ?_
      rintro e w5 ⟨rfl, hb5⟩
      have hsz_5 := hb5.size
      have Tb_5 := Lib.hid (Tb_4.out.keep hb5)
      clear Tb_4
      have O2_5 := Lib.hid (own_keep O2_4.out hb5)
      clear O2_4
      have B_5 := Lib.hid (B_4.out.trans (hb5.mono B_4.out.size))
      clear B_4
      clear hb5
      go_wp2_with fail
      go_ret
      exact ⟨rfl, B_5.out⟩
  · rcases R2 with _ | ds
    · clear hR1 hR2 hj hadd C3 N3
      go_enter Tryd.func7, Tryd.ntmps7
      go_wp2_with fail
      refine (C1.out _ T0.out).mono ?_
      rintro e w1 ⟨hb1, he⟩
      have hsz_1 := hb1.size
      have Tb_1 := Lib.hid (T0.out.keep hb1)
      clear T0
      have B_1 := Lib.hid hb1
      clear hb1
      obtain ⟨v1, rfl, ho1⟩ := he
      have hlt1 := fun k hk => (ho1.lt k hk).2
      obtain ⟨A1, c1, rfl, _, hcc1⟩ := own_ints ho1
      have O1 := Lib.hid ho1
      clear ho1
      go_wp2_with fail
      refine (C2.out _ Tb_1.out).mono ?_
      rintro e w2 ⟨hb2, he⟩
      have hsz_2 := hb2.size
      have Tb_2 := Lib.hid (Tb_1.out.keep hb2)
      clear Tb_1
      have O1_2 := Lib.hid (own_keep O1.out hb2)
      clear O1
      have B_2 := Lib.hid (B_1.out.trans (hb2.mono B_1.out.size))
      clear B_1
      clear hb2
      have he' : e = .returned (.tuple #[.slice none 0 0, .bool false]) := he
      subst he'
      clear he
      go_wp2_with fail
      refine (V1.out _ Tb_2.out).mono ?_
      rintro e w3 ⟨rfl, hb3⟩
      have hsz_3 := hb3.size
      have Tb_3 := Lib.hid (Tb_2.out.keep hb3)
      clear Tb_2
      have O1_3 := Lib.hid (own_keep O1_2.out hb3)
      clear O1_2
      have B_3 := Lib.hid (B_2.out.trans (hb3.mono B_2.out.size))
      clear B_2
      clear hb3
      go_wp2_with fail
      refine (V2.out _ Tb_3.out).mono ?_
      rintro e w4 ⟨rfl, hb4⟩
      have hsz_4 := hb4.size
      have Tb_4 := Lib.hid (Tb_3.out.keep hb4)
      clear Tb_3
      have O1_4 := Lib.hid (own_keep O1_3.out hb4)
      clear O1_3
      have B_4 := Lib.hid (B_3.out.trans (hb4.mono B_3.out.size))
      clear B_3
      clear hb4
      go_wp2_with fail
      refine (works_any _ Tb_4.out).mono ?_
      rintro e w5 ⟨rfl, hb5⟩
      have hsz_5 := hb5.size
      have Tb_5 := Lib.hid (Tb_4.out.keep hb5)
      clear Tb_4
      have O1_5 := Lib.hid (own_keep O1_4.out hb5)
      clear O1_4
      have B_5 := Lib.hid (B_4.out.trans (hb5.mono B_4.out.size))
      clear B_4
      clear hb5
      go_wp2_with fail
      go_ret
      exact ⟨rfl, B_5.out⟩
    · obtain ⟨h3, hcl, hdl⟩ := hj cs ds hR1 hR2
      rw [h3] at C3 N3
      clear hR1 hR2 hj h3
      go_enter Tryd.func7, Tryd.ntmps7
      go_wp2_with fail
      refine (C1.out _ T0.out).mono ?_
      rintro e w1 ⟨hb1, he⟩
      have hsz_1 := hb1.size
      have Tb_1 := Lib.hid (T0.out.keep hb1)
      clear T0
      have B_1 := Lib.hid hb1
      clear hb1
      obtain ⟨v1, rfl, ho1⟩ := he
      have hlt1 := fun k hk => (ho1.lt k hk).2
      obtain ⟨A1, c1, rfl, _, hcc1⟩ := own_ints ho1
      have O1 := Lib.hid ho1
      clear ho1
      go_wp2_with fail
      refine (C2.out _ Tb_1.out).mono ?_
      rintro e w2 ⟨hb2, he⟩
      have hsz_2 := hb2.size
      have Tb_2 := Lib.hid (Tb_1.out.keep hb2)
      clear Tb_1
      have O1_2 := Lib.hid (own_keep O1.out hb2)
      clear O1
      have B_2 := Lib.hid (B_1.out.trans (hb2.mono B_1.out.size))
      clear B_1
      clear hb2
      obtain ⟨v2, rfl, ho2⟩ := he
      have hlt2 := fun k hk => (ho2.lt k hk).2
      obtain ⟨A2, c2, rfl, _, hcc2⟩ := own_ints ho2
      have O2 := Lib.hid ho2
      clear ho2
      go_wp2_with fail
      refine (C3.out _ Tb_2.out).mono ?_
      rintro e w3 ⟨hb3, he⟩
      have hsz_3 := hb3.size
      have Tb_3 := Lib.hid (Tb_2.out.keep hb3)
      clear Tb_2
      have O1_3 := Lib.hid (own_keep O1_2.out hb3)
      clear O1_2
      have O2_3 := Lib.hid (own_keep O2.out hb3)
      clear O2
      have B_3 := Lib.hid (B_2.out.trans (hb3.mono B_2.out.size))
      clear B_2
      clear hb3
      obtain ⟨v3, rfl, ho3⟩ := he
      have hlt3 := fun k hk => (ho3.lt k hk).2
      obtain ⟨A3, c3, rfl, _, hcc3⟩ := own_ints ho3
      have O3 := Lib.hid ho3
      clear ho3
      have L3 := Lib.hid (RI.of_own O3.out)
      have hsz3 := B_3.out.size
      go_wp2_with (at_builtin; refine wpList_append_wanted _ (by rfl) (.tmp 58) (.tmp 59) _ rfl w.heap.size 21 i0 _ 1 4 Tryd.underlying22 HI.out hz0 hz1 hz2 rfl (by decide) _ cs.length (is .i32 (zs cs)) rfl O1_3.out _ A2 ds.length c2 (is .i32 (zs ds)) rfl (RI.of_own O2_3.out) (is_one _ _) (by unfold maxLen; omega) (by omega) hsz3 ?_; intro v4 w4 hown4 hg4 hat4; have O3b := kept_other O3.out hg4 (fun k hk => by have := hlt1 k hk; omega); obtain ⟨A4, c4, rfl, hri4, _⟩ := own_ints (zs := zs cs ++ zs ds) (by rw [is_append]; exact hown4); have M4 := Lib.hid hri4; have L4 := Lib.hid (RI.of_own O3b); have B_4 := Lib.hid (own_below B_3.out (Nat.le_refl _) O1_3.out (Nat.le_refl _) hg4); have Tb_4 := Lib.hid (TW.out.keep B_4.out); clear hown4 hg4 hat4 O3b hri4)
      
      refine (same_any A3 A4 (cs.length + ds.length) c3 (cs.length + ds.length) c4 (zs (cs ++ ds)) (zs cs ++ zs ds) _ (by rw [← List.length_append]; exact L4.out) M4.out (by omega)).mono ?_
      rintro e w5 ⟨rfl, hb5⟩
      have hsz_5 := hb5.size
      clear L4
      clear M4
      have Tb_5 := Lib.hid (Tb_4.out.keep hb5)
      clear Tb_4
      have B_5 := Lib.hid (B_4.out.trans (hb5.mono B_4.out.size))
      clear B_4
      clear hb5
      rw [decide_eq_true (zs_append cs ds)]
      go_wp2_with fail
      refine (N3.out _ Tb_5.out).mono ?_
      rintro e w6 ⟨rfl, hb6⟩
      have hsz_6 := hb6.size
      have Tb_6 := Lib.hid (Tb_5.out.keep hb6)
      clear Tb_5
      have B_6 := Lib.hid (B_5.out.trans (hb6.mono B_5.out.size))
      clear B_5
      clear hb6
      rw [List.length_append]
      go_wp2_with fail
      refine (N1.out _ Tb_6.out).mono ?_
      rintro e w7 ⟨rfl, hb7⟩
      have hsz_7 := hb7.size
      have Tb_7 := Lib.hid (Tb_6.out.keep hb7)
      clear Tb_6
      have B_7 := Lib.hid (B_6.out.trans (hb7.mono B_6.out.size))
      clear B_6
      clear hb7
      go_wp2_with fail
      refine (N2.out _ Tb_7.out).mono ?_
      rintro e w8 ⟨rfl, hb8⟩
      have hsz_8 := hb8.size
      have Tb_8 := Lib.hid (Tb_7.out.keep hb8)
      clear Tb_7
      have B_8 := Lib.hid (B_7.out.trans (hb8.mono B_7.out.size))
      clear B_7
      clear hb8
      have hq : (((cs.length + ds.length : Nat) : Int) == (cs.length : Int) + (ds.length : Int)) = true := by rw [beq_iff_eq]; omega
      go_wp2_with fail
      refine (works_any _ Tb_8.out).mono ?_
      rintro e w9 ⟨rfl, hb9⟩
      have hsz_9 := hb9.size
      have Tb_9 := Lib.hid (Tb_8.out.keep hb9)
      clear Tb_8
      have B_9 := Lib.hid (B_8.out.trans (hb9.mono B_8.out.size))
      clear B_8
      clear hb9
      go_wp2_with fail
      go_ret
      exact ⟨rfl, B_9.out⟩
end Go.Proofs.YtcnedljblljhoaaDoor.Utf
