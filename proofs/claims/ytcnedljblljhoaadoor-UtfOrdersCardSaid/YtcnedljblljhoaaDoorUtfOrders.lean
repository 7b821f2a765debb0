/-
  Strings are in the order of their characters: the plain law, the contract of 'compare', the walk of UtfOrders. Conditions: the two tables of unicode/utf8 lie as their initialisers lay them. (Printed by gen/utforders.py.)
-/
import Derived.Test.YtcnedljblljhoaaDoorUtfWorks
import Derived.WalkLawsBesides
namespace Go.Proofs.YtcnedljblljhoaaDoor.Utf
open Go.RowKit Wd

/-- lists of numbers, compared -/
def cmpI : List Int → List Int → Int
  | [], [] => 0
  | [], _ :: _ => -1
  | _ :: _, [] => 1
  | x :: a, y :: b => if x < y then -1 else if y < x then 1 else cmpI a b

set_option maxHeartbeats 4000000 in
theorem enc_less (c d : Nat) (hc : chr c) (hd : chr d) (h : c < d) (r r' : List UInt8) : Op.bytesLess (enc c ++ r) (enc d ++ r') = true := by
  unfold chr at hc hd
  obtain ⟨hc, _⟩ := hc
  obtain ⟨hd, _⟩ := hd
  unfold enc
  split
  · split
    · simp only [List.cons_append, List.nil_append, Op.bytesLess, Bool.or_eq_true, Bool.and_eq_true, decide_eq_true_eq, UInt8.lt_iff_toNat_lt, UInt8.toNat_ofNat']; left; omega
    · split
      · simp only [List.cons_append, List.nil_append, Op.bytesLess, Bool.or_eq_true, Bool.and_eq_true, decide_eq_true_eq, UInt8.lt_iff_toNat_lt, UInt8.toNat_ofNat']; left; omega
      · split
        · simp only [List.cons_append, List.nil_append, Op.bytesLess, Bool.or_eq_true, Bool.and_eq_true, decide_eq_true_eq, UInt8.lt_iff_toNat_lt, UInt8.toNat_ofNat']; left; omega
        · simp only [List.cons_append, List.nil_append, Op.bytesLess, Bool.or_eq_true, Bool.and_eq_true, decide_eq_true_eq, UInt8.lt_iff_toNat_lt, UInt8.toNat_ofNat']; left; omega
  · rw [if_neg (by omega : ¬ d < 128)]
    split
    · split
      · simp only [List.cons_append, List.nil_append, Op.bytesLess, Bool.or_eq_true, Bool.and_eq_true, decide_eq_true_eq, beq_iff_eq, UInt8.lt_iff_toNat_lt, ← UInt8.toNat_inj, UInt8.toNat_ofNat']
        rcases Nat.lt_or_ge (c / 64) (d / 64) with h1 | h1
        · left; omega
        · right; refine ⟨by omega, .inl (by omega)⟩
      · split
        · simp only [List.cons_append, List.nil_append, Op.bytesLess, Bool.or_eq_true, Bool.and_eq_true, decide_eq_true_eq, UInt8.lt_iff_toNat_lt, UInt8.toNat_ofNat']; left; omega
        · simp only [List.cons_append, List.nil_append, Op.bytesLess, Bool.or_eq_true, Bool.and_eq_true, decide_eq_true_eq, UInt8.lt_iff_toNat_lt, UInt8.toNat_ofNat']; left; omega
    · rw [if_neg (by omega : ¬ d < 2048)]
      split
      · split
        · simp only [List.cons_append, List.nil_append, Op.bytesLess, Bool.or_eq_true, Bool.and_eq_true, decide_eq_true_eq, beq_iff_eq, UInt8.lt_iff_toNat_lt, ← UInt8.toNat_inj, UInt8.toNat_ofNat']
          rcases Nat.lt_or_ge (c / 4096) (d / 4096) with h1 | h1
          · left; omega
          · right; refine ⟨by omega, ?_⟩
            rcases Nat.lt_or_ge (c / 64) (d / 64) with h2 | h2
            · left; omega
            · right; refine ⟨by omega, .inl (by omega)⟩
        · simp only [List.cons_append, List.nil_append, Op.bytesLess, Bool.or_eq_true, Bool.and_eq_true, decide_eq_true_eq, UInt8.lt_iff_toNat_lt, UInt8.toNat_ofNat']; left; omega
      · rw [if_neg (by omega : ¬ d < 65536)]
        simp only [List.cons_append, List.nil_append, Op.bytesLess, Bool.or_eq_true, Bool.and_eq_true, decide_eq_true_eq, beq_iff_eq, UInt8.lt_iff_toNat_lt, ← UInt8.toNat_inj, UInt8.toNat_ofNat']
        rcases Nat.lt_or_ge (c / 262144) (d / 262144) with h1 | h1
        · left; omega
        · right; refine ⟨by omega, ?_⟩
          rcases Nat.lt_or_ge (c / 4096) (d / 4096) with h2 | h2
          · left; omega
          · right; refine ⟨by omega, ?_⟩
            rcases Nat.lt_or_ge (c / 64) (d / 64) with h3 | h3
            · left; omega
            · right; refine ⟨by omega, .inl (by omega)⟩
theorem less_same (e a b : List UInt8) : Op.bytesLess (e ++ a) (e ++ b) = Op.bytesLess a b := by
  induction e with
  | nil => rfl
  | cons x e ih => simp only [List.cons_append, Op.bytesLess, ih]; simp [UInt8.lt_irrefl]
theorem less_not (a b : List UInt8) (h : Op.bytesLess a b = true) : Op.bytesLess b a = false ∧ ¬ b = a := by
  induction a generalizing b with
  | nil => cases b <;> simp_all [Op.bytesLess]
  | cons x a ih =>
    match b with
    | [] => simp [Op.bytesLess] at h
    | y :: b =>
      simp only [Op.bytesLess, Bool.or_eq_true, Bool.and_eq_true, decide_eq_true_eq, beq_iff_eq] at h ⊢
      rcases h with h | ⟨rfl, h⟩
      · have h1 : ¬ y < x := UInt8.not_lt.2 (UInt8.le_of_lt h)
        have h2 : y ≠ x := fun e => by subst e; exact UInt8.lt_irrefl _ h
        simp [h1, h2]
      · obtain ⟨h1, h2⟩ := ih b h
        simp [UInt8.lt_irrefl, h1, h2]
/-- the order of strings is that of their characters -/
theorem order_txt (a b : List Nat) (ha : ∀ c ∈ a, chr c) (hb : ∀ c ∈ b, chr c) : Op.bytesLess (txt a) (txt b) = decide (cmpI (zs a) (zs b) < 0) ∧ (txt a == txt b) = decide (cmpI (zs a) (zs b) = 0) := by
  induction a generalizing b with
  | nil =>
    match b with
    | [] => exact ⟨rfl, rfl⟩
    | y :: b =>
      have hp := enc_pos y
      rw [txt_cons, txt_nil]
      match he : enc y, hp with
      | z :: r, _ => exact ⟨rfl, rfl⟩
  | cons x a ih =>
    match b with
    | [] =>
      have hp := enc_pos x
      rw [txt_cons, txt_nil]
      match he : enc x, hp with
      | z :: r, _ => exact ⟨rfl, rfl⟩
    | y :: b =>
      rw [txt_cons, txt_cons]
      show _ = decide ((if (x : Int) < (y : Int) then (-1 : Int) else if (y : Int) < (x : Int) then 1 else cmpI (zs a) (zs b)) < 0) ∧ _ = decide ((if (x : Int) < (y : Int) then (-1 : Int) else if (y : Int) < (x : Int) then 1 else cmpI (zs a) (zs b)) = 0)
      rcases Nat.lt_trichotomy x y with h | h | h
      · have hl := enc_less x y (ha x (by simp)) (hb y (by simp)) h (txt a) (txt b)
        rw [if_pos (by omega), hl]
        refine ⟨rfl, ?_⟩
        rw [beq_eq_false_iff_ne.2 (fun e => (less_not _ _ hl).2 e.symm)]; rfl
      · subst h
        obtain ⟨i1, i2⟩ := ih b (fun c hc => ha c (by simp [hc])) (fun c hc => hb c (by simp [hc]))
        rw [if_neg (by omega), if_neg (by omega), less_same, i1]
        refine ⟨rfl, ?_⟩
        rw [← i2]
        rw [Bool.eq_iff_iff]; simp
      · have hl := enc_less y x (hb y (by simp)) (ha x (by simp)) h (txt b) (txt a)
        rw [if_neg (by omega), if_pos (by omega), (less_not _ _ hl).1]
        refine ⟨rfl, ?_⟩
        rw [beq_eq_false_iff_ne.2 (less_not _ _ hl).2]; rfl

theorem cmpI_same (e a b : List Int) : cmpI (e ++ a) (e ++ b) = cmpI a b := by
  induction e with
  | nil => rfl
  | cons x e ih => simp only [List.cons_append, cmpI]; rw [if_neg (by omega), if_neg (by omega), ih]
theorem cmpI_at (l l2 : List Int) (k : Nat) (h : l.take k = l2.take k) (h1 : k < l.length) (h2 : k < l2.length) (hne : l.getD k 0 ≠ l2.getD k 0) : cmpI l l2 = if l.getD k 0 < l2.getD k 0 then -1 else 1 := by
  have e1 : l = l.take k ++ (l.getD k 0 :: l.drop (k + 1)) := by simp only [List.getD, List.getElem?_eq_getElem h1, Option.getD_some]; rw [List.getElem_cons_drop, List.take_append_drop]
  have e2 : l2 = l.take k ++ (l2.getD k 0 :: l2.drop (k + 1)) := by rw [h]; simp only [List.getD, List.getElem?_eq_getElem h2, Option.getD_some]; rw [List.getElem_cons_drop, List.take_append_drop]
  conv => lhs; rw [e1, e2, cmpI_same]
  simp only [cmpI]
  split
  · rfl
  · rw [if_pos (by omega)]
theorem cmpI_end (l l2 : List Int) (k : Nat) (h : l.take k = l2.take k) (hk : k ≤ l.length) (hk2 : k ≤ l2.length) (he : k = l.length ∨ k = l2.length) : cmpI l l2 = if l.length < l2.length then -1 else if l2.length < l.length then 1 else 0 := by
  have e1 : l = l.take k ++ l.drop k := (List.take_append_drop k l).symm
  have e2 : l2 = l.take k ++ l2.drop k := by rw [h]; exact (List.take_append_drop k l2).symm
  have d1 : (l.drop k).length = l.length - k := List.length_drop
  have d2 : (l2.drop k).length = l2.length - k := List.length_drop
  conv => lhs; rw [e1, e2, cmpI_same]
  match ha : l.drop k, hb : l2.drop k with
  | [], [] => rw [ha] at d1; rw [hb] at d2; simp at d1 d2; rw [if_neg (by omega), if_neg (by omega)]; rfl
  | [], y :: b => rw [ha] at d1; rw [hb] at d2; simp at d1 d2; rw [if_pos (by omega)]; rfl
  | x :: a, [] => rw [ha] at d1; rw [hb] at d2; simp at d1 d2; rw [if_neg (by omega), if_pos (by omega)]; rfl
  | x :: a, y :: b => rw [ha] at d1; rw [hb] at d2; simp at d1 d2; omega

set_option maxHeartbeats 1000000 in
theorem compare_any (A A2 : Option Addr) (n c n2 c2 : Nat) (l l2 : List Int) (w : World) (hr : RI .i32 w A n l) (hr2 : RI .i32 w A2 n2 l2) (hn : n ≤ 140737488355328) (hn2 : n2 ≤ 140737488355328) :
    Calls Tryd.prog 22 #[.slice A n c, .slice A2 n2 c2] w fun e w' => e = .returned (.int .i64 (cmpI l l2)) ∧ Below w.heap.size w w' := by
  have HR := Lib.hid hr
  have HR2 := Lib.hid hr2
  have HL := Lib.hid hr.len
  have HL2 := Lib.hid hr2.len
  clear hr hr2
  go_enter Tryd.func22, Tryd.ntmps22
  go_wp2_with fail
  go_loopw [5] (fun i wr => ∃ k : Nat, k ≤ n ∧ k ≤ n2 ∧ i = .int .i64 k ∧ l.take k = l2.take k ∧ Below w.heap.size w wr) (fun i _ => n - (intOf i).toNat)
  case atStart => exact ⟨0, Nat.zero_le _, Nat.zero_le _, rfl, by simp, Below.refl _ _⟩
  case round =>
    obtain ⟨k, hk, hk2, rfl, heq, hbel⟩ := hrel
    have HE := Lib.hid heq
    clear heq
    by_cases hlt : k < n ∧ k < n2
    · obtain ⟨h1, h2⟩ := hlt
      obtain ⟨ad, rfl, hb1, hc1⟩ := (HR.out.keep hbel).at_ h1
      obtain ⟨ad2, rfl, hb2, hc2⟩ := (HR2.out.keep hbel).at_ h2
      have g2 : (k : Int) < (n : Int) := by omega
      have g4 : (k : Int) < (n2 : Int) := by omega
      have g3 : (0 : Int) ≤ (k : Int) := by omega
      by_cases hxy : l.getD k 0 = l2.getD k 0
      · have hn1 := Lib.hid (show l.take (k + 1) = l2.take (k + 1) by
          rw [take_snocI l k (by have := HL.out; omega), take_snocI l2 k (by have := HL2.out; omega), HE.out, hxy])
        rw [hxy] at hc1
        generalize l2.getD k 0 = y at hc1 hc2 hxy
        clear hxy
        go_wp2_with fail
        go_quiet (fail)
        go_wp2_with fail
        go_quiet (fail)
        go_wp2_with fail
        go_roundw
        case rel => exact ⟨k + 1, by omega, by omega, by go_num, hn1.out, below_drewN hbel _⟩
        case measure => simp [intOf]; omega
      · have hd := cmpI_at l l2 k HE.out (by have := HL.out; omega) (by have := HL2.out; omega) hxy
        generalize l2.getD k 0 = y at hc2 hxy hd
        generalize l.getD k 0 = x at hc1 hxy hd
        by_cases hxl : x < y
        · rw [if_pos hxl] at hd
          have HD := Lib.hid hd
          clear hd hxy
          go_wp2_with fail
          go_quiet (fail)
          go_wp2_with fail
          go_ret
          exact ⟨by rw [HD.out]; rfl, by first | exact below_drewN hbel _ | exact below_drewN (below_drewN hbel _) _⟩
        · rw [if_neg hxl] at hd
          have HD := Lib.hid hd
          have hyl : y < x := by omega
          clear hd hxy
          go_wp2_with fail
          go_quiet (fail)
          go_wp2_with fail
          go_quiet (fail)
          go_wp2_with fail
          go_ret
          exact ⟨by rw [HD.out]; rfl, by first | exact below_drewN hbel _ | exact below_drewN (below_drewN hbel _) _⟩
    · have hd := cmpI_end l l2 k HE.out (by have := HL.out; omega) (by have := HL2.out; omega) (by have := HL.out; have := HL2.out; omega)
      rw [HL.out, HL2.out] at hd
      have hor : k = n ∨ (k < n ∧ k = n2) := by omega
      rcases (show n < n2 ∨ n2 < n ∨ n = n2 by omega) with h | h | h
      · rw [if_pos h] at hd
        have HD := Lib.hid hd
        clear hd hlt
        rcases hor with h1 | ⟨h1, h2⟩
        · have g1 : (n : Int) ≤ (k : Int) := by omega
          go_wp2_with fail
          go_ret
          exact ⟨by rw [HD.out]; rfl, hbel⟩
        · omega
      · rw [if_neg (by omega), if_pos h] at hd
        have HD := Lib.hid hd
        clear hd hlt
        rcases hor with h1 | ⟨h1, h2⟩
        · omega
        · have g1 : (k : Int) < (n : Int) := by omega
          have g2 : (n2 : Int) ≤ (k : Int) := by omega
          go_wp2_with fail
          go_ret
          exact ⟨by rw [HD.out]; rfl, hbel⟩
      · subst h
        rw [if_neg (by omega), if_neg (by omega)] at hd
        have HD := Lib.hid hd
        have g1 : (n : Int) ≤ (k : Int) := by omega
        clear hd hlt hor
        go_wp2_with fail
        go_ret
        exact ⟨by rw [HD.out]; rfl, hbel⟩

set_option maxRecDepth 100000 in
set_option maxHeartbeats 4000000 in
theorem orders_any (A A2 : Option Addr) (n c n2 c2 : Nat) (l l2 : List Int) (w : World) (hT : Tabs w) (hr : RI .i32 w A n l) (hr2 : RI .i32 w A2 n2 l2) (hn : n ≤ 140737488355328) (hn2 : n2 ≤ 140737488355328) (h1 : ∀ z ∈ l, -2147483648 ≤ z ∧ z ≤ 2147483647) (h2 : ∀ z ∈ l2, -2147483648 ≤ z ∧ z ≤ 2147483647) :
    Calls Tryd.prog 9 #[.slice A n c, .slice A2 n2 c2] w fun e w' => e = .returned (.bool true) ∧ Below w.heap.size w w' := by
  have T0 := Lib.hid hT
  have L0 := Lib.hid hr
  have M0 := Lib.hid hr2
  have H1 := Lib.hid h1
  have H2 := Lib.hid h2
  have hla := chars_len l
  have hlb := chars_len l2
  rw [hr.len] at hla
  rw [hr2.len] at hlb
  clear hT hr hr2 h1 h2
  by_cases hlen : 500 < n
  · have hl : (500 : Int) < (n : Int) := by omega
    go_enter Tryd.func9, Tryd.ntmps9
    go_wp2_with fail
    go_ret
    exact ⟨rfl, Below.refl _ _⟩
  by_cases hlen2 : 500 < n2
  · have hl : (n : Int) ≤ 500 := by omega
    have hl2 : (500 : Int) < (n2 : Int) := by omega
    go_enter Tryd.func9, Tryd.ntmps9
    go_wp2_with fail
    go_ret
    exact ⟨rfl, Below.refl _ _⟩
  · have hl : (n : Int) ≤ 500 := by omega
    have hl2 : (n2 : Int) ≤ 500 := by omega
    have ha := chars_chr l
    have hb := chars_chr l2
    generalize hca : chars l = a at ha hla
    generalize hcb : chars l2 = b at hb hlb
    obtain ⟨s1, hs1⟩ : ∃ s1 : ByteArray, s1 = ⟨(txt a).toArray⟩ := ⟨_, rfl⟩
    obtain ⟨s2, hs2⟩ : ∃ s2 : ByteArray, s2 = ⟨(txt b).toArray⟩ := ⟨_, rfl⟩
    have d1 : s1.data.toList = txt a := by rw [hs1]
    have d2 : s2.data.toList = txt b := by rw [hs2]
    have z1 : s1.size = (txt a).length := by rw [hs1]; rfl
    have z2 : s2.size = (txt b).length := by rw [hs2]; rfl
    have t1 := txt_len a
    have t2 := txt_len b
    have C1 := Lib.hid (fun W hT => runes_any s1 W (by omega) hT)
    have C2 := Lib.hid (fun W hT => runes_any s2 W (by omega) hT)
    rw [d1, runes_txt a ha] at C1
    rw [d2, runes_txt b hb] at C2
    obtain ⟨o1, o2⟩ := order_txt a b ha hb
    rw [← d1, ← d2, ← ByteArray.toList_eq, ← ByteArray.toList_eq] at o1 o2
    have HLT := Lib.hid o1
    have HEQ := Lib.hid o2
    have HS1 := Lib.hid (show s1 = ⟨(txt (chars l)).toArray⟩ by rw [hca]; exact hs1)
    have HS2 := Lib.hid (show s2 = ⟨(txt (chars l2)).toArray⟩ by rw [hcb]; exact hs2)
    clear ha hb hca hcb hs1 hs2 d1 d2 z1 z2 t1 t2 o1 o2
    go_enter Tryd.func9, Tryd.ntmps9
    go_wp2_with fail
    refine (text_any A n c l _ L0.out (by omega) H1.out).mono ?_
    rintro e w1 ⟨rfl, hb1⟩
    have hsz_1 := hb1.size
    have Tb_1 := Lib.hid (T0.out.keep hb1)
    clear T0
    have L_1 := Lib.hid (L0.out.keep hb1)
    clear L0
    have M_1 := Lib.hid (M0.out.keep hb1)
    clear M0
    have B_1 := Lib.hid hb1
    clear hb1
    rw [← HS1.out]
    go_wp2_with fail
    refine (text_any A2 n2 c2 l2 _ M_1.out (by omega) H2.out).mono ?_
    rintro e w2 ⟨rfl, hb2⟩
    have hsz_2 := hb2.size
    clear L_1
    clear M_1
    have Tb_2 := Lib.hid (Tb_1.out.keep hb2)
    clear Tb_1
    have B_2 := Lib.hid (B_1.out.trans (hb2.mono B_1.out.size))
    clear B_1
    clear hb2
    rw [← HS2.out]
    go_wp2_with fail
    refine (C1.out _ Tb_2.out).mono ?_
    rintro e w3 ⟨hb3, he⟩
    have hsz_3 := hb3.size
    have Tb_3 := Lib.hid (Tb_2.out.keep hb3)
    clear Tb_2
    have B_3 := Lib.hid (B_2.out.trans (hb3.mono B_2.out.size))
    clear B_2
    clear hb3
    obtain ⟨v1, rfl, ho1⟩ := he
    obtain ⟨B1, d1, rfl, hri1, _⟩ := own_ints ho1
    have K1 := Lib.hid hri1
    clear ho1 hri1
    go_wp2_with fail
    refine (C2.out _ Tb_3.out).mono ?_
    rintro e w4 ⟨hb4, he⟩
    have hsz_4 := hb4.size
    have Tb_4 := Lib.hid (Tb_3.out.keep hb4)
    clear Tb_3
    have K1_4 := Lib.hid (K1.out.keep hb4)
    clear K1
    have B_4 := Lib.hid (B_3.out.trans (hb4.mono B_3.out.size))
    clear B_3
    clear hb4
    obtain ⟨v2, rfl, ho2⟩ := he
    obtain ⟨B2, d2, rfl, hri2, _⟩ := own_ints ho2
    have K2 := Lib.hid hri2
    clear ho2 hri2
    go_wp2_with fail
    refine (compare_any B1 B2 a.length d1 b.length d2 (zs a) (zs b) _ K1_4.out K2.out (by omega) (by omega)).mono ?_
    rintro e w5 ⟨rfl, hb5⟩
    have hsz_5 := hb5.size
    clear K1_4
    clear K2
    have Tb_5 := Lib.hid (Tb_4.out.keep hb5)
    clear Tb_4
    have B_5 := Lib.hid (B_4.out.trans (hb5.mono B_4.out.size))
    clear B_4
    clear hb5
    generalize hcm : cmpI (zs a) (zs b) = C at HLT HEQ ⊢
    clear hcm
    have hlt := HLT.out
    have heq := HEQ.out
    rcases (show C < 0 ∨ C = 0 ∨ 0 < C by omega) with hC | hC | hC
    · rw [decide_eq_true hC] at hlt
      rw [decide_eq_false (show ¬ C = 0 by omega)] at heq
      have hq : (C == 0) = false := by rw [beq_eq_false_iff_ne]; omega
      clear HLT HEQ
      go_wp2_with fail
      refine (works_any _ Tb_5.out).mono ?_
      rintro e w6 ⟨rfl, hb6⟩
      have Tb_6 := Lib.hid (Tb_5.out.keep hb6)
      clear Tb_5
      have B_6 := Lib.hid (B_5.out.trans (hb6.mono B_5.out.size))
      clear B_5
      clear hb6
      go_wp2_with fail
      go_ret
      exact ⟨rfl, B_6.out⟩
    · subst hC
      rw [decide_eq_false (show ¬ (0 : Int) < 0 by omega)] at hlt
      rw [decide_eq_true rfl] at heq
      clear HLT HEQ
      go_wp2_with fail
      refine (works_any _ Tb_5.out).mono ?_
      rintro e w6 ⟨rfl, hb6⟩
      have Tb_6 := Lib.hid (Tb_5.out.keep hb6)
      clear Tb_5
      have B_6 := Lib.hid (B_5.out.trans (hb6.mono B_5.out.size))
      clear B_5
      clear hb6
      go_wp2_with fail
      go_ret
      exact ⟨rfl, B_6.out⟩
    · have hdd : decide (C < 0) = false := decide_eq_false (by omega)
      rw [decide_eq_false (show ¬ C < 0 by omega)] at hlt
      rw [decide_eq_false (show ¬ C = 0 by omega)] at heq
      have hq : (C == 0) = false := by rw [beq_eq_false_iff_ne]; omega
      clear HLT HEQ
      go_wp2_with fail
      refine (works_any _ Tb_5.out).mono ?_
      rintro e w6 ⟨rfl, hb6⟩
      have Tb_6 := Lib.hid (Tb_5.out.keep hb6)
      clear Tb_5
      have B_6 := Lib.hid (B_5.out.trans (hb6.mono B_5.out.size))
      clear B_5
      clear hb6
      go_wp2_with fail
      go_ret
      exact ⟨rfl, B_6.out⟩

end Go.Proofs.YtcnedljblljhoaaDoor.Utf
