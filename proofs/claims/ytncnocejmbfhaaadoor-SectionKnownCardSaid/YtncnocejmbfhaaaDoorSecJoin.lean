/-
  The contracts of Join: the file of some parts, by package section and by the reference. Conditions: the parts can be read; the lengths of their data add up to a number within the form's reach; the table of package crc holds its numbers.
-/
import Derived.Test.YtncnocejmbfhaaaDoorSecChk
import Derived.Test.YtncnocejmbfhaaaDoorCrcRef
namespace Go.Proofs.YtncnocejmbfhaaaDoor.Sec
open Go.RowKit Wd Cod Crc

/-- a literal of the call's own -/
theorem own_lit (w : World) (C : Array Value) (e : TypeId) (size n : Nat) (xs : List Value) (hC : C.toList = xs) (hn : xs.length = n * size) (hm : n ≤ maxLen) :
    (w.alloc (.cells C e)).ownsRow w.heap.size e size (.slice (some ⟨w.heap.size, 0, none⟩) n n) n xs := by
  have hs : C.size = n * size := by rw [← Array.length_toList, hC, hn]
  refine ⟨hn, .inr ⟨w.heap.size, n, C, rfl, Nat.le_refl _, heap_alloc_new w _, Nat.le_refl _, hm, hs, ?_⟩⟩
  rw [hC, List.take_of_length_le (by omega)]

theorem four_cells (s : BitVec 32) : bs (four s) = [.int .u8 ((s.toNat : Int) % 256), .int .u8 ((s.toNat : Int) / 256 % 256), .int .u8 ((s.toNat : Int) / 65536 % 256), .int .u8 ((s.toNat : Int) / 16777216)] := by
  have h : ∀ x : Nat, (UInt8.ofNat (x % 256)).toNat = x % 256 := fun x => toNat_small _ (Nat.mod_lt _ (by decide))
  have hs := b_lt s
  simp only [bs, four, List.map_cons, List.map_nil, h]
  have e : s.toNat / 16777216 % 256 = s.toNat / 16777216 := Nat.mod_eq_of_lt (by omega)
  rw [e]
  simp

theorem fourR_any (s : BitVec 32) (w : World) : Calls Tryd.prog 29 #[.int .u32 (s.toNat : Int)] w fun e w' => ∃ v, e = .returned v ∧ w'.ownsRow w.heap.size 5 1 v 4 (bs (four s)) ∧ Below w.heap.size w w' := by
  have HF := Lib.hid (four_cells s)
  have hs := b_lt s
  generalize s.toNat = z at HF hs ⊢
  go_enter Tryd.func29, Tryd.ntmps29
  go_wp2_with fail
  go_ret
  exact ⟨_, rfl, own_lit w _ _ 1 4 _ HF.out.symm (by rw [bs_length]; rfl) (by decide), (Below.refl _ _).alloc (Nat.le_refl _) _⟩

theorem sumBytes_any (A : Option Addr) (n c : Nat) (l : List UInt8) (w : World) (ht : Tab w) (hr : RB w A n l) (hn : n ≤ 140737488355328) :
    Calls Tryd.prog 25 #[.slice A n c] w fun e w' => ∃ v, e = .returned v ∧ w'.ownsRow w.heap.size 5 1 v 4 (bs (sum4 l)) ∧ Below w.heap.size w w' := by
  have HC := Lib.hid (sum_any A n c l w ht hr (by omega))
  have HF := Lib.hid (four_cells (Crc.add 0#32 l))
  have hs := b_lt (Crc.add 0#32 l)
  clear ht hr
  unfold sum4
  generalize Crc.add 0#32 l = s at HC HF hs ⊢
  go_enter Tryd.func25, Tryd.ntmps25
  go_wp2_with fail
  refine HC.out.mono ?_
  rintro e w' ⟨rfl, rfl⟩
  go_wp2_with fail
  go_ret
  exact ⟨_, rfl, own_lit w _ _ 1 4 _ HF.out.symm (by rw [bs_length]; rfl) (by decide), (Below.refl _ _).alloc (Nat.le_refl _) _⟩

/-- how Join ends -/
def JPost (w : World) (l : List Pt) (e : Ending) (w' : World) : Prop :=
  Below w.heap.size w w' ∧ ((chk l = 0 ∧ ∃ v, e = .returned (.tuple #[v, .int .i64 0]) ∧ w'.ownsRow w.heap.size 5 1 v (file l).length (bs (file l))) ∨ (chk l ≠ 0 ∧ e = .returned (.tuple #[.slice none 0 0, .int .i64 (chk l : Nat)])))
theorem JPost.bad {w w' : World} {l : List Pt} (h : chk l ≠ 0) (hb : Below w.heap.size w w') : JPost w l (.returned (.tuple #[.slice none 0 0, .int .i64 (chk l : Nat)])) w' := ⟨hb, .inr ⟨h, rfl⟩⟩
theorem JPost.good {w w' : World} {l : List Pt} {v : Value} {N : Nat} {L : List UInt8} (h : chk l = 0) (hb : Below w.heap.size w w') (hL : L = file l) (ho : w'.ownsRow w.heap.size 5 1 v N (bs L)) : JPost w l (.returned (.tuple #[v, .int .i64 0])) w' := by
  subst hL
  have hN : N = (file l).length := by have := ho.1; rw [bs_length] at this; omega
  subst hN
  exact ⟨hb, .inl ⟨h, v, rfl, ho⟩⟩
theorem hd_len (p : Pt) (h : p.name.data.toList.length ≤ 16) : (hd p).length ≤ 36 := by
  have h1 := put_len p.name.data.toList.length
  have h2 := put_len p.data.length
  unfold hd putT
  simp only [List.length_append]; omega
/-- what a round of Join's first loop keeps -/
def J1 (ps : List PV) (n : Nat) (w : World) (out i : Value) (wr : World) : Prop :=
  ∃ (k N : Nat) (L : List UInt8), k ≤ n ∧ i = .int .i64 (k : Int) ∧ L = magic ++ put n ++ (pts (ps.take k)).flatMap hd ∧ N ≤ 14 + 40 * k ∧ wr.ownsRow w.heap.size 5 1 out N (bs L) ∧ Below w.heap.size w wr
def J2 (ps : List PV) (n : Nat) (w : World) (out i : Value) (wr : World) : Prop :=
  ∃ (k N : Nat) (L : List UInt8), k ≤ n ∧ i = .int .i64 (k : Int) ∧ L = magic ++ put n ++ (pts ps).flatMap hd ++ (pts (ps.take k)).flatMap Pt.data ∧ N ≤ 14 + 40 * n + total (pts (ps.take k)) ∧ wr.ownsRow w.heap.size 5 1 out N (bs L) ∧ Below w.heap.size w wr
theorem ne_bool {a : Nat} (h : a ≠ 0) : (((a : Nat) : Int) != 0) = true := by rw [bne_iff_ne]; omega
theorem own_len {w : World} {base n : Nat} {e : TypeId} {v : Value} {l : List UInt8} (h : w.ownsRow base e 1 v n (bs l)) : l.length = n := by have := h.1; rw [bs_length] at this; omega
theorem hds_snoc {ps : List PV} {k : Nat} {p : PV} (h : ps[k]? = some p) : (pts (ps.take (k + 1))).flatMap hd = (pts (ps.take k)).flatMap hd ++ (putT p.name.data.toList ++ put p.d.length) := by
  rw [take_snocP h, pts_append]; simp [pts, PV.pt, hd]
theorem dat_snoc {ps : List PV} {k : Nat} {p : PV} (h : ps[k]? = some p) : (pts (ps.take (k + 1))).flatMap Pt.data = (pts (ps.take k)).flatMap Pt.data ++ p.d := by
  rw [take_snocP h, pts_append]; simp [pts, PV.pt]
theorem ba_size (s : ByteArray) : s.data.toList.length = s.size := by rw [Array.length_toList]; rfl
theorem putT_len (s : ByteArray) : (putT s.data.toList).length ≤ 10 + s.size := by
  have h1 := put_len s.data.toList.length
  have h2 := ba_size s
  unfold putT
  simp only [List.length_append]; omega

set_option maxRecDepth 100000 in
set_option maxHeartbeats 2000000 in
theorem join_any (A : Option Addr) (n c : Nat) (ps : List PV) (w : World) (ht : Tab w) (h : RP w A n ps) (hr : Room ps) (hn : n ≤ 140737488355328) :
    Calls Tryd.prog 13 #[.slice A n c] w (JPost w (pts ps)) := by
  obtain ⟨i0, hi, hz0, hz1, hz2⟩ := info_parts Tryd.infoU8
  have HI := Lib.hid hi
  have HT := Lib.hid ht
  have H := Lib.hid h
  have HR := Lib.hid hr
  have HLEN := Lib.hid h.len
  have HC := Lib.hid (check_any A n c ps w h hr hn)
  clear h hr hi ht
  by_cases hck : chk (pts ps) = 0
  · have hz := chk_zero hck
    rw [hck] at HC
    have HCK := Lib.hid hck
    rw [pts_length, HLEN.out] at hz
    obtain ⟨hn64, htot, hnm, _⟩ := hz
    have HNM : Hid (∀ p ∈ ps, p.name.size ≤ 16) := Lib.hid (fun p hp => by have := (nameB_size (hnm p.pt (List.mem_map_of_mem hp))).2; rw [ba_size] at this; exact this)
    clear hck hnm
    have kc := fun (w : World) (C : Array Value) (n c : Nat) => Lib.run_convert_bytes_const (P := Tryd.prog) w 26 5 C n c Tryd.underlying26 Tryd.underlying5
    go_enter Tryd.func13, Tryd.ntmps13
    go_wp2_with fail
    refine HC.out.mono ?_
    rintro e w1 ⟨rfl, hb1⟩
    have B1 := Lib.hid hb1
    clear hb1
    go_wp2_with fail
    refine (putUint_any _ _ _ magic n _ (sb_lit w1 _ _ _ 4 _ magic rfl rfl rfl) (lt64 (by omega)) (by omega)).mono ?_
    rintro e w2 ⟨b, rfl, hown, hb2⟩
    have B2 : Hid (Below w.heap.size w w2) := Lib.hid ((B1.out.alloc B1.out.size _).trans (hb2.mono (by have := B1.out.size; simp; omega)))
    have O2 : Hid (w2.ownsRow w.heap.size 5 1 b (4 + (put n).length) (bs (magic ++ put n))) := Lib.hid (own_mono hown (by have := B1.out.size; simp; omega))
    clear hown hb2 kc
    go_wp2_with fail
    go_loopw [5, 23] (fun o i wr => J1 ps n w o i wr) (fun _ i _ => n - (intOf i).toNat)
    case atStart => exact ⟨0, _, _, Nat.zero_le _, rfl, by simp [pts], by have := put_len n; omega, O2.out, B2.out⟩
    case round =>
      obtain ⟨k, N, L, hk, rfl, hL, hN, hown, hb⟩ := hrel
      have HL := Lib.hid hL
      have HO := Lib.hid hown
      clear hL hown
      by_cases hlt : k < n
      · obtain ⟨ad, p, rfl, hp, hbl, hc1, hc2, hsb⟩ := (H.out.keep hb).at_ hlt
        have HP := Lib.hid hp
        have hns := HNM.out p (List.mem_of_getElem? hp)
        have hpn := HR.out.len hp hsb.rb.len
        have HSL := Lib.hid hsb.rb.len
        obtain ⟨A3, c3, rfl, hs3⟩ := own_sb HO.out
        have S3 := Lib.hid hs3
        clear hsb hp hs3
        go_wp2_with fail
        refine (putText_any _ _ _ L p.name _ (S3.out.alloc _) (by omega)).mono ?_
        rintro e w3 ⟨b3, rfl, hown3, hb3⟩
        have hc2' : w3.cell? ⟨wr.heap.size, 1, none⟩ = some (.slice p.A p.n p.c) := (hb3.cell (p := ⟨wr.heap.size, 1, none⟩) (by simp)).trans (by rw [cell_new]; rfl)
        have B3 : Hid (Below w.heap.size w w3) := Lib.hid ((hb.alloc hb.size _).trans (hb3.mono (by have := hb.size; simp; omega)))
        have hpl := putT_len p.name
        have hpl2 := put_len p.n
        obtain ⟨A4, c4, rfl, hs4⟩ := own_sb hown3
        have S4 := Lib.hid hs4
        clear hown3 hb3 hs4
        generalize hq : (putT p.name.data.toList).length = q at S4 hpl
        have HQ := Lib.hid hq
        clear hq
        go_wp2_with fail
        refine (putUint_any _ _ _ (L ++ putT p.name.data.toList) p.n _ S4.out (lt64 (by omega)) (by omega)).mono ?_
        rintro e w4 ⟨b4, rfl, hown4, hb4⟩
        have B4 : Hid (Below w.heap.size w w4) := Lib.hid (B3.out.trans (hb4.mono B3.out.size))
        have O4 : Hid (w4.ownsRow w.heap.size 5 1 b4 (N + q + (put p.n).length) (bs (L ++ putT p.name.data.toList ++ put p.n))) := Lib.hid (own_mono hown4 B3.out.size)
        clear hown4 hb4
        go_wp2_with fail
        go_roundw
        case rel => exact ⟨k + 1, _, _, by omega, by go_num, by rw [hds_snoc HP.out, HL.out, HSL.out]; simp only [List.append_assoc], by omega, O4.out, B4.out⟩
        case measure => simp [intOf]; omega
      · obtain rfl : k = n := by omega
        have hL2 : L = magic ++ put k ++ (pts ps).flatMap hd := by rw [HL.out, List.take_of_length_le (by rw [HLEN.out]; omega)]
        have HL2 := Lib.hid hL2
        have BB := Lib.hid hb
        clear hL2 HL hb
        go_wp2_with fail
        go_loopw [5, 40] (fun o i wr => J2 ps k w o i wr) (fun _ i _ => k - (intOf i).toNat)
        case atStart => exact ⟨0, _, _, Nat.zero_le _, rfl, by rw [HL2.out]; simp [pts], by omega, HO.out, BB.out⟩
        case round =>
          obtain ⟨j, M, L3, hj, rfl, hL3, hM, hown, hb⟩ := hrel
          have HL3 := Lib.hid hL3
          have HO3 := Lib.hid hown
          have htk := total_take ps j
          clear hL3 hown
          by_cases hlt : j < k
          · obtain ⟨ad, p, rfl, hp, hbl, hc1, hc2, hsb⟩ := (H.out.keep hb).at_ hlt
            have HP := Lib.hid hp
            have HTS := Lib.hid (total_snoc hp hsb.rb.len)
            have htk2 := total_take ps (j + 1)
            have hpn := HR.out.len hp hsb.rb.len
            have HSB := Lib.hid hsb
            have hM3 : M + p.n ≤ 14 + 40 * k + 16777216 := by have := HTS.out; omega
            have hM4 : M + p.n ≤ 14 + 40 * k + total (pts (ps.take (j + 1))) := by have := HTS.out; omega
            have HM4 := Lib.hid hM4
            clear hsb hp hM htk htk2 hM4
            go_wp2_with (at_builtin; refine wpList_append_any _ rfl (.tmp 44) (.tmp 46) _ rfl w.heap.size 5 i0 _ 1 1 Tryd.underlying26 HI.out hz0 hz1 hz2 rfl (by decide) _ _ _ rfl (HO3.out.alloc _) _ p.A p.n p.c (bs p.d) rfl (HSB.out.rb.alloc _) (bs_one p.d) (by unfold maxLen; omega) (by omega) (by have := hb.size; simp; omega) ?_; intro v4 w4 hown4 hg4 hat4; have B4 : Hid (Below w.heap.size w w4) := Lib.hid (own_below (hb.alloc hb.size _) (Nat.le_refl _) (HO3.out.alloc _) (Nat.le_refl _) hg4); have O4 := Lib.hid hown4; clear hown4 hg4 hat4)
            go_roundw
            case rel => exact ⟨j + 1, _, L3 ++ p.d, by omega, by go_num, by rw [dat_snoc HP.out, HL3.out]; simp only [List.append_assoc], HM4.out, by rw [bs_append]; exact O4.out, B4.out⟩
            case measure => simp [intOf]; omega
          · obtain rfl : j = k := by omega
            have hM3 : M ≤ 14 + 40 * j + 16777216 := by omega
            have hL4 : L3 = body (pts ps) := by rw [HL3.out, List.take_of_length_le (by rw [HLEN.out]; omega)]; unfold body; rw [pts_length, HLEN.out]
            have HL4 := Lib.hid hL4
            clear hL4 hM htk HL3
            obtain ⟨A5, c5, rfl, hs5⟩ := own_sb HO3.out
            have S5 := Lib.hid hs5.rb
            clear hs5
            go_wp2_with fail
            refine (sumBytes_any _ _ _ L3 _ (HT.out.keep' hb) S5.out (by omega)).mono ?_
            rintro e w5 ⟨b5, rfl, hown5, hb5⟩
            obtain ⟨A6, c6, rfl, hs6⟩ := own_sb hown5
            have S6 := Lib.hid hs6.rb
            have B5 : Hid (Below w.heap.size w w5) := Lib.hid (hb.trans (hb5.mono hb.size))
            have O5 := Lib.hid (own_keep HO3.out hb5)
            clear hown5 hb5 hs6
            go_wp2_with (at_builtin; refine wpList_append_any _ rfl (.tmp 49) (.tmp 51) _ rfl w.heap.size 5 i0 _ 1 1 Tryd.underlying26 HI.out hz0 hz1 hz2 rfl (by decide) _ _ _ rfl O5.out _ A6 4 c6 (bs (sum4 L3)) rfl S6.out (bs_one _) (by unfold maxLen; omega) (by omega) B5.out.size ?_; intro v7 w7 hown7 hg7 hat7; have B7 : Hid (Below w.heap.size w w7) := Lib.hid (own_below B5.out (Nat.le_refl _) O5.out (Nat.le_refl _) hg7); have O7 := Lib.hid hown7; clear hown7 hg7 hat7)
            go_ret2
            exact JPost.good HCK.out B7.out (L := L3 ++ sum4 L3) (by rw [HL4.out]; rfl) (by rw [bs_append]; exact O7.out)
  · have hne := ne_bool hck
    have HCK := Lib.hid hck
    clear hck
    generalize hg : chk (pts ps) = z at HC hne
    have HG := Lib.hid hg
    clear hg
    go_enter Tryd.func13, Tryd.ntmps13
    go_wp2_with fail
    refine HC.out.mono ?_
    rintro e w1 ⟨rfl, hb1⟩
    have B1 := Lib.hid hb1
    clear hb1
    go_wp2_with fail
    go_ret2
    have := JPost.bad HCK.out B1.out
    rw [HG.out] at this
    exact this

set_option maxRecDepth 100000 in
set_option maxHeartbeats 2000000 in
theorem joinR_any (A : Option Addr) (n c : Nat) (ps : List PV) (w : World) (h : RP w A n ps) (hr : Room ps) (hn : n ≤ 140737488355328) :
    Calls Tryd.prog 14 #[.slice A n c] w (JPost w (pts ps)) := by
  obtain ⟨i0, hi, hz0, hz1, hz2⟩ := info_parts Tryd.infoU8
  have HI := Lib.hid hi
  have H := Lib.hid h
  have HR := Lib.hid hr
  have HLEN := Lib.hid h.len
  have HC := Lib.hid (checkR_any A n c ps w h hr hn)
  clear h hr hi
  by_cases hck : chk (pts ps) = 0
  · have hz := chk_zero hck
    rw [hck] at HC
    have HCK := Lib.hid hck
    rw [pts_length, HLEN.out] at hz
    obtain ⟨hn64, htot, hnm, _⟩ := hz
    have HNM : Hid (∀ p ∈ ps, p.name.size ≤ 16) := Lib.hid (fun p hp => by have := (nameB_size (hnm p.pt (List.mem_map_of_mem hp))).2; rw [ba_size] at this; exact this)
    have hpl0 := put_len n
    clear hck hnm
    go_enter Tryd.func14, Tryd.ntmps14
    go_wp2_with fail
    refine HC.out.mono ?_
    rintro e w1 ⟨rfl, hb1⟩
    have B1 := Lib.hid hb1
    clear hb1
    go_wp2_with fail
    refine (uintR_any n _ (lt64 (by omega))).mono ?_
    rintro e w2 ⟨b, rfl, hown, hb2⟩
    have O1 : Hid (w2.ownsRow w.heap.size 5 1 (.slice (some ⟨w1.heap.size, 0, none⟩) 4 4) 4 (bs magic)) := Lib.hid (own_mono (own_keep (own_lit w1 _ _ 1 4 (bs magic) rfl rfl (by decide)) hb2) B1.out.size)
    have B2 : Hid (Below w.heap.size w w2) := Lib.hid ((B1.out.alloc B1.out.size _).trans (hb2.mono (by have := B1.out.size; simp; omega)))
    obtain ⟨A2, c2, rfl, hs2⟩ := own_sb hown
    have S2 := Lib.hid hs2.rb
    clear hown hb2 hs2
    go_wp2_with (at_builtin; refine wpList_append_any _ rfl (.tmp 13) (.tmp 17) _ rfl w.heap.size 5 i0 _ 1 1 Tryd.underlying26 HI.out hz0 hz1 hz2 rfl (by decide) _ _ _ rfl O1.out _ A2 _ c2 (bs (put n)) rfl S2.out (bs_one _) (by unfold maxLen; omega) (by omega) B2.out.size ?_; intro v3 w3 hown3 hg3 hat3; have B3 : Hid (Below w.heap.size w w3) := Lib.hid (own_below B2.out (Nat.le_refl _) O1.out (Nat.le_refl _) hg3); have O3 := Lib.hid hown3; clear hown3 hg3 hat3)
    go_loopw [5, 6] (fun o i wr => J1 ps n w o i wr) (fun _ i _ => n - (intOf i).toNat)
    case atStart => exact ⟨0, 4 + (put n).length, magic ++ put n, Nat.zero_le _, rfl, by simp [pts], by omega, by rw [bs_append]; exact O3.out, B3.out⟩
    case round =>
      obtain ⟨k, N, L, hk, rfl, hL, hN, hown, hb⟩ := hrel
      have HL := Lib.hid hL
      have HO := Lib.hid hown
      clear hL hown
      by_cases hlt : k < n
      · obtain ⟨ad, p, rfl, hp, hbl, hc1, hc2, hsb⟩ := (H.out.keep hb).at_ hlt
        have HP := Lib.hid hp
        have hns := HNM.out p (List.mem_of_getElem? hp)
        have hpn := HR.out.len hp hsb.rb.len
        have HSL := Lib.hid hsb.rb.len
        have hpl := putT_len p.name
        have hpl2 := put_len p.n
        clear hsb hp
        go_wp2_with fail
        refine (textR_any p.name _ (by omega)).mono ?_
        rintro e w4 ⟨b4, rfl, hown4, hb4⟩
        obtain ⟨A4, c4, rfl, hs4⟩ := own_sb hown4
        have S4 := Lib.hid hs4.rb
        have B4 : Hid (Below w.heap.size w w4) := Lib.hid (hb.trans (hb4.mono hb.size))
        have O4 := Lib.hid (own_keep HO.out hb4)
        clear hown4 hb4 hs4
        go_wp2_with (at_builtin; refine wpList_append_any _ rfl (.tmp 25) (.tmp 31) _ rfl w.heap.size 5 i0 _ 1 1 Tryd.underlying26 HI.out hz0 hz1 hz2 rfl (by decide) _ _ _ rfl O4.out _ A4 _ c4 (bs (putT p.name.data.toList)) rfl S4.out (bs_one _) (by unfold maxLen; omega) (by omega) B4.out.size ?_; intro v5 w5 hown5 hg5 hat5; have B5 : Hid (Below w.heap.size w w5) := Lib.hid (own_below B4.out (Nat.le_refl _) O4.out (Nat.le_refl _) hg5); have O5 := Lib.hid hown5; clear hown5 hg5 hat5; obtain ⟨_, q, e0, hq, hbl2, hd1, hd2, hsb2⟩ := (H.out.keep B5.out).at_ hlt; injection e0 with e0; subst e0; (obtain rfl : q = p := by rw [HP.out] at hq; injection hq with hq; exact hq.symm); clear hq hsb2 hd1)
        refine (uintR_any q.n _ (lt64 (by omega))).mono ?_
        rintro e w6 ⟨b6, rfl, hown6, hb6⟩
        obtain ⟨A6, c6, rfl, hs6⟩ := own_sb hown6
        have S6 := Lib.hid hs6.rb
        have B6 : Hid (Below w.heap.size w w6) := Lib.hid (B5.out.trans (hb6.mono B5.out.size))
        have O6 := Lib.hid (own_keep O5.out hb6)
        clear hown6 hb6 hs6
        go_wp2_with (at_builtin; refine wpList_append_any _ rfl (.tmp 33) (.tmp 41) _ rfl w.heap.size 5 i0 _ 1 1 Tryd.underlying26 HI.out hz0 hz1 hz2 rfl (by decide) _ _ _ rfl O6.out _ A6 _ c6 (bs (put q.n)) rfl S6.out (bs_one _) (by unfold maxLen; omega) (by omega) B6.out.size ?_; intro v7 w7 hown7 hg7 hat7; have B7 : Hid (Below w.heap.size w w7) := Lib.hid (own_below B6.out (Nat.le_refl _) O6.out (Nat.le_refl _) hg7); have O7 := Lib.hid hown7; clear hown7 hg7 hat7)
        go_roundw
        case rel => exact ⟨k + 1, N + (putT q.name.data.toList).length + (put q.n).length, L ++ putT q.name.data.toList ++ put q.n, by omega, by go_num, by rw [hds_snoc HP.out, HL.out, HSL.out]; simp only [List.append_assoc], by omega, by rw [bs_append, bs_append]; exact O7.out, B7.out⟩
        case measure => simp [intOf]; omega
      · obtain rfl : k = n := by omega
        have hL2 : L = magic ++ put k ++ (pts ps).flatMap hd := by rw [HL.out, List.take_of_length_le (by rw [HLEN.out]; omega)]
        have HL2 := Lib.hid hL2
        have BB := Lib.hid hb
        clear hL2 HL hb
        go_wp2_with fail
        go_loopw [5, 7] (fun o i wr => J2 ps k w o i wr) (fun _ i _ => k - (intOf i).toNat)
        case atStart => exact ⟨0, _, _, Nat.zero_le _, rfl, by rw [HL2.out]; simp [pts], by omega, HO.out, BB.out⟩
        case round =>
          obtain ⟨j, M, L3, hj, rfl, hL3, hM, hown, hb⟩ := hrel
          have HL3 := Lib.hid hL3
          have HO3 := Lib.hid hown
          have htk := total_take ps j
          clear hL3 hown
          by_cases hlt : j < k
          · obtain ⟨ad, p, rfl, hp, hbl, hc1, hc2, hsb⟩ := (H.out.keep hb).at_ hlt
            have HP := Lib.hid hp
            have HTS := Lib.hid (total_snoc hp hsb.rb.len)
            have htk2 := total_take ps (j + 1)
            have hpn := HR.out.len hp hsb.rb.len
            have HSB := Lib.hid hsb
            have hM3 : M + p.n ≤ 14 + 40 * k + 16777216 := by have := HTS.out; omega
            have hM4 : M + p.n ≤ 14 + 40 * k + total (pts (ps.take (j + 1))) := by have := HTS.out; omega
            have HM4 := Lib.hid hM4
            clear hsb hp hM htk htk2 hM4
            go_wp2_with (at_builtin; refine wpList_append_any _ rfl (.tmp 49) (.tmp 54) _ rfl w.heap.size 5 i0 _ 1 1 Tryd.underlying26 HI.out hz0 hz1 hz2 rfl (by decide) _ _ _ rfl HO3.out _ p.A p.n p.c (bs p.d) rfl HSB.out.rb (bs_one p.d) (by unfold maxLen; omega) (by omega) hb.size ?_; intro v4 w4 hown4 hg4 hat4; have B4 : Hid (Below w.heap.size w w4) := Lib.hid (own_below hb (Nat.le_refl _) HO3.out (Nat.le_refl _) hg4); have O4 := Lib.hid hown4; clear hown4 hg4 hat4)
            go_roundw
            case rel => exact ⟨j + 1, _, L3 ++ p.d, by omega, by go_num, by rw [dat_snoc HP.out, HL3.out]; simp only [List.append_assoc], HM4.out, by rw [bs_append]; exact O4.out, B4.out⟩
            case measure => simp [intOf]; omega
          · obtain rfl : j = k := by omega
            have hM3 : M ≤ 14 + 40 * j + 16777216 := by omega
            have hL4 : L3 = body (pts ps) := by rw [HL3.out, List.take_of_length_le (by rw [HLEN.out]; omega)]; unfold body; rw [pts_length, HLEN.out]
            have HL4 := Lib.hid hL4
            clear hL4 hM htk HL3
            obtain ⟨A5, c5, rfl, hs5⟩ := own_sb HO3.out
            have S5 := Lib.hid hs5.rb
            clear hs5
            go_wp2_with fail
            refine (sumR_any _ _ _ L3 _ S5.out (by omega)).mono ?_
            rintro e w5 ⟨rfl, rfl⟩
            go_wp2_with fail
            refine (fourR_any _ _).mono ?_
            rintro e w5 ⟨b5, rfl, hown5, hb5⟩
            obtain ⟨A6, c6, rfl, hs6⟩ := own_sb hown5
            have S6 : Hid (RB w5 A6 4 (sum4 L3)) := Lib.hid hs6.rb
            have B5 : Hid (Below w.heap.size w w5) := Lib.hid (hb.trans (hb5.mono hb.size))
            have O5 := Lib.hid (own_keep HO3.out hb5)
            clear hown5 hb5 hs6
            go_wp2_with (at_builtin; refine wpList_append_any _ rfl (.tmp 56) (.tmp 59) _ rfl w.heap.size 5 i0 _ 1 1 Tryd.underlying26 HI.out hz0 hz1 hz2 rfl (by decide) _ _ _ rfl O5.out _ A6 4 c6 (bs (sum4 L3)) rfl S6.out (bs_one _) (by unfold maxLen; omega) (by omega) B5.out.size ?_; intro v7 w7 hown7 hg7 hat7; have B7 : Hid (Below w.heap.size w w7) := Lib.hid (own_below B5.out (Nat.le_refl _) O5.out (Nat.le_refl _) hg7); have O7 := Lib.hid hown7; clear hown7 hg7 hat7)
            go_ret2
            exact JPost.good HCK.out B7.out (L := L3 ++ sum4 L3) (by rw [HL4.out]; rfl) (by rw [bs_append]; exact O7.out)
  · have hne := ne_bool hck
    have HCK := Lib.hid hck
    clear hck
    generalize hg : chk (pts ps) = z at HC hne
    have HG := Lib.hid hg
    clear hg
    go_enter Tryd.func14, Tryd.ntmps14
    go_wp2_with fail
    refine HC.out.mono ?_
    rintro e w1 ⟨rfl, hb1⟩
    have B1 := Lib.hid hb1
    clear hb1
    go_wp2_with fail
    go_ret2
    have := JPost.bad HCK.out B1.out
    rw [HG.out] at this
    exact this
end Go.Proofs.YtncnocejmbfhaaaDoor.Sec
