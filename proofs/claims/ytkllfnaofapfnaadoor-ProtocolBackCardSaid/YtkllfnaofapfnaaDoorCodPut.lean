/-
  The contracts of what package coding writes (PutUint, PutInt, PutText) and of the reference's codes (Uint, Int, Text): the result is a new slice, old memory stays. Conditions: the slice can be read; the bytes of the result fit a slice.
-/
import Derived.Test.YtkllfnaofapfnaaDoorCodMath
import Derived.Test.YtkllfnaofapfnaaDoorWords
import Derived.Lib.LazyBuf
import Derived.Lib.AppendStr
import Derived.WalkSpells
namespace Go.Proofs.YtkllfnaofapfnaaDoor.Cod
open Go.RowKit Wd

theorem Tryd.infoU8 : (Tryd.prog.info? 5).map (fun i => (i.zero, i.size, i.bytes)) = some (some (.int .u8 0), 1, 1) := by kernel_rfl

theorem own_sb {w : World} {base n : Nat} {e : TypeId} {v : Value} {l : List UInt8} (h : w.ownsRow base e 1 v n (bs l)) : ∃ A c, v = .slice A n c ∧ SB w A n c l := by
  rcases h.2 with ⟨rfl, rfl⟩ | ⟨g, cap, cur, rfl, _, _, hc, _⟩
  · exact ⟨none, 0, rfl, Reads.of_own h, Nat.le_refl _, fun _ => rfl⟩
  · exact ⟨_, cap, rfl, Reads.of_own h, hc, fun h => by cases h⟩

set_option maxHeartbeats 400000 in
theorem clone_any (A : Option Addr) (n c : Nat) (l : List UInt8) (w : World) (hs : SB w A n c l) (hn : n ≤ 140737488355328) :
    Calls Tryd.prog 75 #[.slice A n c] w fun e w' => ∃ v, e = .returned v ∧ w'.ownsRow w.heap.size 5 1 v n (bs l) ∧ Below w.heap.size w w' := by
  obtain ⟨i0, hi, hz0, hz1, hz2⟩ := info_parts Tryd.infoU8
  have HI := Lib.hid hi
  have HS := Lib.hid hs
  clear hi hs
  have hnil := fun (w : World) (a : Option Addr) (n c : Nat) => Lib.run_eql_slice_nil (P := Tryd.prog) w 25 5 a n c 0 0 Tryd.underlying25
  rcases A with _ | ad
  · have hc := HS.out.nil rfl
    have hn0 : n = 0 := by have := HS.out.cap; omega
    subst hc hn0
    have hl : l = [] := List.length_eq_zero_iff.1 HS.out.rb.len
    subst hl
    clear HS hn
    go_enter Tryd.func75, Tryd.ntmps75
    go_wp2_with fail
    go_ret
    exact ⟨_, rfl, World.ownsRow_nil _ _ _ _, Below.refl _ _⟩
  · go_enter Tryd.func75, Tryd.ntmps75
    go_wp2_with (at_builtin; refine wpList_append_any _ rfl (.tmp 5) (.tmp 6) _ rfl w.heap.size 5 i0 _ 1 1 Tryd.underlying25 HI.out hz0 hz1 hz2 rfl (by decide) _ _ _ rfl (own_empty _ _) _ (some ad) n c (bs l) rfl (Reads.alloc HS.out.rb (Nat.le_refl _) _) (bs_one l) (by unfold maxLen; omega) (by omega) (by simp) ?_; intro v1 w1 hown1 hg1 hat1)
    have hown : w1.ownsRow w.heap.size 5 1 v1 n (bs l) := by simpa using hown1
    have hb1 : Below w.heap.size w w1 := own_below ((Below.refl _ _).alloc (Nat.le_refl _) _) (Nat.le_refl _) (own_empty _ _) (Nat.le_refl _) hg1
    go_ret
    exact ⟨v1, rfl, hown, hb1⟩

theorem clip_any (A : Option Addr) (n c : Nat) (w : World) (hc : n ≤ c) (hA : A = none → n = 0 ∧ c = 0) (hn : n ≤ 140737488355328) :
    Calls Tryd.prog 74 #[.slice A n c] w fun e w' => e = .returned (.slice A n n) ∧ w = w' := by
  rcases A with _ | ad
  · obtain ⟨rfl, rfl⟩ := hA rfl
    go_enter Tryd.func74, Tryd.ntmps74
    go_wp2_with fail
    go_ret
    exact ⟨rfl, rfl⟩
  · clear hA
    have h1 : (n : Int) ≤ (c : Int) := by omega
    have h0 : (0 : Int) ≤ (n : Int) := by omega
    go_enter Tryd.func74, Tryd.ntmps74
    go_wp2_with fail
    go_ret
    exact ⟨rfl, rfl⟩

/-- what a round of PutUint keeps -/
def PRel (w : World) (n : Nat) (l : List UInt8) (v : Nat) (b1 v1 : Value) (wr : World) : Prop :=
  ∃ (j u : Nat) (d : List UInt8), j ≤ 9 ∧ d.length = j ∧ v1 = .int .u64 (u : Int) ∧ u < 2 ^ (64 - 7 * j) ∧ d ++ putF (9 - j) u = put v ∧ Rdy wr w.heap.size 5 b1 (n + j) (bs (l ++ d)) ∧ Below w.heap.size w wr

theorem bs_ofNat (x : Nat) (h : x < 256) : bs [UInt8.ofNat x] = [.int .u8 (x : Int)] := by simp only [bs, List.map_cons, List.map_nil, toNat_small x h]
theorem or128 (u : Nat) : bits .or .u8 ((u : Int) % 256) 128 = ((u % 128 + 128 : Nat) : Int) := by
  have e : (u : Int) % 256 = ((u % 256 : Nat) : Int) := by omega
  have hall : ∀ x : Fin 256, x.val ||| 128 = x.val % 128 + 128 := by decide +kernel
  have h := hall ⟨u % 256, Nat.mod_lt _ (by decide)⟩
  rw [e, show (128 : Int) = ((128 : Nat) : Int) from rfl, u8_or_nat _ _ (Nat.mod_lt _ (by decide)) (by decide)]
  simp only at h
  rw [h]
  omega
theorem PRel.next (w : World) (n : Nat) (l : List UInt8) (v : Nat) (b : Value) (wr : World) (j u : Nat) (d : List UInt8) (hj : j ≤ 9) (hd : d.length = j) (hu : u < 2 ^ (64 - 7 * j)) (hput : d ++ putF (9 - j) u = put v) (hlt : 128 ≤ u)
    (ho : wr.ownsRow w.heap.size 5 1 b (n + (j + 1)) (bs (l ++ (d ++ [UInt8.ofNat (u % 128 + 128)])))) (hb : Below w.heap.size w wr) : PRel w n l v b (.int .u64 ((u : Int) / 128)) wr := by
  have hj9 : j ≠ 9 := by
    rintro rfl
    have : u < 2 := by simpa using hu
    omega
  have hp7 : (2 : Nat) ^ 7 = 128 := by decide
  refine ⟨j + 1, u / 128, d ++ [UInt8.ofNat (u % 128 + 128)], by omega, by simp [hd], by simp, ?_, ?_, .inl ho, hb⟩
  · have e : 64 - 7 * j = (64 - 7 * (j + 1)) + 7 := by omega
    rw [e, Nat.pow_add, hp7] at hu
    omega
  · rw [← hput, List.append_assoc]
    congr 1
    have e : 9 - j = (9 - (j + 1)) + 1 := by omega
    rw [e]
    simp only [putF]
    rw [if_neg (by omega)]
    rfl

set_option maxRecDepth 100000 in
set_option maxHeartbeats 400000 in
theorem putUint_any (A : Option Addr) (n c : Nat) (l : List UInt8) (v : Nat) (w : World) (hs : SB w A n c l) (hv : v < 2 ^ 64) (hn : n + 10 ≤ 140737488355328) :
    Calls Tryd.prog 61 #[.slice A n c, .int .u64 (v : Int)] w fun e w' => ∃ b, e = .returned b ∧ w'.ownsRow w.heap.size 5 1 b (n + (put v).length) (bs (l ++ put v)) ∧ Below w.heap.size w w' := by
  obtain ⟨i0, hi, hz0, hz1, hz2⟩ := info_parts Tryd.infoU8
  have HI := Lib.hid hi
  have HS := Lib.hid hs
  have HV := Lib.hid hv
  clear hi hs hv
  go_enter Tryd.func61, Tryd.ntmps61
  go_wp2_with fail
  refine (clone_any A n c l w HS.out (by omega)).mono ?_
  rintro e w1 ⟨b, rfl, hown, hb1⟩
  obtain ⟨A1, c1, rfl, hs1⟩ := own_sb hown
  have S1 := Lib.hid hs1
  have B1 := Lib.hid hb1
  clear hown hs1 hb1
  go_wp2_with fail
  refine (clip_any A1 n c1 w1 S1.out.cap (fun h => ⟨by have := S1.out.nil h; have := S1.out.cap; omega, S1.out.nil h⟩) (by omega)).mono ?_
  rintro e w' ⟨rfl, rfl⟩
  go_wp2_with fail
  go_loopw [0, 1] (fun b1 v1 wr => PRel w n l v b1 v1 wr) (fun _ i _ => (intOf i).toNat)
  case atStart => exact ⟨0, v, [], by omega, rfl, rfl, by simpa using HV.out, rfl, .inr ⟨A1, rfl, fun h => by have := S1.out.nil h; have := S1.out.cap; omega, by rw [List.append_nil]; exact S1.out.rb⟩, B1.out⟩
  case round =>
    obtain ⟨j, u, d, hj, hd, rfl, hu, hput, hown, hbel⟩ := hrel
    have HD := Lib.hid hd
    have HU := Lib.hid hu
    have HP := Lib.hid hput
    have HO := Lib.hid hown
    clear hd hu hput hown
    by_cases hlt : 128 ≤ u
    · go_wp2_with (at_builtin; refine wpList_append_rdy _ rfl (.tmp 12) (.tmp 16) _ rfl w.heap.size 5 i0 _ 1 Tryd.underlying25 HI.out hz0 hz1 hz2 rfl _ _ _ rfl (HO.out.alloc _) _ _ _ _ _ rfl (Reads.lit _ _ _ _ _ _ rfl rfl) (by intro u hu; simp at hu; subst hu; rfl) (by decide) (by unfold maxLen; omega) (by omega) (by have := hbel.size; simp; omega) ?_; intro v' w1 hown' hgr; have hb1 : Below w.heap.size w w1 := (hbel.alloc hbel.size _).trans (hgr _ (Nat.le_refl _)); clear hgr)
      have ho1 : w1.ownsRow w.heap.size 5 1 v' (n + (j + 1)) (bs (l ++ (d ++ [UInt8.ofNat (u % 128 + 128)]))) := by
        rw [← List.append_assoc, bs_append]
        have e : bs [UInt8.ofNat (u % 128 + 128)] = [.int .u8 (bits .or .u8 ((u : Int) % 256) 128)] := by rw [or128, bs_ofNat _ (by omega)]
        rw [e]; exact hown'
      go_roundw
      case rel => exact PRel.next w n l v v' w1 j u d hj HD.out HU.out HP.out hlt ho1 hb1
      case measure => simp [intOf]; omega
    · go_wp2_with (at_builtin; refine wpList_append_rdy _ rfl (.tmp 18) (.tmp 21) _ rfl w.heap.size 5 i0 _ 1 Tryd.underlying25 HI.out hz0 hz1 hz2 rfl _ _ _ rfl (HO.out.alloc _) _ _ _ _ _ rfl (Reads.lit _ _ _ _ _ _ rfl rfl) (by intro u hu; simp at hu; subst hu; rfl) (by decide) (by unfold maxLen; omega) (by omega) (by have := hbel.size; simp; omega) ?_; intro v' w1 hown' hgr; have hb1 : Below w.heap.size w w1 := (hbel.alloc hbel.size _).trans (hgr _ (Nat.le_refl _)); clear hgr)
      have hpd : put v = d ++ [UInt8.ofNat u] := by
        rw [← HP.out]
        congr 1
        cases h9 : 9 - j with
        | zero => rfl
        | succ f => simp only [putF]; rw [if_pos (by omega)]
      have ho1 : w1.ownsRow w.heap.size 5 1 v' (n + (put v).length) (bs (l ++ put v)) := by
        rw [hpd, List.length_append, HD.out, List.length_singleton, ← List.append_assoc, bs_append]
        have e : bs [UInt8.ofNat u] = [.int .u8 (u : Int)] := bs_ofNat u (by omega)
        rw [e]; exact hown'
      go_ret
      exact ⟨v', rfl, ho1, hb1⟩

/-- what a round of the reference's Uint keeps -/
def URel (w : World) (v : Nat) (b1 v1 : Value) (wr : World) : Prop :=
  ∃ (j u : Nat) (d : List UInt8), j ≤ 9 ∧ d.length = j ∧ v1 = .int .u64 (u : Int) ∧ u < 2 ^ (64 - 7 * j) ∧ d ++ putF (9 - j) u = put v ∧ wr.ownsRow w.heap.size 5 1 b1 j (bs d) ∧ Below w.heap.size w wr
theorem URel.next (w : World) (v : Nat) (b : Value) (wr : World) (j u : Nat) (d : List UInt8) (hj : j ≤ 9) (hd : d.length = j) (hu : u < 2 ^ (64 - 7 * j)) (hput : d ++ putF (9 - j) u = put v) (hlt : 128 ≤ u)
    (ho : wr.ownsRow w.heap.size 5 1 b (j + 1) (bs (d ++ [UInt8.ofNat (u % 128 + 128)]))) (hb : Below w.heap.size w wr) : URel w v b (.int .u64 ((u : Int) / 128)) wr := by
  have hr := PRel.next w 0 [] v b wr j u d hj hd hu hput hlt (by simpa using ho) hb
  have hj9 : j ≠ 9 := by
    rintro rfl
    have : u < 2 := by simpa using hu
    omega
  have hp7 : (2 : Nat) ^ 7 = 128 := by decide
  refine ⟨j + 1, u / 128, d ++ [UInt8.ofNat (u % 128 + 128)], by omega, by simp [hd], by simp, ?_, ?_, ho, hb⟩
  · have e : 64 - 7 * j = (64 - 7 * (j + 1)) + 7 := by omega
    rw [e, Nat.pow_add, hp7] at hu
    omega
  · rw [← hput, List.append_assoc]
    congr 1
    have e : 9 - j = (9 - (j + 1)) + 1 := by omega
    rw [e]
    simp only [putF]
    rw [if_neg (by omega)]
    rfl

set_option maxRecDepth 100000 in
set_option maxHeartbeats 400000 in
theorem uintR_any (v : Nat) (w : World) (hv : v < 2 ^ 64) :
    Calls Tryd.prog 68 #[.int .u64 (v : Int)] w fun e w' => ∃ b, e = .returned b ∧ w'.ownsRow w.heap.size 5 1 b (put v).length (bs (put v)) ∧ Below w.heap.size w w' := by
  obtain ⟨i0, hi, hz0, hz1, hz2⟩ := info_parts Tryd.infoU8
  have HI := Lib.hid hi
  have HV := Lib.hid hv
  clear hi hv
  go_enter Tryd.func68, Tryd.ntmps68
  go_wp2_with fail
  go_loopw [0, 3] (fun v1 b1 wr => URel w v b1 v1 wr) (fun i _ _ => (intOf i).toNat)
  case atStart => exact ⟨0, v, [], by omega, rfl, rfl, by simpa using HV.out, rfl, World.ownsRow_nil _ _ _ _, Below.refl _ _⟩
  case round =>
    obtain ⟨j, u, d, hj, hd, rfl, hu, hput, hown, hbel⟩ := hrel
    have HD := Lib.hid hd
    have HU := Lib.hid hu
    have HP := Lib.hid hput
    have HO := Lib.hid hown
    clear hd hu hput hown
    by_cases hlt : 128 ≤ u
    · have hw : ((u : Int) % 128 + 128) % 256 = (u : Int) % 128 + 128 := by omega
      have hub : u ≤ 18446744073709551615 := by
        have h1 := HU.out
        have h2 : (2 : Nat) ^ (64 - 7 * j) ≤ 2 ^ 64 := Nat.pow_le_pow_right (by decide) (by omega)
        have h3 : (2 : Nat) ^ 64 = 18446744073709551616 := by decide
        omega
      go_wp2_with (at_builtin; refine wpList_append_any _ rfl (.tmp 6) (.tmp 11) _ rfl w.heap.size 5 i0 _ 1 1 Tryd.underlying25 HI.out hz0 hz1 hz2 rfl (by decide) _ _ _ rfl (HO.out.alloc _) _ _ _ _ _ rfl (Reads.lit _ _ _ _ _ _ rfl rfl) (by intro u hu; simp at hu; subst hu; rfl) (by unfold maxLen; omega) (by omega) (by have := hbel.size; simp; omega) ?_; intro v' w1 hown' hgr hat; have hb1 := own_below (hbel.alloc hbel.size _) (Nat.le_refl _) (HO.out.alloc _) (Nat.le_refl _) hgr; clear hgr hat)
      have ho1 : w1.ownsRow w.heap.size 5 1 v' (j + 1) (bs (d ++ [UInt8.ofNat (u % 128 + 128)])) := by
        rw [bs_append, bs_ofNat _ (by omega)]
        have e : [Value.int .u8 (((u % 128 + 128 : Nat)) : Int)] = [.int .u8 ((u : Int) % 128 + 128)] := by simp
        rw [e]; exact hown'
      go_roundw
      case rel => exact URel.next w v v' w1 j u d hj HD.out HU.out HP.out hlt ho1 hb1
      case measure => simp [intOf]; omega
    · go_wp2_with (at_builtin; refine wpList_append_any _ rfl (.tmp 15) (.tmp 18) _ rfl w.heap.size 5 i0 _ 1 1 Tryd.underlying25 HI.out hz0 hz1 hz2 rfl (by decide) _ _ _ rfl (HO.out.alloc _) _ _ _ _ _ rfl (Reads.lit _ _ _ _ _ _ rfl rfl) (by intro u hu; simp at hu; subst hu; rfl) (by unfold maxLen; omega) (by omega) (by have := hbel.size; simp; omega) ?_; intro v' w1 hown' hgr hat; have hb1 := own_below (hbel.alloc hbel.size _) (Nat.le_refl _) (HO.out.alloc _) (Nat.le_refl _) hgr; clear hgr hat)
      have hpd : put v = d ++ [UInt8.ofNat u] := by
        rw [← HP.out]
        congr 1
        cases h9 : 9 - j with
        | zero => rfl
        | succ f => simp only [putF]; rw [if_pos (by omega)]
      have ho1 : w1.ownsRow w.heap.size 5 1 v' (put v).length (bs (put v)) := by
        rw [hpd, List.length_append, HD.out, List.length_singleton, bs_append, bs_ofNat u (by omega)]; exact hown'
      go_ret
      exact ⟨v', rfl, ho1, hb1⟩

theorem ret_int {k : IntKind} {a b : Int} (h : a = b) : Ending.returned (.int k a) = .returned (.int k b) := by rw [h]
theorem lt64 {x : Nat} (h : x ≤ 140737488355328) : x < 2 ^ 64 := Nat.lt_of_le_of_lt h (by decide)
theorem lt64i {x : Nat} (h : x ≤ 18446744073709551615) : x < 2 ^ 64 := Nat.lt_of_le_of_lt h (by decide)
theorem ba_len (s : ByteArray) : s.data.toList.length = s.size := by rw [Array.length_toList]; rfl
theorem strCells_bs (s : ByteArray) : Lib.strCells s = bs s.data.toList := rfl

set_option maxHeartbeats 400000 in
theorem putText_any (A : Option Addr) (n c : Nat) (l : List UInt8) (s : ByteArray) (w : World) (hs : SB w A n c l) (hn : n + 10 + s.size ≤ 140737488355328) :
    Calls Tryd.prog 37 #[.slice A n c, .string s] w fun e w' => ∃ b, e = .returned b ∧ w'.ownsRow w.heap.size 5 1 b (n + (putT s.data.toList).length) (bs (l ++ putT s.data.toList)) ∧ Below w.heap.size w w' := by
  obtain ⟨i0, hi, hz0, hz1, hz2⟩ := info_parts Tryd.infoU8
  have HI := Lib.hid hi
  have HS := Lib.hid hs
  clear hi hs
  have hlen := ba_len s
  have HL := Lib.hid hlen
  have hpl := put_len s.size
  clear hlen
  go_enter Tryd.func37, Tryd.ntmps37
  go_wp2_with fail
  refine (putUint_any _ _ _ _ _ _ HS.out (lt64 (by omega)) (by omega)).mono ?_
  rintro e w1 ⟨b, rfl, hown, hb⟩
  have HO := Lib.hid hown
  have HB := Lib.hid hb
  clear hown hb
  go_wp2_with (at_builtin; refine Lib.wpList_append_own_string _ rfl (.tmp 9) (.tmp 10) 25 9 rfl w.heap.size 5 i0 Tryd.underlying25 Tryd.underlying9 HI.out hz0 hz1 hz2 _ _ _ rfl HO.out s rfl (by unfold maxLen; omega) (by omega) HB.out.size ?_; intro v' w2 hown' hgr hat)
  have hb2 := own_below HB.out (Nat.le_refl _) HO.out (Nat.le_refl _) hgr
  go_ret
  refine ⟨v', rfl, ?_, hb2⟩
  unfold putT
  rw [HL.out, List.length_append, HL.out, ← Nat.add_assoc, ← List.append_assoc, bs_append (l ++ _)]
  exact hown'

set_option maxHeartbeats 400000 in
theorem textR_any (s : ByteArray) (w : World) (hn : 10 + s.size ≤ 140737488355328) :
    Calls Tryd.prog 48 #[.string s] w fun e w' => ∃ b, e = .returned b ∧ w'.ownsRow w.heap.size 5 1 b (putT s.data.toList).length (bs (putT s.data.toList)) ∧ Below w.heap.size w w' := by
  obtain ⟨i0, hi, hz0, hz1, hz2⟩ := info_parts Tryd.infoU8
  have HI := Lib.hid hi
  clear hi
  have hlen := ba_len s
  have HL := Lib.hid hlen
  have hpl := put_len s.size
  clear hlen
  go_enter Tryd.func48, Tryd.ntmps48
  go_wp2_with fail
  refine (uintR_any _ _ (lt64 (by omega))).mono ?_
  rintro e w1 ⟨b, rfl, hown, hb⟩
  have HO := Lib.hid hown
  have HB := Lib.hid hb
  clear hown hb
  go_wp2_with (at_builtin; refine Lib.wpList_append_own_string _ rfl (.tmp 6) (.tmp 7) 25 9 rfl w.heap.size 5 i0 Tryd.underlying25 Tryd.underlying9 HI.out hz0 hz1 hz2 _ _ _ rfl HO.out s rfl (by unfold maxLen; omega) (by omega) HB.out.size ?_; intro v' w2 hown' hgr hat)
  have hb2 := own_below HB.out (Nat.le_refl _) HO.out (Nat.le_refl _) hgr
  go_ret
  refine ⟨v', rfl, ?_, hb2⟩
  unfold putT
  rw [HL.out, List.length_append, HL.out, bs_append]
  exact hown'

end Go.Proofs.YtkllfnaofapfnaaDoor.Cod
