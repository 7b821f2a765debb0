/-
  The contracts of Frame and Unframe of package protocol and of the reference. Conditions: at most 1000 messages; the bytes can be read. (Printed by gen/frmprog.py.)
-/
import Derived.Test.YtkllfnaofapfnaaDoorFrmWords
import Derived.Deep.QuietTactic
import Derived.BigQuiet
import Derived.Lib.EndianBits
namespace Go.Proofs.YtkllfnaofapfnaaDoor.Frm
open Go.RowKit Wd Cod

theorem le4_cells (n : Nat) (h : n ≤ 1048576) : ([.int .u8 ((n : Int) % 256), .int .u8 ((n : Int) / 256 % 256), .int .u8 ((n : Int) / 65536), .int .u8 ((n : Int) / 16777216)] : List Value) = bs (le4 n) := by
  unfold le4 bs
  simp only [List.map_cons, List.map_nil, toNat_small _ (Nat.mod_lt _ (by decide : 0 < 256))]
  have e1 : (n : Int) % 256 = ((n % 256 : Nat) : Int) := by omega
  have e2 : (n : Int) / 256 % 256 = ((n / 256 % 256 : Nat) : Int) := by omega
  have e3 : (n : Int) / 65536 = ((n / 65536 % 256 : Nat) : Int) := by omega
  have e4 : (n : Int) / 16777216 = ((n / 16777216 % 256 : Nat) : Int) := by omega
  rw [e1, e2, e3, e4]
theorem frames_snoc {ps : List BV} {k : Nat} {p : BV} (h : ps[k]? = some p) (hn : p.d.length = p.n) : frames (ms (ps.take (k + 1))) = frames (ms (ps.take k)) ++ le4 p.n ++ p.d := by
  rw [take_snocB h, ms_append]
  simp [frames, ms, frame1, hn]
theorem big_snoc {ps : List BV} {k : Nat} {p : BV} (h : ps[k]? = some p) (hb : (ms (ps.take k)).any big = false) (hn : p.d.length = p.n) (hs : p.n ≤ 1048576) : (ms (ps.take (k + 1))).any big = false := by
  rw [take_snocB h, ms_append, List.any_append, hb]
  have : big p.d = false := decide_eq_false (by omega)
  simp [ms, this]
theorem frame_big {ps : List BV} {k : Nat} {p : BV} (h : ps[k]? = some p) (hn : p.d.length = p.n) (hs : ¬ p.n ≤ 1048576) : frameOf (ms ps) = [] := by
  unfold frameOf
  rw [if_pos]
  rw [List.any_eq_true]
  exact ⟨p.d, List.mem_map.2 ⟨p, List.mem_of_getElem? h, rfl⟩, decide_eq_true (by omega)⟩
theorem frame_end {ps : List BV} (hb : (ms ps).any big = false) : frameOf (ms ps) = frames (ms ps) := by
  unfold frameOf
  rw [hb]; rfl

set_option maxRecDepth 100000 in
set_option maxHeartbeats 1000000 in
theorem frame_any (A : Option Addr) (n c : Nat) (ps : List BV) (w : World) (h : RL w A n ps) (hn : n ≤ 1000) (hf : ∀ p ∈ ps, p.n ≤ 140737488355328) :
    Calls Tryd.prog 30 #[.slice A n c] w fun e w' => ∃ v, e = .returned v ∧ w'.ownsRow w.heap.size 5 1 v (frameOf (ms ps)).length (bs (frameOf (ms ps))) ∧ Below w.heap.size w w' := by
  obtain ⟨i0, hi, hz0, hz1, hz2⟩ := info_parts Tryd.infoU8
  have HI := Lib.hid hi
  have H := Lib.hid h
  have HF := Lib.hid hf
  have HLEN := Lib.hid h.len
  clear h hi hf
  go_enter Tryd.func30, Tryd.ntmps30
  go_wp2_with fail
  go_loopw [3, 9] (fun b i wr => ∃ (k : Nat) (L : Nat), k ≤ n ∧ i = .int .i64 (k : Int) ∧ wr.ownsRow w.heap.size 5 1 b L (bs (frames (ms (ps.take k)))) ∧ L ≤ k * 1048580 ∧ (ms (ps.take k)).any big = false ∧ Below w.heap.size w wr) (fun _ i _ => n - (intOf i).toNat)
  case atStart => exact ⟨0, 0, Nat.zero_le _, rfl, World.ownsRow_nil _ _ _ _, by omega, rfl, Below.refl _ _⟩
  case round =>
    obtain ⟨k, L, hk, rfl, hown, hL, hbig, hb⟩ := hrel
    have OWN := Lib.hid hown
    have BIG := Lib.hid hbig
    have B0 := Lib.hid hb
    clear hown hbig
    by_cases hlt : k < n
    · obtain ⟨ad, p, rfl, hp, hbl, hc, hsb⟩ := H.out.at_ hlt
      have hc' := (hb.cell (p := ad.add k) (by rw [block_of_add]; exact hbl)).trans hc
      have HC := Lib.hid hc
      have HBL := Lib.hid hbl
      have HP := Lib.hid hp
      have HSB := Lib.hid hsb
      have HN := Lib.hid hsb.rb.len
      have hpn := HF.out p (List.mem_of_getElem? hp)
      have hbz := hb.size
      clear hp hsb hb hc
      by_cases hbg : p.n ≤ 1048576
      · have hL' : L + 4 + p.n ≤ 1048580000 + 1048580 := by have := Nat.mul_le_mul (show k ≤ 1000 by omega) (Nat.le_refl 1048580); omega
        have hbgI : (p.n : Int) ≤ 1048576 := by omega
        go_wp2_with (first
          | (at_builtin; refine wpList_append_any _ rfl (.tmp 18) (.tmp 30) _ rfl w.heap.size 5 i0 _ 1 1 Tryd.underlying25 HI.out hz0 hz1 hz2 rfl (by decide) _ L (bs (frames (ms (ps.take k)))) rfl (OWN.out.alloc _) _ _ 4 4 (bs (le4 p.n)) rfl (by exact RB.lit _ _ _ _ 4 (le4 p.n) (le4_cells p.n hbg) rfl) (bs_one _) (by unfold maxLen; omega) (by omega) (by simp; omega) ?_; intro v1 w1 hown1 hg1 hat1; have O1 := Lib.hid hown1; have hb1 : Below w.heap.size w w1 := own_below (B0.out.alloc B0.out.size _) (Nat.le_refl _) (OWN.out.alloc _) (Nat.le_refl _) hg1; have B1 := Lib.hid hb1; have hbz1 := hb1.size; have hc1 := (hb1.cell (p := ad.add k) (by rw [block_of_add]; exact HBL.out)).trans HC.out; clear hown1 hg1 hat1 hb1)
          | (at_builtin; refine wpList_append_any _ rfl (.tmp 32) (.tmp 33) _ rfl w.heap.size 5 i0 _ 1 1 Tryd.underlying25 HI.out hz0 hz1 hz2 rfl (by decide) _ (L + 4) (bs (frames (ms (ps.take k))) ++ bs (le4 p.n)) rfl O1.out _ p.A p.n p.c (bs p.d) rfl (HSB.out.keep B1.out).rb (bs_one _) (by unfold maxLen; omega) (by omega) (by omega) ?_; intro v2 w2 hown2 hg2 hat2; have O2 := Lib.hid hown2; have B2 : Hid (Below w.heap.size w w2) := Lib.hid (own_below B1.out (Nat.le_refl _) O1.out (Nat.le_refl _) hg2); clear hown2 hg2 hat2))
        go_roundw
        case rel => exact ⟨k + 1, L + 4 + p.n, by omega, by go_num, by rw [frames_snoc HP.out HN.out, bs_append, bs_append]; exact O2.out, by omega, big_snoc HP.out BIG.out HN.out hbg, B2.out⟩
        case measure => simp [intOf]; omega
      · have hbg' : (1048576 : Int) < (p.n : Int) := by omega
        have HE := Lib.hid (frame_big HP.out HN.out hbg)
        clear hbg
        go_wp2_with fail
        go_ret
        rw [HE.out]
        exact ⟨_, rfl, World.ownsRow_nil _ _ _ _, B0.out⟩
    · obtain rfl : k = n := by omega
      have HT : Hid (ps.take k = ps) := Lib.hid (List.take_of_length_le (by rw [HLEN.out]; omega))
      go_wp2_with fail
      go_ret
      have h1 := BIG.out
      have h2 := OWN.out
      rw [HT.out] at h1 h2
      rw [frame_end h1]
      rw [own_len h2]
      exact ⟨_, rfl, h2, B0.out⟩

set_option maxRecDepth 100000 in
set_option maxHeartbeats 1000000 in
theorem frameR_any (A : Option Addr) (n c : Nat) (ps : List BV) (w : World) (h : RL w A n ps) (hn : n ≤ 1000) (hf : ∀ p ∈ ps, p.n ≤ 140737488355328) :
    Calls Tryd.prog 31 #[.slice A n c] w fun e w' => ∃ v, e = .returned v ∧ w'.ownsRow w.heap.size 5 1 v (frameOf (ms ps)).length (bs (frameOf (ms ps))) ∧ Below w.heap.size w w' := by
  obtain ⟨i0, hi, hz0, hz1, hz2⟩ := info_parts Tryd.infoU8
  have HI := Lib.hid hi
  have H := Lib.hid h
  have HF := Lib.hid hf
  have HLEN := Lib.hid h.len
  clear h hi hf
  go_enter Tryd.func31, Tryd.ntmps31
  go_wp2_with fail
  go_loopw [3, 4] (fun b i wr => ∃ (k : Nat) (L : Nat), k ≤ n ∧ i = .int .i64 (k : Int) ∧ wr.ownsRow w.heap.size 5 1 b L (bs (frames (ms (ps.take k)))) ∧ L ≤ k * 1048580 ∧ (ms (ps.take k)).any big = false ∧ Below w.heap.size w wr) (fun _ i _ => n - (intOf i).toNat)
  case atStart => exact ⟨0, 0, Nat.zero_le _, rfl, World.ownsRow_nil _ _ _ _, by omega, rfl, Below.refl _ _⟩
  case round =>
    obtain ⟨k, L, hk, rfl, hown, hL, hbig, hb⟩ := hrel
    have OWN := Lib.hid hown
    have BIG := Lib.hid hbig
    have B0 := Lib.hid hb
    clear hown hbig
    by_cases hlt : k < n
    · obtain ⟨ad, p, rfl, hp, hbl, hc, hsb⟩ := H.out.at_ hlt
      have hc' := (hb.cell (p := ad.add k) (by rw [block_of_add]; exact hbl)).trans hc
      have HC := Lib.hid hc
      have HBL := Lib.hid hbl
      have HP := Lib.hid hp
      have HSB := Lib.hid hsb
      have HN := Lib.hid hsb.rb.len
      have hpn := HF.out p (List.mem_of_getElem? hp)
      have hbz := hb.size
      clear hp hsb hb hc
      by_cases hbg : p.n ≤ 1048576
      · have hL' : L + 4 + p.n ≤ 1048580000 + 1048580 := by have := Nat.mul_le_mul (show k ≤ 1000 by omega) (Nat.le_refl 1048580); omega
        have hbgI : (p.n : Int) ≤ 1048576 := by omega
        go_wp2_with (first
          | (at_builtin; refine wpList_append_any _ rfl (.tmp 19) (.tmp 31) _ rfl w.heap.size 5 i0 _ 1 1 Tryd.underlying25 HI.out hz0 hz1 hz2 rfl (by decide) _ L (bs (frames (ms (ps.take k)))) rfl (OWN.out.alloc _) _ _ 4 4 (bs (le4 p.n)) rfl (by exact RB.lit _ _ _ _ 4 (le4 p.n) (le4_cells p.n hbg) rfl) (bs_one _) (by unfold maxLen; omega) (by omega) (by simp; omega) ?_; intro v1 w1 hown1 hg1 hat1; have O1 := Lib.hid hown1; have hb1 : Below w.heap.size w w1 := own_below (B0.out.alloc B0.out.size _) (Nat.le_refl _) (OWN.out.alloc _) (Nat.le_refl _) hg1; have B1 := Lib.hid hb1; have hbz1 := hb1.size; have hc1 := (hb1.cell (p := ad.add k) (by rw [block_of_add]; exact HBL.out)).trans HC.out; clear hown1 hg1 hat1 hb1)
          | (at_builtin; refine wpList_append_any _ rfl (.tmp 33) (.tmp 37) _ rfl w.heap.size 5 i0 _ 1 1 Tryd.underlying25 HI.out hz0 hz1 hz2 rfl (by decide) _ (L + 4) (bs (frames (ms (ps.take k))) ++ bs (le4 p.n)) rfl O1.out _ p.A p.n p.c (bs p.d) rfl (HSB.out.keep B1.out).rb (bs_one _) (by unfold maxLen; omega) (by omega) (by omega) ?_; intro v2 w2 hown2 hg2 hat2; have O2 := Lib.hid hown2; have B2 : Hid (Below w.heap.size w w2) := Lib.hid (own_below B1.out (Nat.le_refl _) O1.out (Nat.le_refl _) hg2); clear hown2 hg2 hat2))
        go_roundw
        case rel => exact ⟨k + 1, L + 4 + p.n, by omega, by go_num, by rw [frames_snoc HP.out HN.out, bs_append, bs_append]; exact O2.out, by omega, big_snoc HP.out BIG.out HN.out hbg, B2.out⟩
        case measure => simp [intOf]; omega
      · have hbg' : (1048576 : Int) < (p.n : Int) := by omega
        have HE := Lib.hid (frame_big HP.out HN.out hbg)
        clear hbg
        go_wp2_with fail
        go_ret
        rw [HE.out]
        exact ⟨_, rfl, World.ownsRow_nil _ _ _ _, B0.out⟩
    · obtain rfl : k = n := by omega
      have HT : Hid (ps.take k = ps) := Lib.hid (List.take_of_length_le (by rw [HLEN.out]; omega))
      go_wp2_with fail
      go_ret
      have h1 := BIG.out
      have h2 := OWN.out
      rw [HT.out] at h1 h2
      rw [frame_end h1]
      rw [own_len h2]
      exact ⟨_, rfl, h2, B0.out⟩

theorem SB.part {w : World} {ad : Addr} {r c k N : Nat} {R : List UInt8} (h : SB w (some ad) r c R) (hk : k + N ≤ r) (h0 : k ≠ 0) : SB w (some ⟨ad.block, ad.off + k, none⟩) N (c - k) ((R.drop k).take N) := by
  have hl := h.rb.len
  have hcap := h.cap
  have ea : (⟨ad.block, ad.off + k, none⟩ : Addr) = ad.add k := by unfold Addr.add; rw [if_neg h0]
  refine ⟨⟨?_, fun hn => ?_⟩, by omega, fun e => by cases e⟩
  · rw [bs_length, List.length_take, List.length_drop]; omega
  · obtain ⟨ad', e, hb, hc⟩ := h.rb.2 (by omega)
    injection e with e
    subst e
    refine ⟨_, rfl, hb, fun j u hj => ?_⟩
    rw [ea, add_of_add]
    refine hc _ u ?_
    rw [← bs_take, ← bs_drop, List.getElem?_take] at hj
    split at hj
    · rw [List.getElem?_drop] at hj; exact hj
    · cases hj
theorem SB.rest {w : World} {ad : Addr} {r c k : Nat} {R : List UInt8} (h : SB w (some ad) r c R) (hk : k ≤ r) (h0 : k ≠ 0) : SB w (some (ad.add k)) (r - k) (c - k) (R.drop k) := by
  have ea : (⟨ad.block, ad.off + k, none⟩ : Addr) = ad.add k := by unfold Addr.add; rw [if_neg h0]
  rw [← ea]
  have := SB.part h (k := k) (N := r - k) (by omega) h0
  rw [List.take_of_length_le (by rw [List.length_drop, h.rb.len]; omega)] at this
  exact this
theorem SB.none_ {w : World} (ad : Addr) {c : Nat} {l : List UInt8} (h : l.length = 0) : SB w (some ad) 0 c l := by
  obtain rfl := List.length_eq_zero_iff.1 h
  exact ⟨⟨rfl, fun h => absurd h (by omega)⟩, Nat.zero_le _, fun e => by cases e⟩
theorem unf_step {l R : List UInt8} {a N : Nat} {qs : List BV} {p : BV} (hU : unf l = pre (ms qs) a (unf R)) (hR : l.drop a = R) (h4 : 4 ≤ R.length) (hN : len4 R = N) (hb : N ≤ 1048576) (hf : 4 + N ≤ R.length) (hp : p.d = (R.drop 4).take N) : unf l = pre (ms (qs ++ [p])) (a + (4 + N)) (unf (l.drop (a + (4 + N)))) := by
  have e : l.drop (a + (4 + N)) = R.drop (4 + N) := by rw [← hR, List.drop_drop]
  rw [hU, unf_more h4 (by rw [hN]; exact hb) (by rw [hN]; exact hf), hN, pre_pre, e, ms_append]
  simp [ms, hp]
/-- how Unframe ends -/
def UPost (w : World) (l : List UInt8) (e : Ending) (w' : World) : Prop :=
  Below w.heap.size w w' ∧ ((unf l = none ∧ e = .returned (.tuple #[.slice none 0 0, .int .i64 0, .int .i64 5])) ∨ ∃ (v : Value) (ps : List BV) (k : Nat), unf l = some (ms ps, k) ∧ e = .returned (.tuple #[v, .int .i64 (k : Int), .int .i64 0]) ∧ OL w.heap.size w' v ps)
theorem UPost.bad {w w' : World} {l : List UInt8} (hb : Below w.heap.size w w') (h : unf l = none) : UPost w l (.returned (.tuple #[.slice none 0 0, .int .i64 0, .int .i64 5])) w' := ⟨hb, .inl ⟨h, rfl⟩⟩
theorem UPost.good {w w' : World} {l : List UInt8} {v : Value} {ps : List BV} {k : Nat} {z : Int} (hz : z = (k : Int)) (hb : Below w.heap.size w w') (h : unf l = some (ms ps, k)) (ho : OL w.heap.size w' v ps) : UPost w l (.returned (.tuple #[v, .int .i64 z, .int .i64 0])) w' := by subst hz; exact ⟨hb, .inr ⟨v, ps, k, h, rfl, ho⟩⟩
/-- what a round of Unframe keeps -/
def UR (w : World) (l : List UInt8) (n : Nat) (out rest : Value) (wr : World) : Prop :=
  ∃ (a r : Nat) (A : Option Addr) (c : Nat) (qs : List BV), a + r = n ∧ rest = .slice A r c ∧ SB w A r c (l.drop a) ∧ OL w.heap.size wr out qs ∧ qs.length ≤ a ∧ unf l = pre (ms qs) a (unf (l.drop a)) ∧ Below w.heap.size w wr
theorem len4_nat (R : List UInt8) : len4 R = (R.getD 0 0).toNat + 256 * (R.getD 1 0).toNat + 65536 * (R.getD 2 0).toNat + 16777216 * (R.getD 3 0).toNat := rfl
theorem wraps63 (n : Int) (h0 : 0 ≤ n) (h1 : n < 2 ^ 63) : IntKind.i64.wrap n = n := by rw [IntKind.wrap_i64]; omega
theorem four_or (b0 b1 b2 b3 : Nat) (h0 : b0 < 256) (h1 : b1 < 256) (h2 : b2 < 256) (h3 : b3 < 256) :
    bits .or .i64 (bits .or .i64 (bits .or .i64 (b0 : Int) ((b1 : Int) * 256)) ((b2 : Int) * 65536)) ((b3 : Int) * 16777216) = ((b0 + 256 * b1 + 65536 * b2 + 16777216 * b3 : Nat) : Int) := by
  rw [bits_join_low .i64 63 (by decide) wraps63 8 (b0 : Int) ((b1 : Int) * 256) (by omega) (by omega) (by omega) (by omega) (by omega) (by omega)]
  rw [bits_join_low .i64 63 (by decide) wraps63 16 _ ((b2 : Int) * 65536) (by omega) (by omega) (by omega) (by omega) (by omega) (by omega)]
  rw [bits_join_low .i64 63 (by decide) wraps63 24 _ ((b3 : Int) * 16777216) (by omega) (by omega) (by omega) (by omega) (by omega) (by omega)]
  omega

set_option maxRecDepth 100000 in
set_option maxHeartbeats 2000000 in
theorem unframe_any (A : Option Addr) (n c : Nat) (l : List UInt8) (w : World) (h : SB w A n c l) (hn : n ≤ 100000000) :
    Calls Tryd.prog 27 #[.slice A n c] w (UPost w l) := by
  obtain ⟨i0, hi, hz0, hz1, hz2⟩ := info_parts infoBs
  have HI := Lib.hid hi
  have H := Lib.hid h
  have HLEN := Lib.hid h.rb.len
  clear h hi
  go_enter Tryd.func27, Tryd.ntmps27
  go_wp2_with fail
  go_loopw [5, 6] (fun out rest wr => UR w l n out rest wr) (fun _ rest _ => match rest with | .slice _ r _ => r | _ => 0)
  case atStart => exact ⟨0, n, A, c, [], by omega, rfl, by simpa using H.out, OL.nil _ _, Nat.zero_le _, by rw [show ms [] = [] from rfl, pre_nil, List.drop_zero], Below.refl _ _⟩
  case round =>
    obtain ⟨a, r, A1, c1, qs, har, rfl, hsb, hol, hql, hunf, hb⟩ := hrel
    obtain ⟨Ao, co, rfl, _, _⟩ := hol.form
    have OUT := Lib.hid hol
    have UNF := Lib.hid hunf
    have B0 := Lib.hid hb
    have S0 := Lib.hid hsb
    have hRl := hsb.rb.len
    have hcap := hsb.cap
    clear hol hunf hsb
    generalize hR : l.drop a = R at UNF S0 hRl
    have HR := Lib.hid hR
    clear hR
    have HRL := Lib.hid hRl
    clear hRl
    by_cases h4 : 4 ≤ r
    · have h4I : (4 : Int) ≤ (r : Int) := by omega
      obtain ⟨ad, rfl, hbl, hc0⟩ := S0.out.rb.at_ (k := 0) (by omega)
      have hcx : ∀ k, k < r → wr.cell? (ad.add k) = some (.int .u8 ((R.getD k 0).toNat : Int)) := fun k hk => by
        obtain ⟨ad', e, hbl', hc⟩ := S0.out.rb.at_ hk
        injection e with e
        subst e
        exact (hb.cell (p := ad.add k) (by rw [block_of_add]; exact hbl')).trans hc
      have c0 : wr.cell? ad = some (.int .u8 ((R.getD 0 0).toNat : Int)) := hcx 0 (by omega)
      have c1' : wr.cell? ⟨ad.block, ad.off + 1, none⟩ = some (.int .u8 ((R.getD 1 0).toNat : Int)) := hcx 1 (by omega)
      have c2 : wr.cell? ⟨ad.block, ad.off + 2, none⟩ = some (.int .u8 ((R.getD 2 0).toNat : Int)) := hcx 2 (by omega)
      have c3 : wr.cell? ⟨ad.block, ad.off + 3, none⟩ = some (.int .u8 ((R.getD 3 0).toNat : Int)) := hcx 3 (by omega)
      have HL4 := Lib.hid (len4_nat R)
      have b0 := (R.getD 0 0).toNat_lt
      have b1 := (R.getD 1 0).toNat_lt
      have b2 := (R.getD 2 0).toNat_lt
      have b3 := (R.getD 3 0).toNat_lt
      have n0 : 0 < r := by omega
      have n1 : (1 : Int) < (r : Int) := by omega
      have n2 : (2 : Int) < (r : Int) := by omega
      have n3 : (3 : Int) < (r : Int) := by omega
      have n1' : 1 < r := by omega
      have n2' : 2 < r := by omega
      have n3' : 3 < r := by omega
      clear hcx hc0 hb
      generalize (R.getD 0 0).toNat = x0 at c0 b0 HL4
      generalize (R.getD 1 0).toNat = x1 at c1' b1 HL4
      generalize (R.getD 2 0).toNat = x2 at c2 b2 HL4
      generalize (R.getD 3 0).toNat = x3 at c3 b3 HL4
      have y0 : IntKind.i64.wrap (x0 : Int) = (x0 : Int) := by rw [IntKind.wrap_i64]; omega
      have v0 : (x0 : Int) ≤ 255 := by omega
      have y1 : IntKind.i64.wrap (x1 : Int) = (x1 : Int) := by rw [IntKind.wrap_i64]; omega
      have v1 : (x1 : Int) ≤ 255 := by omega
      have y2 : IntKind.i64.wrap (x2 : Int) = (x2 : Int) := by rw [IntKind.wrap_i64]; omega
      have v2 : (x2 : Int) ≤ 255 := by omega
      have y3 : IntKind.i64.wrap (x3 : Int) = (x3 : Int) := by rw [IntKind.wrap_i64]; omega
      have v3 : (x3 : Int) ≤ 255 := by omega
      go_wp2_with fail
      go_quiet (fail)
      rw [four_or x0 x1 x2 x3 (by omega) (by omega) (by omega) (by omega)]
      clear c0 c1' c2 c3 y0 y1 y2 y3 v0 v1 v2 v3 b0 b1 b2 b3 n0 n1 n2 n3 n1' n2' n3'
      generalize x0 + 256 * x1 + 65536 * x2 + 16777216 * x3 = N at HL4 ⊢
      have OUT2 := Lib.hid (show OL w.heap.size (wr.drewN nq) (.slice Ao qs.length co) qs from ⟨OUT.out.row, OUT.out.els⟩)
      have B2 := Lib.hid (below_drewN B0.out nq)
      have hbz : w.heap.size ≤ (wr.drewN nq).heap.size := B2.out.size
      clear OUT B0
      generalize wr.drewN nq = wq at OUT2 B2 hbz ⊢
      by_cases hbg : 1048576 < N
      · have hbgI : (1048576 : Int) < (N : Int) := by omega
        have HU : Hid (unf l = none) := Lib.hid (by rw [UNF.out, unf_big (by rw [HRL.out]; exact h4) (by rw [HL4.out]; exact hbg), pre_none])
        clear hbg
        go_wp2_with fail
        go_ret3
        exact UPost.bad B2.out HU.out
      · have hbgI : (N : Int) ≤ 1048576 := by omega
        by_cases hfit : 4 + N ≤ r
        · have hfitI : (4 : Int) + (N : Int) ≤ (r : Int) := by omega
          have hcapI : (r : Int) ≤ (c1 : Int) := by omega
          clear hbg
          have HU := Lib.hid (fun (p : BV) (hp : p.d = (R.drop 4).take N) => unf_step (p := p) UNF.out HR.out (by rw [HRL.out]; exact h4) HL4.out (by omega) (by rw [HRL.out]; exact hfit) hp)
          have HUR : Hid (l.drop (a + (4 + N)) = R.drop (4 + N)) := Lib.hid (by rw [← HR.out, List.drop_drop])
          by_cases h1 : c1 = 4 + N
          · by_cases h4c : c1 = 4
            · obtain rfl : N = 0 := by omega
              subst h4c
              obtain rfl : r = 4 := by omega
              clear h4I hcapI hfitI hbgI h1 hfit h4
              have SC : Hid (SB w (some ad) 0 0 ((R.drop 4).take 0)) := Lib.hid (SB.none_ ad (by rw [List.take_zero]; rfl))
              have SR : Hid (SB w (some ad) 0 0 (l.drop (a + (4 + 0)))) := Lib.hid (by rw [HUR.out]; exact SB.none_ ad (by rw [List.length_drop, HRL.out]))
              go_wp2_with fail
              refine (clone2_any (some ad) 0 0 ((R.drop 4).take 0) _ ?_ (by omega)).mono ?_
              · exact SC.out.keep B2.out
              rintro e w3 ⟨v3, rfl, hown3, hb3⟩
              obtain ⟨A3, c3, rfl, _⟩ := own_sb hown3
              have O3 := Lib.hid (own_mono hown3 hbz)
              have OUT3 := Lib.hid (OUT2.out.keep hb3)
              have B3 : Hid (Below w.heap.size w w3) := Lib.hid (B2.out.trans (hb3.mono hbz))
              have hz3 := B3.out.size
              clear hown3 hb3
              go_wp2_with (at_builtin; refine wpList_append_any _ rfl (.tmp 43) (.tmp 48) _ rfl w.heap.size 25 i0 _ 1 24 Tryd.underlying57 HI.out hz0 hz1 hz2 rfl (by decide) _ qs.length (cs qs) rfl (OUT3.out.row.alloc _) _ _ 1 1 [.slice A3 0 c3] rfl (by exact Reads.lit _ _ _ _ 1 [.slice A3 0 c3] rfl rfl) (by intro u hu; simp at hu; subst hu; rfl) (by unfold maxLen; omega) (by omega) (by simp; omega) ?_; intro v4 w4 hown4 hg4 hat4; have OUT4 := Lib.hid ((OUT3.out.keep ((Below.refl _ _).alloc (Nat.le_refl _) (.cells #[.slice A3 0 c3] 25))).snoc (p := ⟨A3, 0, c3, (R.drop 4).take 0⟩) (O3.out.alloc _) hown4 hg4); have B4 : Hid (Below w.heap.size w w4) := Lib.hid (own_below (B3.out.alloc hz3 _) (Nat.le_refl _) (OUT3.out.row.alloc _) (Nat.le_refl _) hg4); clear hown4 hg4 hat4)
              go_roundw
              case rel => exact ⟨a + (4 + 0), 0, some ad, 0, qs ++ [⟨A3, 0, c3, (R.drop 4).take 0⟩], by omega, rfl, SR.out, OUT4.out, by simp; omega, HU.out _ rfl, B4.out⟩
              case measure => simp
            · have h4' : 4 < c1 := by omega
              have hr4 : r = 4 + N := by omega
              have hrI : (r : Int) = (4 : Int) + (N : Int) := by omega
              subst h1
              have SC : Hid (SB w (some ⟨ad.block, ad.off + 4, none⟩) N N ((R.drop 4).take N)) := Lib.hid (by have := SB.part S0.out (k := 4) (N := N) hfit (by decide); rw [Nat.add_sub_cancel_left] at this; exact this)
              have SR : Hid (SB w (some ad) 0 0 (l.drop (a + (4 + N)))) := Lib.hid (by rw [HUR.out]; exact SB.none_ ad (by rw [List.length_drop, HRL.out]; omega))
              clear hrI
              subst hr4
              clear hcapI hfitI h4I
              go_wp2_with fail
              refine (clone2_any (some ⟨ad.block, ad.off + 4, none⟩) N N ((R.drop 4).take N) _ ?_ (by omega)).mono ?_
              · exact SC.out.keep B2.out
              rintro e w3 ⟨v3, rfl, hown3, hb3⟩
              obtain ⟨A3, c3, rfl, _⟩ := own_sb hown3
              have O3 := Lib.hid (own_mono hown3 hbz)
              have OUT3 := Lib.hid (OUT2.out.keep hb3)
              have B3 : Hid (Below w.heap.size w w3) := Lib.hid (B2.out.trans (hb3.mono hbz))
              have hz3 := B3.out.size
              clear hown3 hb3
              go_wp2_with (at_builtin; refine wpList_append_any _ rfl (.tmp 43) (.tmp 48) _ rfl w.heap.size 25 i0 _ 1 24 Tryd.underlying57 HI.out hz0 hz1 hz2 rfl (by decide) _ qs.length (cs qs) rfl (OUT3.out.row.alloc _) _ _ 1 1 [.slice A3 N c3] rfl (by exact Reads.lit _ _ _ _ 1 [.slice A3 N c3] rfl rfl) (by intro u hu; simp at hu; subst hu; rfl) (by unfold maxLen; omega) (by omega) (by simp; omega) ?_; intro v4 w4 hown4 hg4 hat4; have OUT4 := Lib.hid ((OUT3.out.keep ((Below.refl _ _).alloc (Nat.le_refl _) (.cells #[.slice A3 N c3] 25))).snoc (p := ⟨A3, N, c3, (R.drop 4).take N⟩) (O3.out.alloc _) hown4 hg4); have B4 : Hid (Below w.heap.size w w4) := Lib.hid (own_below (B3.out.alloc hz3 _) (Nat.le_refl _) (OUT3.out.row.alloc _) (Nat.le_refl _) hg4); clear hown4 hg4 hat4)
              go_roundw
              case rel => exact ⟨a + (4 + N), 0, some ad, 0, qs ++ [⟨A3, N, c3, (R.drop 4).take N⟩], by omega, by rw [Nat.sub_self], SR.out, OUT4.out, by simp; omega, HU.out _ rfl, B4.out⟩
              case measure => simp; omega
          · have h1' : 4 + N < c1 := by omega
            have h4' : 4 < c1 := by omega
            have SC := Lib.hid (SB.part S0.out (k := 4) (N := N) hfit (by decide))
            have SR : Hid (SB w (some (ad.add (4 + N))) (r - (4 + N)) (c1 - (4 + N)) (l.drop (a + (4 + N)))) := Lib.hid (by rw [HUR.out]; exact SB.rest S0.out hfit (by omega))
            go_wp2_with fail
            refine (clone2_any (some ⟨ad.block, ad.off + 4, none⟩) N (c1 - 4) ((R.drop 4).take N) _ ?_ (by omega)).mono ?_
            · exact SC.out.keep B2.out
            rintro e w3 ⟨v3, rfl, hown3, hb3⟩
            obtain ⟨A3, c3, rfl, _⟩ := own_sb hown3
            have O3 := Lib.hid (own_mono hown3 hbz)
            have OUT3 := Lib.hid (OUT2.out.keep hb3)
            have B3 : Hid (Below w.heap.size w w3) := Lib.hid (B2.out.trans (hb3.mono hbz))
            have hz3 := B3.out.size
            clear hown3 hb3
            go_wp2_with (at_builtin; refine wpList_append_any _ rfl (.tmp 43) (.tmp 48) _ rfl w.heap.size 25 i0 _ 1 24 Tryd.underlying57 HI.out hz0 hz1 hz2 rfl (by decide) _ qs.length (cs qs) rfl (OUT3.out.row.alloc _) _ _ 1 1 [.slice A3 N c3] rfl (by exact Reads.lit _ _ _ _ 1 [.slice A3 N c3] rfl rfl) (by intro u hu; simp at hu; subst hu; rfl) (by unfold maxLen; omega) (by omega) (by simp; omega) ?_; intro v4 w4 hown4 hg4 hat4; have OUT4 := Lib.hid ((OUT3.out.keep ((Below.refl _ _).alloc (Nat.le_refl _) (.cells #[.slice A3 N c3] 25))).snoc (p := ⟨A3, N, c3, (R.drop 4).take N⟩) (O3.out.alloc _) hown4 hg4); have B4 : Hid (Below w.heap.size w w4) := Lib.hid (own_below (B3.out.alloc hz3 _) (Nat.le_refl _) (OUT3.out.row.alloc _) (Nat.le_refl _) hg4); clear hown4 hg4 hat4)
            go_roundw
            case rel => exact ⟨a + (4 + N), r - (4 + N), some (ad.add (4 + N)), c1 - (4 + N), qs ++ [⟨A3, N, c3, (R.drop 4).take N⟩], by omega, rfl, SR.out, OUT4.out, by simp; omega, HU.out _ rfl, B4.out⟩
            case measure => simp; omega
        · have hfitI : (r : Int) < (4 : Int) + (N : Int) := by omega
          have HU : Hid (unf l = some (ms qs, a)) := Lib.hid (by rw [UNF.out, unf_part (by rw [HRL.out]; exact h4) (by rw [HL4.out]; omega) (by rw [HRL.out, HL4.out]; omega)]; simp [pre])
          clear hbg
          go_wp2_with fail
          go_ret3
          exact UPost.good (by omega) B2.out HU.out OUT2.out
    · have h4I : (r : Int) < 4 := by omega
      have HU : Hid (unf l = some (ms qs, a)) := Lib.hid (by rw [UNF.out, unf_short (by rw [HRL.out]; omega)]; simp [pre])
      clear hb
      go_wp2_with fail
      go_ret3
      exact UPost.good (by omega) B0.out HU.out OUT.out

/-- what a round of the reference's Unframe keeps -/
def UR2 (w : World) (l : List UInt8) (n : Nat) (out at0 : Value) (wr : World) : Prop :=
  ∃ (a : Nat) (qs : List BV), a ≤ n ∧ at0 = .int .i64 (a : Int) ∧ OL w.heap.size wr out qs ∧ qs.length ≤ a ∧ unf l = pre (ms qs) a (unf (l.drop a)) ∧ Below w.heap.size w wr
theorem SB.mid {w : World} {ad : Addr} {n c k N : Nat} {l : List UInt8} (h : SB w (some ad) n c l) (hk : k + N ≤ n) : SB w (some (ad.add k)) N (c - k) ((l.drop k).take N) := by
  rcases Nat.eq_zero_or_pos k with rfl | h0
  · have hl := h.rb.len
    have hcap := h.cap
    refine ⟨⟨?_, fun hn => ?_⟩, by omega, fun e => by cases e⟩
    · rw [bs_length, List.length_take, List.length_drop]; omega
    · obtain ⟨ad', e, hb, hc⟩ := h.rb.2 (by omega)
      injection e with e
      subst e
      refine ⟨_, rfl, hb, fun j u hj => hc j u ?_⟩
      rw [List.drop_zero, ← bs_take, List.getElem?_take] at hj
      split at hj
      · exact hj
      · cases hj
  · have := SB.part h hk (by omega)
    have ea : (⟨ad.block, ad.off + k, none⟩ : Addr) = ad.add k := by unfold Addr.add; rw [if_neg (by omega)]
    rw [ea] at this
    exact this
theorem add_pos (ad : Addr) {k : Nat} (h : k ≠ 0) : ad.add k = ⟨ad.block, ad.off + k, none⟩ := by unfold Addr.add; rw [if_neg h]
theorem getD_drop (l : List UInt8) (a k : Nat) : (l.drop a).getD k 0 = l.getD (a + k) 0 := by simp [List.getD]
set_option maxRecDepth 100000 in
set_option maxHeartbeats 2000000 in
theorem unframeR_any (A : Option Addr) (n c : Nat) (l : List UInt8) (w : World) (h : SB w A n c l) (hn : n ≤ 100000000) :
    Calls Tryd.prog 32 #[.slice A n c] w (UPost w l) := by
  obtain ⟨i0, hi, hz0, hz1, hz2⟩ := info_parts infoBs
  have HI := Lib.hid hi
  obtain ⟨i1, hi1, hy0, hy1, hy2⟩ := info_parts Tryd.infoU8
  have HI1 := Lib.hid hi1
  have H := Lib.hid h
  have HLEN := Lib.hid h.rb.len
  clear h hi hi1
  go_enter Tryd.func32, Tryd.ntmps32
  go_wp2_with fail
  go_loopw [5, 6] (fun out at0 wr => UR2 w l n out at0 wr) (fun _ at0 _ => n - (intOf at0).toNat)
  case atStart => exact ⟨0, [], Nat.zero_le _, rfl, OL.nil _ _, Nat.zero_le _, by rw [show ms [] = [] from rfl, pre_nil, List.drop_zero], Below.refl _ _⟩
  case round =>
    obtain ⟨a, qs, han, rfl, hol, hql, hunf, hb⟩ := hrel
    obtain ⟨Ao, co, rfl, _, _⟩ := hol.form
    have OUT := Lib.hid hol
    have UNF := Lib.hid hunf
    have B0 := Lib.hid hb
    clear hol hunf
    have HRL : Hid ((l.drop a).length = n - a) := Lib.hid (by rw [List.length_drop, HLEN.out])
    by_cases h4 : a + 4 ≤ n
    · have h4I : (a : Int) + 4 ≤ (n : Int) := by omega
      obtain ⟨ad, rfl, hbl, hc0⟩ := H.out.rb.at_ (k := 0) (by omega)
      have hcx : ∀ k, k < 4 → wr.cell? (ad.add (a + k)) = some (.int .u8 (((l.drop a).getD k 0).toNat : Int)) := fun k hk => by
        obtain ⟨ad', e, hbl', hc⟩ := H.out.rb.at_ (k := a + k) (by omega)
        injection e with e
        subst e
        rw [getD_drop]
        exact (hb.cell (p := ad.add (a + k)) (by rw [block_of_add]; exact hbl')).trans hc
      have c0 : wr.cell? (ad.add a) = some (.int .u8 (((l.drop a).getD 0 0).toNat : Int)) := hcx 0 (by omega)
      have c1' : wr.cell? ⟨ad.block, ad.off + (a + 1), none⟩ = some (.int .u8 (((l.drop a).getD 1 0).toNat : Int)) := by rw [← add_pos ad (show a + 1 ≠ 0 by omega)]; exact hcx 1 (by omega)
      have c2 : wr.cell? ⟨ad.block, ad.off + (a + 2), none⟩ = some (.int .u8 (((l.drop a).getD 2 0).toNat : Int)) := by rw [← add_pos ad (show a + 2 ≠ 0 by omega)]; exact hcx 2 (by omega)
      have c3 : wr.cell? ⟨ad.block, ad.off + (a + 3), none⟩ = some (.int .u8 (((l.drop a).getD 3 0).toNat : Int)) := by rw [← add_pos ad (show a + 3 ≠ 0 by omega)]; exact hcx 3 (by omega)
      have HL4 := Lib.hid (len4_nat (l.drop a))
      have b0 := ((l.drop a).getD 0 0).toNat_lt
      have b1 := ((l.drop a).getD 1 0).toNat_lt
      have b2 := ((l.drop a).getD 2 0).toNat_lt
      have b3 := ((l.drop a).getD 3 0).toNat_lt
      have n0 : (a : Int) < (n : Int) := by omega
      have n1 : (a : Int) + 1 < (n : Int) := by omega
      have n2 : (a : Int) + 2 < (n : Int) := by omega
      have n3 : (a : Int) + 3 < (n : Int) := by omega
      clear hcx hc0 hb
      generalize ((l.drop a).getD 0 0).toNat = x0 at c0 b0 HL4
      generalize ((l.drop a).getD 1 0).toNat = x1 at c1' b1 HL4
      generalize ((l.drop a).getD 2 0).toNat = x2 at c2 b2 HL4
      generalize ((l.drop a).getD 3 0).toNat = x3 at c3 b3 HL4
      have y0 : IntKind.i64.wrap (x0 : Int) = (x0 : Int) := by rw [IntKind.wrap_i64]; omega
      have v0 : (x0 : Int) ≤ 255 := by omega
      have y1 : IntKind.i64.wrap (x1 : Int) = (x1 : Int) := by rw [IntKind.wrap_i64]; omega
      have v1 : (x1 : Int) ≤ 255 := by omega
      have y2 : IntKind.i64.wrap (x2 : Int) = (x2 : Int) := by rw [IntKind.wrap_i64]; omega
      have v2 : (x2 : Int) ≤ 255 := by omega
      have y3 : IntKind.i64.wrap (x3 : Int) = (x3 : Int) := by rw [IntKind.wrap_i64]; omega
      have v3 : (x3 : Int) ≤ 255 := by omega
      have a1 : (0 : Int) ≤ (a : Int) + 1 := by omega
      have t1 : ((a : Int) + 1).toNat = a + 1 := by omega
      have q1 : IntKind.i64.wrap ((a : Int) + 1) = (a : Int) + 1 := by rw [IntKind.wrap_i64]; omega
      have a2 : (0 : Int) ≤ (a : Int) + 2 := by omega
      have t2 : ((a : Int) + 2).toNat = a + 2 := by omega
      have q2 : IntKind.i64.wrap ((a : Int) + 2) = (a : Int) + 2 := by rw [IntKind.wrap_i64]; omega
      have a3 : (0 : Int) ≤ (a : Int) + 3 := by omega
      have t3 : ((a : Int) + 3).toNat = a + 3 := by omega
      have q3 : IntKind.i64.wrap ((a : Int) + 3) = (a : Int) + 3 := by rw [IntKind.wrap_i64]; omega
      have m1 : IntKind.i64.wrap (256 * (x1 : Int)) = 256 * (x1 : Int) := by rw [IntKind.wrap_i64]; omega
      have m2 : IntKind.i64.wrap (65536 * (x2 : Int)) = 65536 * (x2 : Int) := by rw [IntKind.wrap_i64]; omega
      have m3 : IntKind.i64.wrap (16777216 * (x3 : Int)) = 16777216 * (x3 : Int) := by rw [IntKind.wrap_i64]; omega
      have p1 : IntKind.i64.wrap ((x0 : Int) + 256 * (x1 : Int)) = (x0 : Int) + 256 * (x1 : Int) := by rw [IntKind.wrap_i64]; omega
      have p2 : IntKind.i64.wrap ((x0 : Int) + 256 * (x1 : Int) + 65536 * (x2 : Int)) = (x0 : Int) + 256 * (x1 : Int) + 65536 * (x2 : Int) := by rw [IntKind.wrap_i64]; omega
      have p3 : IntKind.i64.wrap ((x0 : Int) + 256 * (x1 : Int) + 65536 * (x2 : Int) + 16777216 * (x3 : Int)) = (x0 : Int) + 256 * (x1 : Int) + 65536 * (x2 : Int) + 16777216 * (x3 : Int) := by rw [IntKind.wrap_i64]; omega
      go_wp2_with fail
      go_quiet (fail)
      have es : (x0 : Int) + 256 * (x1 : Int) + 65536 * (x2 : Int) + 16777216 * (x3 : Int) = ((x0 + 256 * x1 + 65536 * x2 + 16777216 * x3 : Nat) : Int) := by omega
      rw [es]
      clear es c0 c1' c2 c3 y0 y1 y2 y3 v0 v1 v2 v3 b0 b1 b2 b3 n0 n1 n2 n3 a1 t1 q1 a2 t2 q2 a3 t3 q3 m1 m2 m3 p1 p2 p3
      generalize x0 + 256 * x1 + 65536 * x2 + 16777216 * x3 = N at HL4 ⊢
      have OUT2 := Lib.hid (show OL w.heap.size (wr.drewN nq) (.slice Ao qs.length co) qs from ⟨OUT.out.row, OUT.out.els⟩)
      have B2 := Lib.hid (below_drewN B0.out nq)
      have hbz : w.heap.size ≤ (wr.drewN nq).heap.size := B2.out.size
      clear OUT B0
      generalize wr.drewN nq = wq at OUT2 B2 hbz ⊢
      by_cases hbg : 1048576 < N
      · have hbgI : (1048576 : Int) < (N : Int) := by omega
        have HU : Hid (unf l = none) := Lib.hid (by rw [UNF.out, unf_big (by rw [HRL.out]; omega) (by rw [HL4.out]; exact hbg), pre_none])
        clear hbg
        go_wp2_with fail
        go_ret3
        exact UPost.bad B2.out HU.out
      · have hbgI : (N : Int) ≤ 1048576 := by omega
        by_cases hfit : a + 4 + N ≤ n
        · have hfitI : (N : Int) ≤ (n : Int) - (a : Int) - 4 := by omega
          have hfitJ : (a : Int) + 4 + (N : Int) ≤ (n : Int) := by omega
          have hcap := H.out.cap
          have hcapI : (n : Int) ≤ (c : Int) := by omega
          clear hbg
          have HU := Lib.hid (fun (p : BV) (hp : p.d = ((l.drop a).drop 4).take N) => unf_step (p := p) UNF.out rfl (by rw [HRL.out]; omega) HL4.out (by omega) (by rw [HRL.out]; omega) hp)
          have SC := Lib.hid (SB.mid H.out (k := a + 4) (N := N) hfit)
          have hdd : (l.drop a).drop 4 = l.drop (a + 4) := List.drop_drop
          rw [hdd] at HU
          clear hdd
          by_cases h1 : c = a + 4
          · obtain rfl : N = 0 := by omega
            obtain rfl : n = a + 4 := by omega
            subst h1
            clear hfitI hfitJ hcapI hbgI h4I h4 hfit
            have S0 : Hid (SB w (some ad) 0 0 ((l.drop (a + 4)).take 0)) := Lib.hid (SB.none_ ad (by rw [List.take_zero]; rfl))
            go_wp2_with (first
              | (at_builtin; refine wpList_append_any _ rfl (.tmp 54) (.tmp 62) _ rfl wq.heap.size 5 i1 _ 1 1 Tryd.underlying25 HI1.out hy0 hy1 hy2 rfl (by decide) _ 0 [] rfl (own_empty _ _) _ _ _ _ (bs ((l.drop (a + 4)).take 0)) rfl (by exact Reads.alloc (S0.out.keep B2.out).rb (Nat.le_refl _) _) (bs_one _) (by unfold maxLen; omega) (by omega) (by simp) ?_; intro v3 w3 hown3 hg3 hat3; have hown3' : w3.ownsRow wq.heap.size 5 1 v3 0 (bs ((l.drop (a + 4)).take 0)) := (by simpa using hown3); have hb3 : Below wq.heap.size wq w3 := own_below ((Below.refl _ _).alloc (Nat.le_refl _) _) (Nat.le_refl _) (own_empty _ _) (Nat.le_refl _) hg3; obtain ⟨A3, c3, rfl, _⟩ := own_sb hown3'; have O3 := Lib.hid (own_mono hown3' hbz); have OUT3 := Lib.hid (OUT2.out.keep hb3); have B3 : Hid (Below w.heap.size w w3) := Lib.hid (B2.out.trans (hb3.mono hbz)); have hz3 := B3.out.size; clear hown3 hown3' hg3 hat3 hb3)
              | (at_builtin; refine wpList_append_any _ rfl (.tmp 53) (.tmp 64) _ rfl w.heap.size 25 i0 _ 1 24 Tryd.underlying57 HI.out hz0 hz1 hz2 rfl (by decide) _ qs.length (cs qs) rfl (OUT3.out.row.alloc _) _ _ 1 1 [.slice A3 0 c3] rfl (by exact Reads.lit _ _ _ _ 1 [.slice A3 0 c3] rfl rfl) (by intro u hu; simp at hu; subst hu; rfl) (by unfold maxLen; omega) (by omega) (by simp; omega) ?_; intro v4 w4 hown4 hg4 hat4; have OUT4 := Lib.hid ((OUT3.out.keep ((Below.refl _ _).alloc (Nat.le_refl _) (.cells #[.slice A3 0 c3] 25))).snoc (p := ⟨A3, 0, c3, (l.drop (a + 4)).take 0⟩) (O3.out.alloc _) hown4 hg4); have B4 : Hid (Below w.heap.size w w4) := Lib.hid (own_below (B3.out.alloc hz3 _) (Nat.le_refl _) (OUT3.out.row.alloc _) (Nat.le_refl _) hg4); clear hown4 hg4 hat4))
            go_roundw
            case rel => exact ⟨a + (4 + 0), qs ++ [⟨A3, 0, c3, (l.drop (a + 4)).take 0⟩], by omega, by go_num, OUT4.out, by simp; omega, HU.out _ rfl, B4.out⟩
            case measure => simp [intOf]; omega
          · have h1' : a + 4 < c := by omega
            have hsub : a + 4 + N - (a + 4) = N := by omega
            have HSUB := Lib.hid hsub
            clear hsub
            go_wp2_with (first
              | (at_builtin; refine wpList_append_any _ rfl (.tmp 54) (.tmp 62) _ rfl wq.heap.size 5 i1 _ 1 1 Tryd.underlying25 HI1.out hy0 hy1 hy2 rfl (by decide) _ 0 [] rfl (own_empty _ _) _ (some (ad.add (a + 4))) (a + 4 + N - (a + 4)) (c - (a + 4)) (bs ((l.drop (a + 4)).take N)) rfl (by rw [HSUB.out]; exact Reads.alloc (SC.out.keep B2.out).rb (Nat.le_refl _) _) (bs_one _) (by unfold maxLen; omega) (by omega) (by simp) ?_; intro v3 w3 hown3 hg3 hat3; have hown3' : w3.ownsRow wq.heap.size 5 1 v3 N (bs ((l.drop (a + 4)).take N)) := (by rw [HSUB.out] at hown3; simpa using hown3); have hb3 : Below wq.heap.size wq w3 := own_below ((Below.refl _ _).alloc (Nat.le_refl _) _) (Nat.le_refl _) (own_empty _ _) (Nat.le_refl _) hg3; obtain ⟨A3, c3, rfl, _⟩ := own_sb hown3'; have O3 := Lib.hid (own_mono hown3' hbz); have OUT3 := Lib.hid (OUT2.out.keep hb3); have B3 : Hid (Below w.heap.size w w3) := Lib.hid (B2.out.trans (hb3.mono hbz)); have hz3 := B3.out.size; clear hown3 hown3' hg3 hat3 hb3)
              | (at_builtin; refine wpList_append_any _ rfl (.tmp 53) (.tmp 64) _ rfl w.heap.size 25 i0 _ 1 24 Tryd.underlying57 HI.out hz0 hz1 hz2 rfl (by decide) _ qs.length (cs qs) rfl (OUT3.out.row.alloc _) _ _ 1 1 [.slice A3 N c3] rfl (by exact Reads.lit _ _ _ _ 1 [.slice A3 N c3] rfl rfl) (by intro u hu; simp at hu; subst hu; rfl) (by unfold maxLen; omega) (by omega) (by simp; omega) ?_; intro v4 w4 hown4 hg4 hat4; have OUT4 := Lib.hid ((OUT3.out.keep ((Below.refl _ _).alloc (Nat.le_refl _) (.cells #[.slice A3 N c3] 25))).snoc (p := ⟨A3, N, c3, (l.drop (a + 4)).take N⟩) (O3.out.alloc _) hown4 hg4); have B4 : Hid (Below w.heap.size w w4) := Lib.hid (own_below (B3.out.alloc hz3 _) (Nat.le_refl _) (OUT3.out.row.alloc _) (Nat.le_refl _) hg4); clear hown4 hg4 hat4))
            go_roundw
            case rel => exact ⟨a + (4 + N), qs ++ [⟨A3, N, c3, (l.drop (a + 4)).take N⟩], by omega, by go_num, OUT4.out, by simp; omega, HU.out _ rfl, B4.out⟩
            case measure => simp [intOf]; omega
        · have hfitI : (n : Int) - (a : Int) - 4 < (N : Int) := by omega
          have HU : Hid (unf l = some (ms qs, a)) := Lib.hid (by rw [UNF.out, unf_part (by rw [HRL.out]; omega) (by rw [HL4.out]; omega) (by rw [HRL.out, HL4.out]; omega)]; simp [pre])
          clear hbg
          go_wp2_with fail
          go_ret3
          exact UPost.good rfl B2.out HU.out OUT2.out
    · have h4I : (n : Int) < (a : Int) + 4 := by omega
      have HU : Hid (unf l = some (ms qs, a)) := Lib.hid (by rw [UNF.out, unf_short (by rw [HRL.out]; omega)]; simp [pre])
      clear hb
      go_wp2_with fail
      go_ret3
      exact UPost.good rfl B0.out HU.out OUT.out
end Go.Proofs.YtkllfnaofapfnaaDoor.Frm
