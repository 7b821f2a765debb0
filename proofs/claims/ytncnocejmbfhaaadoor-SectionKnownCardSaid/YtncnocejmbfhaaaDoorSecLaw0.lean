/-
  The contracts of what the laws on files of parts use: few, theirs, and the reference's Same. Conditions: the parts can be read, within the form's reach.
-/
import Derived.Test.YtncnocejmbfhaaaDoorSecSplitR
namespace Go.Proofs.YtncnocejmbfhaaaDoor.Sec
open Go.RowKit Wd Cod Crc

theorem w64 (z : Int) : IntKind.i64.wrap z = wrap64 z := by rw [IntKind.wrap_i64]; unfold wrap64; rfl
def fewB (ps : List PV) : Bool := (ps.all fun p => decide (p.name.size ≤ 40)) && decide (ps.length ≤ 80 ∧ total (pts ps) ≤ 5000)
theorem fewB_room {ps : List PV} (h : fewB ps = true) : Room ps ∧ ps.length ≤ 80 ∧ total (pts ps) ≤ 5000 ∧ ∀ p ∈ ps, p.name.size ≤ 40 := by
  unfold fewB at h
  rw [Bool.and_eq_true, List.all_eq_true, decide_eq_true_eq] at h
  have hn : ∀ p ∈ ps, p.name.size ≤ 40 := fun p hp => of_decide_eq_true (h.1 p hp)
  exact ⟨⟨fun p hp => by have := hn p hp; omega, by omega⟩, h.2.1, h.2.2, hn⟩
theorem few_name {ps : List PV} {k : Nat} {p : PV} (hp : ps[k]? = some p) (h : ¬ p.name.size ≤ 40) : fewB ps = false := by
  unfold fewB
  rw [Bool.and_eq_false_iff]
  left
  rw [List.all_eq_false]
  exact ⟨p, List.mem_of_getElem? hp, by simpa using h⟩
theorem few_end {ps : List PV} (h : ∀ p ∈ ps, p.name.size ≤ 40) : fewB ps = decide (ps.length ≤ 80 ∧ total (pts ps) ≤ 5000) := by
  unfold fewB
  rw [List.all_eq_true.2 (fun p hp => by simpa using h p hp), Bool.true_and]
theorem total_fit {ps : List PV} (hf : ∀ p ∈ ps, p.d.length ≤ 140737488355328) : total (pts ps) ≤ ps.length * 140737488355328 := by
  induction ps with
  | nil => simp [pts, total]
  | cons p ps ih =>
    have h1 := hf p (by simp)
    have h2 := ih (fun q hq => hf q (by simp [hq]))
    rw [show pts (p :: ps) = p.pt :: pts ps from rfl, total_cons, List.length_cons]
    have : p.pt.data.length = p.d.length := rfl
    omega

set_option maxRecDepth 100000 in
set_option maxHeartbeats 1000000 in
theorem few_any (A : Option Addr) (n c : Nat) (ps : List PV) (w : World) (h : RP w A n ps) (hf : Fit ps) (hn : n ≤ 140737488355328) :
    Calls Tryd.prog 11 #[.slice A n c] w fun e w' => e = .returned (.bool (fewB ps)) ∧ w = w' := by
  have H := Lib.hid h
  have HF := Lib.hid hf
  have HLEN := Lib.hid h.len
  have HFIT : Hid (∀ p ∈ ps, p.d.length ≤ 140737488355328) := Lib.hid (fun p hp => by
    have h1 := (h.2 p hp).rb.len
    have h2 := hf p hp
    omega)
  clear h hf
  go_enter Tryd.func11, Tryd.ntmps11
  go_wp2_with fail
  go_loop [3, 4] (fun s i => ∃ (k : Nat) (z : Int), k ≤ n ∧ i = .int .i64 (k : Int) ∧ s = .int .i64 z ∧ (n ≤ 80 → z = ((total (pts (ps.take k)) : Nat) : Int)) ∧ ∀ p ∈ ps.take k, p.name.size ≤ 40) (fun _ i => n - (intOf i).toNat)
  case atStart => exact ⟨0, 0, Nat.zero_le _, rfl, rfl, fun _ => rfl, fun p hp => by simp at hp⟩
  case round =>
    obtain ⟨k, z, hk, rfl, rfl, hz, hall⟩ := hrel
    have HA := Lib.hid hall
    have HZ := Lib.hid hz
    clear hall
    by_cases hlt : k < n
    · obtain ⟨ad, p, rfl, hp, hbl, hc1, hc2, hsb⟩ := H.out.at_ hlt
      have HP := Lib.hid hp
      have hpn := HF.out p (List.mem_of_getElem? hp)
      have HS := Lib.hid (total_snoc hp hsb.rb.len)
      clear hsb hp
      have hsum : n ≤ 80 → 0 ≤ z ∧ z ≤ 80 * 140737488355328 := fun h80 => by
        have h1 := total_fit (ps := ps.take k) (fun p hp => HFIT.out p (List.mem_of_mem_take hp))
        have h2 := HZ.out h80
        have h3 : (ps.take k).length ≤ 80 := by rw [List.length_take, HLEN.out]; omega
        have h4 : total (pts (ps.take k)) ≤ 80 * 140737488355328 := Nat.le_trans h1 (Nat.mul_le_mul h3 (Nat.le_refl _))
        omega
      have HW : Hid (n ≤ 80 → IntKind.i64.wrap (z + (p.n : Int)) = z + (p.n : Int)) := Lib.hid (fun h80 => by
        have := hsum h80
        rw [IntKind.wrap_i64]; omega)
      clear hsum hz
      by_cases hnm : p.name.size ≤ 40
      · have HN : Hid (∀ q ∈ ps.take (k + 1), q.name.size ≤ 40) := Lib.hid (by
          rw [take_snocP HP.out]
          intro q hq
          rcases List.mem_append.1 hq with hq | hq
          · exact HA.out q hq
          · simp at hq; subst hq; exact hnm)
        have hnm' : (p.name.size : Int) ≤ 40 := by omega
        obtain ⟨z', hz'⟩ : ∃ z', z' = IntKind.i64.wrap (z + (p.n : Int)) := ⟨_, rfl⟩
        have HZ' := Lib.hid hz'
        clear hz'
        go_wp2_with fail
        go_round
        case rel => exact ⟨k + 1, IntKind.i64.wrap (z + (p.n : Int)), by omega, by go_num, (by rw [w64]), fun h80 => by rw [HW.out h80, HZ.out h80, HS.out]; omega, HN.out⟩
        case measure => simp [intOf]; omega
      · have HN := Lib.hid (few_name HP.out hnm)
        have hnm' : (40 : Int) < (p.name.size : Int) := by omega
        go_wp2_with fail
        go_ret
        exact ⟨by rw [HN.out]; rfl, rfl⟩
    · obtain rfl : k = n := by omega
      have ht : ps.take k = ps := List.take_of_length_le (by rw [HLEN.out]; omega)
      rw [ht] at HA HZ hz
      have HE := Lib.hid (few_end HA.out)
      have HLEN' := HLEN
      clear ht
      by_cases h80 : k ≤ 80
      · obtain rfl := hz h80
        have h80' : (k : Int) ≤ 80 := by omega
        by_cases h5 : total (pts ps) ≤ 5000
        · have h5' : ((total (pts ps) : Nat) : Int) ≤ 5000 := by omega
          have HR : Hid (fewB ps = true) := Lib.hid (by rw [HE.out]; exact decide_eq_true ⟨by rw [HLEN.out]; exact h80, h5⟩)
          clear HE HZ hz
          generalize total (pts ps) = t at h5'
          clear h5
          go_wp2_with fail
          go_ret
          exact ⟨by rw [HR.out]; simp <;> omega, rfl⟩
        · have h5' : (5000 : Int) < ((total (pts ps) : Nat) : Int) := by omega
          have HR : Hid (fewB ps = false) := Lib.hid (by rw [HE.out]; exact decide_eq_false (fun h => h5 h.2))
          clear HE HZ hz
          generalize total (pts ps) = t at h5'
          clear h5
          go_wp2_with fail
          go_ret
          exact ⟨by rw [HR.out]; simp <;> omega, rfl⟩
      · have h80' : (80 : Int) < (k : Int) := by omega
        have HR : Hid (fewB ps = false) := Lib.hid (by rw [HE.out]; exact decide_eq_false (fun h => h80 (by rw [← HLEN.out]; exact h.1)))
        go_wp2_with fail
        go_ret
        exact ⟨by rw [HR.out]; rfl, rfl⟩

/-- how theirs ends -/
def ThPost (w : World) (ps : List PV) (e : Ending) (w' : World) : Prop :=
  Below w.heap.size w w' ∧ ∃ (A : Option Addr) (n c : Nat) (qs : List PV), e = .returned (.slice A n c) ∧ OQ 47 w.heap.size w' A n c qs ∧ n = ps.length ∧ pts qs = pts ps
/-- what a round of theirs keeps -/
def TRel (ps : List PV) (n : Nat) (w : World) (v i : Value) (wr : World) : Prop :=
  ∃ (k : Nat) (qs : List PV), k ≤ n ∧ i = .int .i64 (k : Int) ∧ wr.ownsRow w.heap.size 47 2 v k (pc qs) ∧ (∀ p ∈ qs, wr.ownsRow w.heap.size 5 1 (.slice p.A p.n p.c) p.n (bs p.d)) ∧ pts qs = pts (ps.take k) ∧ Below w.heap.size w wr
theorem pts_snoc {ps qs : List PV} {k : Nat} {p x : PV} (h : ps[k]? = some p) (hq : pts qs = pts (ps.take k)) (hx : x.pt = p.pt) : pts (qs ++ [x]) = pts (ps.take (k + 1)) := by
  rw [take_snocP h, pts_append, pts_append, hq]
  simp [pts, hx]
theorem data_kept {B : Nat} {w w' : World} {ps : List PV} {T : TypeId} {v : Value} {n : Nat} {xs : List Value} (h : ∀ p ∈ ps, w.ownsRow B 5 1 (.slice p.A p.n p.c) p.n (bs p.d)) (hv : w.ownsRow B T 2 v n xs) (hT : T ≠ 5) (hg : w.grownBy w' v.ownBlock) :
    ∀ p ∈ ps, w'.ownsRow B 5 1 (.slice p.A p.n p.c) p.n (bs p.d) := fun p hp => (h p hp).kept hg (own_diff hv (h p hp) hT)

theorem cells_two {w w' : World} {ad : Addr} {k : Nat} {x y : Value} (hb : Below w.heap.size w w') (hbl : ad.block < w.heap.size) (h1 : w.cell? (ad.add (k * 2)) = some x) (h2 : w.cell? ⟨(ad.add (k * 2)).block, (ad.add (k * 2)).off + 1, none⟩ = some y) :
    w'.cell? (ad.add (k * 2)) = some x ∧ w'.cell? ⟨(ad.add (k * 2)).block, (ad.add (k * 2)).off + 1, none⟩ = some y :=
  ⟨(hb.cell (p := ad.add (k * 2)) (by rw [block_of_add]; exact hbl)).trans h1, (hb.cell (p := ⟨(ad.add (k * 2)).block, (ad.add (k * 2)).off + 1, none⟩) (by simp only [block_of_add]; exact hbl)).trans h2⟩

set_option maxRecDepth 100000 in
set_option maxHeartbeats 2000000 in
theorem theirs_any (A : Option Addr) (n c : Nat) (ps : List PV) (w : World) (h : RP w A n ps) (hr : Room ps) (hn : n ≤ 100) :
    Calls Tryd.prog 12 #[.slice A n c] w (ThPost w ps) := by
  obtain ⟨i0, hi, hz0, hz1, hz2⟩ := info_parts Tryd.infoU8
  obtain ⟨i1, hi1, hy0, hy1, hy2⟩ := info_parts infoPartR
  have HI := Lib.hid hi
  have HI1 := Lib.hid hi1
  have H := Lib.hid h
  have HR := Lib.hid hr
  have HLEN := Lib.hid h.len
  clear h hr hi hi1
  go_enter Tryd.func12, Tryd.ntmps12
  go_wp2_with fail
  go_loopw [3, 4] (fun v i wr => TRel ps n w v i wr) (fun _ i _ => n - (intOf i).toNat)
  case atStart => exact ⟨0, [], Nat.zero_le _, rfl, World.ownsRow_nil _ _ _ _, (fun p hp => by cases hp), rfl, Below.refl _ _⟩
  case round =>
    obtain ⟨k, qs, hk, rfl, hrow, hdat, hpts, hb⟩ := hrel
    have HROW := Lib.hid hrow
    have HDAT := Lib.hid hdat
    have HPTS := Lib.hid hpts
    clear hrow hdat hpts
    by_cases hlt : k < n
    · obtain ⟨ad, p, rfl, hp, hbl, hd1, hd2, hsb⟩ := H.out.at_ hlt
      obtain ⟨hc1, hc2⟩ := cells_two hb hbl hd1 hd2
      have HP := Lib.hid hp
      have HSB := Lib.hid (hsb.keep hb)
      have hpn := HR.out.len hp hsb.rb.len
      have BB := Lib.hid hb
      have HD := Lib.hid (And.intro hd1 hd2)
      have hblr : ad.block < wr.heap.size := Nat.lt_of_lt_of_le hbl hb.size
      clear hp hsb hb hd1 hd2
      go_wp2_with fail
      go_region_held3 (fun w' => w'.cell? (ad.add (k * 2)) = some (.string p.name) ∧ w'.cell? ⟨(ad.add (k * 2)).block, (ad.add (k * 2)).off + 1, none⟩ = some (.slice p.A p.n p.c)) (first | exact hcc4 | exact hcc3 | go_keep)
        (first
          | (refine step_append_any _ (by rfl) (.tmp 17) (.tmp 22) _ (by rfl) wr.heap.size 5 i0 _ 1 1 Tryd.underlying26 HI.out hz0 hz1 hz2 rfl (by decide) _ 0 [] (by rfl) (own_empty _ _) _ p.A p.n p.c (bs p.d) (by rfl) (HSB.out.rb.alloc _) (bs_one p.d) (by unfold maxLen; omega) (by omega) (by simp) ?_; intro v3 w3 hown3 hg3 hat3; have hown3' : w3.ownsRow wr.heap.size 5 1 v3 p.n (bs p.d) := (by simpa using hown3); have hb3 : Below wr.heap.size wr w3 := own_below (by exact ((Below.refl wr.heap.size wr).alloc (Nat.le_refl _) _).drew) (Nat.le_refl _) (by exact (own_empty wr _).drew) (Nat.le_refl _) hg3; obtain ⟨A3, c3, rfl, _⟩ := own_sb hown3'; have ROW3 := Lib.hid (own_keep HROW.out hb3); have DAT3 := Lib.hid (fun q hq => own_keep (HDAT.out q hq) hb3); have NEW3 := Lib.hid (own_mono hown3' BB.out.size); have D3 := Lib.hid (own_diff ROW3.out NEW3.out (by decide)); have B3 : Hid (Below w.heap.size w w3) := Lib.hid (BB.out.trans (hb3.mono BB.out.size)); have hcc3 := cells_two B3.out hbl HD.out.1 HD.out.2; clear hown3 hg3 hat3 hown3' hb3)
          | (refine step_append_any _ (by rfl) (.tmp 11) (.tmp 25) _ (by rfl) w.heap.size 47 i1 _ 2 40 Tryd.underlying24 HI1.out hy0 hy1 hy2 part_cells (by decide) _ k (pc qs) (by rfl) (by exact (ROW3.out.drew.alloc _)) _ (some ⟨w3.heap.size, 0, none⟩) 1 1 (pc [⟨p.name, A3, p.n, c3, p.d⟩]) (by rfl) (Reads.litN _ _ _ _ 2 1 _ _ rfl (by simp [pc, cell2]) (by simp [pc, cell2])) (pc_one _) (by unfold maxLen; omega) (by omega) (by have := B3.out.size; simp; omega) ?_; intro v4 w4 hown4 hg4 hat4; have B4 : Hid (Below w.heap.size w w4) := Lib.hid (own_below (B3.out.alloc B3.out.size _) (Nat.le_refl _) (ROW3.out.alloc _) (Nat.le_refl _) (by exact hg4)); have hcc4 := cells_two B4.out hbl HD.out.1 HD.out.2; have DAT4 := Lib.hid (data_kept (fun q hq => (DAT3.out q hq).alloc _) (ROW3.out.alloc _) (by decide) (by exact hg4)); have NEW4 := Lib.hid ((NEW3.out.alloc _).kept (by exact hg4) D3.out); have ROW4 := Lib.hid hown4; clear hown4 hg4 hat4))
      clear hcc3 hcc4
      go_wp2_with fail
      go_roundw
      case rel =>
        refine ⟨k + 1, qs ++ [⟨p.name, A3, p.n, c3, p.d⟩], by omega, by go_num, by rw [pc_append]; exact ROW4.out, fun q hq => ?_, pts_snoc HP.out HPTS.out rfl, B4.out⟩
        rcases List.mem_append.1 hq with hq | hq
        · exact DAT4.out q hq
        · simp at hq; subst hq; exact NEW4.out
      case measure => simp [intOf]; omega
    · obtain rfl : k = n := by omega
      obtain ⟨A7, c7, rfl, hc7, _⟩ := own_slice2 HROW.out
      have HP : Hid (pts qs = pts ps) := Lib.hid (by rw [HPTS.out, List.take_of_length_le (by rw [HLEN.out]; omega)])
      go_wp2_with fail
      go_ret
      exact ⟨hb, A7, k, c7, qs, rfl, ⟨HDAT.out, HROW.out⟩, HLEN.out.symm, HP.out⟩

theorem pts_at {ps qs : List PV} {k : Nat} {p q : PV} (h : pts ps = pts qs) (hp : ps[k]? = some p) (hq : qs[k]? = some q) : p.name = q.name ∧ p.d = q.d := by
  have := congrArg (fun x : List Pt => x[k]?) h
  simp only [pts, List.getElem?_map, hp, hq, Option.map_some, Option.some.injEq, PV.pt, Pt.mk.injEq] at this
  exact this

set_option maxRecDepth 100000 in
set_option maxHeartbeats 2000000 in
theorem same_parts (A A2 : Option Addr) (n c n2 c2 : Nat) (ps qs : List PV) (w : World) (h : RP w A n ps) (h2 : RP w A2 n2 qs) (hn : n ≤ 140737488355328) :
    Calls Tryd.prog 15 #[.slice A n c, .slice A2 n2 c2] w fun e w' => (∃ x, e = .returned (.bool x) ∧ (x = true ↔ pts ps = pts qs)) ∧ Below w.heap.size w w' := by
  have H := Lib.hid h
  have H2 := Lib.hid h2
  have HLEN := Lib.hid h.len
  have HLEN2 := Lib.hid h2.len
  clear h h2
  by_cases hl : n = n2
  · subst hl
    go_enter Tryd.func15, Tryd.ntmps15
    go_wp2_with fail
    go_loopw [5] (fun i wr => ∃ k : Nat, k ≤ n ∧ i = .int .i64 (k : Int) ∧ pts (ps.take k) = pts (qs.take k) ∧ Below w.heap.size w wr) (fun i _ => n - (intOf i).toNat)
    case atStart => exact ⟨0, Nat.zero_le _, rfl, rfl, Below.refl _ _⟩
    case round =>
      obtain ⟨k, hk, rfl, heq, hb⟩ := hrel
      have BB := Lib.hid hb
      have HEQ := Lib.hid heq
      clear heq
      by_cases hlt : k < n
      · obtain ⟨ad, p, rfl, hp, hbl, hc1, hc2, hsb⟩ := (H.out.keep hb).at_ hlt
        obtain ⟨ad2, q, rfl, hq, hbl2, hd1, hd2, hsb2⟩ := (H2.out.keep hb).at_ hlt
        have HP := Lib.hid hp
        have HQ := Lib.hid hq
        have HSB := Lib.hid hsb.rb
        have HSB2 := Lib.hid hsb2.rb
        clear hp hq hsb hsb2 hb
        by_cases hnm : p.name = q.name
        · have HNM := Lib.hid hnm
          rw [← hnm] at hd1
          have e1 := str_eq p.name
          clear hnm
          go_wp2_with fail
          go_region_held3 (fun w' => w'.cell? (ad.add (k * 2)) = some (.string p.name) ∧ w'.cell? ⟨(ad.add (k * 2)).block, (ad.add (k * 2)).off + 1, none⟩ = some (.slice p.A p.n p.c) ∧ w'.cell? (ad2.add (k * 2)) = some (.string p.name) ∧ w'.cell? ⟨(ad2.add (k * 2)).block, (ad2.add (k * 2)).off + 1, none⟩ = some (.slice q.A q.n q.c)) (go_keep)
            ((go_at_call 31; (with_reducible refine (same_any p.A q.A p.n p.c q.n q.c p.d q.d _ ?_ ?_).mono ?_); (· exact HSB.out); (· exact HSB2.out); rintro e w2 ⟨rfl, rfl⟩))
          by_cases hd : p.d = q.d
          · have hdd : (p.d == q.d) = true := by rw [beq_iff_eq]; exact hd
            have HE : Hid (pts (ps.take (k + 1)) = pts (qs.take (k + 1))) := Lib.hid (by
              rw [take_snocP HP.out, take_snocP HQ.out, pts_append, pts_append, HEQ.out]
              simp [pts, PV.pt, HNM.out, hd])
            rw [hdd]
            clear hd hdd
            go_wp2_with fail
            go_roundw
            case rel => exact ⟨k + 1, by omega, by go_num, HE.out, (by exact BB.out.drew)⟩
            case measure => simp [intOf]; omega
          · have hdd : (p.d == q.d) = false := by rw [beq_eq_false_iff_ne]; exact hd
            have HE : Hid (¬ pts ps = pts qs) := Lib.hid (fun h => hd (pts_at h HP.out HQ.out).2)
            rw [hdd]
            clear hd hdd
            go_wp2_with fail
            go_ret
            exact ⟨⟨false, rfl, by simp [HE.out]⟩, (by exact BB.out.drew)⟩
        · have HE : Hid (¬ pts ps = pts qs) := Lib.hid (fun h => hnm (pts_at h HP.out HQ.out).1)
          have e1 := str_ne hnm
          clear hnm
          go_wp2_with fail
          go_quiet (fail)
          go_wp2_with fail
          go_ret
          exact ⟨⟨false, rfl, by simp [HE.out]⟩, below_drewN BB.out _⟩
      · obtain rfl : k = n := by omega
        have HE : Hid (pts ps = pts qs) := Lib.hid (by
          have := HEQ.out
          rwa [List.take_of_length_le (by rw [HLEN.out]; omega), List.take_of_length_le (by rw [HLEN2.out]; omega)] at this)
        go_wp2_with fail
        go_ret
        exact ⟨⟨true, rfl, by simp [HE.out]⟩, hb⟩
  · have HE : Hid (¬ pts ps = pts qs) := Lib.hid (fun h => hl (by
      have := congrArg List.length h
      rw [pts_length, pts_length, HLEN.out, HLEN2.out] at this
      exact this))
    have hb : ((n : Int) == (n2 : Int)) = false := by rw [beq_eq_false_iff_ne]; omega
    have hb' : ((n : Int) != (n2 : Int)) = true := by rw [bne_iff_ne]; omega
    go_enter Tryd.func15, Tryd.ntmps15
    go_wp2_with fail
    go_ret
    exact ⟨⟨false, rfl, by simp [HE.out]⟩, Below.refl _ _⟩

/-- w' is w with writes to the data of some parts alone -/
structure Spo (ps : List PV) (w w' : World) : Prop where
  os : w'.os = w.os
  tape : w'.tape = w.tape
  output : w'.output = w.output
  size : w.heap.size ≤ w'.heap.size
  block : ∀ i, i < w.heap.size → (∀ p ∈ ps, (Value.slice p.A p.n p.c).ownBlock ≠ some i) → w'.heap[i]? = w.heap[i]?
theorem Spo.refl (ps : List PV) (w : World) : Spo ps w w := ⟨rfl, rfl, rfl, Nat.le_refl _, fun _ _ _ => rfl⟩
theorem Spo.set_ {ps : List PV} {w w' : World} (h : Spo ps w w') {p : PV} (hp : p ∈ ps) {g : Nat} (hg : (Value.slice p.A p.n p.c).ownBlock = some g) (j : Nat) (u : Value) : Spo ps w (w'.setCell ⟨g, j, none⟩ u) :=
  ⟨h.os, h.tape, h.output, Nat.le_trans h.size (by simp), fun i hi hne => (Below.heap_setCell w' ⟨g, j, none⟩ u i (fun e => hne p hp (by rw [hg, e]))).trans (h.block i hi hne)⟩
theorem Spo.drewN {ps : List PV} {w w' : World} (h : Spo ps w w') (q : Nat) : Spo ps w (w'.drewN q) := ⟨h.os, h.tape, h.output, h.size, h.block⟩
/-- the bytes of parts of the call's own, whatever they are -/
def Byt (lo : Nat) (w : World) (ps : List PV) : Prop := ∀ p ∈ ps, ∃ d, w.ownsRow lo 5 1 (.slice p.A p.n p.c) p.n (bs d)
theorem bs_set (d : List UInt8) (j : Nat) (x : Nat) (hx : x < 256) : (bs d).set j (.int .u8 (x : Int)) = bs (d.set j (UInt8.ofNat x)) := by
  unfold bs
  rw [List.map_set, toNat_small x hx]
theorem Byt.set_ {lo : Nat} {w : World} {ps : List PV} (h : Byt lo w ps) (g j x : Nat) (hx : x < 256) : Byt lo (w.setCell ⟨g, j, none⟩ (.int .u8 (x : Int))) ps := by
  intro p hp
  obtain ⟨d, hd⟩ := h p hp
  by_cases hg : (Value.slice p.A p.n p.c).ownBlock = some g
  · rcases hd.2 with ⟨e, h0⟩ | ⟨g', cap, cur, e, _⟩
    · rw [e] at hg; cases hg
    · rw [e] at hg hd ⊢
      simp only [Value.ownBlock, Option.some.injEq] at hg
      subst hg
      refine ⟨d.set j (UInt8.ofNat x), ?_⟩
      rw [← bs_set d j x hx]
      exact (hd.stored j _).1
  · refine ⟨d, hd.kept (row := some g) ((Upd.refl g w).set_ j _) ?_⟩
    exact .inr hg
theorem Byt.drewN {lo : Nat} {w : World} {ps : List PV} (h : Byt lo w ps) (q : Nat) : Byt lo (w.drewN q) ps := h

/-- what a round of spoil's outer loop keeps -/
def S1 (lo g : Nat) (n : Nat) (ps : List PV) (w : World) (i : Value) (wr : World) : Prop :=
  ∃ k : Nat, k ≤ n ∧ i = .int .i64 (k : Int) ∧ Byt lo wr ps ∧ Blk wr g 46 (pc ps).toArray ∧ Spo ps w wr
set_option maxRecDepth 100000 in
set_option maxHeartbeats 2000000 in
theorem spoil_any (lo : Nat) (A : Option Addr) (n c : Nat) (ps : List PV) (w : World) (h : OP lo w A n ps) (hf : Fit ps) (hn : n ≤ 140737488355328) :
    Calls Tryd.prog 19 #[.slice A n c] w fun e w' => e = .returned (.tuple #[]) ∧ Spo ps w w' := by
  have HF := Lib.hid hf
  have HLEN := Lib.hid h.len
  have HB0 : Hid (Byt lo w ps) := Lib.hid (fun p hp => ⟨p.d, h.own p hp⟩)
  rcases h.blk with rfl | ⟨g, hg, rfl, hblk⟩
  · clear h
    go_enter Tryd.func19, Tryd.ntmps19
    go_wp2_with fail
    go_loopw [2] (fun i wr => i = .int .i64 0 ∧ wr = w) (fun _ _ => 0)
    case atStart => exact ⟨rfl, rfl⟩
    case round =>
      obtain ⟨rfl, rfl⟩ := hrel
      go_wp2_with fail
      go_end0
      exact ⟨rfl, Spo.refl _ _⟩
  · have HBLK := Lib.hid hblk
    clear h hblk
    go_enter Tryd.func19, Tryd.ntmps19
    go_wp2_with fail
    go_loopw [2] (fun i wr => S1 lo g n ps w i wr) (fun i _ => n - (intOf i).toNat)
    case atStart => exact ⟨0, Nat.zero_le _, rfl, HB0.out, HBLK.out, Spo.refl _ _⟩
    case round =>
      obtain ⟨k, hk, rfl, hbyt, hblk, hspo⟩ := hrel
      have BYT := Lib.hid hbyt
      have BL := Lib.hid hblk
      have SP := Lib.hid hspo
      clear hbyt hblk hspo HBLK HB0
      by_cases hlt : k < n
      · obtain ⟨p, hp⟩ : ∃ p, ps[k]? = some p := ⟨ps[k]'(by rw [HLEN.out]; exact hlt), List.getElem?_eq_getElem _⟩
        have hpn := HF.out p (List.mem_of_getElem? hp)
        have HP := Lib.hid hp
        clear hp
        go_wp2_with fail
        go_loopw [3] (fun j wj => ∃ i : Nat, i ≤ p.n ∧ j = .int .i64 (i : Int) ∧ Byt lo wj ps ∧ Blk wj g 46 (pc ps).toArray ∧ Spo ps w wj) (fun j _ => p.n - (intOf j).toNat)
        case atStart => exact ⟨0, Nat.zero_le _, rfl, BYT.out, BL.out, SP.out⟩
        case round =>
          obtain ⟨i, hi, rfl, hbyt, hblk, hspo⟩ := hrel
          clear BYT BL SP
          have BYT := Lib.hid hbyt
          have BL := Lib.hid hblk
          have SP := Lib.hid hspo
          have hbg := hblk.lt
          have c2 : wr.cell? ⟨g, k * 2 + 1, none⟩ = some (.slice p.A p.n p.c) := by rw [hblk.cell]; simpa using (pc_at ps k p HP.out).2
          clear hbyt hblk hspo
          by_cases hlj : i < p.n
          · obtain ⟨d, hd⟩ := BYT.out p (List.mem_of_getElem? HP.out)
            obtain ⟨h, cap, hv⟩ := own_some hd (by omega)
            injection hv with hv1 hv2 hv3
            have hx : (bs d)[i]? = some (.int .u8 ((d.getD i 0).toNat : Int)) := by
              have hl := own_len hd
              rw [bs_at d i (by omega)]
              simp [List.getD, show i < d.length by omega]
            have hne : h ≠ g := by
              have hh := hd
              rw [hv1] at hh
              intro e
              subst e
              rcases hh.2 with ⟨e', _⟩ | ⟨g', cap', cur', e', _, hg', _⟩
              · cases e'
              · injection e' with e1 _ _
                injection e1 with e1
                injection e1 with e1 _ _
                subst e1
                have := BL.out
                unfold Blk at this
                rw [this] at hg'
                injection hg' with hg'
                injection hg' with _ h2
                exact absurd h2 (by decide)
            have c3 : wr.cell? ⟨h, i, none⟩ = some (.int .u8 ((d.getD i 0).toNat : Int)) := by
              have hh := hd
              rw [hv1] at hh
              rw [hh.cellAt i (by omega)]; exact hx
            have f3 : wr.frozen? ⟨h, i, none⟩ = false := by
              have hh := hd
              rw [hv1] at hh
              exact hh.frozenAt i
            have hxb := (d.getD i 0).toNat_lt
            have hob : (Value.slice p.A p.n p.c).ownBlock = some h := by rw [hv1]; rfl
            rw [hv1] at c2
            generalize (d.getD i 0).toNat = x at hxb c3
            have hw : IntKind.u8.wrap ((x : Int) + 1) = (((x + 1) % 256 : Nat) : Int) := by rw [IntKind.wrap_u8]; omega
            have BYT2 := Lib.hid (Byt.set_ BYT.out h i ((x + 1) % 256) (Nat.mod_lt _ (by decide)))
            have BL2 := Lib.hid (BL.out.far (p := ⟨h, i, none⟩) (fun e => hne e.symm) (.int .u8 (((x + 1) % 256 : Nat) : Int)))
            have SP2 := Lib.hid (SP.out.set_ (List.mem_of_getElem? HP.out) hob i (.int .u8 (((x + 1) % 256 : Nat) : Int)))
            obtain ⟨y, hy⟩ : ∃ y, y = (x + 1) % 256 := ⟨_, rfl⟩
            rw [← hy] at hw BYT2 BL2 SP2
            clear hd hx hv1 hob hy
            go_wp2_with fail
            go_roundw
            case rel => exact ⟨i + 1, by omega, by go_num, BYT2.out, BL2.out, SP2.out⟩
            case measure => simp [intOf]; omega
          · obtain rfl : i = p.n := by omega
            go_wp2_with fail
            go_roundw
            case rel => exact ⟨k + 1, by omega, by go_num, BYT.out, BL.out, SP.out⟩
            case measure => simp [intOf]; omega
      · obtain rfl : k = n := by omega
        go_wp2_with fail
        go_end0
        exact ⟨rfl, SP.out⟩
end Go.Proofs.YtncnocejmbfhaaaDoor.Sec
