/-
  The contracts of what tells what is wrong with a list of parts: check of package section and the reference's Check. Conditions: the parts can be read; the lengths of their data add up to a number within the form's reach.
-/
import Derived.Test.YtncnocejmbfhaaaDoorSecFind
import Derived.Test.YtncnocejmbfhaaaDoorBMap
import Derived.Deep.QuietTactic
import Derived.BigQuiet
namespace Go.Proofs.YtncnocejmbfhaaaDoor.Sec
open Go.RowKit Wd

/-- keys of the map of names -/
def sk (s : ByteArray) : Lit := .string s.data.toList
theorem sk_inj (x y : ByteArray) (h : sk x = sk y) : x = y := by unfold sk at h; injection h with h; exact ba_inj h
/-- the map of names -/
def SM (w : World) (b n : Nat) (S : ByteArray → Bool) : Prop := BM Tryd.prog w 9 4 sk b n S
theorem keyedS : Go.Maps.Keyed Tryd.prog 9 := Go.Maps.string_keyed Tryd.underlying9
theorem keyS (s : ByteArray) (h : s.size ≤ 140737488355328) : keyOf Tryd.prog 9 (.string s) = some (sk s) :=
  WideMaps.keyOf_string_mk Tryd.underlying9 (by unfold maxLen; omega)
theorem zeroB (w : World) : (zeroValue 4).run Tryd.prog w = .ok (.bool false) w := by kernel_rfl

/-- what the contracts ask of a list of parts -/
structure Room (ps : List PV) : Prop where
  name : ∀ p ∈ ps, p.name.size ≤ 1099511627776
  sum : total (pts ps) ≤ 1099511627776
theorem total_append (a b : List Pt) : total (a ++ b) = total a + total b := by simp [total]
theorem total_cons (p : Pt) (b : List Pt) : total (p :: b) = p.data.length + total b := by simp [total]
theorem take_snocP {α : Type} {l : List α} {k : Nat} {p : α} (h : l[k]? = some p) : l.take (k + 1) = l.take k ++ [p] := by
  obtain ⟨hk, rfl⟩ := List.getElem?_eq_some_iff.1 h
  exact List.take_succ_eq_append_getElem hk
theorem total_snoc {ps : List PV} {k : Nat} {p : PV} (h : ps[k]? = some p) (hn : p.d.length = p.n) : total (pts (ps.take (k + 1))) = total (pts (ps.take k)) + p.n := by
  rw [take_snocP h, pts_append, total_append]; simp [pts, PV.pt, total, hn]
theorem total_take (ps : List PV) (k : Nat) : total (pts (ps.take k)) ≤ total (pts ps) := by
  conv => rhs; rw [← List.take_append_drop k ps, pts_append, total_append]
  omega
theorem Room.at_ {ps : List PV} (h : Room ps) {k : Nat} {p : PV} (hp : ps[k]? = some p) : p.name.size ≤ 1099511627776 := h.name p (List.mem_of_getElem? hp)
theorem Room.len {ps : List PV} (h : Room ps) {k : Nat} {p : PV} (hp : ps[k]? = some p) (hn : p.d.length = p.n) : p.n ≤ 1099511627776 := by
  have h1 := total_snoc hp hn
  have h2 := total_take ps (k + 1)
  have h3 := h.sum
  omega

theorem chk_long {ps : List PV} (h : 64 < ps.length ∨ 16777216 < total (pts ps)) : chk (pts ps) = 2 := by
  unfold chk; rw [if_pos (by rw [pts_length]; exact h)]
theorem chk_arg {ps : List PV} {k : Nat} {p : PV} (h1 : ps.length ≤ 64) (h2 : total (pts ps) ≤ 16777216) (h : ps[k]? = some p) (hb : nameB p.name = false) : chk (pts ps) = 1 := by
  unfold chk
  rw [if_neg (by rw [pts_length]; omega), if_neg]
  intro ha
  rw [List.all_eq_true] at ha
  have := ha p.pt (List.mem_map_of_mem (List.mem_of_getElem? h))
  simp only [PV.pt] at this
  rw [hb] at this; cases this
/-- whether a name is among some -/
def hasN (l : List ByteArray) (y : ByteArray) : Bool := l.any fun z => decide (z = y)
theorem hasN_iff (l : List ByteArray) (y : ByteArray) : hasN l y = true ↔ y ∈ l := by
  unfold hasN
  rw [List.any_eq_true]
  constructor
  · rintro ⟨z, hz, h⟩
    have := of_decide_eq_true h
    subst this; exact hz
  · intro h; exact ⟨y, h, decide_eq_true rfl⟩
theorem hasN_not {l : List ByteArray} {y : ByteArray} (h : hasN l y = false) : ¬ y ∈ l := by
  intro hm; rw [(hasN_iff l y).2 hm] at h; cases h
/-- the names of some parts -/
def nms (ps : List PV) : List ByteArray := ps.map PV.name
theorem nms_pts (ps : List PV) : (pts ps).map Pt.name = nms ps := by simp [pts, nms, PV.pt]
def twc (ps : List PV) : Int := if (nms ps).Nodup then 0 else 4
theorem chk_named {ps : List PV} (h1 : ps.length ≤ 64) (h2 : total (pts ps) ≤ 16777216) (h : ∀ p ∈ ps, nameB p.name = true) : ((chk (pts ps) : Nat) : Int) = twc ps := by
  unfold chk twc
  rw [if_neg (by rw [pts_length]; omega), if_pos, nms_pts]
  · split <;> rfl
  · rw [List.all_eq_true]
    intro q hq
    simp only [pts, List.mem_map] at hq
    obtain ⟨p, hp, rfl⟩ := hq
    exact h p hp
theorem twc_in {ps : List PV} {k : Nat} {p : PV} (h : ps[k]? = some p) (hm : p.name ∈ nms (ps.take k)) : twc (ps.take (k + 1)) = 4 := by
  unfold twc
  rw [if_neg]
  rw [take_snocP h]
  unfold nms at *
  rw [List.map_append, List.nodup_append]
  intro hh
  exact hh.2.2 _ hm p.name (by simp) rfl
theorem twc_out {ps : List PV} {k : Nat} {p : PV} (h : ps[k]? = some p) (hm : ¬ p.name ∈ nms (ps.take k)) : twc (ps.take (k + 1)) = twc (ps.take k) := by
  have : ((ps.take k).map PV.name).Nodup ∧ (List.map PV.name [p]).Nodup ∧ (∀ a ∈ (ps.take k).map PV.name, ∀ b ∈ List.map PV.name [p], a ≠ b) ↔ ((ps.take k).map PV.name).Nodup := by
    constructor
    · exact fun h => h.1
    · intro h'
      refine ⟨h', by simp, fun a ha b hb e => ?_⟩
      simp at hb
      subst e hb
      exact hm ha
  unfold twc
  by_cases hd : (nms (ps.take k)).Nodup
  · rw [if_pos hd, if_pos]
    rw [take_snocP h]
    unfold nms at *
    rw [List.map_append, List.nodup_append]
    exact this.2 hd
  · rw [if_neg hd, if_neg]
    rw [take_snocP h]
    unfold nms at *
    rw [List.map_append, List.nodup_append]
    exact fun hh => hd (this.1 hh)
theorem nms_snoc {ps : List PV} {k : Nat} {p : PV} (h : ps[k]? = some p) : (fun y : ByteArray => decide (y = p.name) || hasN (nms (ps.take k)) y) = hasN (nms (ps.take (k + 1))) := by
  funext y
  rw [take_snocP h]
  unfold nms hasN
  rw [List.map_append, List.any_append, Bool.or_comm]
  simp [eq_comm]

/-- what a round of check keeps -/
def KRel (ps : List PV) (n : Nat) (w : World) (e1 i1 : Value) (wr : World) : Prop :=
  ∃ k : Nat, k ≤ n ∧ i1 = .int .i64 (k : Int) ∧ e1 = .int .i64 (twc (ps.take k)) ∧ (∀ p ∈ ps.take k, nameB p.name = true) ∧ SM wr w.heap.size k (hasN (nms (ps.take k))) ∧ Below w.heap.size w wr
theorem all_snoc {ps : List PV} {k : Nat} {p : PV} (h : ps[k]? = some p) (ha : ∀ p ∈ ps.take k, nameB p.name = true) (hb : nameB p.name = true) : ∀ p ∈ ps.take (k + 1), nameB p.name = true := by
  rw [take_snocP h]
  intro q hq
  rcases List.mem_append.1 hq with hq | hq
  · exact ha q hq
  · simp at hq; subst hq; exact hb

set_option maxRecDepth 100000 in
set_option maxHeartbeats 2000000 in
theorem check_any (A : Option Addr) (n c : Nat) (ps : List PV) (w : World) (h : RP w A n ps) (hr : Room ps) (hn : n ≤ 140737488355328) :
    Calls Tryd.prog 22 #[.slice A n c] w fun e w' => e = .returned (.int .i64 (chk (pts ps) : Nat)) ∧ Below w.heap.size w w' := by
  have hmm := @run_makeMap Tryd.prog
  have H := Lib.hid h
  have HR := Lib.hid hr
  have HLEN := Lib.hid h.len
  have M0 := Lib.hid (BM.made Tryd.prog w 9 4 sk)
  have hsum := hr.sum
  clear h hr
  go_enter Tryd.func22, Tryd.ntmps22
  go_wp2_with fail
  clear hmm
  go_loopw [3, 13] (fun s i wr => ∃ k : Nat, k ≤ n ∧ i = .int .i64 (k : Int) ∧ s = .int .i64 (total (pts (ps.take k)) : Nat) ∧ Below (w.heap.size + 1) (w.alloc (.map #[] 0)) wr) (fun _ i _ => n - (intOf i).toNat)
  case atStart => exact ⟨0, Nat.zero_le _, rfl, rfl, Below.refl _ _⟩
  case round =>
    obtain ⟨k, hk, rfl, rfl, hb⟩ := hrel
    have hsz := hb.size
    simp at hsz
    have hbw : Below w.heap.size w wr := ((Below.refl _ _).alloc (Nat.le_refl _) _).trans (hb.mono (by omega))
    have HB := Lib.hid hb
    have hbs := total_take ps k
    clear hb
    by_cases hlt : k < n
    · obtain ⟨ad, p, rfl, hp, hbl, hc1, hc2, hsb⟩ := (H.out.keep hbw).at_ hlt
      have HN := Lib.hid (total_snoc hp hsb.rb.len)
      have hpn := HR.out.len hp hsb.rb.len
      clear hsb hp
      generalize total (pts (ps.take k)) = t at HN hbs ⊢
      go_wp2_with fail
      go_roundw
      case rel => exact ⟨k + 1, by omega, by go_num, by rw [HN.out]; go_num, HB.out.alloc (by omega) _⟩
      case measure => simp [intOf]; omega
    · obtain rfl : k = n := by omega
      have ht : ps.take k = ps := List.take_of_length_le (by rw [HLEN.out]; omega)
      rw [ht] at hbs ⊢
      clear ht
      by_cases h64 : 64 < k
      · have HC := Lib.hid (chk_long (ps := ps) (.inl (by rw [HLEN.out]; exact h64)))
        generalize total (pts ps) = t at hbs ⊢
        go_wp2_with fail
        go_ret
        exact ⟨by rw [HC.out]; rfl, hbw⟩
      · by_cases hbig : 16777216 < total (pts ps)
        · have HC := Lib.hid (chk_long (ps := ps) (.inr hbig))
          have hbig' : (16777216 : Int) < (total (pts ps) : Nat) := by omega
          generalize total (pts ps) = t at hbs hbig hbig' ⊢
          go_wp2_with fail
          go_ret
          exact ⟨by rw [HC.out]; rfl, hbw⟩
        · have H2 : Hid (total (pts ps) ≤ 16777216) := Lib.hid (by omega)
          have hbig' : ((total (pts ps) : Nat) : Int) ≤ 16777216 := by omega
          have M1 := Lib.hid (BM.keep M0.out (by simpa using HB.out))
          clear M0 HB
          generalize total (pts ps) = t at hbs hbig hbig' ⊢
          go_wp2_with fail
          go_loopw [5, 32] (fun e i wj => KRel ps k w e i wj) (fun _ i _ => k - (intOf i).toNat)
          case atStart => exact ⟨0, Nat.zero_le _, rfl, rfl, fun p hp => by simp at hp, M1.out, hbw⟩
          case round =>
            obtain ⟨j, hj, rfl, rfl, hall, hmap, hbj⟩ := hrel
            have HA := Lib.hid hall
            have HM := Lib.hid hmap
            clear hall hmap
            by_cases hlj : j < k
            · obtain ⟨ad, p, rfl, hp, hbl, hc1, hc2, hsb⟩ := (H.out.keep hbj).at_ hlj
              have HP := Lib.hid hp
              have hns := HR.out.at_ hp
              clear hsb hp
              rcases hnm : nameB p.name with _ | _
              · have HC := Lib.hid (chk_arg (by rw [HLEN.out]; omega) H2.out HP.out hnm)
                have HNM := Lib.hid hnm
                clear hnm
                go_wp2_with fail
                refine (isName_any p.name _ (by omega)).mono ?_
                rintro e w1 ⟨rfl, hb1⟩
                rw [HNM.out]
                have B1 := Lib.hid hb1
                clear hb1
                go_wp2_with fail
                go_ret
                exact ⟨by rw [HC.out]; rfl, (hbj.alloc hbj.size _).trans (B1.out.mono (by have := hbj.size; simp; omega))⟩
              · have HA' := Lib.hid (all_snoc HP.out HA.out hnm)
                have HNM := Lib.hid hnm
                clear hnm HA
                go_wp2_with fail
                refine (isName_any p.name _ (by omega)).mono ?_
                rintro e w1 ⟨rfl, hb1⟩
                rw [HNM.out]
                have hcN : w1.cell? ⟨wr.heap.size, 0, none⟩ = some (.string p.name) := (hb1.cell (p := ⟨wr.heap.size, 0, none⟩) (by simp)).trans (by rw [cell_new]; rfl)
                have hm1 : SM w1 w.heap.size j (hasN (nms (ps.take j))) := BM.keep (BM.alloc HM.out _) hb1
                have B1 : Hid (Below w.heap.size w w1) := Lib.hid ((hbj.alloc hbj.size _).trans (hb1.mono (by have := hbj.size; simp; omega)))
                have hlk := BM.look hm1 keyedS Tryd.underlying64 Tryd.underlying4 (zeroB _) (keyS p.name (by omega))
                obtain ⟨w2, hrun, hm2, hg2⟩ := BM.put hm1 keyedS Tryd.underlying64 Tryd.underlying4 (by unfold maxLen; omega) sk_inj (keyS p.name (by omega)) trivial
                rw [nms_snoc HP.out] at hm2
                have M2 := Lib.hid hm2
                have B2 : Hid (Below w.heap.size w w2) := Lib.hid (B1.out.trans (Upd.below (g := w.heap.size) hg2 (B1.out.size) (Nat.le_refl _)))
                clear hm1 hm2 hg2 hb1
                rcases hin : hasN (nms (ps.take j)) p.name with _ | _
                · have HT := Lib.hid (twc_out HP.out (hasN_not hin))
                  rw [hin] at hlk
                  clear hin
                  generalize twc (ps.take j) = z at HT ⊢
                  go_wp2_with fail
                  go_roundw
                  case rel => exact ⟨j + 1, by omega, by go_num, by rw [HT.out], HA'.out, M2.out, B2.out⟩
                  case measure => simp [intOf]; omega
                · have HT := Lib.hid (twc_in HP.out ((hasN_iff _ _).1 hin))
                  rw [hin] at hlk
                  clear hin
                  generalize twc (ps.take j) = z
                  go_wp2_with fail
                  go_roundw
                  case rel => exact ⟨j + 1, by omega, by go_num, by rw [HT.out], HA'.out, M2.out, B2.out⟩
                  case measure => simp [intOf]; omega
            · obtain rfl : j = k := by omega
              have hall : ∀ p ∈ ps, nameB p.name = true := by
                have := HA.out
                rwa [List.take_of_length_le (by rw [HLEN.out]; omega)] at this
              have HC := Lib.hid (chk_named (by rw [HLEN.out]; omega) H2.out hall)
              have ht : ps.take j = ps := List.take_of_length_le (by rw [HLEN.out]; omega)
              rw [ht]
              clear hall ht
              go_wp2_with fail
              go_ret
              exact ⟨by rw [HC.out]; rfl, hbj⟩

theorem twc_dup {ps : List PV} {i k : Nat} {p q : PV} (hk : k < i) (hp : ps[i]? = some p) (hq : ps[k]? = some q) (h : q.name = p.name) : twc ps = 4 := by
  unfold twc
  rw [if_neg]
  intro hd
  have hd' := List.pairwise_iff_getElem.1 hd
  obtain ⟨hi, ei⟩ := List.getElem?_eq_some_iff.1 hp
  obtain ⟨hk', ek⟩ := List.getElem?_eq_some_iff.1 hq
  apply hd' k i (by simpa [nms] using hk') (by simpa [nms] using hi) hk
  simp [nms, ei, ek, h]
theorem nodup_snoc {ps : List PV} {i : Nat} {p : PV} (hp : ps[i]? = some p) (hd : (nms (ps.take i)).Nodup) (hall : ∀ j q, j < i → ps[j]? = some q → ¬ q.name = p.name) : (nms (ps.take (i + 1))).Nodup := by
  rw [take_snocP hp]
  unfold nms at *
  rw [List.map_append, List.nodup_append]
  refine ⟨hd, by simp, fun a ha b hb => ?_⟩
  simp at hb
  subst hb
  simp only [List.mem_map] at ha
  obtain ⟨q, hq, rfl⟩ := ha
  obtain ⟨j, hj⟩ := List.getElem?_of_mem hq
  rw [List.getElem?_take] at hj
  split at hj
  · next h => exact hall j q h hj
  · cases hj

set_option maxRecDepth 100000 in
set_option maxHeartbeats 2000000 in
theorem checkR_any (A : Option Addr) (n c : Nat) (ps : List PV) (w : World) (h : RP w A n ps) (hr : Room ps) (hn : n ≤ 140737488355328) :
    Calls Tryd.prog 26 #[.slice A n c] w fun e w' => e = .returned (.int .i64 (chk (pts ps) : Nat)) ∧ Below w.heap.size w w' := by
  have H := Lib.hid h
  have HR := Lib.hid hr
  have HLEN := Lib.hid h.len
  have hsum := hr.sum
  clear h hr
  go_enter Tryd.func26, Tryd.ntmps26
  go_wp2_with fail
  go_loop [3, 4] (fun s i => ∃ k : Nat, k ≤ n ∧ i = .int .i64 (k : Int) ∧ s = .int .i64 (total (pts (ps.take k)) : Nat)) (fun _ i => n - (intOf i).toNat)
  case atStart => exact ⟨0, Nat.zero_le _, rfl, rfl⟩
  case round =>
    obtain ⟨k, hk, rfl, rfl⟩ := hrel
    have hbs := total_take ps k
    by_cases hlt : k < n
    · obtain ⟨ad, p, rfl, hp, hbl, hc1, hc2, hsb⟩ := H.out.at_ hlt
      have HN := Lib.hid (total_snoc hp hsb.rb.len)
      have hpn := HR.out.len hp hsb.rb.len
      clear hsb hp
      generalize total (pts (ps.take k)) = t at HN hbs ⊢
      go_wp2_with fail
      go_round
      case rel => exact ⟨k + 1, by omega, by go_num, by rw [HN.out]; go_num⟩
      case measure => simp [intOf]; omega
    · obtain rfl : k = n := by omega
      have ht : ps.take k = ps := List.take_of_length_le (by rw [HLEN.out]; omega)
      rw [ht] at hbs ⊢
      clear ht
      by_cases h64 : 64 < k
      · have HC := Lib.hid (chk_long (ps := ps) (.inl (by rw [HLEN.out]; exact h64)))
        generalize total (pts ps) = t at hbs ⊢
        go_wp2_with fail
        go_ret
        exact ⟨by rw [HC.out]; rfl, Below.refl _ _⟩
      · by_cases hbig : 16777216 < total (pts ps)
        · have HC := Lib.hid (chk_long (ps := ps) (.inr hbig))
          have hbig' : (16777216 : Int) < (total (pts ps) : Nat) := by omega
          generalize total (pts ps) = t at hbs hbig hbig' ⊢
          go_wp2_with fail
          go_ret
          exact ⟨by rw [HC.out]; rfl, Below.refl _ _⟩
        · have H2 : Hid (total (pts ps) ≤ 16777216) := Lib.hid (by omega)
          have hbig' : ((total (pts ps) : Nat) : Int) ≤ 16777216 := by omega
          generalize total (pts ps) = t at hbs hbig hbig' ⊢
          go_wp2_with fail
          go_loop [5] (fun i => ∃ j : Nat, j ≤ k ∧ i = .int .i64 (j : Int) ∧ ∀ p ∈ ps.take j, nameB p.name = true) (fun i => k - (intOf i).toNat)
          case atStart => exact ⟨0, Nat.zero_le _, rfl, fun p hp => by simp at hp⟩
          case round =>
            obtain ⟨j, hj, rfl, hall⟩ := hrel
            have HA := Lib.hid hall
            clear hall
            by_cases hlj : j < k
            · obtain ⟨ad, p, rfl, hp, hbl, hc1, hc2, hsb⟩ := H.out.at_ hlj
              have HP := Lib.hid hp
              have hns := HR.out.at_ hp
              clear hsb hp
              rcases hnm : nameB p.name with _ | _
              · have HC := Lib.hid (chk_arg (by rw [HLEN.out]; omega) H2.out HP.out hnm)
                have HNM := Lib.hid hnm
                clear hnm
                go_wp2_with fail
                refine (named_any p.name _ (by omega)).mono ?_
                rintro e w1 ⟨rfl, rfl⟩
                rw [HNM.out]
                go_wp2_with fail
                go_ret
                exact ⟨by rw [HC.out]; rfl, Below.refl _ _⟩
              · have HA' := Lib.hid (all_snoc HP.out HA.out hnm)
                have HNM := Lib.hid hnm
                clear hnm HA
                go_wp2_with fail
                refine (named_any p.name _ (by omega)).mono ?_
                rintro e w1 ⟨rfl, rfl⟩
                rw [HNM.out]
                go_wp2_with fail
                go_round
                case rel => exact ⟨j + 1, by omega, by go_num, HA'.out⟩
                case measure => simp [intOf]; omega
            · obtain rfl : j = k := by omega
              have hall : ∀ p ∈ ps, nameB p.name = true := by
                have := HA.out
                rwa [List.take_of_length_le (by rw [HLEN.out]; omega)] at this
              have HC := Lib.hid (chk_named (by rw [HLEN.out]; omega) H2.out hall)
              clear hall HA
              go_wp2_with fail
              go_loopw [6] (fun i wr => ∃ i0 : Nat, i0 ≤ j ∧ i = .int .i64 (i0 : Int) ∧ (nms (ps.take i0)).Nodup ∧ Below w.heap.size w wr) (fun i _ => j - (intOf i).toNat)
              case atStart => exact ⟨0, Nat.zero_le _, rfl, by simp [nms], Below.refl _ _⟩
              case round =>
                obtain ⟨i0, hi0, rfl, hnd, hbi⟩ := hrel
                have HND := Lib.hid hnd
                clear hnd
                by_cases hli : i0 < j
                · obtain ⟨ad, p, rfl, hp, hbl, hc1, hc2, hsb⟩ := (H.out.keep hbi).at_ hli
                  have HP := Lib.hid hp
                  clear hsb hp hc1 hc2
                  have BI := Lib.hid hbi
                  clear hbi
                  go_wp2_with fail
                  obtain ⟨wo, hwo⟩ : ∃ wo : World, wo = wr := ⟨_, rfl⟩
                  subst hwo
                  go_loopw [7] (fun i wr => ∃ k0 : Nat, k0 ≤ i0 ∧ i = .int .i64 (k0 : Int) ∧ (∀ x q, x < k0 → ps[x]? = some q → ¬ q.name = p.name) ∧ Below w.heap.size w wr) (fun i _ => i0 - (intOf i).toNat)
                  case atStart => exact ⟨0, Nat.zero_le _, rfl, fun x q hx => absurd hx (by omega), BI.out⟩
                  case round =>
                    obtain ⟨k0, hk0, rfl, hne, hbk⟩ := hrel
                    have HNE := Lib.hid hne
                    clear hne
                    by_cases hlk : k0 < i0
                    · obtain ⟨_, q, e0, hq, hbl2, hc1, hc2, hsb2⟩ := (H.out.keep hbk).at_ (show k0 < j by omega)
                      injection e0 with e0
                      subst e0
                      obtain ⟨_, q', e0, hq', hbl3, hd1, hd2, hsb3⟩ := (H.out.keep hbk).at_ hli
                      injection e0 with e0
                      subst e0
                      obtain rfl : q' = p := by rw [HP.out] at hq'; injection hq' with hq'; exact hq'.symm
                      have HQ := Lib.hid hq
                      clear hsb2 hsb3 hq hq' hc2 hd2
                      have g1 : (k0 : Int) < (j : Int) := by omega
                      have g2 : (i0 : Int) < (j : Int) := by omega
                      have g3 : (0 : Int) ≤ (k0 : Int) := by omega
                      have g4 : (0 : Int) ≤ (i0 : Int) := by omega
                      by_cases hs : q.name = q'.name
                      · have HT := Lib.hid (twc_dup hlk HP.out HQ.out hs)
                        rw [hs] at hc1
                        have e1 := str_eq q'.name
                        clear hs
                        go_wp2_with fail
                        go_quiet (fail)
                        go_wp2_with fail
                        go_ret
                        exact ⟨by rw [HC.out, HT.out]; rfl, below_drewN hbk _⟩
                      · have HN2 := Lib.hid (show ∀ x q, x < k0 + 1 → ps[x]? = some q → ¬ q.name = q'.name from fun x q2 hx hq2 => by
                          rcases Nat.lt_or_ge x k0 with h' | h'
                          · exact HNE.out x q2 h' hq2
                          · obtain rfl : x = k0 := by omega
                            rw [HQ.out] at hq2
                            injection hq2 with hq2
                            subst hq2
                            exact hs)
                        have e1 := str_ne hs
                        clear hs
                        go_wp2_with fail
                        go_quiet (fail)
                        go_wp2_with fail
                        go_roundw
                        case rel => exact ⟨k0 + 1, by omega, by go_num, HN2.out, below_drewN hbk _⟩
                        case measure => simp [intOf]; omega
                    · obtain rfl : k0 = i0 := by omega
                      have HN3 := Lib.hid (nodup_snoc HP.out HND.out HNE.out)
                      go_wp2_with fail
                      go_roundw
                      case rel => exact ⟨k0 + 1, by omega, by go_num, HN3.out, hbk⟩
                      case measure => simp [intOf]; omega
                · obtain rfl : i0 = j := by omega
                  have hT : twc ps = 0 := by
                    have := HND.out
                    rw [List.take_of_length_le (by rw [HLEN.out]; omega)] at this
                    unfold twc; rw [if_pos this]
                  have HT := Lib.hid hT
                  clear hT
                  go_wp2_with fail
                  go_ret
                  exact ⟨by rw [HC.out, HT.out]; rfl, hbi⟩
end Go.Proofs.YtncnocejmbfhaaaDoor.Sec
