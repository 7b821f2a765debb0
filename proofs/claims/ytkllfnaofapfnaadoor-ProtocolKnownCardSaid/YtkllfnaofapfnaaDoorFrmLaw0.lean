/-
  The contracts of lists and small of package henkanlaw42. Conditions: the lists can be read, within the form's reach.
-/
import Derived.Test.YtkllfnaofapfnaaDoorFrmWords
import Derived.Deep.RegionHeld3
namespace Go.Proofs.YtkllfnaofapfnaaDoor.Frm
open Go.RowKit Wd Cod

theorem strS {w : World} {A : Option Addr} {n c : Nat} {l : List UInt8} (h : SB w A n c l) : (convert 25 9 (.slice A n c)).run Tryd.prog w = .ok (.string ⟨l.toArray⟩) w :=
  h.rb.run_string (P := Tryd.prog) c 25 5 9 Tryd.underlying25 Tryd.underlying5 Tryd.underlying9
theorem ms_take {ps : List BV} {k : Nat} {p : BV} (h : ps[k]? = some p) : ms (ps.take (k + 1)) = ms (ps.take k) ++ [p.d] := by
  rw [take_snocB h, ms_append]; rfl
theorem ms_diff {ps qs : List BV} {k : Nat} {p q : BV} (hp : ps[k]? = some p) (hq : qs[k]? = some q) (h : ¬ p.d = q.d) : ¬ ms ps = ms qs := fun e => h (by
  have h1 := ms_at hp
  have h2 := ms_at hq
  rw [e, h2] at h1
  injection h1 with h1
  exact h1.symm)
set_option maxRecDepth 100000 in
set_option maxHeartbeats 2000000 in
theorem lists_any (A A2 : Option Addr) (n c n2 c2 : Nat) (ps qs : List BV) (w : World) (h : RL w A n ps) (h2 : RL w A2 n2 qs) (hn : n ≤ 140737488355328) :
    Calls Tryd.prog 28 #[.slice A n c, .slice A2 n2 c2] w fun e w' => e = .returned (.bool (decide (ms ps = ms qs))) ∧ Below w.heap.size w w' := by
  have H := Lib.hid h
  have H2 := Lib.hid h2
  have HLEN := Lib.hid h.len
  have HLEN2 := Lib.hid h2.len
  clear h h2
  by_cases hl : n = n2
  · subst hl
    go_enter Tryd.func28, Tryd.ntmps28
    go_wp2_with fail
    go_loopw [5] (fun i wr => ∃ k : Nat, k ≤ n ∧ i = .int .i64 (k : Int) ∧ ms (ps.take k) = ms (qs.take k) ∧ Below w.heap.size w wr) (fun i _ => n - (intOf i).toNat)
    case atStart => exact ⟨0, Nat.zero_le _, rfl, rfl, Below.refl _ _⟩
    case round =>
      obtain ⟨k, hk, rfl, heq, hb⟩ := hrel
      have BB := Lib.hid hb
      have HEQ := Lib.hid heq
      clear heq
      by_cases hlt : k < n
      · obtain ⟨ad, p, rfl, hp, hbl, hc1, hsb⟩ := (H.out.keep hb).at_ hlt
        obtain ⟨ad2, q, rfl, hq, hbl2, hd1, hsb2⟩ := (H2.out.keep hb).at_ hlt
        have HP := Lib.hid hp
        have HQ := Lib.hid hq
        have KD := Lib.hid (show wr.drew.cell? (ad.add k) = some (.slice p.A p.n p.c) ∧ (convert 25 9 (.slice p.A p.n p.c)).run Tryd.prog wr.drew = .ok (.string ⟨p.d.toArray⟩) wr.drew ∧ wr.drew.cell? (ad2.add k) = some (.slice q.A q.n q.c) ∧ (convert 25 9 (.slice q.A q.n q.c)).run Tryd.prog wr.drew = .ok (.string ⟨q.d.toArray⟩) wr.drew from ⟨hc1, strS hsb.drew, hd1, strS hsb2.drew⟩)
        clear hp hq hsb hsb2 hb
        by_cases hd : p.d = q.d
        · have HE : Hid (ms (ps.take (k + 1)) = ms (qs.take (k + 1))) := Lib.hid (by rw [ms_take HP.out, ms_take HQ.out, HEQ.out, hd])
          rw [← hd] at KD
          clear hd
          go_wp2_with fail
          go_region_held3 (fun w' => w'.cell? (ad.add k) = some (.slice p.A p.n p.c) ∧ (convert 25 9 (.slice p.A p.n p.c)).run Tryd.prog w' = .ok (.string ⟨p.d.toArray⟩) w' ∧ w'.cell? (ad2.add k) = some (.slice q.A q.n q.c) ∧ (convert 25 9 (.slice q.A q.n q.c)).run Tryd.prog w' = .ok (.string ⟨p.d.toArray⟩) w') (first | exact KD.out | go_keep) (fail)
          go_wp2_with fail
          go_roundw
          case rel => exact ⟨k + 1, by omega, by go_num, HE.out, (by exact BB.out.drew)⟩
          case measure => simp [intOf]; omega
        · have HE := Lib.hid (ms_diff HP.out HQ.out hd)
          have e1 : (p.d == q.d) = false := beq_eq_false_iff_ne.2 hd
          clear hd
          go_wp2_with fail
          go_region_held3 (fun w' => w'.cell? (ad.add k) = some (.slice p.A p.n p.c) ∧ (convert 25 9 (.slice p.A p.n p.c)).run Tryd.prog w' = .ok (.string ⟨p.d.toArray⟩) w' ∧ w'.cell? (ad2.add k) = some (.slice q.A q.n q.c) ∧ (convert 25 9 (.slice q.A q.n q.c)).run Tryd.prog w' = .ok (.string ⟨q.d.toArray⟩) w') (first | exact KD.out | go_keep) (fail)
          go_wp2_with fail
          go_ret
          exact ⟨by rw [decide_eq_false HE.out]; rfl, (by exact BB.out.drew)⟩
      · obtain rfl : k = n := by omega
        have HE : Hid (ms ps = ms qs) := Lib.hid (by
          have := HEQ.out
          rwa [List.take_of_length_le (by rw [HLEN.out]; omega), List.take_of_length_le (by rw [HLEN2.out]; omega)] at this)
        go_wp2_with fail
        go_ret
        exact ⟨by rw [decide_eq_true HE.out]; rfl, hb⟩
  · have HE : Hid (¬ ms ps = ms qs) := Lib.hid (fun h => hl (by
      have := congrArg List.length h
      rw [ms_length, ms_length, HLEN.out, HLEN2.out] at this
      exact this))
    have hb : ((n : Int) == (n2 : Int)) = false := by rw [beq_eq_false_iff_ne]; omega
    have hb' : ((n : Int) != (n2 : Int)) = true := by rw [bne_iff_ne]; omega
    go_enter Tryd.func28, Tryd.ntmps28
    go_wp2_with fail
    go_ret
    exact ⟨by rw [decide_eq_false HE.out]; rfl, Below.refl _ _⟩

/-- the bytes of messages together -/
def tot (ps : List BV) : Nat := (ps.map BV.n).sum
theorem tot_snoc {ps : List BV} {k : Nat} {p : BV} (h : ps[k]? = some p) : tot (ps.take (k + 1)) = tot (ps.take k) + p.n := by
  rw [take_snocB h]; simp [tot]
theorem tot_fit {ps : List BV} (hf : ∀ p ∈ ps, p.n ≤ 140737488355328) : tot ps ≤ ps.length * 140737488355328 := by
  induction ps with
  | nil => simp [tot]
  | cons p ps ih =>
    have h1 := hf p (by simp)
    have h2 := ih (fun q hq => hf q (by simp [hq]))
    unfold tot at h2 ⊢
    simp only [List.map_cons, List.sum_cons, List.length_cons]
    rw [Nat.add_mul]
    omega
def smallB (ps : List BV) : Bool := decide (ps.length ≤ 1000 ∧ tot ps ≤ 100000)
theorem w64' (z : Int) : IntKind.i64.wrap z = wrap64 z := by rw [IntKind.wrap_i64]; unfold wrap64; rfl
set_option maxRecDepth 100000 in
set_option maxHeartbeats 2000000 in
theorem small_any (A : Option Addr) (n c : Nat) (ps : List BV) (w : World) (h : RL w A n ps) (hf : ∀ p ∈ ps, p.n ≤ 140737488355328) (hn : n ≤ 140737488355328) :
    Calls Tryd.prog 29 #[.slice A n c] w fun e w' => e = .returned (.bool (smallB ps)) ∧ w = w' := by
  have H := Lib.hid h
  have HF := Lib.hid hf
  have HLEN := Lib.hid h.len
  clear h hf
  go_enter Tryd.func29, Tryd.ntmps29
  go_wp2_with fail
  go_loop [3, 4] (fun s i => ∃ (k : Nat) (z : Int), k ≤ n ∧ i = .int .i64 (k : Int) ∧ s = .int .i64 z ∧ (n ≤ 1000 → z = ((tot (ps.take k) : Nat) : Int))) (fun _ i => n - (intOf i).toNat)
  case atStart => exact ⟨0, 0, Nat.zero_le _, rfl, rfl, fun _ => rfl⟩
  case round =>
    obtain ⟨k, z, hk, rfl, rfl, hz⟩ := hrel
    have HZ := Lib.hid hz
    by_cases hlt : k < n
    · obtain ⟨ad, p, rfl, hp, hbl, hc1, hsb⟩ := H.out.at_ hlt
      have hpn := HF.out p (List.mem_of_getElem? hp)
      have HS := Lib.hid (tot_snoc hp)
      clear hsb hp
      have hsum : n ≤ 1000 → 0 ≤ z ∧ z ≤ 1000 * 140737488355328 := fun h80 => by
        have h1 := tot_fit (ps := ps.take k) (fun p hp => HF.out p (List.mem_of_mem_take hp))
        have h2 := HZ.out h80
        have h3 : (ps.take k).length ≤ 1000 := by rw [List.length_take, HLEN.out]; omega
        have h4 : tot (ps.take k) ≤ 1000 * 140737488355328 := Nat.le_trans h1 (Nat.mul_le_mul h3 (Nat.le_refl _))
        omega
      have HW : Hid (n ≤ 1000 → IntKind.i64.wrap (z + (p.n : Int)) = z + (p.n : Int)) := Lib.hid (fun h80 => by
        have := hsum h80
        rw [IntKind.wrap_i64]; omega)
      clear hsum hz
      go_wp2_with fail
      go_round
      case rel => exact ⟨k + 1, IntKind.i64.wrap (z + (p.n : Int)), by omega, by go_num, (by rw [w64']), fun h80 => by rw [HW.out h80, HZ.out h80, HS.out]; omega⟩
      case measure => simp [intOf]; omega
    · obtain rfl : k = n := by omega
      have ht : ps.take k = ps := List.take_of_length_le (by rw [HLEN.out]; omega)
      rw [ht] at HZ hz
      clear ht
      by_cases h80 : k ≤ 1000
      · obtain rfl := hz h80
        have h80' : (k : Int) ≤ 1000 := by omega
        by_cases h5 : tot ps ≤ 100000
        · have h5' : ((tot ps : Nat) : Int) ≤ 100000 := by omega
          have HR : Hid (smallB ps = true) := Lib.hid (decide_eq_true ⟨by rw [HLEN.out]; exact h80, h5⟩)
          clear hz HZ
          generalize tot ps = t at h5'
          clear h5
          go_wp2_with fail
          go_ret
          exact ⟨by rw [HR.out]; simp <;> omega, rfl⟩
        · have h5' : (100000 : Int) < ((tot ps : Nat) : Int) := by omega
          have HR : Hid (smallB ps = false) := Lib.hid (decide_eq_false (fun h => h5 h.2))
          clear hz HZ
          generalize tot ps = t at h5'
          clear h5
          go_wp2_with fail
          go_ret
          exact ⟨by rw [HR.out]; simp <;> omega, rfl⟩
      · have h80' : (1000 : Int) < (k : Int) := by omega
        have HR : Hid (smallB ps = false) := Lib.hid (decide_eq_false (fun h => h80 (by rw [← HLEN.out]; exact h.1)))
        go_wp2_with fail
        go_ret
        exact ⟨by rw [HR.out]; rfl, rfl⟩
end Go.Proofs.YtkllfnaofapfnaaDoor.Frm
