/-
  The contract of ProtocolEnds: the frames of messages, followed by the beginning of a frame, are divided into the messages. Conditions: the arguments can be read, within the form's reach; the two tables of unicode/utf8 lie as their initialisers lay them.
-/
import Derived.Test.YtkllfnaofapfnaaDoorProtWorks
import Derived.Test.YtkllfnaofapfnaaDoorFrmLaw0
namespace Go.Proofs.YtkllfnaofapfnaaDoor.Frm
open Go.RowKit Wd Cod Utf

theorem rl_one {w : World} {T : TypeId} {A : Option Addr} {n c : Nat} {l : List UInt8} (h : SB w A n c l) : RL (w.alloc (.cells #[.slice A n c] T)) (some ⟨w.heap.size, 0, none⟩) 1 [⟨A, n, c, l⟩] :=
  ⟨Reads.lit w _ T _ 1 _ rfl rfl, fun p hp => by simp at hp; subst hp; exact h.alloc _⟩
theorem frames_len {ps : List BV} (h : ∀ p ∈ ps, p.d.length = p.n) : (frames (ms ps)).length = 4 * ps.length + tot ps := by
  induction ps with
  | nil => rfl
  | cons p ps ih =>
    have h1 := h p (by simp)
    have h2 := ih (fun q hq => h q (by simp [hq]))
    have e : frames (ms (p :: ps)) = frame1 p.d ++ frames (ms ps) := by simp [frames, ms]
    rw [e, List.length_append, h2]
    unfold frame1 tot
    rw [List.length_append, le4_length, h1, List.map_cons, List.sum_cons, List.length_cons]
    omega
theorem le_tot {ps : List BV} {p : BV} (h : p ∈ ps) : p.n ≤ tot ps := by
  induction ps with
  | nil => cases h
  | cons q ps ih =>
    unfold tot at ih ⊢
    simp only [List.map_cons, List.sum_cons]
    rcases List.mem_cons.1 h with rfl | h
    · omega
    · have := ih h; omega
theorem small_parts {ps : List BV} (h : smallB ps = true) (hl : ∀ p ∈ ps, p.d.length = p.n) : ps.length ≤ 1000 ∧ tot ps ≤ 100000 ∧ (ms ps).any big = false := by
  obtain ⟨h1, h2⟩ := of_decide_eq_true h
  refine ⟨h1, h2, ?_⟩
  rw [Bool.eq_false_iff]
  intro hb
  obtain ⟨d, hd, hbig⟩ := List.any_eq_true.1 hb
  obtain ⟨p, hp, rfl⟩ := List.mem_map.1 hd
  have := of_decide_eq_true hbig
  have := hl p hp
  have := le_tot hp
  omega
theorem frameOf_one {l : List UInt8} (h : l.length ≤ 1048576) : frameOf [l] = frame1 l := by
  unfold frameOf
  have : big l = false := decide_eq_false (by omega)
  simp [this, frames]
theorem ends_unf {ps : List BV} {l : List UInt8} {k : Nat} (h : (ms ps).any big = false) (hl : l.length ≤ 1048576) (hk : k < (frame1 l).length) : unf (frames (ms ps) ++ (frame1 l).take k) = some (ms ps, (frames (ms ps)).length) := by
  rw [unf_frames _ _ h, unf_begin hl hk]
  simp [pre]
theorem ends_unf0 {ps : List BV} (h : (ms ps).any big = false) : unf (frames (ms ps)) = some (ms ps, (frames (ms ps)).length) := by
  have := unf_frames (ms ps) [] h
  rw [List.append_nil, unf_short (l := []) (by decide)] at this
  rw [this]
  simp [pre]
theorem frame1_len (l : List UInt8) : (frame1 l).length = 4 + l.length := by unfold frame1; rw [List.length_append, le4_length]
set_option maxRecDepth 100000 in
set_option maxHeartbeats 4000000 in
theorem ends_any (A0 A1 : Option Addr) (n0 c0 n1 c1 : Nat) (ps : List BV) (l1 : List UInt8) (z2 : Int) (w : World) (hT : Tabs w) (h0 : RL w A0 n0 ps) (hf : ∀ p ∈ ps, p.n ≤ 140737488355328) (hn0 : n0 ≤ 140737488355328) (h1 : SB w A1 n1 c1 l1) (hn1 : n1 ≤ 140737488355328) (hz1 : -9223372036854775808 ≤ z2) (hz2 : z2 ≤ 9223372036854775807) :
    Calls Tryd.prog 10 #[.slice A0 n0 c0, .slice A1 n1 c1, .int .i64 z2] w fun e w' => e = .returned (.bool true) ∧ Below w.heap.size w w' := by
  have HT := Lib.hid hT
  have H0 := Lib.hid h0
  have H1 := Lib.hid h1
  have HF := Lib.hid hf
  have HSM := Lib.hid (small_any A0 n0 c0 ps w h0 hf hn0)
  have hpl : ∀ p ∈ ps, p.d.length = p.n := fun p hp => (h0.2 p hp).rb.len
  have hl0 := h0.len
  have hl1 := h1.rb.len
  clear hT h0 h1 hf
  rcases hs : smallB ps with _ | _
  · rw [hs] at HSM
    clear hs hpl
    go_enter Tryd.func10, Tryd.ntmps10
    go_wp2_with fail
    refine HSM.out.mono ?_
    rintro e wq ⟨rfl, rfl⟩
    go_wp2_with fail
    go_ret
    exact ⟨rfl, Below.refl _ _⟩
  rw [hs] at HSM
  obtain ⟨k1, k2, k3⟩ := small_parts hs hpl
  have hfl := frames_len hpl
  have HP := Lib.hid hpl
  have K3 := Lib.hid k3
  clear hs hpl k3
  by_cases hb : n1 ≤ 100000
  · have hb' : (n1 : Int) ≤ 100000 := by omega
    have hframe := frame_end K3.out
    have hone : frameOf (ms [⟨A1, n1, c1, l1⟩]) = frame1 l1 := frameOf_one (l := l1) (by omega)
    have hf1 := frame1_len l1
    have HFR := Lib.hid hframe
    have HON := Lib.hid hone
    clear hframe hone
    go_enter Tryd.func10, Tryd.ntmps10
    go_wp2_with fail
    refine HSM.out.mono ?_
    rintro e wq ⟨rfl, rfl⟩
    go_wp2_with fail
    refine (frame_any _ 1 1 [⟨A1, n1, c1, l1⟩] _ (rl_one H1.out) (by decide) (fun p hp => by simp at hp; subst hp; exact hn1)).mono ?_
    rintro e w1 ⟨v1, rfl, ho1, hb1⟩
    rw [HON.out] at ho1
    obtain ⟨Af, cf, rfl, hsf⟩ := own_sb ho1
    have hb1' : Below w.heap.size w w1 := ((Below.refl _ _).alloc (Nat.le_refl _) _).trans (hb1.mono (by simp))
    have B1 := Lib.hid hb1'
    have SF := Lib.hid hsf
    clear ho1 hb1 hb1' hsf
    go_wp2_with fail
    refine (frame_any A0 n0 c0 ps _ (H0.out.keep B1.out) (by omega) HF.out).mono ?_
    rintro e w2 ⟨v2, rfl, ho2, hb2⟩
    rw [HFR.out] at ho2
    have O2 := Lib.hid (own_mono ho2 B1.out.size)
    have B2 : Hid (Below w.heap.size w w2) := Lib.hid (B1.out.trans (hb2.mono B1.out.size))
    have SF2 := Lib.hid (SF.out.keep hb2)
    have hbz := B2.out.size
    obtain ⟨Ab, cb, rfl, _⟩ := own_sb ho2
    clear ho2 hb2 B1 SF
    have hlen : (frames (ms ps)).length ≤ 104000 := by omega
    have UE := Lib.hid (fun (k : Nat) (hk : k < (frame1 l1).length) => ends_unf (ps := ps) (l := l1) (k := k) K3.out (by omega) hk)
    have UE0 := Lib.hid (ends_unf0 K3.out)
    have hGc := SF2.out.cap
    clear HP HON HFR
    generalize frames (ms ps) = F at O2 UE UE0 hlen ⊢
    generalize frame1 l1 = G at SF2 UE hf1 hGc ⊢
    clear hfl
    have HLF := Lib.hid hlen
    rcases Af with _ | adf
    · exact absurd (SF2.out.nil rfl) (by omega)
    by_cases hk : 0 ≤ z2 ∧ z2 < (((G.length) : Nat) : Int)
    · obtain ⟨k, rfl⟩ : ∃ k : Nat, z2 = (k : Int) := Int.eq_ofNat_of_zero_le hk.1
      have hkl : k < G.length := by omega
      have hkI : (k : Int) < ((G.length : Nat) : Int) := by omega
      have hkc : (k : Int) ≤ (cf : Int) := by omega
      have UN := Lib.hid (UE.out k hkl)
      have RK : Hid (Reads w2 w2.heap.size 1 (some adf) k (bs (G.take k))) := Lib.hid (by
        have := Reads.upto SF2.out.rb (k := k) (by omega)
        rw [Nat.mul_one, bs_take] at this
        exact this)
      obtain ⟨i0, hi, hy0, hy1, hy2⟩ := info_parts Tryd.infoU8
      have HI := Lib.hid hi
      clear hi hk UE UE0
      go_wp2_with (at_builtin; refine wpList_append_any _ rfl (.tmp 36) (.tmp 39) _ rfl w.heap.size 5 i0 _ 1 1 Tryd.underlying25 HI.out hy0 hy1 hy2 rfl (by decide) _ F.length (bs F) rfl O2.out _ (some adf) k cf (bs (G.take k)) rfl RK.out (bs_one _) (by unfold maxLen; omega) (by omega) (by omega) ?_; intro v3 w3 hown3 hg3 hat3; have B3 : Hid (Below w.heap.size w w3) := Lib.hid (own_below B2.out (Nat.le_refl _) O2.out (Nat.le_refl _) hg3); rw [← bs_append] at hown3; obtain ⟨A3, c3, rfl, hs3⟩ := own_sb hown3; have S3 := Lib.hid hs3; clear hown3 hg3 hat3 hs3)
      refine (unframe_any A3 (F.length + k) c3 _ _ S3.out (by omega)).mono ?_
      rintro e w4 ⟨hb4, ⟨h, _⟩ | ⟨v4, qs, k4, hu, rfl, hol⟩⟩
      · rw [UN.out] at h; cases h
      rw [UN.out] at hu
      injection hu with hu
      injection hu with hu1 hu2
      subst hu2
      have B4 : Hid (Below w.heap.size w w4) := Lib.hid (B3.out.trans (hb4.mono B3.out.size))
      obtain ⟨Am, cm, rfl, hrl, _⟩ := hol.form
      have HRL := Lib.hid hrl
      have HML := Lib.hid hu1.symm
      clear hb4 hol hrl hu1
      go_wp2_with fail
      refine (lists_any Am A0 qs.length cm n0 c0 qs ps _ HRL.out (H0.out.keep B4.out) (by have h1 := congrArg List.length HML.out; rw [ms_length, ms_length] at h1; omega)).mono ?_
      rintro e w5 ⟨rfl, hb5⟩
      rw [decide_eq_true HML.out]
      have B5 : Hid (Below w.heap.size w w5) := Lib.hid (B4.out.trans (hb5.mono B4.out.size))
      clear hb5
      go_wp2_with fail
      refine (Prot.works_any _ (HT.out.keep B5.out)).mono ?_
      rintro e w6 ⟨rfl, hb6⟩
      have B6 : Hid (Below w.heap.size w w6) := Lib.hid (B5.out.trans (hb6.mono B5.out.size))
      clear hb6
      go_wp2_with fail
      go_ret
      exact ⟨rfl, B6.out⟩
    · have UN := UE0
      have hk' : z2 < 0 ∨ ((G.length : Nat) : Int) ≤ z2 := by omega
      obtain ⟨Ab', cb', eb, hsb⟩ := own_sb O2.out
      injection eb with e1 _ e3
      subst e1 e3
      have SB2 := Lib.hid hsb
      clear hsb hk UE
      rcases hk' with hk' | hk'
      all_goals
        go_wp2_with fail
        refine (unframe_any Ab F.length cb _ _ SB2.out (by omega)).mono ?_
        rintro e w4 ⟨hb4, ⟨h, _⟩ | ⟨v4, qs, k4, hu, rfl, hol⟩⟩
        · rw [UN.out] at h; cases h
        rw [UN.out] at hu
        injection hu with hu
        injection hu with hu1 hu2
        subst hu2
        have B4 : Hid (Below w.heap.size w w4) := Lib.hid (B2.out.trans (hb4.mono B2.out.size))
        obtain ⟨Am, cm, rfl, hrl, _⟩ := hol.form
        have HRL := Lib.hid hrl
        have HML := Lib.hid hu1.symm
        clear hb4 hol hrl hu1
        go_wp2_with fail
        refine (lists_any Am A0 qs.length cm n0 c0 qs ps _ HRL.out (H0.out.keep B4.out) (by have h1 := congrArg List.length HML.out; rw [ms_length, ms_length] at h1; omega)).mono ?_
        rintro e w5 ⟨rfl, hb5⟩
        rw [decide_eq_true HML.out]
        have B5 : Hid (Below w.heap.size w w5) := Lib.hid (B4.out.trans (hb5.mono B4.out.size))
        clear hb5
        go_wp2_with fail
        refine (Prot.works_any _ (HT.out.keep B5.out)).mono ?_
        rintro e w6 ⟨rfl, hb6⟩
        have B6 : Hid (Below w.heap.size w w6) := Lib.hid (B5.out.trans (hb6.mono B5.out.size))
        clear hb6
        go_wp2_with fail
        go_ret
        exact ⟨rfl, B6.out⟩
  · have hb' : (100000 : Int) < (n1 : Int) := by omega
    go_enter Tryd.func10, Tryd.ntmps10
    go_wp2_with fail
    refine HSM.out.mono ?_
    rintro e wq ⟨rfl, rfl⟩
    go_wp2_with fail
    go_ret
    exact ⟨rfl, Below.refl _ _⟩
end Go.Proofs.YtkllfnaofapfnaaDoor.Frm
