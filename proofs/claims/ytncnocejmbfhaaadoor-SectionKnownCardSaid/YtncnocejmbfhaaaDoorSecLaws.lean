/-
  The walks of the laws SectionJoins, SectionSplits, SectionFinds and SectionBack. Conditions: the arguments can be read, within the form's reach; the table of package crc holds its numbers. (Printed by gen/seclaws.py.)
-/
import Derived.Test.YtncnocejmbfhaaaDoorSecWorks
namespace Go.Proofs.YtncnocejmbfhaaaDoor.Sec
open Go.RowKit Wd Cod Crc

theorem room_pts {ps qs : List PV} (h : pts qs = pts ps) (hr : Room ps) : Room qs := by
  refine ⟨fun q hq => ?_, by rw [h]; exact hr.sum⟩
  have h1 : q.pt ∈ pts ps := by rw [← h]; exact List.mem_map_of_mem hq
  simp only [pts, List.mem_map] at h1
  obtain ⟨p, hp, e⟩ := h1
  have := hr.name p hp
  have e2 : p.name = q.name := congrArg Pt.name e
  rw [← e2]; exact this
theorem fit_room {w : World} {A : Option Addr} {n : Nat} {ps : List PV} (h : RP w A n ps) (hr : Room ps) : Fit ps := fun p hp => by
  have h1 := hr.sum
  have h2 := le_total (l := pts ps) (p := p.pt) (List.mem_map_of_mem hp)
  have h3 := (h.2 p hp).rb.len
  have h4 : p.pt.data.length = p.d.length := rfl
  omega
theorem nil_str (w : World) (c : Nat) : (convert 26 9 (.slice none 0 c)).run Tryd.prog w = .ok (.string ⟨#[]⟩) w :=
  RB.run_string (P := Tryd.prog) (l := []) Reads.none_ c 26 5 9 Tryd.underlying26 Tryd.underlying5 Tryd.underlying9
theorem yes_of {a b : List Pt} {x : Bool} (h : x = true ↔ a = b) (e : a = b) : x = true := h.2 e
theorem str_run {w : World} {A : Option Addr} {n c : Nat} {l : List UInt8} (h : SB w A n c l) : (convert 26 9 (.slice A n c)).run Tryd.prog w = .ok (.string ⟨l.toArray⟩) w :=
  h.rb.run_string (P := Tryd.prog) c 26 5 9 Tryd.underlying26 Tryd.underlying5 Tryd.underlying9

set_option maxRecDepth 100000 in
set_option maxHeartbeats 2000000 in
theorem joins_any (A : Option Addr) (n c : Nat) (ps : List PV) (w : World) (ht : Tab w) (h : RP w A n ps) (hf : Fit ps) (hn : n ≤ 140737488355328) :
    Calls Tryd.prog 3 #[.slice A n c] w fun e w' => e = .returned (.bool true) ∧ Below w.heap.size w w' := by
  have T_0 := Lib.hid ht
  have H_0 := Lib.hid h
  have B_0 : Hid (Below w.heap.size w w) := Lib.hid (Below.refl _ _)
  have HFEW := Lib.hid (few_any A n c ps w h hf hn)
  clear ht h hn
  rcases hfew : fewB ps with _ | _
  · rw [hfew] at HFEW
    go_enter Tryd.func3, Tryd.ntmps3
    go_wp2_with fail
    refine HFEW.out.mono ?_
    rintro e wq ⟨rfl, rfl⟩
    go_wp2_with fail
    go_ret
    exact ⟨rfl, B_0.out⟩
  · obtain ⟨hroom, h80, h5, hnm⟩ := fewB_room hfew
    rw [hfew] at HFEW
    rw [H_0.out.len] at h80
    have HR := Lib.hid hroom
    clear hroom h5 hnm hfew
    go_enter Tryd.func3, Tryd.ntmps3
    go_wp2_with fail
    refine HFEW.out.mono ?_
    rintro e wq ⟨rfl, rfl⟩
    clear HFEW
    go_wp2_with fail
    refine (theirs_any A n c ps _ H_0.out HR.out (by omega)).mono ?_
    rintro e w1 ⟨hb1, A1, n1, c1, q1, rfl, ho1, hn1, hp1⟩
    have T_1 := Lib.hid (T_0.out.keep' hb1)
    clear T_0
    have H_1 := Lib.hid (H_0.out.keep hb1)
    clear H_0
    have B_1 := Lib.hid (B_0.out.trans (hb1.mono B_0.out.size))
    clear B_0
    clear hb1
    have Q_n := Lib.hid ho1
    have HP1 := Lib.hid hp1
    have hnn1 : n1 ≤ 100 := by rw [hn1, H_1.out.len]; omega
    clear ho1 hp1 hn1
    go_wp2_with fail
    refine (join_any A n c ps _ T_1.out H_1.out HR.out (by omega)).mono ?_
    rintro e w2 ⟨hb2, hj⟩
    have T_2 := Lib.hid (T_1.out.keep' hb2)
    clear T_1
    have H_2 := Lib.hid (H_1.out.keep hb2)
    clear H_1
    have Q_2 := Lib.hid (Q_n.out.keep hb2)
    clear Q_n
    have B_2 := Lib.hid (B_1.out.trans (hb2.mono B_1.out.size))
    clear B_1
    clear hb2
    rcases hj with ⟨hck, v2, rfl, hown2⟩ | ⟨hck, rfl⟩
    · skip
      have HCK := Lib.hid hck
      clear hck
      obtain ⟨A2, c2, rfl, hs2⟩ := own_sb hown2
      obtain ⟨N2, hN2⟩ : ∃ N, N = (file (pts ps)).length := ⟨_, rfl⟩
      rw [← hN2] at hs2 ⊢
      have S2_n := Lib.hid hs2
      clear hown2 hs2 hN2
      go_wp2_with fail
      refine (joinR_any A1 n1 c1 q1 _ Q_2.out.rp (room_pts HP1.out HR.out) (by omega)).mono ?_
      rintro e w3a ⟨hb3a, hj⟩
      have T_3a := Lib.hid (T_2.out.keep' hb3a)
      clear T_2
      have H_3a := Lib.hid (H_2.out.keep hb3a)
      clear H_2
      have Q_3a := Lib.hid (Q_2.out.keep hb3a)
      clear Q_2
      have S2_3a := Lib.hid (S2_n.out.keep hb3a)
      clear S2_n
      have B_3a := Lib.hid (B_2.out.trans (hb3a.mono B_2.out.size))
      clear B_2
      clear hb3a
      rw [HP1.out] at hj
      obtain ⟨_, v3, rfl, hown3⟩ := hj.resolve_right (fun h => h.1 HCK.out)
      clear hj
      obtain ⟨A3, c3, rfl, hs3⟩ := own_sb hown3
      obtain ⟨N3, hN3⟩ : ∃ N, N = (file (pts ps)).length := ⟨_, rfl⟩
      rw [← hN3] at hs3 ⊢
      have S3_n := Lib.hid hs3
      clear hown3 hs3 hN3
      have hr2 := str_run S2_3a.out
      have hr3 := str_run S3_n.out
      generalize file (pts ps) = F at hr2 hr3
      go_wp2_with fail
      refine (theirs_any A n c ps _ H_3a.out HR.out (by omega)).mono ?_
      rintro e w4a ⟨hb4a, A4, n4, c4, q4, rfl, ho4, hn4, hp4⟩
      have T_4a := Lib.hid (T_3a.out.keep' hb4a)
      clear T_3a
      have H_4a := Lib.hid (H_3a.out.keep hb4a)
      clear H_3a
      have Q_4a := Lib.hid (Q_3a.out.keep hb4a)
      clear Q_3a
      have S2_4a := Lib.hid (S2_3a.out.keep hb4a)
      clear S2_3a
      have S3_4a := Lib.hid (S3_n.out.keep hb4a)
      clear S3_n
      have B_4a := Lib.hid (B_3a.out.trans (hb4a.mono B_3a.out.size))
      clear B_3a
      clear hb4a
      have R_n := Lib.hid ho4
      have HP4 := Lib.hid hp4
      have hnn4 : n4 ≤ 100 := by rw [hn4, H_4a.out.len]; omega
      clear ho4 hp4 hn4
      clear hr2 hr3
      go_wp2_with fail
      refine (same_parts A4 A1 n4 c4 n1 c1 q4 q1 _ R_n.out.rp Q_4a.out.rp (by omega)).mono ?_
      rintro e w5a ⟨⟨x, rfl, hx⟩, hb5a⟩
      have T_5a := Lib.hid (T_4a.out.keep' hb5a)
      clear T_4a
      have H_5a := Lib.hid (H_4a.out.keep hb5a)
      clear H_4a
      have Q_5a := Lib.hid (Q_4a.out.keep hb5a)
      clear Q_4a
      have S2_5a := Lib.hid (S2_4a.out.keep hb5a)
      clear S2_4a
      have S3_5a := Lib.hid (S3_4a.out.keep hb5a)
      clear S3_4a
      have R_5a := Lib.hid (R_n.out.keep hb5a)
      clear R_n
      have B_5a := Lib.hid (B_4a.out.trans (hb5a.mono B_4a.out.size))
      clear B_4a
      clear hb5a
      obtain rfl : x = true := hx.2 (by rw [HP4.out, HP1.out])
      clear hx
      go_wp2_with fail
      refine (works_any _ T_5a.out).mono ?_
      rintro e w6a ⟨rfl, hb6a⟩
      have T_6a := Lib.hid (T_5a.out.keep' hb6a)
      clear T_5a
      have H_6a := Lib.hid (H_5a.out.keep hb6a)
      clear H_5a
      have Q_6a := Lib.hid (Q_5a.out.keep hb6a)
      clear Q_5a
      have S2_6a := Lib.hid (S2_5a.out.keep hb6a)
      clear S2_5a
      have S3_6a := Lib.hid (S3_5a.out.keep hb6a)
      clear S3_5a
      have R_6a := Lib.hid (R_5a.out.keep hb6a)
      clear R_5a
      have B_6a := Lib.hid (B_5a.out.trans (hb6a.mono B_5a.out.size))
      clear B_5a
      clear hb6a
      go_wp2_with fail
      go_ret
      exact ⟨rfl, B_6a.out⟩
    · skip
      have HCK := Lib.hid hck
      clear hck
      go_wp2_with fail
      refine (joinR_any A1 n1 c1 q1 _ Q_2.out.rp (room_pts HP1.out HR.out) (by omega)).mono ?_
      rintro e w3b ⟨hb3b, hj⟩
      have T_3b := Lib.hid (T_2.out.keep' hb3b)
      clear T_2
      have H_3b := Lib.hid (H_2.out.keep hb3b)
      clear H_2
      have Q_3b := Lib.hid (Q_2.out.keep hb3b)
      clear Q_2
      have B_3b := Lib.hid (B_2.out.trans (hb3b.mono B_2.out.size))
      clear B_2
      clear hb3b
      rw [HP1.out] at hj
      obtain ⟨_, rfl⟩ := hj.resolve_left (fun h => HCK.out h.1)
      clear hj HCK
      generalize chk (pts ps) = z
      have hr2 := nil_str w3b 0
      go_wp2_with fail
      refine (theirs_any A n c ps _ H_3b.out HR.out (by omega)).mono ?_
      rintro e w4b ⟨hb4b, A4, n4, c4, q4, rfl, ho4, hn4, hp4⟩
      have T_4b := Lib.hid (T_3b.out.keep' hb4b)
      clear T_3b
      have H_4b := Lib.hid (H_3b.out.keep hb4b)
      clear H_3b
      have Q_4b := Lib.hid (Q_3b.out.keep hb4b)
      clear Q_3b
      have B_4b := Lib.hid (B_3b.out.trans (hb4b.mono B_3b.out.size))
      clear B_3b
      clear hb4b
      have R_n := Lib.hid ho4
      have HP4 := Lib.hid hp4
      have hnn4 : n4 ≤ 100 := by rw [hn4, H_4b.out.len]; omega
      clear ho4 hp4 hn4
      clear hr2
      go_wp2_with fail
      refine (same_parts A4 A1 n4 c4 n1 c1 q4 q1 _ R_n.out.rp Q_4b.out.rp (by omega)).mono ?_
      rintro e w5b ⟨⟨x, rfl, hx⟩, hb5b⟩
      have T_5b := Lib.hid (T_4b.out.keep' hb5b)
      clear T_4b
      have H_5b := Lib.hid (H_4b.out.keep hb5b)
      clear H_4b
      have Q_5b := Lib.hid (Q_4b.out.keep hb5b)
      clear Q_4b
      have R_5b := Lib.hid (R_n.out.keep hb5b)
      clear R_n
      have B_5b := Lib.hid (B_4b.out.trans (hb5b.mono B_4b.out.size))
      clear B_4b
      clear hb5b
      obtain rfl : x = true := hx.2 (by rw [HP4.out, HP1.out])
      clear hx
      go_wp2_with fail
      refine (works_any _ T_5b.out).mono ?_
      rintro e w6b ⟨rfl, hb6b⟩
      have T_6b := Lib.hid (T_5b.out.keep' hb6b)
      clear T_5b
      have H_6b := Lib.hid (H_5b.out.keep hb6b)
      clear H_5b
      have Q_6b := Lib.hid (Q_5b.out.keep hb6b)
      clear Q_5b
      have R_6b := Lib.hid (R_5b.out.keep hb6b)
      clear R_5b
      have B_6b := Lib.hid (B_5b.out.trans (hb6b.mono B_5b.out.size))
      clear B_5b
      clear hb6b
      go_wp2_with fail
      go_ret
      exact ⟨rfl, B_6b.out⟩

set_option maxRecDepth 100000 in
set_option maxHeartbeats 2000000 in
theorem finds_any (A : Option Addr) (n c : Nat) (ps : List PV) (s0 : ByteArray) (w : World) (ht : Tab w) (h : RP w A n ps) (hf : Fit ps) (hn : n ≤ 140737488355328) :
    Calls Tryd.prog 5 #[.slice A n c, .string s0] w fun e w' => e = .returned (.bool true) ∧ Below w.heap.size w w' := by
  have T_0 := Lib.hid ht
  have H_0 := Lib.hid h
  have B_0 : Hid (Below w.heap.size w w) := Lib.hid (Below.refl _ _)
  have HFEW := Lib.hid (few_any A n c ps w h hf hn)
  clear ht h hn
  rcases hfew : fewB ps with _ | _
  · rw [hfew] at HFEW
    go_enter Tryd.func5, Tryd.ntmps5
    go_wp2_with fail
    refine HFEW.out.mono ?_
    rintro e wq ⟨rfl, rfl⟩
    go_wp2_with fail
    go_ret
    exact ⟨rfl, B_0.out⟩
  · obtain ⟨hroom, h80, h5, hnm⟩ := fewB_room hfew
    rw [hfew] at HFEW
    rw [H_0.out.len] at h80
    have HR := Lib.hid hroom
    clear hroom h5 hnm hfew
    go_enter Tryd.func5, Tryd.ntmps5
    go_wp2_with fail
    refine HFEW.out.mono ?_
    rintro e wq ⟨rfl, rfl⟩
    clear HFEW
    go_wp2_with fail
    refine (find_any A n c ps s0 _ H_0.out hf (by omega)).mono ?_
    rintro e w1 ⟨hb1, hfp⟩
    have T_1 := Lib.hid (T_0.out.keep' hb1)
    clear T_0
    have H_1 := Lib.hid (H_0.out.keep hb1)
    clear H_0
    have B_1 := Lib.hid (B_0.out.trans (hb1.mono B_0.out.size))
    clear B_0
    clear hb1
    rcases hl : look (pts ps) s0 with _ | d
    · skip
      rw [hl] at hfp
      have HL := Lib.hid hl
      clear hl
      obtain rfl := hfp
      go_wp2_with fail
      refine (theirs_any A n c ps _ H_1.out HR.out (by omega)).mono ?_
      rintro e w2a ⟨hb2a, A3, n3, c3, q3, rfl, ho3, hn3, hp3⟩
      have T_2a := Lib.hid (T_1.out.keep' hb2a)
      clear T_1
      have H_2a := Lib.hid (H_1.out.keep hb2a)
      clear H_1
      have B_2a := Lib.hid (B_1.out.trans (hb2a.mono B_1.out.size))
      clear B_1
      clear hb2a
      have Q_n := Lib.hid ho3
      have HP3 := Lib.hid hp3
      have hnn3 : n3 ≤ 100 := by rw [hn3, H_2a.out.len]; omega
      clear ho3 hp3 hn3
      go_wp2_with fail
      refine (findR_any A3 n3 c3 q3 s0 _ Q_n.out.rp (by omega)).mono ?_
      rintro e w3a ⟨hb3a, hfp⟩
      have T_3a := Lib.hid (T_2a.out.keep' hb3a)
      clear T_2a
      have H_3a := Lib.hid (H_2a.out.keep hb3a)
      clear H_2a
      have Q_3a := Lib.hid (Q_n.out.keep hb3a)
      clear Q_n
      have B_3a := Lib.hid (B_2a.out.trans (hb3a.mono B_2a.out.size))
      clear B_2a
      clear hb3a
      rw [HP3.out, HL.out] at hfp
      obtain rfl := hfp
      have hr := nil_str w3a 0
      go_wp2_with fail
      refine (works_any _ T_3a.out).mono ?_
      rintro e w4a ⟨rfl, hb4a⟩
      have T_4a := Lib.hid (T_3a.out.keep' hb4a)
      clear T_3a
      have H_4a := Lib.hid (H_3a.out.keep hb4a)
      clear H_3a
      have Q_4a := Lib.hid (Q_3a.out.keep hb4a)
      clear Q_3a
      have B_4a := Lib.hid (B_3a.out.trans (hb4a.mono B_3a.out.size))
      clear B_3a
      clear hb4a
      go_wp2_with fail
      go_ret
      exact ⟨rfl, B_4a.out⟩
    · skip
      rw [hl] at hfp
      have HL := Lib.hid hl
      clear hl
      obtain ⟨A2, n2, c2, rfl, hs2⟩ := hfp
      have S2_n := Lib.hid hs2
      clear hs2
      go_wp2_with fail
      refine (theirs_any A n c ps _ H_1.out HR.out (by omega)).mono ?_
      rintro e w2b ⟨hb2b, A3, n3, c3, q3, rfl, ho3, hn3, hp3⟩
      have T_2b := Lib.hid (T_1.out.keep' hb2b)
      clear T_1
      have H_2b := Lib.hid (H_1.out.keep hb2b)
      clear H_1
      have S2_2b := Lib.hid (S2_n.out.keep hb2b)
      clear S2_n
      have B_2b := Lib.hid (B_1.out.trans (hb2b.mono B_1.out.size))
      clear B_1
      clear hb2b
      have Q_n := Lib.hid ho3
      have HP3 := Lib.hid hp3
      have hnn3 : n3 ≤ 100 := by rw [hn3, H_2b.out.len]; omega
      clear ho3 hp3 hn3
      go_wp2_with fail
      refine (findR_any A3 n3 c3 q3 s0 _ Q_n.out.rp (by omega)).mono ?_
      rintro e w3b ⟨hb3b, hfp⟩
      have T_3b := Lib.hid (T_2b.out.keep' hb3b)
      clear T_2b
      have H_3b := Lib.hid (H_2b.out.keep hb3b)
      clear H_2b
      have S2_3b := Lib.hid (S2_2b.out.keep hb3b)
      clear S2_2b
      have Q_3b := Lib.hid (Q_n.out.keep hb3b)
      clear Q_n
      have B_3b := Lib.hid (B_2b.out.trans (hb3b.mono B_2b.out.size))
      clear B_2b
      clear hb3b
      rw [HP3.out, HL.out] at hfp
      obtain ⟨A4, n4, c4, rfl, hs4⟩ := hfp
      have hr4 := str_run hs4
      have hr2 := str_run S2_3b.out
      clear hs4
      go_wp2_with fail
      refine (works_any _ T_3b.out).mono ?_
      rintro e w4b ⟨rfl, hb4b⟩
      have T_4b := Lib.hid (T_3b.out.keep' hb4b)
      clear T_3b
      have H_4b := Lib.hid (H_3b.out.keep hb4b)
      clear H_3b
      have S2_4b := Lib.hid (S2_3b.out.keep hb4b)
      clear S2_3b
      have Q_4b := Lib.hid (Q_3b.out.keep hb4b)
      clear Q_3b
      have B_4b := Lib.hid (B_3b.out.trans (hb4b.mono B_3b.out.size))
      clear B_3b
      clear hb4b
      go_wp2_with fail
      go_ret
      exact ⟨rfl, B_4b.out⟩

theorem file_room {ps : List PV} (hr : Room ps) (hc : chk (pts ps) = 0) : (file (pts ps)).length ≤ 1073741824 := by
  obtain ⟨h1, h2, h3, _⟩ := chk_zero hc
  have e : ∀ l : List Pt, (∀ p ∈ l, nameB p.name = true) → (l.flatMap hd).length ≤ 40 * l.length ∧ (l.flatMap Pt.data).length = total l := by
    intro l
    induction l with
    | nil => intro _; simp [total]
    | cons p l ih =>
      intro h
      obtain ⟨a, b⟩ := ih (fun q hq => h q (by simp [hq]))
      have c := hd_len p (nameB_size (h p (by simp))).2
      rw [List.flatMap_cons, List.flatMap_cons, List.length_append, List.length_append, List.length_cons, total_cons]
      omega
  obtain ⟨a, b⟩ := e _ h3
  have c := put_len (pts ps).length
  have hlt := hr.sum
  rw [file_length]
  unfold body
  rw [List.length_append, List.length_append, List.length_append, magic_length, b]
  omega

set_option maxRecDepth 100000 in
set_option maxHeartbeats 2000000 in
theorem back_any (A : Option Addr) (n c : Nat) (ps : List PV) (w : World) (ht : Tab w) (h : RP w A n ps) (hf : Fit ps) (hn : n ≤ 140737488355328) :
    Calls Tryd.prog 6 #[.slice A n c] w fun e w' => e = .returned (.bool true) ∧ Below w.heap.size w w' := by
  have T_0 := Lib.hid ht
  have H_0 := Lib.hid h
  have B_0 : Hid (Below w.heap.size w w) := Lib.hid (Below.refl _ _)
  have HFEW := Lib.hid (few_any A n c ps w h hf hn)
  clear ht h hn
  rcases hfew : fewB ps with _ | _
  · rw [hfew] at HFEW
    go_enter Tryd.func6, Tryd.ntmps6
    go_wp2_with fail
    refine HFEW.out.mono ?_
    rintro e wq ⟨rfl, rfl⟩
    go_wp2_with fail
    go_ret
    exact ⟨rfl, B_0.out⟩
  · obtain ⟨hroom, h80, h5, hnm⟩ := fewB_room hfew
    rw [hfew] at HFEW
    rw [H_0.out.len] at h80
    have HR := Lib.hid hroom
    clear hroom h5 hnm hfew
    go_enter Tryd.func6, Tryd.ntmps6
    go_wp2_with fail
    refine HFEW.out.mono ?_
    rintro e wq ⟨rfl, rfl⟩
    clear HFEW
    go_wp2_with fail
    refine (join_any A n c ps _ T_0.out H_0.out HR.out (by omega)).mono ?_
    rintro e w1 ⟨hb1, hj⟩
    have T_1 := Lib.hid (T_0.out.keep' hb1)
    clear T_0
    have H_1 := Lib.hid (H_0.out.keep hb1)
    clear H_0
    have B_1 := Lib.hid (B_0.out.trans (hb1.mono B_0.out.size))
    clear B_0
    clear hb1
    rcases hj with ⟨hck, v2, rfl, hown2⟩ | ⟨hck, rfl⟩
    · skip
      have HCK := Lib.hid hck
      have HFI := Lib.hid (fun c m (h : Spl (file (pts ps)) c m) => Spl.file h hck)
      have hlen : (file (pts ps)).length ≤ 1073741824 := file_room HR.out hck
      clear hck
      obtain ⟨A2, c2, rfl, hs2⟩ := own_sb hown2
      obtain ⟨N2, hN2⟩ : ∃ N, N = (file (pts ps)).length := ⟨_, rfl⟩
      rw [← hN2] at hs2 hlen ⊢
      have S2_n := Lib.hid hs2
      clear hown2 hs2 hN2
      go_wp2_with fail
      refine (split_any A2 N2 c2 (file (pts ps)) _ T_1.out S2_n.out (by omega)).mono ?_
      rintro e w2a ⟨hb2a, A3, n3, c3, q3, z, rfl, hop, hn3, hc3, hr3, hspl⟩
      have T_2a := Lib.hid (T_1.out.keep' hb2a)
      clear T_1
      have H_2a := Lib.hid (H_1.out.keep hb2a)
      clear H_1
      have S2_2a := Lib.hid (S2_n.out.keep hb2a)
      clear S2_n
      have B_2a := Lib.hid (B_1.out.trans (hb2a.mono B_1.out.size))
      clear B_1
      clear hb2a
      obtain ⟨rfl, hp3⟩ := HFI.out _ _ hspl
      have HP3 := Lib.hid hp3
      have O_n := Lib.hid hop.rp
      have HR3 := Lib.hid hr3
      clear hop hspl hp3 hr3 HFI
      go_wp2_with fail
      refine (theirs_any A n c ps _ H_2a.out HR.out (by omega)).mono ?_
      rintro e w3a ⟨hb3a, A4, n4, c4, q4, rfl, ho4, hn4, hp4⟩
      have T_3a := Lib.hid (T_2a.out.keep' hb3a)
      clear T_2a
      have H_3a := Lib.hid (H_2a.out.keep hb3a)
      clear H_2a
      have S2_3a := Lib.hid (S2_2a.out.keep hb3a)
      clear S2_2a
      have O_3a := Lib.hid (O_n.out.keep hb3a)
      clear O_n
      have B_3a := Lib.hid (B_2a.out.trans (hb3a.mono B_2a.out.size))
      clear B_2a
      clear hb3a
      have Q_n := Lib.hid ho4
      have HP4 := Lib.hid hp4
      have hnn4 : n4 ≤ 100 := by rw [hn4, H_3a.out.len]; omega
      clear ho4 hp4 hn4
      go_wp2_with fail
      refine (theirs_any A3 n3 c3 q3 _ O_3a.out HR3.out (by omega)).mono ?_
      rintro e w4a ⟨hb4a, A5, n5, c5, q5, rfl, ho5, hn5, hp5⟩
      have T_4a := Lib.hid (T_3a.out.keep' hb4a)
      clear T_3a
      have H_4a := Lib.hid (H_3a.out.keep hb4a)
      clear H_3a
      have S2_4a := Lib.hid (S2_3a.out.keep hb4a)
      clear S2_3a
      have O_4a := Lib.hid (O_3a.out.keep hb4a)
      clear O_3a
      have Q_4a := Lib.hid (Q_n.out.keep hb4a)
      clear Q_n
      have B_4a := Lib.hid (B_3a.out.trans (hb4a.mono B_3a.out.size))
      clear B_3a
      clear hb4a
      have R_n := Lib.hid ho5
      have HP5 := Lib.hid hp5
      have hnn5 : n5 ≤ 100 := by rw [hn5, O_4a.out.len]; omega
      clear ho5 hp5 hn5
      go_wp2_with fail
      refine (same_parts A4 A5 n4 c4 n5 c5 q4 q5 _ Q_4a.out.rp R_n.out.rp (by omega)).mono ?_
      rintro e w5a ⟨⟨x, rfl, hx⟩, hb5a⟩
      have T_5a := Lib.hid (T_4a.out.keep' hb5a)
      clear T_4a
      have H_5a := Lib.hid (H_4a.out.keep hb5a)
      clear H_4a
      have S2_5a := Lib.hid (S2_4a.out.keep hb5a)
      clear S2_4a
      have O_5a := Lib.hid (O_4a.out.keep hb5a)
      clear O_4a
      have Q_5a := Lib.hid (Q_4a.out.keep hb5a)
      clear Q_4a
      have R_5a := Lib.hid (R_n.out.keep hb5a)
      clear R_n
      have B_5a := Lib.hid (B_4a.out.trans (hb5a.mono B_4a.out.size))
      clear B_4a
      clear hb5a
      obtain rfl : x = true := hx.2 (by rw [HP4.out, HP5.out, HP3.out])
      clear hx
      go_wp2_with fail
      refine (works_any _ T_5a.out).mono ?_
      rintro e w6a ⟨rfl, hb6a⟩
      have T_6a := Lib.hid (T_5a.out.keep' hb6a)
      clear T_5a
      have H_6a := Lib.hid (H_5a.out.keep hb6a)
      clear H_5a
      have S2_6a := Lib.hid (S2_5a.out.keep hb6a)
      clear S2_5a
      have O_6a := Lib.hid (O_5a.out.keep hb6a)
      clear O_5a
      have Q_6a := Lib.hid (Q_5a.out.keep hb6a)
      clear Q_5a
      have R_6a := Lib.hid (R_5a.out.keep hb6a)
      clear R_5a
      have B_6a := Lib.hid (B_5a.out.trans (hb6a.mono B_5a.out.size))
      clear B_5a
      clear hb6a
      go_wp2_with fail
      go_ret
      exact ⟨rfl, B_6a.out⟩
    · skip
      have hne := ne_bool hck
      clear hck
      generalize chk (pts ps) = z at hne
      go_wp2_with fail
      refine (works_any _ T_1.out).mono ?_
      rintro e w2b ⟨rfl, hb2b⟩
      have T_2b := Lib.hid (T_1.out.keep' hb2b)
      clear T_1
      have H_2b := Lib.hid (H_1.out.keep hb2b)
      clear H_1
      have B_2b := Lib.hid (B_1.out.trans (hb2b.mono B_1.out.size))
      clear B_1
      clear hb2b
      go_wp2_with fail
      go_ret
      exact ⟨rfl, B_2b.out⟩
end Go.Proofs.YtncnocejmbfhaaaDoor.Sec
