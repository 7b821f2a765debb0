/-
  The walk of the law SectionLimits. Conditions: the table of package crc holds its numbers.
-/
import Derived.Test.YtncnocejmbfhaaaDoorSecLaws
namespace Go.Proofs.YtncnocejmbfhaaaDoor.Sec
open Go.RowKit Wd Cod Crc

/-- the names of the law's parts -/
def nmL (i : Nat) : ByteArray := ⟨#[UInt8.ofNat (97 + i / 26), UInt8.ofNat (97 + i % 26)]⟩
def psL (k : Nat) : List PV := (List.range k).map fun i => ⟨nmL i, none, 0, 0, []⟩
theorem psL_succ (k : Nat) : psL (k + 1) = psL k ++ [⟨nmL k, none, 0, 0, []⟩] := by simp [psL, List.range_succ]
theorem psL_len (k : Nat) : (psL k).length = k := by simp [psL]
theorem psL_nil {k : Nat} {p : PV} (hp : p ∈ psL k) : p.A = none ∧ p.n = 0 ∧ p.c = 0 ∧ p.d = [] ∧ p.name.size = 2 := by
  simp only [psL, List.mem_map] at hp
  obtain ⟨i, _, rfl⟩ := hp
  exact ⟨rfl, rfl, rfl, rfl, rfl⟩
theorem psL_sb {k : Nat} {p : PV} (w : World) (hp : p ∈ psL k) : SB w p.A p.n p.c p.d := by
  obtain ⟨h1, h2, h3, h4, _⟩ := psL_nil hp
  rw [h1, h2, h3, h4]
  exact sb_nil w
theorem psL_room (k : Nat) : Room (psL k) := ⟨fun p hp => by rw [(psL_nil hp).2.2.2.2]; decide, by
  have e : total (pts (psL k)) = 0 := by
    unfold total pts
    rw [List.map_map]
    induction k with
    | zero => rfl
    | succ k ih => rw [psL_succ, List.map_append, List.sum_append, ih]; rfl
  rw [e]; decide⟩
theorem psL_chk : chk (pts (psL 64)) = 0 := by decide +kernel
theorem psL_long : chk (pts (psL 64 ++ [⟨⟨#[120]⟩, none, 0, 0, []⟩])) = 2 := by
  unfold chk
  rw [if_pos (.inl (by rw [pts_length, List.length_append, psL_len]; decide))]
theorem psL_room2 : Room (psL 64 ++ [⟨⟨#[120]⟩, none, 0, 0, []⟩]) := ⟨fun p hp => by
  rcases List.mem_append.1 hp with hp | hp
  · exact (psL_room 64).name p hp
  · simp at hp; subst hp; exact (show (1 : Nat) ≤ 1099511627776 by decide), by
  rw [pts_append, total_append]
  have := (psL_room 64).sum
  have e : total (pts [⟨⟨#[120]⟩, none, 0, 0, []⟩]) = 0 := rfl
  have e2 : total (pts (psL 64)) = 0 := by decide +kernel
  omega⟩
theorem nmL_run (w : World) (k : Nat) (hk : k ≤ 100) : (convert 26 9 (.slice (some ⟨w.heap.size, 0, none⟩) 2 2)).run Tryd.prog (w.alloc (.cells #[.int .u8 (97 + (k : Int) / 26), .int .u8 (97 + (k : Int) % 26)] 5)) = .ok (.string (nmL k)) (w.alloc (.cells #[.int .u8 (97 + (k : Int) / 26), .int .u8 (97 + (k : Int) % 26)] 5)) := by
  have h1 : (UInt8.ofNat (97 + k / 26)).toNat = 97 + k / 26 := toNat_small _ (by omega)
  have h2 : (UInt8.ofNat (97 + k % 26)).toNat = 97 + k % 26 := toNat_small _ (by omega)
  exact str_run (sb_lit w _ 5 (0, 0) 2 _ [UInt8.ofNat (97 + k / 26), UInt8.ofNat (97 + k % 26)] rfl (by simp only [bs, List.map_cons, List.map_nil, h1, h2]; simp) rfl)
theorem infoPartP : (Tryd.prog.info? 46).map (fun i => (i.zero, i.size, i.bytes)) = some (some (.agg #[.string ⟨#[]⟩, .slice none 0 0]), 2, 40) := by kernel_rfl
/-- two parts whose data are too long -/
def psB (b n : Nat) : List PV := [⟨⟨#[97]⟩, some ⟨b, 0, none⟩, n, n, List.replicate n 0⟩, ⟨⟨#[98]⟩, some ⟨b + 1, 0, none⟩, 1, 1, [1]⟩]
theorem psB_total (b n : Nat) : total (pts (psB b n)) = n + 1 := by simp [psB, pts, PV.pt, total]
theorem psB_room (b n : Nat) (hn : n ≤ 1073741824) : Room (psB b n) := ⟨fun p hp => (by simp only [psB, List.mem_cons, List.not_mem_nil, or_false] at hp; rcases hp with rfl | rfl <;> exact (show (1 : Nat) ≤ 1099511627776 by decide)), by rw [psB_total]; omega⟩
theorem psB_long (b n : Nat) (hn : 16777216 ≤ n) : chk (pts (psB b n)) = 2 := chk_long (.inr (by rw [psB_total]; omega))
theorem psB_sb {w : World} {C : Array Value} {b n : Nat} (h0 : SB (w.alloc (.cells C 5)) (some ⟨b, 0, none⟩) n n (List.replicate n 0)) (h1 : SB ((w.alloc (.cells C 5)).alloc (.cells #[.int .u8 1] 5)) (some ⟨b + 1, 0, none⟩) 1 1 [1]) :
    ∀ p ∈ psB b n, SB ((w.alloc (.cells C 5)).alloc (.cells #[.int .u8 1] 5)) p.A p.n p.c p.d := fun p hp => by
  simp only [psB, List.mem_cons, List.not_mem_nil, or_false] at hp
  rcases hp with rfl | rfl
  · exact h0.alloc _
  · exact h1
theorem bs_zeros (n : Nat) : bs (List.replicate n 0) = List.replicate n (.int .u8 0) := by simp [bs]
theorem made_bytes (w : World) (n : Nat) (hn : n ≤ 1073741824) : (Instr.makeSlice 26 (.int .i64 (n : Int)) (.int .i64 (n : Int))).run Tryd.prog w = .ok (.slice (some ⟨w.heap.size, 0, none⟩) n n) (w.alloc (.cells (bs (List.replicate n 0)).toArray 5)) := by
  obtain ⟨i0, hi, hz0, hz1, hz2⟩ := info_parts Tryd.infoU8
  have := run_make_rowN (P := Tryd.prog) 26 5 i0 _ Tryd.underlying26 hi hz0 .i64 .i64 n (by rw [hz2]; omega) (by omega) w
  rw [this, hz1, Nat.mul_one, bs_zeros]
  congr 3
  apply Array.ext'
  rw [show (Value.int .u8 0).cells = #[.int .u8 0] from rfl, toList_madeCells_one]

set_option maxRecDepth 100000 in
set_option maxHeartbeats 2000000 in
theorem limits_any (w : World) (ht : Tab w) : Calls Tryd.prog 9 #[] w fun e w' => e = .returned (.bool true) ∧ Below w.heap.size w w' := by
  obtain ⟨i1, hi1, hy0, hy1, hy2⟩ := info_parts infoPartP
  have HI1 := Lib.hid hi1
  have T_0 := Lib.hid ht
  have MK : Hid (∀ w, (Instr.makeSlice 26 (.int .i64 16777216) (.int .i64 16777216)).run Tryd.prog w = .ok (.slice (some ⟨w.heap.size, 0, none⟩) 16777216 16777216) (w.alloc (.cells (bs (List.replicate 16777216 0)).toArray 5))) := Lib.hid (fun w => made_bytes w 16777216 (by decide))
  clear ht hi1
  go_enter Tryd.func9, Tryd.ntmps9
  go_wp2_with fail
  go_loopw [1, 2] (fun v i wr => ∃ k : Nat, k ≤ 64 ∧ i = .int .i64 (k : Int) ∧ wr.ownsRow w.heap.size 46 2 v k (pc (psL k)) ∧ Below w.heap.size w wr) (fun _ i _ => 64 - (intOf i).toNat)
  case atStart => exact ⟨0, by omega, rfl, World.ownsRow_nil _ _ _ _, Below.refl _ _⟩
  case round =>
    obtain ⟨k, hk, rfl, hrow, hb⟩ := hrel
    have ROW := Lib.hid hrow
    have BB := Lib.hid hb
    clear hrow hb
    by_cases hlt : k < 64
    · have h1 : (k : Int) < 64 := by omega
      have q1 : IntKind.u8.wrap (97 + IntKind.u8.wrap ((k : Int) / 26)) = ((97 + k / 26 : Nat) : Int) := by rw [IntKind.wrap_u8, IntKind.wrap_u8]; omega
      have q2 : IntKind.u8.wrap (97 + IntKind.u8.wrap ((k : Int) % 26)) = ((97 + k % 26 : Nat) : Int) := by rw [IntKind.wrap_u8, IntKind.wrap_u8]; omega
      have hcv := nmL_run wr k (by omega)
      go_wp2_with (at_builtin; refine wpList_append_any _ rfl (.tmp 16) (.tmp 28) _ rfl w.heap.size 46 i1 _ 2 40 Tryd.underlying22 HI1.out hy0 hy1 hy2 part_cells (by decide) _ _ _ rfl ((ROW.out.alloc _).alloc _) _ (some ⟨wr.heap.size + 1, 0, none⟩) 1 1 (pc [⟨nmL k, none, 0, 0, []⟩]) rfl (Reads.litN _ _ _ _ 2 1 _ _ (by simp) (by simp [pc, cell2]) (by simp [pc, cell2])) (pc_one _) (by unfold maxLen; omega) (by omega) (by have := BB.out.size; simp; omega) ?_; intro v4 w4 hown4 hg4 hat4; have B4 : Hid (Below w.heap.size w w4) := Lib.hid (own_below ((BB.out.alloc BB.out.size _).alloc (by have := BB.out.size; simp; omega) _) (Nat.le_refl _) ((ROW.out.alloc _).alloc _) (Nat.le_refl _) hg4); have ROW4 := Lib.hid hown4; clear hown4 hg4 hat4)
      clear hcv
      go_roundw
      case rel => exact ⟨k + 1, by omega, by go_num, by rw [psL_succ, pc_append]; exact ROW4.out, B4.out⟩
      case measure => simp [intOf]; omega
    · obtain rfl : k = 64 := by omega
      obtain ⟨g, c1, rfl⟩ := own_some ROW.out (by omega)
      have T_1 := Lib.hid (T_0.out.keep' BB.out)
      have RP1 : Hid (RP wr (some ⟨g, 0, none⟩) 64 (psL 64)) := Lib.hid (RP.of_own ROW.out (fun p hp => psL_sb wr hp))
      go_wp2_with fail
      refine (join_any _ 64 c1 (psL 64) _ T_1.out RP1.out (psL_room 64) (by omega)).mono ?_
      rintro e w1 ⟨hb1, hj⟩
      obtain ⟨_, v, rfl, hown⟩ := hj.resolve_right (fun h => h.1 psL_chk)
      have hlen : (file (pts (psL 64))).length ≤ 1073741824 := file_room (psL_room 64) psL_chk
      have hpos : 0 < (file (pts (psL 64))).length := by have h1 := file_length (pts (psL 64)); omega
      have HFI := Lib.hid (fun c m (h : Spl (file (pts (psL 64))) c m) => Spl.file h psL_chk)
      generalize file (pts (psL 64)) = F at hown hlen hpos HFI
      obtain ⟨A2, c2, rfl, hs2⟩ := own_sb hown
      have S2 := Lib.hid hs2
      have ROW1 := Lib.hid (own_keep ROW.out hb1)
      have B1 : Hid (Below w.heap.size w w1) := Lib.hid (BB.out.trans (hb1.mono BB.out.size))
      have T_2 := Lib.hid (T_0.out.keep' B1.out)
      clear hown hs2 hb1 hj
      generalize F.length = N at S2 hlen hpos
      go_wp2_with fail
      refine (split_any A2 N c2 F _ T_2.out S2.out (by omega)).mono ?_
      rintro e w2 ⟨hb2, A3, n3, c3, q3, z, rfl, hop, hn3, hc3, hr3, hspl⟩
      obtain ⟨rfl, hp3⟩ := HFI.out _ _ hspl
      obtain rfl : n3 = 64 := by
        have h1 := congrArg List.length hp3
        rw [pts_length, pts_length, hop.len, psL_len] at h1
        exact h1
      have ROW2 := Lib.hid (own_keep ROW1.out hb2)
      have B2 : Hid (Below w.heap.size w w2) := Lib.hid (B1.out.trans (hb2.mono B1.out.size))
      clear hop hr3 hspl hp3 hb2 hn3 HFI
      go_wp2_with (at_builtin; refine wpList_append_any _ rfl (.tmp 41) (.tmp 43) _ rfl w.heap.size 46 i1 _ 2 40 Tryd.underlying22 HI1.out hy0 hy1 hy2 part_cells (by decide) _ _ _ rfl (ROW2.out.alloc _) _ (some ⟨w2.heap.size, 0, none⟩) 1 1 (pc [⟨⟨#[120]⟩, none, 0, 0, []⟩]) rfl (Reads.litN _ _ _ _ 2 1 _ _ (by simp) (by simp [pc, cell2]) (by simp [pc, cell2])) (pc_one _) (by unfold maxLen; omega) (by omega) (by have := B2.out.size; simp; omega) ?_; intro v4 w4 hown4 hg4 hat4; have B4 : Hid (Below w.heap.size w w4) := Lib.hid (own_below (B2.out.alloc B2.out.size _) (Nat.le_refl _) (ROW2.out.alloc _) (Nat.le_refl _) hg4); have ROW4 : Hid (w4.ownsRow w.heap.size 46 2 v4 65 (pc (psL 64 ++ [⟨⟨#[120]⟩, none, 0, 0, []⟩]))) := Lib.hid (by rw [pc_append]; exact hown4); clear hown4 hg4 hat4)
      obtain ⟨A5, c5, rfl, _⟩ := own_slice2 ROW4.out
      have RP4 := Lib.hid (RP.of_own ROW4.out (fun p hp => by
        rcases List.mem_append.1 hp with hp | hp
        · exact psL_sb w4 hp
        · simp at hp; subst hp; exact sb_nil w4))
      refine (join_any A5 65 c5 _ _ (T_0.out.keep' B4.out) RP4.out psL_room2 (by omega)).mono ?_
      rintro e w5 ⟨hb5, hj⟩
      obtain ⟨_, rfl⟩ := hj.resolve_left (fun h => by have := h.1; rw [psL_long] at this; cases this)
      rw [psL_long]
      have B5 : Hid (Below w.heap.size w w5) := Lib.hid (B4.out.trans (hb5.mono B4.out.size))
      clear hb5 hj
      have hmk := MK.out w5
      have ZB := Lib.hid (sb_lit w5 (bs (List.replicate 16777216 0)).toArray 5 (0, 0) 16777216 _ (List.replicate 16777216 0) rfl rfl List.length_replicate)
      generalize hC : (bs (List.replicate 16777216 0)).toArray = C at hmk ZB
      clear hC MK
      go_wp2_with fail
      have B7 : Hid (Below w.heap.size w ((w5.alloc (.cells C 5)).alloc (.cells #[.int .u8 1] 5))) := Lib.hid ((B5.out.alloc B5.out.size _).alloc (by have := B5.out.size; simp; omega) _)
      have Z1 := Lib.hid (sb_lit (w5.alloc (.cells C 5)) #[.int .u8 1] 5 (0, 0) 1 (w5.heap.size + 1) [1] (by simp) rfl rfl)
      have RP7 := Lib.hid (rp_lit ((w5.alloc (.cells C 5)).alloc (.cells #[.int .u8 1] 5)) #[.string ⟨#[97]⟩, .slice (some ⟨w5.heap.size, 0, none⟩) 16777216 16777216, .string ⟨#[98]⟩, .slice (some ⟨w5.heap.size + 1, 0, none⟩) 1 1] 46 2 (w5.heap.size + 1 + 1) (psB w5.heap.size 16777216) (by simp) rfl rfl (psB_sb ZB.out Z1.out))
      clear hmk ZB Z1
      refine (join_any _ 2 2 (psB w5.heap.size 16777216) _ (T_0.out.keep' (B7.out.alloc B7.out.size _)) RP7.out (psB_room _ _ (by decide)) (by omega)).mono ?_
      rintro e w8 ⟨hb8, hj⟩
      obtain ⟨_, rfl⟩ := hj.resolve_left (fun h => by have := h.1; rw [psB_long _ _ (by decide)] at this; cases this)
      rw [psB_long _ _ (by decide)]
      have B8 : Hid (Below w.heap.size w w8) := Lib.hid ((B7.out.alloc B7.out.size _).trans (hb8.mono (by have := B7.out.size; simp at this ⊢; omega)))
      clear hb8 hj RP7
      go_wp2_with fail
      refine (works_any _ (T_0.out.keep' B8.out)).mono ?_
      rintro e w9 ⟨rfl, hb9⟩
      have B9 := Lib.hid (B8.out.trans (hb9.mono B8.out.size))
      clear hb9
      go_wp2_with fail
      go_ret
      exact ⟨rfl, B9.out⟩
end Go.Proofs.YtncnocejmbfhaaaDoor.Sec
