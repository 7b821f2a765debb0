/-
  The contract of parts of package section: the parts that a file without its check sum has, if it is one. Conditions: the bytes can be read, and are four or more, within the form's reach.
-/
import Derived.Test.YtncnocejmbfhaaaDoorSecParts
import Derived.Deep.QuietTactic
import Derived.BigQuiet
namespace Go.Proofs.YtncnocejmbfhaaaDoor.Sec
open Go.RowKit Wd Cod

theorem rdT_le {l s : List UInt8} {k : Nat} (h : rdT l = some (s, k)) : k ≤ l.length ∧ s.length ≤ l.length := by
  unfold rdT at h
  split at h
  · cases h
  · next v j hv =>
    have h1 := (rd_sound _ _ _ hv).2.1
    split at h
    · injection h with h
      injection h with h2 h3
      subst h2 h3
      refine ⟨by omega, ?_⟩
      rw [List.length_take, List.length_drop]; omega
    · cases h
theorem textOf_le {l s : List UInt8} {at0 k : Nat} (h : textOf l (at0 : Int) = some (s, k)) (ha : at0 ≤ l.length) : at0 + k ≤ l.length ∧ s.length ≤ l.length := by
  unfold textOf at h
  rw [if_neg (by omega)] at h
  have := rdT_le h
  rw [List.length_drop, show (at0 : Int).toNat = at0 from rfl] at this
  omega
theorem mem_set {ps : List PV} {k : Nat} {x p : PV} (h : p ∈ ps.set k x) : p ∈ ps ∨ p = x := List.mem_or_eq_of_mem_set h
theorem total_set {ps : List PV} {k : Nat} {p x : PV} (h : ps[k]? = some p) : total (pts ((ps.set k x).take (k + 1))) = total (pts (ps.take k)) + x.d.length := by
  have hk := (List.getElem?_eq_some_iff.1 h).1
  have hx : (ps.set k x)[k]? = some x := by simp [hk]
  rw [take_snocP hx, pts_append, total_append]
  have : (ps.set k x).take k = ps.take k := by
    apply List.ext_getElem?
    intro j
    rw [List.getElem?_take, List.getElem?_take]
    split
    · rw [List.getElem?_set, if_neg (by omega)]
    · rfl
  rw [this]
  simp [pts, PV.pt, total]

set_option maxRecDepth 100000 in
set_option maxHeartbeats 4000000 in
theorem parts_any (A : Option Addr) (nb c : Nat) (l : List UInt8) (w : World) (hs : SB w A nb c l) (h4 : 4 ≤ nb) (hn : nb ≤ 1073741824) :
    Calls Tryd.prog 33 #[.slice A nb c] w (PPost w l) := by
  have hmf : ∀ (fn : Fn) (first cap : Array Value) (w : World), (Instr.makeFunc fn first cap).run Tryd.prog w = .ok (.func fn first cap) w := fun _ _ _ _ => rfl
  have HS := Lib.hid hs
  have hlen := hs.rb.len
  have HLEN := Lib.hid hlen
  have E0 := Lib.hid (PE.start w A nb c)
  have S0 := Lib.hid ((hs.alloc (.cells #[.slice A nb c] 26)).alloc (.cells #[.int .i64 4] 3) |>.alloc (.cells #[.bool true] 4)).rb
  have B0 : Hid (Below w.heap.size w (((w.alloc (.cells #[.slice A nb c] 26)).alloc (.cells #[.int .i64 4] 3)).alloc (.cells #[.bool true] 4))) := Lib.hid ((((Below.refl _ _).alloc (Nat.le_refl _) _).alloc (by simp) _).alloc (by simp; omega) _)
  clear hs hlen
  go_enter Tryd.func33, Tryd.ntmps33
  go_wp2_with fail
  refine (number_any w.heap.size A nb c 4 true l 64 _ E0.out S0.out (by omega) (by omega) (by omega)).mono ?_
  rintro e w1 ⟨at1, ok1, r, rfl, hpe, hfar, hr, hcase⟩
  have hsz : w.heap.size + 1 + 1 + 1 ≤ w1.heap.size := by have := hfar.size; simpa using this
  have E1 := Lib.hid hpe
  have B1 : Hid (Below w.heap.size w w1) := Lib.hid (B0.out.trans (hfar.below (by simp; omega) (by omega) (by omega)))
  have hbd : 4 ≤ at1 ∧ at1 ≤ nb := by
    rcases hcase with ⟨_, _, k, hu, rfl⟩ | ⟨_, rfl, _⟩
    · have h1 := (textOf_some hu).2.1
      have h2 := HLEN.out
      have h3 : (((4 : Nat) : Int)).toNat = 4 := rfl
      omega
    · omega
  have hsem : ∀ ps zs, Sem1 l r 0 at1 ok1 ps zs := fun ps zs => sem1_start (by
    rcases hcase with ⟨_, h1, h2⟩ | ⟨h1, _, h2⟩
    · exact .inl ⟨h1, h2⟩
    · rcases h2 with h2 | h2
      · cases h2
      · exact .inr ⟨h1, h2⟩) ps zs
  have M1 := Lib.hid hsem
  have hmk1 := run_make_parts r hr
  have hmk2 := run_make_ints r hr
  clear hpe hfar hcase E0 S0 B0 hmf hsem
  obtain ⟨hb4, hbn⟩ := hbd
  have K1 : Hid (Blk (w1.alloc (.cells (pc (List.replicate r pv0)).toArray 46)) w1.heap.size 46 (pc (List.replicate r pv0)).toArray) := Lib.hid (Blk.new _ _ _)
  have K2 : Hid (Blk ((w1.alloc (.cells (pc (List.replicate r pv0)).toArray 46)).alloc (.cells (is .i64 (List.replicate r 0)).toArray 3)) (w1.heap.size + 1) 3 (is .i64 (List.replicate r 0)).toArray) := Lib.hid (by
    have := Blk.new (w1.alloc (.cells (pc (List.replicate r pv0)).toArray 46)) 3 (is .i64 (List.replicate r 0)).toArray
    simpa using this)
  generalize hC1 : (pc (List.replicate r pv0)).toArray = C1 at hmk1 K1 K2
  generalize hC2 : (is .i64 (List.replicate r 0)).toArray = C2 at hmk2 K2
  have HC1 := Lib.hid hC1
  have HC2 := Lib.hid hC2
  clear hC1 hC2
  go_wp2_with fail
  clear hmk1 hmk2
  go_loopw [9] (fun i wr => P1 w.heap.size w1.heap.size (w1.heap.size + 1) A nb c l r w i wr) (fun i _ => r - (intOf i).toNat)
  case atStart =>
    refine ⟨0, at1, ok1, List.replicate r pv0, List.replicate r 0, Nat.zero_le _, rfl, ?_, ?_, ?_, ?_, by simp, by simp, hb4, hbn, ?_, ?_, M1.out _ _⟩
    · exact E1.out.keep (((Below.refl _ _).alloc (Nat.le_refl _) _).alloc (by simp) _)
    · rw [HC1.out]; exact K1.out.alloc _
    · rw [HC2.out]; exact K2.out
    · exact (B1.out.alloc B1.out.size _).alloc (by have := B1.out.size; simp; omega) _
    · intro p hp
      have := List.eq_of_mem_replicate hp
      subst this
      exact ⟨rfl, rfl, rfl, rfl, Nat.zero_le _⟩
    · intro z hz
      have := List.eq_of_mem_replicate hz
      omega
  case round =>
    obtain ⟨k, at0, ok, ps, zs, hk, rfl, hpe, hgl, hgs, hb, hps, hzs, ha4, han, hnil, hrange, hsem⟩ := hrel
    have HPE := Lib.hid hpe
    have HGL := Lib.hid hgl
    have HGS := Lib.hid hgs
    have HPS := Lib.hid hps
    have HZS := Lib.hid hzs
    have HNIL := Lib.hid hnil
    have HRG := Lib.hid hrange
    have HSEM := Lib.hid hsem
    have cb : wr.cell? ⟨w.heap.size, 0, none⟩ = some (.slice A nb c) := hpe.b.cell 0
    have ca : wr.cell? ⟨w.heap.size + 1, 0, none⟩ = some (.int .i64 (at0 : Int)) := hpe.a.cell 0
    have co : wr.cell? ⟨w.heap.size + 1 + 1, 0, none⟩ = some (.bool ok) := hpe.o.cell 0
    have hw1 : w1.heap.size + 1 < wr.heap.size := hgs.lt
    clear hpe hgl hgs hps hzs hnil hrange hsem
    by_cases hgo : k < r ∧ ok = true
    · obtain ⟨hlt, rfl⟩ := hgo
      go_wp2_with fail
      refine (text_fun_any A nb c (at0 : Int) l wr (HS.out.keep hb) (by omega) (by omega)).mono ?_
      intro e w2 hpost
      unfold UTPost at hpost
      generalize hR : textOf l (at0 : Int) = R at hpost
      have HR := Lib.hid hR
      clear hR
      rcases R with _ | ⟨sx, q⟩
      · obtain ⟨hb2, rfl⟩ := hpost
        have B2 : Hid (Below w.heap.size w w2) := Lib.hid (hb.trans (hb2.mono hb.size))
        have HN := Lib.hid (sem1_stop HSEM.out hlt HR.out)
        clear hb2
        go_wp2_with fail
        go_ret2
        exact ⟨B2.out, none, 0, 0, false, rfl, .inl ⟨rfl, HN.out⟩⟩
      · obtain ⟨hb2, rfl⟩ := hpost
        rw [show (at0 : Int).toNat = at0 from rfl]
        obtain ⟨a2, hA2⟩ : ∃ a2, a2 = at0 + q := ⟨_, rfl⟩
        rw [← hA2]
        have HA2 := Lib.hid hA2
        clear hA2
        obtain ⟨p, hp⟩ : ∃ p, ps[k]? = some p := ⟨ps[k]'(by rw [HPS.out]; exact hlt), List.getElem?_eq_getElem _⟩
        have hgl2 := HGL.out.below hb2 HGL.out.lt
        have hgs2 := HGS.out.below hb2 HGS.out.lt
        have hpe2 := HPE.out.keep hb2
        have hB2 : Below w.heap.size w w2 := hb.trans (hb2.mono hb.size)
        have c1 : w2.cell? ⟨w1.heap.size, k * 2, none⟩ = some (.string p.name) := by rw [hgl2.cell]; simpa using (pc_at ps k p hp).1
        have f1 := hgl2.frozen (k * 2)
        have ca2 : w2.cell? ⟨w.heap.size + 1, 0, none⟩ = some (.int .i64 (at0 : Int)) := hpe2.a.cell 0
        have fa2 := hpe2.a.frozen 0
        have hgl3 : Blk (w2.setCell ⟨w1.heap.size, k * 2, none⟩ (.string ⟨sx.toArray⟩)) w1.heap.size 46 (pc (ps.set k ⟨⟨sx.toArray⟩, p.A, p.n, p.c, p.d⟩)).toArray := by rw [← pc_set_name _ hp]; exact hgl2.set_ _ _
        have hpe3 := hpe2.other (p := ⟨w1.heap.size, k * 2, none⟩) (by simp; omega) (.string ⟨sx.toArray⟩)
        have hgs3 := hgs2.far (p := ⟨w1.heap.size, k * 2, none⟩) (by simp) (.string ⟨sx.toArray⟩)
        have hB3 : Below w.heap.size w (w2.setCell ⟨w1.heap.size, k * 2, none⟩ (.string ⟨sx.toArray⟩)) := hB2.setCell (p := ⟨w1.heap.size, k * 2, none⟩) (by simp; omega) _
        have ca3 : (w2.setCell ⟨w1.heap.size, k * 2, none⟩ (.string ⟨sx.toArray⟩)).cell? ⟨w.heap.size + 1, 0, none⟩ = some (.int .i64 (at0 : Int)) := hpe3.a.cell 0
        have fa3 := hpe3.a.frozen 0
        have P4 := Lib.hid (hpe3.setA a2)
        have GL4 := Lib.hid (hgl3.far (p := ⟨w.heap.size + 1, 0, none⟩) (by simp; omega) (.int .i64 (a2 : Int)))
        have GS4 := Lib.hid (hgs3.far (p := ⟨w.heap.size + 1, 0, none⟩) (by simp; omega) (.int .i64 (a2 : Int)))
        have B4 := Lib.hid (hB3.setCell (p := ⟨w.heap.size + 1, 0, none⟩) (by simp) (.int .i64 (a2 : Int)))
        have hle := textOf_le HR.out (by rw [HLEN.out]; omega)
        have HLE : Hid (a2 ≤ nb ∧ sx.length ≤ nb) := Lib.hid (by have := HLEN.out; have := HA2.out; omega)
        have ha2 : a2 ≤ nb := HLE.out.1
        have HP := Lib.hid hp
        have hne1 : ¬ (w.heap.size + 1 = w1.heap.size) := by omega
        have hne2 : ¬ (w1.heap.size = w.heap.size + 1) := by omega
        clear hgl2 hgs2 hpe2 hB2 hgl3 hpe3 hgs3 hB3 hle hp hb2 cb ca co
        go_wp2_with fail
        refine (number_any w.heap.size A nb c a2 true l 16777216 _ P4.out (HS.out.keep B4.out).rb (by omega) (by omega) (by omega)).mono ?_
        rintro e w5 ⟨at5, ok5, r5, rfl, hpe5, hfar5, hr5, hcase5⟩
        have hgl5 := Blk.apart GL4.out hfar5 (by omega) (by omega)
        have hgs5 := Blk.apart GS4.out hfar5 (by omega) (by omega)
        have hkz : k < zs.length := by rw [HZS.out]; exact hlt
        have c5 : w5.cell? ⟨w1.heap.size + 1, k, none⟩ = some (.int .i64 zs[k]) := by rw [hgs5.cell]; simp [is, hkz]
        have f5 := hgs5.frozen k
        have hbd : 4 ≤ at5 ∧ at5 ≤ nb := by
          have h0 := HA2.out
          rcases hcase5 with ⟨_, _, j, hu, rfl⟩ | ⟨_, rfl, _⟩
          · have h1 := (textOf_some hu).2.1
            have h2 := HLEN.out
            have h3 : ((a2 : Nat) : Int).toNat = a2 := rfl
            omega
          · omega
        have S5 := Lib.hid (sem1_next (ok2 := ok5) (at2 := at5) (r := r5) HSEM.out hlt HP.out hkz HR.out HA2.out (by
          rcases hcase5 with ⟨_, h1, h2⟩ | ⟨h1, _, h2⟩
          · exact .inl ⟨h1, h2⟩
          · rcases h2 with h2 | h2
            · cases h2
            · exact .inr ⟨h1, h2⟩))
        have P5 := Lib.hid (hpe5.other (p := ⟨w1.heap.size + 1, k, none⟩) (by simp; omega) (.int .i64 (r5 : Int)))
        have GL5 := Lib.hid (hgl5.far (p := ⟨w1.heap.size + 1, k, none⟩) (by simp) (.int .i64 (r5 : Int)))
        have hgs6 := hgs5.set_ k (.int .i64 (r5 : Int))
        rw [is_set] at hgs6
        have GS5 := Lib.hid hgs6
        have B5 : Hid (Below w.heap.size w (w5.setCell ⟨w1.heap.size + 1, k, none⟩ (.int .i64 (r5 : Int)))) := Lib.hid ((B4.out.trans (hfar5.below (by simp; have := B4.out.size; simp at this; omega) (by omega) (by omega))).setCell (p := ⟨w1.heap.size + 1, k, none⟩) (by simp; omega) _)
        have HBD := Lib.hid hbd
        have HR5 := Lib.hid hr5
        generalize zs[k] = z5 at c5
        clear hcase5 hpe5 hfar5 hgl5 hgs5 hgs6 hbd c1 f1 ca2 fa2 ca3 fa3 hkz
        go_wp2_with fail
        go_roundw
        case rel =>
          refine ⟨k + 1, at5, ok5, _, _, by omega, by go_num, P5.out, GL5.out, GS5.out, B5.out, by rw [List.length_set, HPS.out], by rw [List.length_set, HZS.out], HBD.out.1, HBD.out.2, ?_, ?_, S5.out⟩
          · intro p' hp'
            rcases mem_set hp' with h | h
            · exact HNIL.out p' h
            · have := HNIL.out p (List.mem_of_getElem? HP.out)
              subst h
              exact ⟨this.1, this.2.1, this.2.2.1, this.2.2.2.1, HLE.out.2⟩
          · intro z hz
            rcases List.mem_or_eq_of_mem_set hz with h | h
            · exact HRG.out z h
            · have := HR5.out
              omega
        case measure => simp [intOf]; omega
    · have hkr : k = r ∨ ok = false := by
        rcases ok with _ | _
        · exact .inr rfl
        · exact .inl (by have : ¬ k < r := fun h => hgo ⟨h, rfl⟩
                         omega)
      have S2 := Lib.hid (sem_turn HSEM.out hkr HPS.out HZS.out)
      have hcs : (k < r ∧ ok = false) ∨ r = k := by
        rcases hkr with h | h
        · exact .inr h.symm
        · by_cases h' : k < r
          · exact .inl ⟨h', h⟩
          · exact .inr (by omega)
      have BB := Lib.hid hb
      have hb4 : 4 ≤ at0 := ha4
      clear hgo hkr hb HSEM
      rcases hcs with ⟨hlt, rfl⟩ | rfl
      all_goals go_wp2_with fail
      all_goals
        go_loopw [53] (fun i wr => P2 w.heap.size w1.heap.size (w1.heap.size + 1) A nb c l r w i wr) (fun i _ => r - (intOf i).toNat)
        case atStart =>
          exact ⟨0, at0, _, ps, zs, Nat.zero_le _, rfl, HPE.out, HGL.out, HGS.out, BB.out, HPS.out, HZS.out, Nat.zero_le _, han, fun p hp => (by
            have hh := HNIL.out p hp
            obtain ⟨h1, h2, h3, h4', h5⟩ := hh
            rw [h1, h2, h3, h4']
            exact ⟨World.ownsRow_nil _ _ _ _, h5⟩), HRG.out, S2.out⟩
        case round =>
          obtain ⟨j, at2, ok2, qs, ys, hj, rfl, hpe, hgl, hgs, hb, hqs, hys, hta, hat, hown, hrange, hsem⟩ := hrel
          clear HPE HGL HGS HPS HZS HNIL HRG S2 BB
          have HPE := Lib.hid hpe
          have HGL := Lib.hid hgl
          have HGS := Lib.hid hgs
          have HQS := Lib.hid hqs
          have HYS := Lib.hid hys
          have HOWN := Lib.hid hown
          have HRG := Lib.hid hrange
          have HSEM := Lib.hid hsem
          have cb : wr.cell? ⟨w.heap.size, 0, none⟩ = some (.slice A nb c) := hpe.b.cell 0
          have ca : wr.cell? ⟨w.heap.size + 1, 0, none⟩ = some (.int .i64 (at2 : Int)) := hpe.a.cell 0
          have co : wr.cell? ⟨w.heap.size + 1 + 1, 0, none⟩ = some (.bool ok2) := hpe.o.cell 0
          have hw1' : w1.heap.size + 1 < wr.heap.size := hgs.lt
          clear hpe hgl hgs hqs hys hown hrange hsem
          by_cases hlj : j < r
          · obtain ⟨z, hz⟩ : ∃ z : Nat, ys[j]? = some (z : Int) := by
              have hl : j < ys.length := by rw [HYS.out]; exact hlj
              have := HRG.out ys[j] (List.getElem_mem _)
              exact ⟨(ys[j]).toNat, by rw [List.getElem?_eq_getElem hl]; congr 1; omega⟩
            have hzb : z ≤ 16777216 := by have := HRG.out _ (List.mem_of_getElem? hz); omega
            have cz : wr.cell? ⟨w1.heap.size + 1, j, none⟩ = some (.int .i64 (z : Int)) := by rw [HGS.out.cell]; simp [is, hz]
            have HZ := Lib.hid hz
            clear hz
            rcases ok2 with _ | _
            · have HN := Lib.hid (sem2_stop HSEM.out hlj HZ.out (.inl rfl))
              go_wp2_with fail
              go_ret2
              exact ⟨hb, none, 0, 0, false, rfl, .inl ⟨rfl, HN.out⟩⟩
            · by_cases hfit : nb - at2 < z
              · have HN := Lib.hid (sem2_stop HSEM.out hlj HZ.out (.inr (by rw [HLEN.out]; exact hfit)))
                have hf' : (nb : Int) - (at2 : Int) < (z : Int) := by omega
                go_wp2_with fail
                go_ret2
                exact ⟨hb, none, 0, 0, false, rfl, .inl ⟨rfl, HN.out⟩⟩
              · have hf' : (z : Int) ≤ (nb : Int) - (at2 : Int) := by omega
                have hcap := HS.out.cap
                have i2 : (at2 : Int) ≤ (c : Int) := by omega
                have i3 : (at2 : Int) + (z : Int) ≤ (c : Int) := by omega
                have i4 : (0 : Int) ≤ (z : Int) := by omega
                obtain ⟨p, hp⟩ : ∃ p, qs[j]? = some p := ⟨qs[j]'(by rw [HQS.out]; exact hlj), List.getElem?_eq_getElem _⟩
                have HP := Lib.hid hp
                have hpart := RB.part ((HS.out.keep hb).rb) hcap (lo := at2) (m := z) (by omega)
                have HSEM3 := Lib.hid (fun A3 c3 => sem2_next A3 z c3 HSEM.out hlj HP.out HZ.out)
                have hdl : ((l.drop at2).take z).length = z := by rw [List.length_take, List.length_drop, HLEN.out]; omega
                have HDL := Lib.hid hdl
                clear hp hdl
                by_cases hca : c = at2
                · obtain rfl : z = 0 := by omega
                  rw [if_pos hca] at hpart
                  have hca' : (c : Int) = (at2 : Int) := by omega
                  have HPT := Lib.hid hpart
                  have HCA := Lib.hid hca
                  clear hca hpart
                  go_wp2_with fail
                  refine (clone2_any A 0 (c - at2) ((l.drop at2).take 0) _ ⟨HPT.out, Nat.zero_le _, fun _ => by have := HCA.out; omega⟩ (by omega)).mono ?_
                  rintro e w2 ⟨v2, rfl, hown2, hb2⟩
                  obtain ⟨A3, c3, rfl, _⟩ := own_sb hown2
                  have hgl2 := HGL.out.below hb2 HGL.out.lt
                  have hgs2 := HGS.out.below hb2 HGS.out.lt
                  have hpe2 := HPE.out.keep hb2
                  have hB2 : Below w.heap.size w w2 := hb.trans (hb2.mono hb.size)
                  have c1 : w2.cell? ⟨w1.heap.size, j * 2 + 1, none⟩ = some (.slice p.A p.n p.c) := by rw [hgl2.cell]; simpa using (pc_at qs j p HP.out).2
                  have f1 := hgl2.frozen (j * 2 + 1)
                  have hgl3 : Blk (w2.setCell ⟨w1.heap.size, j * 2 + 1, none⟩ (.slice A3 0 c3)) w1.heap.size 46 (pc (qs.set j ⟨p.name, A3, 0, c3, (l.drop at2).take 0⟩)).toArray := by rw [← pc_set_data A3 0 c3 _ HP.out]; exact hgl2.set_ _ _
                  have hpe3 := hpe2.other (p := ⟨w1.heap.size, j * 2 + 1, none⟩) (by simp; omega) (.slice A3 0 c3)
                  have hgs3 := hgs2.far (p := ⟨w1.heap.size, j * 2 + 1, none⟩) (by simp) (.slice A3 0 c3)
                  have hB3 : Below w.heap.size w (w2.setCell ⟨w1.heap.size, j * 2 + 1, none⟩ (.slice A3 0 c3)) := hB2.setCell (p := ⟨w1.heap.size, j * 2 + 1, none⟩) (by simp; omega) _
                  have ca3 : (w2.setCell ⟨w1.heap.size, j * 2 + 1, none⟩ (.slice A3 0 c3)).cell? ⟨w.heap.size + 1, 0, none⟩ = some (.int .i64 (at2 : Int)) := hpe3.a.cell 0
                  have fa3 := hpe3.a.frozen 0
                  have P4 : Hid (PE w.heap.size A nb c (at2 + 0) true ((w2.setCell ⟨w1.heap.size, j * 2 + 1, none⟩ (.slice A3 0 c3)).setCell ⟨w.heap.size + 1, 0, none⟩ (.int .i64 (at2 : Int)))) := Lib.hid (by
                    have := hpe3.setA (at2 + 0)
                    simpa using this)
                  have GL4 := Lib.hid (hgl3.far (p := ⟨w.heap.size + 1, 0, none⟩) (by simp; omega) (.int .i64 (at2 : Int)))
                  have GS4 := Lib.hid (hgs3.far (p := ⟨w.heap.size + 1, 0, none⟩) (by simp; omega) (.int .i64 (at2 : Int)))
                  have B4 := Lib.hid (hB3.setCell (p := ⟨w.heap.size + 1, 0, none⟩) (by simp) (.int .i64 (at2 : Int)))
                  have O4 : Hid (∀ p' ∈ qs.set j ⟨p.name, A3, 0, c3, (l.drop at2).take 0⟩, ((w2.setCell ⟨w1.heap.size, j * 2 + 1, none⟩ (.slice A3 0 c3)).setCell ⟨w.heap.size + 1, 0, none⟩ (.int .i64 (at2 : Int))).ownsRow (w1.heap.size + 1 + 1) 5 1 (.slice p'.A p'.n p'.c) p'.n (bs p'.d) ∧ p'.name.size ≤ nb) := Lib.hid (fun p' hp' => by
                    rcases mem_set hp' with h | h
                    · obtain ⟨h1, h2⟩ := HOWN.out p' h
                      exact ⟨own_upd (own_upd (own_keep h1 hb2) ((Upd.refl w1.heap.size w2).set_ (j * 2 + 1) _) (by omega)) ((Upd.refl (w.heap.size + 1) _).set_ 0 _) (by omega), h2⟩
                    · subst h
                      refine ⟨own_upd (own_upd (own_mono hown2 (by omega)) ((Upd.refl w1.heap.size w2).set_ (j * 2 + 1) _) (by omega)) ((Upd.refl (w.heap.size + 1) _).set_ 0 _) (by omega), ?_⟩
                      exact (HOWN.out p (List.mem_of_getElem? HP.out)).2)
                  have hne1 : ¬ (w.heap.size + 1 = w1.heap.size) := by omega
                  have hne2 : ¬ (w1.heap.size = w.heap.size + 1) := by omega
                  have HTA : Hid (total (pts ((qs.set j ⟨p.name, A3, 0, c3, (l.drop at2).take 0⟩).take (j + 1))) ≤ at2 + 0) := Lib.hid (by
                    rw [total_set HP.out]
                    have := HDL.out
                    simp only at this ⊢
                    omega)
                  clear hgl2 hgs2 hpe2 hB2 hgl3 hpe3 hgs3 hB3 hb2 hown2 cb ca co cz
                  go_wp2_with fail
                  go_roundw
                  case rel => exact ⟨j + 1, at2 + 0, true, _, ys, by omega, by go_num, P4.out, GL4.out, GS4.out, B4.out, by rw [List.length_set, HQS.out], HYS.out, HTA.out, by omega, O4.out, HRG.out, HSEM3.out A3 c3⟩
                  case measure => simp [intOf]; omega
                · rcases A with _ | ad
                  · exact absurd (HS.out.nil rfl) (by omega)
                  rw [if_neg hca] at hpart
                  simp only [Option.map_some] at hpart
                  have hca' : ¬ (c : Int) = (at2 : Int) := by omega
                  have HPT := Lib.hid hpart
                  clear hpart
                  go_wp2_with fail
                  refine (clone2_any (some (ad.add at2)) z (c - at2) ((l.drop at2).take z) _ ⟨HPT.out, by omega, fun h => by cases h⟩ (by omega)).mono ?_
                  rintro e w2 ⟨v2, rfl, hown2, hb2⟩
                  obtain ⟨A3, c3, rfl, _⟩ := own_sb hown2
                  have hgl2 := HGL.out.below hb2 HGL.out.lt
                  have hgs2 := HGS.out.below hb2 HGS.out.lt
                  have hpe2 := HPE.out.keep hb2
                  have hB2 : Below w.heap.size w w2 := hb.trans (hb2.mono hb.size)
                  have c1 : w2.cell? ⟨w1.heap.size, j * 2 + 1, none⟩ = some (.slice p.A p.n p.c) := by rw [hgl2.cell]; simpa using (pc_at qs j p HP.out).2
                  have f1 := hgl2.frozen (j * 2 + 1)
                  have hgl3 : Blk (w2.setCell ⟨w1.heap.size, j * 2 + 1, none⟩ (.slice A3 z c3)) w1.heap.size 46 (pc (qs.set j ⟨p.name, A3, z, c3, (l.drop at2).take z⟩)).toArray := by rw [← pc_set_data A3 z c3 _ HP.out]; exact hgl2.set_ _ _
                  have hpe3 := hpe2.other (p := ⟨w1.heap.size, j * 2 + 1, none⟩) (by simp; omega) (.slice A3 z c3)
                  have hgs3 := hgs2.far (p := ⟨w1.heap.size, j * 2 + 1, none⟩) (by simp) (.slice A3 z c3)
                  have hB3 : Below w.heap.size w (w2.setCell ⟨w1.heap.size, j * 2 + 1, none⟩ (.slice A3 z c3)) := hB2.setCell (p := ⟨w1.heap.size, j * 2 + 1, none⟩) (by simp; omega) _
                  have ca3 : (w2.setCell ⟨w1.heap.size, j * 2 + 1, none⟩ (.slice A3 z c3)).cell? ⟨w.heap.size + 1, 0, none⟩ = some (.int .i64 (at2 : Int)) := hpe3.a.cell 0
                  have fa3 := hpe3.a.frozen 0
                  have P4 : Hid (PE w.heap.size (some ad) nb c (at2 + z) true ((w2.setCell ⟨w1.heap.size, j * 2 + 1, none⟩ (.slice A3 z c3)).setCell ⟨w.heap.size + 1, 0, none⟩ (.int .i64 ((at2 : Int) + (z : Int))))) := Lib.hid (by
                    have := hpe3.setA (at2 + z)
                    simpa using this)
                  have GL4 := Lib.hid (hgl3.far (p := ⟨w.heap.size + 1, 0, none⟩) (by simp; omega) (.int .i64 ((at2 : Int) + (z : Int))))
                  have GS4 := Lib.hid (hgs3.far (p := ⟨w.heap.size + 1, 0, none⟩) (by simp; omega) (.int .i64 ((at2 : Int) + (z : Int))))
                  have B4 := Lib.hid (hB3.setCell (p := ⟨w.heap.size + 1, 0, none⟩) (by simp) (.int .i64 ((at2 : Int) + (z : Int))))
                  have O4 : Hid (∀ p' ∈ qs.set j ⟨p.name, A3, z, c3, (l.drop at2).take z⟩, ((w2.setCell ⟨w1.heap.size, j * 2 + 1, none⟩ (.slice A3 z c3)).setCell ⟨w.heap.size + 1, 0, none⟩ (.int .i64 ((at2 : Int) + (z : Int)))).ownsRow (w1.heap.size + 1 + 1) 5 1 (.slice p'.A p'.n p'.c) p'.n (bs p'.d) ∧ p'.name.size ≤ nb) := Lib.hid (fun p' hp' => by
                    rcases mem_set hp' with h | h
                    · obtain ⟨h1, h2⟩ := HOWN.out p' h
                      exact ⟨own_upd (own_upd (own_keep h1 hb2) ((Upd.refl w1.heap.size w2).set_ (j * 2 + 1) _) (by omega)) ((Upd.refl (w.heap.size + 1) _).set_ 0 _) (by omega), h2⟩
                    · subst h
                      refine ⟨own_upd (own_upd (own_mono hown2 (by omega)) ((Upd.refl w1.heap.size w2).set_ (j * 2 + 1) _) (by omega)) ((Upd.refl (w.heap.size + 1) _).set_ 0 _) (by omega), ?_⟩
                      exact (HOWN.out p (List.mem_of_getElem? HP.out)).2)
                  have hne1 : ¬ (w.heap.size + 1 = w1.heap.size) := by omega
                  have hne2 : ¬ (w1.heap.size = w.heap.size + 1) := by omega
                  have HTA : Hid (total (pts ((qs.set j ⟨p.name, A3, z, c3, (l.drop at2).take z⟩).take (j + 1))) ≤ at2 + z) := Lib.hid (by
                    rw [total_set HP.out]
                    have := HDL.out
                    simp only at this ⊢
                    omega)
                  clear hgl2 hgs2 hpe2 hB2 hgl3 hpe3 hgs3 hB3 hb2 hown2 cb ca co cz
                  go_wp2_with fail
                  go_roundw
                  case rel => exact ⟨j + 1, at2 + z, true, _, ys, by omega, by go_num, P4.out, GL4.out, GS4.out, B4.out, by rw [List.length_set, HQS.out], HYS.out, HTA.out, by omega, O4.out, HRG.out, HSEM3.out A3 c3⟩
                  case measure => simp [intOf]; omega
          · obtain rfl : r = j := by omega
            have HEND := Lib.hid (sem2_end HSEM.out HQS.out (by rw [HLEN.out]; exact hat))
            have hroom : Room qs := ⟨fun p hp => by have := (HOWN.out p hp).2; omega, by
              rw [List.take_of_length_le (by rw [HQS.out]; omega)] at hta
              omega⟩
            have HROOM := Lib.hid hroom
            have HOP : Hid (OP w.heap.size wr (some ⟨w1.heap.size, 0, none⟩) r qs) := Lib.hid ⟨fun p hp => own_mono (HOWN.out p hp).1 (by omega), .inr ⟨w1.heap.size, by omega, rfl, HGL.out⟩, HQS.out⟩
            clear hroom
            rcases ok2 with _ | _
            · go_wp2_with fail
              go_quiet (fail)
              go_wp2_with fail
              go_ret2
              exact ⟨below_drewN hb _, _, _, _, false, rfl, .inl ⟨rfl, fun L h1 h2 => by have := (HEND.out L h1 h2).1; cases this⟩⟩
            · by_cases hfull : at2 = nb
              · have hf' : ((at2 : Int) == (nb : Int)) = true := by rw [beq_iff_eq]; omega
                go_wp2_with fail
                go_quiet (fail)
                go_wp2_with fail
                go_ret2
                exact ⟨below_drewN hb _, _, _, _, true, rfl, .inr ⟨rfl, qs, HOP.out.keep (below_drewN (Below.refl _ _) _), hr, Nat.le_refl _, HROOM.out, fun L h1 h2 => (HEND.out L h1 h2).2.2⟩⟩
              · have hf' : ((at2 : Int) == (nb : Int)) = false := by rw [beq_eq_false_iff_ne]; omega
                go_wp2_with fail
                go_quiet (fail)
                go_wp2_with fail
                go_ret2
                exact ⟨below_drewN hb _, _, _, _, false, rfl, .inl ⟨rfl, fun L h1 h2 => by have := (HEND.out L h1 h2).2.1; rw [HLEN.out] at this; omega⟩⟩
end Go.Proofs.YtncnocejmbfhaaaDoor.Sec
