/-
  The contracts of Find. Conditions: the parts can be read.
-/
import Derived.Test.YtncnocejmbfhaaaDoorSecName
import Derived.Test.YtncnocejmbfhaaaDoorCodPut
namespace Go.Proofs.YtncnocejmbfhaaaDoor.Sec
open Go.RowKit Wd

set_option maxHeartbeats 1000000 in
theorem clone2_any (A : Option Addr) (n c : Nat) (l : List UInt8) (w : World) (hs : SB w A n c l) (hn : n ≤ 140737488355328) :
    Calls Tryd.prog 35 #[.slice A n c] w fun e w' => ∃ v, e = .returned v ∧ w'.ownsRow w.heap.size 5 1 v n (bs l) ∧ Below w.heap.size w w' := by
  obtain ⟨i0, hi, hz0, hz1, hz2⟩ := info_parts Cod.Tryd.infoU8
  have HI := Lib.hid hi
  have HS := Lib.hid hs
  clear hi hs
  have hnil := fun (w : World) (a : Option Addr) (n c : Nat) => Lib.run_eql_slice_nil (P := Tryd.prog) w 26 5 a n c 0 0 Tryd.underlying26
  rcases A with _ | ad
  · have hc := HS.out.nil rfl
    have hn0 : n = 0 := by have := HS.out.cap; omega
    subst hc hn0
    have hl : l = [] := List.length_eq_zero_iff.1 HS.out.rb.len
    subst hl
    clear HS hn
    go_enter Tryd.func35, Tryd.ntmps35
    go_wp2_with fail
    go_ret
    exact ⟨_, rfl, World.ownsRow_nil _ _ _ _, Below.refl _ _⟩
  · go_enter Tryd.func35, Tryd.ntmps35
    go_wp2_with (at_builtin; refine wpList_append_any _ rfl (.tmp 5) (.tmp 6) _ rfl w.heap.size 5 i0 _ 1 1 Tryd.underlying26 HI.out hz0 hz1 hz2 rfl (by decide) _ _ _ rfl (own_empty _ _) _ (some ad) n c (bs l) rfl (Reads.alloc HS.out.rb (Nat.le_refl _) _) (bs_one l) (by unfold maxLen; omega) (by omega) (by simp) ?_; intro v1 w1 hown1 hg1 hat1)
    have hown : w1.ownsRow w.heap.size 5 1 v1 n (bs l) := by simpa using hown1
    have hb1 : Below w.heap.size w w1 := own_below ((Below.refl _ _).alloc (Nat.le_refl _) _) (Nat.le_refl _) (own_empty _ _) (Nat.le_refl _) hg1
    go_ret
    exact ⟨v1, rfl, hown, hb1⟩

theorem equal_any (A A2 : Option Addr) (n c n2 c2 : Nat) (l l2 : List UInt8) (w : World) (hs : RB w A n l) (hs2 : RB w A2 n2 l2) :
    Calls Tryd.prog 32 #[.slice A n c, .slice A2 n2 c2] w fun e w' => e = .returned (.bool (l == l2)) ∧ w = w' := by
  have h1 := hs.run_string (P := Tryd.prog) c 26 5 9 Tryd.underlying26 Tryd.underlying5 Tryd.underlying9
  have h2 := hs2.run_string (P := Tryd.prog) c2 26 5 9 Tryd.underlying26 Tryd.underlying5 Tryd.underlying9
  clear hs hs2
  go_enter Tryd.func32, Tryd.ntmps32
  go_wp2_with fail
  go_ret
  exact ⟨rfl, rfl⟩
theorem same_any (A A2 : Option Addr) (n c n2 c2 : Nat) (l l2 : List UInt8) (w : World) (hs : RB w A n l) (hs2 : RB w A2 n2 l2) :
    Calls Tryd.prog 31 #[.slice A n c, .slice A2 n2 c2] w fun e w' => e = .returned (.bool (l == l2)) ∧ w = w' := by
  have h1 := hs.run_string (P := Tryd.prog) c 26 5 9 Tryd.underlying26 Tryd.underlying5 Tryd.underlying9
  have h2 := hs2.run_string (P := Tryd.prog) c2 26 5 9 Tryd.underlying26 Tryd.underlying5 Tryd.underlying9
  clear hs hs2
  go_enter Tryd.func31, Tryd.ntmps31
  go_wp2_with fail
  go_ret
  exact ⟨rfl, rfl⟩

/-- the data of the first part with a name -/
def look : List Pt → ByteArray → Option (List UInt8)
  | [], _ => none
  | p :: l, s => if p.name = s then some p.data else look l s
theorem drop_cons {α : Type} {l : List α} {k : Nat} {p : α} (h : l[k]? = some p) : l.drop k = p :: l.drop (k + 1) := by
  obtain ⟨hk, rfl⟩ := List.getElem?_eq_some_iff.1 h
  exact List.drop_eq_getElem_cons hk
theorem look_hit {ps : List PV} {k : Nat} {p : PV} {s : ByteArray} (h : ps[k]? = some p) (hs : p.name = s) : look (pts (ps.drop k)) s = some p.d := by
  rw [drop_cons h]; simp [pts, PV.pt, look, hs]
theorem look_miss {ps : List PV} {k : Nat} {p : PV} {s : ByteArray} (h : ps[k]? = some p) (hs : ¬ p.name = s) : look (pts (ps.drop k)) s = look (pts (ps.drop (k + 1))) s := by
  rw [drop_cons h]; simp [pts, PV.pt, look, hs]
/-- how Find ends -/
def FindPost (w : World) (R : Option (List UInt8)) (e : Ending) (w' : World) : Prop :=
  Below w.heap.size w w' ∧ match R with
  | none => e = .returned (.tuple #[.slice none 0 0, .bool false])
  | some d => ∃ A n c, e = .returned (.tuple #[.slice A n c, .bool true]) ∧ SB w' A n c d
theorem FindPost.bad {w w' : World} {R : Option (List UInt8)} (hR : R = none) (hb : Below w.heap.size w w') : FindPost w R (.returned (.tuple #[.slice none 0 0, .bool false])) w' := by
  subst hR; exact ⟨hb, rfl⟩
theorem FindPost.good {w w' : World} {R : Option (List UInt8)} {A : Option Addr} {n c : Nat} {d : List UInt8} (hR : R = some d) (hb : Below w.heap.size w w') (hs : SB w' A n c d) : FindPost w R (.returned (.tuple #[.slice A n c, .bool true])) w' := by
  subst hR; exact ⟨hb, A, n, c, rfl, hs⟩
theorem str_ne {x y : ByteArray} (h : ¬ x = y) : (x.toList == y.toList) = false := by
  rw [beq_eq_false_iff_ne, ByteArray.toList_eq, ByteArray.toList_eq]
  intro e
  exact h (ByteArray.ext (Array.toList_inj.mp e))
theorem str_eq (x : ByteArray) : (x.toList == x.toList) = true := beq_self_eq_true _
/-- the data of all parts are within a bound -/
def Fit (ps : List PV) : Prop := ∀ p ∈ ps, p.n ≤ 140737488355328

set_option maxRecDepth 100000 in
set_option maxHeartbeats 1000000 in
theorem find_any (A : Option Addr) (n c : Nat) (ps : List PV) (s : ByteArray) (w : World) (h : RP w A n ps) (hf : Fit ps) (hn : n ≤ 140737488355328) :
    Calls Tryd.prog 20 #[.slice A n c, .string s] w (FindPost w (look (pts ps) s)) := by
  have H := Lib.hid h
  have HF := Lib.hid hf
  clear h hf
  generalize hL : look (pts ps) s = L
  have HL := Lib.hid hL
  clear hL
  go_enter Tryd.func20, Tryd.ntmps20
  go_wp2_with fail
  go_loopw [10] (fun i wr => ∃ k : Nat, k ≤ n ∧ i = .int .i64 k ∧ L = look (pts (ps.drop k)) s ∧ Below w.heap.size w wr) (fun i _ => n - (intOf i).toNat)
  case atStart => exact ⟨0, Nat.zero_le _, rfl, HL.out.symm, Below.refl _ _⟩
  case round =>
    obtain ⟨k, hk, rfl, hrest, hb⟩ := hrel
    have HR := Lib.hid hrest
    clear hrest
    by_cases hlt : k < n
    · obtain ⟨ad, p, rfl, hp, hbl, hc1, hc2, hsb⟩ := (H.out.keep hb).at_ hlt
      have HSB := Lib.hid hsb
      have HP := Lib.hid hp
      have hpn := HF.out p (List.mem_of_getElem? hp)
      clear hsb hp
      by_cases hs : p.name = s
      · have HS := Lib.hid (look_hit HP.out hs)
        rw [hs] at hc1
        have e1 := str_eq s
        clear hs
        go_wp2_with fail
        refine (clone2_any p.A p.n p.c p.d _ (HSB.out.alloc _) hpn).mono ?_
        rintro e w1 ⟨v, rfl, hown, hb1⟩
        obtain ⟨A1, c1, rfl, hs1⟩ := Cod.own_sb hown
        have S1 := Lib.hid hs1
        have B1 := Lib.hid hb1
        clear hown hs1 hb1
        go_wp2_with fail
        go_ret2
        exact FindPost.good (by rw [HR.out, HS.out]) ((hb.alloc hb.size _).trans (B1.out.mono (by have := hb.size; simp; omega))) S1.out
      · have HS := Lib.hid (look_miss HP.out hs)
        have e1 := str_ne hs
        clear hs
        go_wp2_with fail
        go_roundw
        case rel => exact ⟨k + 1, by omega, by go_num, by rw [HR.out, HS.out], hb.alloc hb.size _⟩
        case measure => simp [intOf]; omega
    · obtain rfl : k = n := by omega
      have hnone : look (pts (ps.drop k)) s = none := by rw [List.drop_of_length_le (by rw [H.out.len]; omega)]; rfl
      have HN := Lib.hid hnone
      clear hnone
      go_wp2_with fail
      go_ret2
      exact FindPost.bad (by rw [HR.out, HN.out]) hb

set_option maxRecDepth 100000 in
set_option maxHeartbeats 1000000 in
theorem findR_any (A : Option Addr) (n c : Nat) (ps : List PV) (s : ByteArray) (w : World) (h : RP w A n ps) (hn : n ≤ 140737488355328) :
    Calls Tryd.prog 21 #[.slice A n c, .string s] w (FindPost w (look (pts ps) s)) := by
  have H := Lib.hid h
  clear h
  generalize hL : look (pts ps) s = L
  have HL := Lib.hid hL
  clear hL
  go_enter Tryd.func21, Tryd.ntmps21
  go_wp2_with fail
  go_loop [6] (fun i => ∃ k : Nat, k ≤ n ∧ i = .int .i64 k ∧ L = look (pts (ps.drop k)) s) (fun i => n - (intOf i).toNat)
  case atStart => exact ⟨0, Nat.zero_le _, rfl, HL.out.symm⟩
  case round =>
    obtain ⟨k, hk, rfl, hrest⟩ := hrel
    have HR := Lib.hid hrest
    clear hrest
    by_cases hlt : k < n
    · obtain ⟨ad, p, rfl, hp, hbl, hc1, hc2, hsb⟩ := H.out.at_ hlt
      have HSB := Lib.hid hsb
      have HP := Lib.hid hp
      clear hsb hp
      by_cases hs : p.name = s
      · have HS := Lib.hid (look_hit HP.out hs)
        rw [hs] at hc1
        have e1 := str_eq s
        clear hs
        go_wp2_with fail
        go_ret2
        exact FindPost.good (by rw [HR.out, HS.out]) (Below.refl _ _) HSB.out
      · have HS := Lib.hid (look_miss HP.out hs)
        have e1 := str_ne hs
        clear hs
        go_wp2_with fail
        go_round
        case rel => exact ⟨k + 1, by omega, by go_num, by rw [HR.out, HS.out]⟩
        case measure => simp [intOf]; omega
    · obtain rfl : k = n := by omega
      have hnone : look (pts (ps.drop k)) s = none := by rw [List.drop_of_length_le (by rw [H.out.len]; omega)]; rfl
      have HN := Lib.hid hnone
      clear hnone
      go_wp2_with fail
      go_ret2
      exact FindPost.bad (by rw [HR.out, HN.out]) (Below.refl _ _)

set_option maxRecDepth 100000 in
set_option maxHeartbeats 1000000 in
theorem named_any (s : ByteArray) (w : World) (hs : s.size ≤ 140737488355328) :
    Calls Tryd.prog 40 #[.string s] w fun e w' => e = .returned (.bool (nameB s)) ∧ w = w' := by
  go_enter Tryd.func40, Tryd.ntmps40
  go_wp2_with fail
  go_loop [3] (fun i => ∃ k : Nat, k ≤ s.size ∧ i = .int .i64 k ∧ Lets s k) (fun i => s.size - (intOf i).toNat)
  case atStart => exact ⟨0, Nat.zero_le _, rfl, fun j h hj => absurd hj (by omega)⟩
  case round =>
    obtain ⟨k, hk, rfl, hl⟩ := hrel
    have HL := Lib.hid hl
    clear hl
    by_cases hlt : k < s.size
    · rcases hb : letB s[k] with _ | _
      · have hN : nameB s = false := by rw [nameB_eq, lets_not hlt hb, Bool.and_false]
        have HN := Lib.hid hN
        have hz : s[k].toNat < 97 ∨ 122 < s[k].toNat := by unfold letB at hb; rw [decide_eq_false_iff_not] at hb; omega
        clear hb hN
        by_cases h97 : ((s[k].toNat : Nat) : Int) < 97
        · clear hz
          go_wp2_with fail
          go_ret
          exact ⟨by rw [HN.out]; rfl, rfl⟩
        · have h122 : (122 : Int) < ((s[k].toNat : Nat) : Int) := by omega
          clear hz
          go_wp2_with fail
          go_ret
          exact ⟨by rw [HN.out]; rfl, rfl⟩
      · have HN := Lib.hid (show Lets s (k + 1) from fun j h hj => by
          rcases Nat.lt_or_ge j k with h' | h'
          · exact HL.out j h h'
          · obtain rfl : j = k := by omega
            exact hb)
        have h97 : (97 : Int) ≤ ((s[k].toNat : Nat) : Int) := by unfold letB at hb; rw [decide_eq_true_eq] at hb; omega
        have h122 : ((s[k].toNat : Nat) : Int) ≤ (122 : Int) := by unfold letB at hb; rw [decide_eq_true_eq] at hb; omega
        clear hb
        go_wp2_with fail
        go_round
        case rel => exact ⟨k + 1, by omega, by go_num, HN.out⟩
        case measure => simp [intOf]; omega
    · obtain rfl : k = s.size := by omega
      have hN : nameB s = decide (1 ≤ s.size ∧ s.size ≤ 16) := by rw [nameB_eq, HL.out.all, Bool.and_true]
      have HN := Lib.hid hN
      clear hN
      by_cases h1 : 1 ≤ s.size
      · by_cases h2 : s.size ≤ 16
        · go_wp2_with fail
          go_ret
          exact ⟨by rw [HN.out, show decide (1 ≤ s.size ∧ s.size ≤ 16) = true from decide_eq_true ⟨h1, h2⟩]; simp; omega, rfl⟩
        · have hd : decide (s.size ≤ 16) = false := decide_eq_false h2
          go_wp2_with fail
          go_ret
          exact ⟨by rw [HN.out, show decide (1 ≤ s.size ∧ s.size ≤ 16) = false from decide_eq_false (fun h => h2 h.2)]; simp; omega, rfl⟩
      · go_wp2_with fail
        go_ret
        exact ⟨by rw [HN.out, show decide (1 ≤ s.size ∧ s.size ≤ 16) = false from decide_eq_false (fun h => h1 h.1)]; rfl, rfl⟩
end Go.Proofs.YtncnocejmbfhaaaDoor.Sec
