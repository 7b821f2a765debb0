/-
  The contracts of the reference's writing (henkanref01: Code, Text, Cut, Same). Conditions: lengths are within the form's reach.
-/
import Derived.Test.YtcnedljblljhoaaDoorUtfNext
import Derived.Test.YtcnedljblljhoaaDoorUtfCut
import Derived.Lib.AppendStr
namespace Go.Proofs.YtcnedljblljhoaaDoor.Utf
open Go.RowKit Wd

/-- how many bytes the code of a character has -/
def klen (c : Nat) : Nat := if c < 128 then 1 else if c < 2048 then 2 else if c < 65536 then 3 else 4
/-- the last j bytes of the code of a character -/
def tail (c : Nat) : Nat → List UInt8
  | 0 => []
  | j + 1 => UInt8.ofNat (128 + c / 64 ^ j % 64) :: tail c j
theorem tail_length (c j : Nat) : (tail c j).length = j := by
  induction j with
  | zero => rfl
  | succ j ih => simp [tail, ih]
def lead (n : Nat) : Nat := if n = 2 then 192 else if n = 3 then 224 else if n = 4 then 240 else 0
def limit (n : Nat) : Nat := if n = 1 then 128 else if n = 2 then 2048 else if n = 3 then 65536 else 0
theorem klen_range (c : Nat) : 1 ≤ klen c ∧ klen c ≤ 4 := by
  unfold klen; split
  · omega
  · split
    · omega
    · split <;> omega
theorem klen_1 {c : Nat} (h : c < 128) : klen c = 1 := by unfold klen; rw [if_pos h]
theorem klen_2 {c : Nat} (h : 128 ≤ c) (h2 : c < 2048) : klen c = 2 := by unfold klen; rw [if_neg (by omega), if_pos h2]
theorem klen_3 {c : Nat} (h : 2048 ≤ c) (h2 : c < 65536) : klen c = 3 := by unfold klen; rw [if_neg (by omega), if_neg (by omega), if_pos h2]
theorem klen_4 {c : Nat} (h : 65536 ≤ c) : klen c = 4 := by unfold klen; rw [if_neg (by omega), if_neg (by omega), if_neg (by omega)]
theorem klen_cases (c : Nat) : (c < 128 ∧ klen c = 1) ∨ (128 ≤ c ∧ c < 2048 ∧ klen c = 2) ∨ (2048 ≤ c ∧ c < 65536 ∧ klen c = 3) ∨ (65536 ≤ c ∧ klen c = 4) := by
  by_cases a : c < 128
  · exact .inl ⟨a, klen_1 a⟩
  by_cases b : c < 2048
  · exact .inr (.inl ⟨by omega, b, klen_2 (by omega) b⟩)
  by_cases d : c < 65536
  · exact .inr (.inr (.inl ⟨by omega, d, klen_3 (by omega) d⟩))
  · exact .inr (.inr (.inr ⟨by omega, klen_4 (by omega)⟩))
theorem klen_limit (c j : Nat) (h1 : 1 ≤ j) (h : j < klen c) : j < 4 ∧ limit j ≤ c := by
  have l1 : limit 1 = 128 := rfl
  have l2 : limit 2 = 2048 := rfl
  have l3 : limit 3 = 65536 := rfl
  rcases klen_cases c with ⟨a, e⟩ | ⟨a, b, e⟩ | ⟨a, b, e⟩ | ⟨a, e⟩
  · omega
  · obtain rfl : j = 1 := by omega
    omega
  · rcases (show j = 1 ∨ j = 2 by omega) with rfl | rfl <;> omega
  · rcases (show j = 1 ∨ j = 2 ∨ j = 3 by omega) with rfl | rfl | rfl <;> omega
theorem klen_stop (c : Nat) (h : klen c < 4) : c < limit (klen c) := by
  have l1 : limit 1 = 128 := rfl
  have l2 : limit 2 = 2048 := rfl
  have l3 : limit 3 = 65536 := rfl
  rcases klen_cases c with ⟨a, e⟩ | ⟨a, b, e⟩ | ⟨a, b, e⟩ | ⟨a, e⟩
  all_goals rw [e] at h ⊢
  all_goals omega
theorem enc_tail (c : Nat) (h : 128 ≤ c) : enc c = UInt8.ofNat (lead (klen c) + c / 64 ^ (klen c - 1)) :: tail c (klen c - 1) := by
  rcases klen_cases c with ⟨a, e⟩ | ⟨a, b, e⟩ | ⟨a, b, e⟩ | ⟨a, e⟩
  · omega
  · rw [e]
    have t : tail c 1 = [UInt8.ofNat (128 + c % 64)] := by show UInt8.ofNat (128 + c / 64 ^ 0 % 64) :: [] = _; rw [Nat.pow_zero, Nat.div_one]
    show enc c = UInt8.ofNat (192 + c / 64 ^ 1) :: tail c 1
    rw [t, Nat.pow_one]
    unfold enc
    rw [if_neg (by omega), if_pos b]
  · rw [e]
    have t : tail c 2 = [UInt8.ofNat (128 + c / 64 % 64), UInt8.ofNat (128 + c % 64)] := by show UInt8.ofNat (128 + c / 64 ^ 1 % 64) :: UInt8.ofNat (128 + c / 64 ^ 0 % 64) :: [] = _; rw [Nat.pow_zero, Nat.div_one, Nat.pow_one]
    show enc c = UInt8.ofNat (224 + c / 64 ^ 2) :: tail c 2
    rw [t, show (64 : Nat) ^ 2 = 4096 from rfl]
    unfold enc
    rw [if_neg (by omega), if_neg (by omega), if_pos b]
  · rw [e]
    have t : tail c 3 = [UInt8.ofNat (128 + c / 4096 % 64), UInt8.ofNat (128 + c / 64 % 64), UInt8.ofNat (128 + c % 64)] := by show UInt8.ofNat (128 + c / 64 ^ 2 % 64) :: UInt8.ofNat (128 + c / 64 ^ 1 % 64) :: UInt8.ofNat (128 + c / 64 ^ 0 % 64) :: [] = _; rw [Nat.pow_zero, Nat.div_one, Nat.pow_one]
    show enc c = UInt8.ofNat (240 + c / 64 ^ 3) :: tail c 3
    rw [t, show (64 : Nat) ^ 3 = 262144 from rfl]
    unfold enc
    rw [if_neg (by omega), if_neg (by omega), if_neg (by omega)]
theorem limit_cell (w : World) (n : Nat) (h1 : 1 ≤ n) (h4 : n < 4) : (w.alloc (.cells #[.int .i32 0, .int .i32 128, .int .i32 2048, .int .i32 65536] 21)).cell? ⟨w.heap.size, n, none⟩ = some (.int .i32 (limit n : Int)) := by
  rw [cell_new]
  rcases (show n = 1 ∨ n = 2 ∨ n = 3 by omega) with rfl | rfl | rfl <;> rfl
theorem lead_cell (w : World) (n : Nat) (h1 : 2 ≤ n) (h4 : n ≤ 4) : (w.alloc (.cells #[.int .i32 0, .int .i32 0, .int .i32 192, .int .i32 224, .int .i32 240] 21)).cell? ⟨w.heap.size, n, none⟩ = some (.int .i32 (lead n : Int)) := by
  rw [cell_new]
  rcases (show n = 2 ∨ n = 3 ∨ n = 4 by omega) with rfl | rfl | rfl <;> rfl
theorem lead_sum (c : Nat) (hc : c ≤ 1114111) (h : 128 ≤ c) : lead (klen c) + c / 64 ^ (klen c - 1) < 256 := by
  rcases klen_cases c with ⟨a, e⟩ | ⟨a, b, e⟩ | ⟨a, b, e⟩ | ⟨a, e⟩
  · omega
  · rw [e]; show 192 + c / 64 ^ 1 < 256; rw [Nat.pow_one]; omega
  · rw [e]; show 224 + c / 64 ^ 2 < 256; rw [show (64 : Nat) ^ 2 = 4096 from rfl]; omega
  · rw [e]; show 240 + c / 64 ^ 3 < 256; rw [show (64 : Nat) ^ 3 = 262144 from rfl]; omega
theorem own_lit (w : World) (x : Value) (e : TypeId) (base : Nat) (hb : base ≤ w.heap.size) : (w.alloc (.cells #[x] e)).ownsRow base e 1 (.slice (some ⟨w.heap.size, 0, none⟩) 1 1) 1 [x] :=
  World.ownsRow_lit w #[x] 1 hb (by decide) rfl

/-- what is left to be written -/
def leftOf (j : Nat) (b : Value) : Nat := match b with | .slice _ n _ => j - n | _ => 0
theorem own_lit1 (w : World) (x : Value) (e : TypeId) (base B : Nat) (hB : w.heap.size = B) (hb : base ≤ B) : (w.alloc (.cells #[x] e)).ownsRow base e 1 (.slice (some ⟨B, 0, none⟩) 1 1) 1 [x] := by
  subst hB; exact own_lit w x e base hb

set_option maxRecDepth 100000 in
set_option maxHeartbeats 2000000 in
theorem code_any (c : Nat) (w : World) (hc : c ≤ 1114111) :
    Calls Tryd.prog 29 #[.int .i32 (c : Int)] w fun e w' => e = .returned (.string ⟨(enc c).toArray⟩) ∧ Below w.heap.size w w' := by
  obtain ⟨i0, hi, hz0, hz1, hz2⟩ := info_parts Tryd.infoByte
  have HI := Lib.hid hi
  clear hi
  have hkr := klen_range c
  have HK := Lib.hid (klen_limit c)
  have HS := Lib.hid (klen_stop c)
  have HE := Lib.hid (enc_tail c)
  have HLS := Lib.hid (lead_sum c hc)
  have h128 : klen c = 1 ↔ c < 128 := by
    rcases klen_cases c with ⟨a, e⟩ | ⟨a, b, e⟩ | ⟨a, b, e⟩ | ⟨a, e⟩ <;> omega
  have H128 := Lib.hid h128
  clear h128
  generalize klen c = k at *
  go_enter Tryd.func29, Tryd.ntmps29
  go_wp2_with fail
  go_loopw [3] (fun n1 wr => ∃ j : Nat, 1 ≤ j ∧ j ≤ k ∧ n1 = .int .i64 (j : Int) ∧ Below w.heap.size w wr) (fun n _ => 4 - (intOf n).toNat)
  case atStart => exact ⟨1, Nat.le_refl _, hkr.1, rfl, Below.refl _ _⟩
  case round =>
    obtain ⟨j, hj1, hjk, rfl, hbel⟩ := hrel
    by_cases hlt : j < k
    · obtain ⟨h4, hlim⟩ := HK.out j hj1 hlt
      have hcell := limit_cell wr j hj1 h4
      generalize limit j = m at hcell hlim
      have t1 : (m : Int) ≤ (c : Int) := by omega
      have t2 : (j : Int) < 4 := by omega
      go_wp2_with fail
      go_roundw
      case rel => exact ⟨j + 1, by omega, by omega, by go_num, hbel.alloc hbel.size _⟩
      case measure => simp [intOf]; omega
    · obtain rfl : j = k := by omega
      by_cases h1 : j = 1
      · have hlt128 := H128.out.1 h1
        have t1 : ((j : Int) == 1) = true := by rw [beq_iff_eq]; omega
        have hstop := HS.out (by omega)
        have hcell := limit_cell wr j hj1 (by omega)
        generalize limit j = m at hcell hstop
        have t2 : (c : Int) < (m : Int) := by omega
        have t3 : (j : Int) < 4 := by omega
        have hstr := RB.run_string (P := Tryd.prog) (sb_lit (wr.alloc (.cells #[.int .i32 0, .int .i32 128, .int .i32 2048, .int .i32 65536] 21)) #[.int .u8 (c : Int)] 5 (0, 0) 1 (wr.heap.size + 1) (enc c) (by simp) (by unfold enc; rw [if_pos hlt128]; simp [bs, tn c (by omega)]) (by unfold enc; rw [if_pos hlt128]; rfl)).rb 1 40 5 9 Tryd.underlying40 Tryd.underlying5 Tryd.underlying9
        clear hstop h1
        go_wp2_with fail
        go_ret
        exact ⟨rfl, (hbel.alloc hbel.size _).alloc (by have := hbel.size; simp; omega) _⟩
      · have hge : 128 ≤ c := by
          rcases Nat.lt_or_ge c 128 with h | h
          · exact absurd (H128.out.2 h) h1
          · exact h
        have t1 : ((j : Int) == 1) = false := by rw [beq_eq_false_iff_ne]; omega
        by_cases h4 : j < 4
        case' pos =>
          have hstop := HS.out h4
          have hcell := limit_cell wr j hj1 h4
          generalize limit j = m at hcell hstop
          have t2 : (c : Int) < (m : Int) := by omega
          have t3 : (j : Int) < 4 := by omega
          have t2b : decide (m ≤ c) = false := by simp; omega
          clear hstop
          go_wp2_with fail
          clear hcell t2 t3
          have hbx : Below w.heap.size w (wr.alloc (.cells #[.int .i32 0, .int .i32 128, .int .i32 2048, .int .i32 65536] 21)) := hbel.alloc hbel.size _
        case' neg =>
          have t3 : (4 : Int) ≤ (j : Int) := by omega
          go_wp2_with fail
          clear t3
          have hbx := hbel
        all_goals
          have HBX := Lib.hid hbx
          have h2 : 2 ≤ j := by omega
          clear hbx hbel h1 h4
          go_loopw [0, 4] (fun c1 b1 wy => ∃ i : Nat, i ≤ j - 1 ∧ c1 = .int .i32 ((c / 64 ^ i : Nat) : Int) ∧ wy.ownsRow w.heap.size 5 1 b1 i (bs (tail c i)) ∧ Below w.heap.size w wy) (fun _ b _ => leftOf j b)
          case atStart => exact ⟨0, Nat.zero_le _, by simp, World.ownsRow_nil _ _ _ _, HBX.out⟩
          case round =>
            obtain ⟨i, hij, rfl, hown, hby⟩ := hrel
            obtain ⟨Ab, cb, rfl, hrb, _⟩ := own_bytes hown
            have HRB := Lib.hid hrb
            have HO := Lib.hid hown
            clear hrb hown
            have hxle : c / 64 ^ i ≤ c := Nat.div_le_self _ _
            have hnext : c / 64 ^ i / 64 = c / 64 ^ (i + 1) := by rw [Nat.div_div_eq_div_mul, Nat.pow_succ]
            have HN := Lib.hid hnext
            have htail : bs (tail c (i + 1)) = [.int .u8 ((128 + c / 64 ^ i % 64 : Nat) : Int)] ++ bs (tail c i) := by
              simp only [tail, bs, List.map_cons, List.cons_append, List.nil_append, tn (128 + c / 64 ^ i % 64) (by omega)]
            have HT := Lib.hid htail
            by_cases hlt : i < j - 1
            · clear htail hnext
              generalize c / 64 ^ i = x at hxle HN HT ⊢
              have hw : ((128 : Int) + (x : Int) % 64) % 256 = (128 : Int) + (x : Int) % 64 := by omega
              have t5 : (i : Int) < (j : Int) - 1 := by omega
              go_wp2_with (at_builtin; refine wpList_append_any _ rfl (.tmp 33) (.tmp 34) _ rfl w.heap.size 5 i0 _ 1 1 Tryd.underlying40 HI.out hz0 hz1 hz2 rfl (by decide) _ _ _ rfl (own_lit _ _ _ _ hby.size) _ Ab i cb (bs (tail c i)) rfl (RB.alloc HRB.out _) (bs_one _) (by unfold maxLen; omega) (by omega) (by have := hby.size; simp; omega) ?_; intro v' w2 hown' hgr hat')
              have B2 := Lib.hid (own_below (hby.alloc hby.size _) (Nat.le_refl _) (own_lit _ _ _ _ hby.size) (Nat.le_refl _) hgr)
              have O2 := Lib.hid (show w2.ownsRow w.heap.size 5 1 v' (i + 1) (bs (tail c (i + 1))) by
                rw [HT.out, Nat.add_comm i 1]
                have e : ((128 + x % 64 : Nat) : Int) = 128 + (x : Int) % 64 := by omega
                rw [e]; exact hown')
              obtain ⟨A3, c3, rfl, _, _⟩ := own_slice O2.out
              clear hown' hgr hat' hw
              go_wp2_with fail
              go_roundw
              case rel => exact ⟨i + 1, by omega, by rw [← HN.out]; simp, O2.out, B2.out⟩
              case measure => simp [leftOf]; omega
            · obtain rfl : i = j - 1 := by omega
              have hls := HLS.out hge
              have hen := HE.out hge
              have hcell := lead_cell wr j (by omega) (by omega)
              have hj5 : (j : Int) < 5 := by omega
              have t5 : ¬ (((j - 1 : Nat) : Int) < (j : Int) - 1) := by omega
              clear htail hnext HT HN
              generalize lead j = ld at hls hen hcell
              generalize c / 64 ^ (j - 1) = x at hxle hls hen ⊢
              have HEN := Lib.hid hen
              have hw : ((ld : Int) + (x : Int)) % 256 = (ld : Int) + (x : Int) := by omega
              generalize hT : tail c (j - 1) = T at HO HRB HEN
              have HTT := Lib.hid hT
              have hTl : T.length = j - 1 := by rw [← hT, tail_length]
              generalize hi1 : j - 1 = i at *
              have hi3 : i ≤ 3 := by omega
              clear hT hen hi1 hTl
              have HFIN := Lib.hid (fun (v' : Value) (w2 : World) (hown' : w2.ownsRow w.heap.size 5 1 v' (1 + i) ([.int .u8 ((ld : Int) + (x : Int))] ++ bs T)) => show ∃ A3 c3, v' = .slice A3 (1 + i) c3 ∧ (convert 40 9 (.slice A3 (1 + i) c3)).run Tryd.prog w2 = .ok (.string ⟨(enc c).toArray⟩) w2 from by
                have hO2 : w2.ownsRow w.heap.size 5 1 v' (1 + i) (bs (enc c)) := by
                  rw [HEN.out]
                  have e : bs (UInt8.ofNat (ld + x) :: T) = [.int .u8 ((ld : Int) + (x : Int))] ++ bs T := by
                    simp only [bs, List.map_cons, tn (ld + x) hls, List.cons_append, List.nil_append]
                    simp
                  rw [e]; exact hown'
                obtain ⟨A3, c3, rfl, hr3, _⟩ := own_bytes hO2
                exact ⟨A3, c3, rfl, RB.run_string (P := Tryd.prog) hr3 c3 40 5 9 Tryd.underlying40 Tryd.underlying5 Tryd.underlying9⟩)
              go_wp2_with (at_builtin; refine wpList_append_any _ rfl (.tmp 46) (.tmp 47) _ rfl w.heap.size 5 i0 _ 1 1 Tryd.underlying40 HI.out hz0 hz1 hz2 rfl (by decide) _ _ _ rfl (own_lit1 _ _ _ _ (wr.heap.size + 1) (by simp) (by have := hby.size; omega)) _ Ab i cb (bs T) rfl (RB.alloc (RB.alloc HRB.out _) _) (bs_one _) (by unfold maxLen; omega) (by omega) (by have := hby.size; simp; omega) ?_; intro v' w2 hown' hgr hat'; have B2 := Lib.hid (own_below ((hby.alloc hby.size _).alloc (by have := hby.size; simp; omega) _) (Nat.le_refl _) (own_lit1 _ _ _ _ (wr.heap.size + 1) (by simp) (by have := hby.size; omega)) (Nat.le_refl _) hgr); obtain ⟨A3, c3, rfl, hstr⟩ := HFIN.out v' w2 hown'; clear hown' hgr hat' hw hcell)
              go_ret
              exact ⟨rfl, B2.out⟩
end Go.Proofs.YtcnedljblljhoaaDoor.Utf
