/-
  The plain law of replies: what is wrong with a reply, what a reply's code is. No program is in sight. Conditions: none.
-/
import Derived.Test.YtkllfnaofapfnaaDoorProtChk
namespace Go.Proofs.YtkllfnaofapfnaaDoor.Prot
open Cod Utf

/-- a reply -/
structure Rp where
  err : Int
  ses : Int
  pre : List (ByteArray × Int)
  caret : Int
  cands : List ByteArray
  chosen : Int
  commit : ByteArray
  erase : Int
  taken : Bool
  data : List UInt8
def szB (s : ByteArray) : Bool := decide (s.size ≤ 4096)
def rngP (r : Rp) : Bool := (numB r.err && (numB r.ses && (numB r.caret && numB r.erase))) && (r.chosen == -1 || numB r.chosen) && r.pre.all (fun x => nb x.2 1 4)
def txtP (r : Rp) : Bool := r.pre.all (fun x => vt x.1) && r.cands.all vt && vt r.commit
def lngP (r : Rp) : Bool := r.pre.all (fun x => szB x.1) && r.cands.all szB && szB r.commit && (decide (r.data.length ≤ 69632) && (decide (r.pre.length ≤ 1000) && decide (r.cands.length ≤ 60)))
/-- what is wrong with a reply -/
def chkP (r : Rp) : Nat := if !rngP r then 6 else if !txtP r then 10 else if !lngP r then 2 else 0
def runC (x : ByteArray × Int) : List UInt8 := putT x.1.data.toList ++ put x.2.toNat
/-- a reply's code -/
def codeP (r : Rp) : List UInt8 :=
  put r.err.toNat ++ (put r.ses.toNat ++ (put r.pre.length ++ (r.pre.flatMap runC ++ (put r.caret.toNat ++ (put r.cands.length ++ (r.cands.flatMap (fun s => putT s.data.toList) ++ (put (zig r.chosen) ++ (putT r.commit.data.toList ++ (put r.erase.toNat ++ (put (bitN r.taken) ++ putT r.data))))))))))
def rp0 : Rp := ⟨0, 0, [], 0, [], 0, ⟨#[]⟩, 0, false, []⟩
/-- what a reply with nothing wrong is -/
structure OkayP (r : Rp) : Prop where
  err : 0 ≤ r.err ∧ r.err ≤ 2147483647
  ses : 0 ≤ r.ses ∧ r.ses ≤ 2147483647
  caret : 0 ≤ r.caret ∧ r.caret ≤ 2147483647
  erase : 0 ≤ r.erase ∧ r.erase ≤ 2147483647
  chosen : -1 ≤ r.chosen ∧ r.chosen ≤ 2147483647
  attr : ∀ x ∈ r.pre, 1 ≤ x.2 ∧ x.2 ≤ 4
  lpre : ∀ x ∈ r.pre, x.1.size ≤ 4096
  lcands : ∀ s ∈ r.cands, s.size ≤ 4096
  lcommit : r.commit.size ≤ 4096
  ldata : r.data.length ≤ 69632
  npre : r.pre.length ≤ 1000
  ncands : r.cands.length ≤ 60
theorem chkP_zero {r : Rp} (h : chkP r = 0) : rngP r = true ∧ txtP r = true ∧ lngP r = true := by
  unfold chkP at h
  rcases h2 : rngP r with _ | _
  · rw [h2] at h; cases h
  rcases h3 : txtP r with _ | _
  · rw [h2, h3] at h; cases h
  rcases h4 : lngP r with _ | _
  · rw [h2, h3, h4] at h; cases h
  exact ⟨rfl, rfl, rfl⟩
theorem okayP_of {r : Rp} (h : chkP r = 0) : OkayP r := by
  obtain ⟨hr, _, hl⟩ := chkP_zero h
  unfold rngP at hr
  unfold lngP at hl
  simp only [Bool.and_eq_true, Bool.or_eq_true, beq_iff_eq, decide_eq_true_eq, List.all_eq_true] at hr hl
  obtain ⟨⟨⟨a1, a2, a3, a4⟩, a5⟩, a6⟩ := hr
  obtain ⟨⟨⟨b1, b2⟩, b3⟩, b4, b5, b6⟩ := hl
  have n1 := of_decide_eq_true a1
  have n2 := of_decide_eq_true a2
  have n3 := of_decide_eq_true a3
  have n4 := of_decide_eq_true a4
  refine ⟨n1, n2, n3, n4, ?_, fun x hx => nb_eq (a6 x hx), fun x hx => of_decide_eq_true (b1 x hx), fun x hx => of_decide_eq_true (b2 x hx), of_decide_eq_true b3, b4, b5, b6⟩
  rcases a5 with e | e
  · omega
  · have := of_decide_eq_true e
    omega

/-- what the check of a run notes -/
def noteRun (S : Int → Bool) (x : ByteArray × Int) : Int → Bool := notedT (noted S 6 (nb x.2 1 4)) x.1
theorem noted_same' (S : Int → Bool) (e : Int) (b : Bool) : noted S e b e = (!b || S e) := by simp [noted]
theorem noted_other' (S : Int → Bool) {e z : Int} (b : Bool) (h : z ≠ e) : noted S e b z = S z := by simp [noted, h]
theorem notedT_ten (S : Int → Bool) (s : ByteArray) : notedT S s 10 = (!vt s || S 10) := by
  unfold notedT
  rw [noted_other' _ _ (by decide), noted_same']; rfl
theorem notedT_two (S : Int → Bool) (s : ByteArray) : notedT S s 2 = (!szB s || S 2) := by
  unfold notedT
  rw [noted_same', noted_other' _ _ (by decide)]; rfl
theorem notedT_else (S : Int → Bool) (s : ByteArray) {z : Int} (h : z ≠ 10) (h' : z ≠ 2) : notedT S s z = S z := by
  unfold notedT
  rw [noted_other' _ _ h', noted_other' _ _ h]
theorem fold1 (l : List (ByteArray × Int)) : ∀ S : Int → Bool, (l.foldl noteRun S) 1 = S 1 ∧ (l.foldl noteRun S) 6 = (!(l.all fun x => nb x.2 1 4) || S 6) ∧ (l.foldl noteRun S) 10 = (!(l.all fun x => vt x.1) || S 10) ∧ (l.foldl noteRun S) 2 = (!(l.all fun x => szB x.1) || S 2) := by
  induction l with
  | nil => intro S; simp
  | cons x l ih =>
    intro S
    obtain ⟨h1, h2, h3, h4⟩ := ih (noteRun S x)
    rw [List.foldl_cons, h1, h2, h3, h4]
    unfold noteRun
    rw [notedT_else _ _ (by decide) (by decide), notedT_else _ _ (by decide) (by decide), notedT_ten, notedT_two]
    rw [noted_other' _ _ (by decide), noted_same', noted_other' _ _ (by decide), noted_other' _ _ (by decide)]
    simp only [List.all_cons, Bool.not_and]
    refine ⟨trivial, ?_, ?_, ?_⟩
    · rw [← Bool.or_assoc, Bool.or_comm (!(nb x.2 1 4))]
    · rw [← Bool.or_assoc, Bool.or_comm (!(vt x.1))]
    · rw [← Bool.or_assoc, Bool.or_comm (!(szB x.1))]
theorem fold2 (l : List ByteArray) : ∀ S : Int → Bool, (l.foldl notedT S) 1 = S 1 ∧ (l.foldl notedT S) 6 = S 6 ∧ (l.foldl notedT S) 10 = (!(l.all vt) || S 10) ∧ (l.foldl notedT S) 2 = (!(l.all szB) || S 2) := by
  induction l with
  | nil => intro S; simp
  | cons x l ih =>
    intro S
    obtain ⟨h1, h2, h3, h4⟩ := ih (notedT S x)
    rw [List.foldl_cons, h1, h2, h3, h4]
    rw [notedT_else _ _ (by decide) (by decide), notedT_else _ _ (by decide) (by decide), notedT_ten, notedT_two]
    simp only [List.all_cons, Bool.not_and]
    refine ⟨trivial, trivial, ?_, ?_⟩
    · rw [← Bool.or_assoc, Bool.or_comm (!(vt x))]
    · rw [← Bool.or_assoc, Bool.or_comm (!(szB x))]
/-- all that the check of a reply notes -/
def notesP (q : Rp) (b : Bool) : Int → Bool :=
  noted (notedT (q.cands.foldl notedT (q.pre.foldl noteRun (noted (noted (fun _ => false) 6 (numB q.err && (numB q.ses && (numB q.caret && numB q.erase)))) 6 (q.chosen == -1 || numB q.chosen)))) q.commit) 2 b
theorem notesP_first (q : Rp) (b : Bool) (hb : b = (decide (q.data.length ≤ 69632) && (decide (q.pre.length ≤ 1000) && decide (q.cands.length ≤ 60)))) : firstOf (notesP q b) = ((chkP q : Nat) : Int) := by
  unfold notesP firstOf
  rw [noted_other' _ _ (by decide), noted_other' _ _ (by decide), noted_other' _ _ (by decide), noted_same']
  rw [notedT_else _ _ (by decide) (by decide), notedT_else _ _ (by decide) (by decide), notedT_ten, notedT_two]
  obtain ⟨a1, a2, a3, a4⟩ := fold2 q.cands (q.pre.foldl noteRun (noted (noted (fun _ => false) 6 (numB q.err && (numB q.ses && (numB q.caret && numB q.erase)))) 6 (q.chosen == -1 || numB q.chosen)))
  obtain ⟨b1, b2, b3, b4⟩ := fold1 q.pre (noted (noted (fun _ => false) 6 (numB q.err && (numB q.ses && (numB q.caret && numB q.erase)))) 6 (q.chosen == -1 || numB q.chosen))
  rw [a1, a2, a3, a4, b1, b2, b3, b4]
  rw [noted_other' _ _ (by decide), noted_other' _ _ (by decide), noted_same', noted_same', noted_other' _ _ (by decide), noted_other' _ _ (by decide), noted_other' _ _ (by decide), noted_other' _ _ (by decide)]
  unfold chkP rngP txtP lngP
  rw [← hb]
  generalize (numB q.err && (numB q.ses && (numB q.caret && numB q.erase))) = x1
  generalize (q.chosen == -1 || numB q.chosen) = x2
  generalize (q.pre.all fun x => nb x.2 1 4) = x3
  generalize (q.pre.all fun x => vt x.1) = x4
  generalize q.cands.all vt = x5
  generalize vt q.commit = x6
  generalize (q.pre.all fun x => szB x.1) = x7
  generalize q.cands.all szB = x8
  generalize szB q.commit = x9
  cases x1 <;> cases x2 <;> cases x3 <;> cases x4 <;> cases x5 <;> cases x6 <;> cases x7 <;> cases x8 <;> cases x9 <;> cases b <;> rfl
end Go.Proofs.YtkllfnaofapfnaaDoor.Prot
