/- On the way. -/
import Derived.Test.YtmkppkjikifdlaaGreatDoorTScTree
set_option linter.unusedVariables false
set_option linter.unusedSimpArgs false
namespace Go.Proofs.YtmkppkjikifdlaaGreatDoor.Sc
open Tk (Tok)
abbrev PR (α : Type) := Except (Nat × Int) (α × List Tok)
def bnd {α β : Type} (x : PR α) (f : α → List Tok → PR β) : PR β := match x with
 | .ok (a, r) => f a r
 | .error e => .error e
def giveP {α : Type} (l : List Tok) (e : Int) : PR α := .error (l.length, if l.length = 0 then 4 else e)
def isP (k : Int) (s : Str) : List Tok → Bool
 | t :: _ => t.kind == k && t.text == s
 | [] => false
def eatP (c : UInt8) (l : List Tok) : Option (List Tok) := if isP 5 [c] l = true then some l.tail else none
def mustP (c : UInt8) (l : List Tok) : PR Unit := match eatP c l with
 | some r => .ok ((), r)
 | none => giveP l 3
def nextP (k : Int) (l : List Tok) : PR Tok := match l with
 | t :: r => if t.kind = k then .ok (t, r) else giveP (t :: r) 3
 | [] => giveP [] 3
def moreS : Nat → List Tok → PR (List Str)
 | 0, l => .ok ([], l)
 | n + 1, l => match eatP 44 l with
  | none => .ok ([], l)
  | some r => bnd (nextP 4 r) fun t r => bnd (moreS n r) fun ts r => .ok (t.text :: ts, r)
def listP (l : List Tok) : PR (List Str) := match eatP 91 l with
 | none => bnd (nextP 4 l) fun t r => .ok ([t.text], r)
 | some r => bnd (nextP 4 r) fun t r => bnd (moreS r.length r) fun ts r => bnd (mustP 93 r) fun _ r => .ok (t.text :: ts, r)
def idxW (tab : List Str) (s : Str) : Nat := if tab.idxOf s < tab.length then tab.idxOf s else 0
def wordP (tab : List Str) (l : List Tok) : PR Nat := match l with
 | t :: r => if t.kind = 1 ∧ 0 < idxW tab t.text then .ok (idxW tab t.text, r) else giveP (t :: r) 3
 | [] => giveP [] 3
def tagsP : Nat → Nat → Nat → Nat → List Tok → PR (Nat × Nat)
 | 0, _, m, p, l => .ok ((m, p), l)
 | n + 1, k, m, p, l => match l with
  | t :: r =>
   if t.kind = 2 then
    if 0 < idxW matTab t.text ∧ m = 0 then tagsP n k (idxW matTab t.text) p r
    else if 0 < idxW parTab t.text ∧ p = 0 ∧ k ≠ 6 then tagsP n k m (idxW parTab t.text) r
    else giveP (t :: r) 3
   else .ok ((m, p), t :: r)
  | [] => .ok ((m, p), [])
def dfl (n : Nat) : Nat := if n = 0 then 1 else n
def moreT (f : List Tok → PR Tst) : Nat → List Tok → PR (List Tst)
 | 0, l => .ok ([], l)
 | n + 1, l => match eatP 44 l with
  | none => .ok ([], l)
  | some r => bnd (f r) fun t r => bnd (moreT f n r) fun ts r => .ok (t :: ts, r)
def testK (f : List Tok → PR Tst) (k : Nat) (r : List Tok) : PR Tst :=
 if k = 3 then bnd (f r) fun t r => .ok (⟨3, 0, 0, [], [], false, 0, [t]⟩, r)
 else if k = 4 ∨ k = 5 then bnd (mustP 40 r) fun _ r => bnd (f r) fun t r => bnd (moreT f r.length r) fun ts r => bnd (mustP 41 r) fun _ r => .ok (⟨k, 0, 0, [], [], false, 0, t :: ts⟩, r)
 else if k = 6 ∨ k = 7 ∨ k = 8 then bnd (tagsP r.length k 0 0 r) fun mp r => bnd (listP r) fun ns r => bnd (listP r) fun ks r => .ok (⟨k, dfl mp.1, if k = 6 then 0 else dfl mp.2, ns, ks, false, 0, []⟩, r)
 else if k = 9 then bnd (listP r) fun ns r => .ok (⟨9, 0, 0, ns, [], false, 0, []⟩, r)
 else if k = 10 then (if isP 2 overW r = true ∨ isP 2 underW r = true then bnd (nextP 3 r.tail) fun t r' => .ok (⟨10, 0, 0, [], [], isP 2 overW r, t.num, []⟩, r') else giveP r 3)
 else .ok (⟨k, 0, 0, [], [], false, 0, []⟩, r)
def testP : Nat → Nat → List Tok → PR Tst
 | 0, _, l => .error (l.length, 4)
 | n + 1, d, l => if 6 < d ∧ l ≠ [] then .error (l.length, 1) else bnd (wordP tstTab l) (testK (testP n (d + 1)))
def cmdsP (f : List Tok → PR Cmd) : Nat → List Tok → PR (List Cmd)
 | 0, l => .error (l.length, 4)
 | n + 1, l => match eatP 125 l with
  | some r => .ok ([], r)
  | none => bnd (f l) fun c r => bnd (cmdsP f n r) fun cs r => .ok (c :: cs, r)
def blockP (f : List Tok → PR Cmd) (l : List Tok) : PR (List Cmd) := bnd (mustP 123 l) fun _ r => cmdsP f (r.length + 1) r
def cmdK (b : List Tok → PR Cmd) (k : Nat) (r : List Tok) : PR Cmd :=
 if k = 2 then b r
 else if k = 1 ∨ k = 8 ∨ k = 9 then bnd (listP r) fun ts r => bnd (mustP 59 r) fun _ r => .ok (⟨k, ts, T0, [], []⟩, r)
 else if k = 5 ∨ k = 6 ∨ k = 7 then bnd (nextP 4 r) fun t r => bnd (mustP 59 r) fun _ r => .ok (⟨k, [t.text], T0, [], []⟩, r)
 else bnd (mustP 59 r) fun _ r => .ok (⟨k, [], T0, [], []⟩, r)
def elseK (f b : List Tok → PR Cmd) (t : Tst) (th : List Cmd) (r : List Tok) : PR Cmd :=
 if isP 1 elsifW r = true then bnd (b r.tail) fun c r => .ok (⟨2, [], t, th, [c]⟩, r)
 else if isP 1 elseW r = true then bnd (blockP f r.tail) fun el r => .ok (⟨2, [], t, th, el⟩, r)
 else .ok (⟨2, [], t, th, []⟩, r)
mutual
def commandP : Nat → Nat → List Tok → PR Cmd
 | 0, _, l => .error (l.length, 4)
 | n + 1, d, l => if 6 < d ∧ l ≠ [] then .error (l.length, 1) else bnd (wordP cmdTab l) (cmdK (branchP n d))
def branchP : Nat → Nat → List Tok → PR Cmd
 | 0, _, l => .error (l.length, 4)
 | n + 1, d, l => bnd (testP (l.length + 1) 1 l) fun t r => bnd (blockP (commandP n (d + 1)) r) (elseK (commandP n (d + 1)) (branchP n d) t)
end
def allP : Nat → List Tok → PR (List Cmd)
 | 0, l => .error (l.length, 4)
 | n + 1, l => if l = [] then .ok ([], []) else bnd (commandP (l.length + 1) 0 l) fun c r => bnd (allP n r) fun cs r => .ok (c :: cs, r)
def parseE (n : Nat) : PR (List Cmd) → List Cmd × Nat × Int
 | .ok (cs, _) => (cs, 0, 0)
 | .error (k, e) => ([], n - k, e)
def parseS (l : List Tok) : List Cmd × Nat × Int := parseE l.length (allP (l.length + 1) l)
def Less {α : Type} (d n : Nat) : PR α → Prop
 | .ok (_, r) => r.length + d ≤ n
 | .error (k, e) => k ≤ n ∧ e ≠ 0
theorem Less.mono {α : Type} {d d' n n' : Nat} {x : PR α} (h : Less d n x) (hn : n ≤ n') (hd : n + d' ≤ n' + d) : Less d' n' x := by
 cases x with
 | error e => exact ⟨Nat.le_trans h.1 hn, h.2⟩
 | ok p => have h' : p.2.length + d ≤ n := h; show p.2.length + d' ≤ n'; omega
theorem Less.give {α : Type} (l : List Tok) (e : Int) (d : Nat) (he : e ≠ 0 := by decide) : Less d l.length (giveP l e : PR α) := ⟨Nat.le_refl _, by show (if l.length = 0 then (4 : Int) else e) ≠ 0; by_cases h : l.length = 0 <;> simp [h, he]⟩
theorem Less.bnd {α β : Type} {d e n : Nat} {x : PR α} {f : α → List Tok → PR β} (h : Less d n x) (hf : ∀ a r, r.length + d ≤ n → Less e r.length (f a r)) : Less (d + e) n (bnd x f) := by
 cases x with
 | error e => exact h
 | ok p =>
  obtain ⟨a, r⟩ := p
  have h' : r.length + d ≤ n := h
  exact (hf a r h').mono (by omega) (by omega)
theorem isP_cons {k : Int} {s : Str} {l : List Tok} (h : isP k s l = true) : ∃ t r, l = t :: r ∧ t.kind = k ∧ t.text = s := by
 cases l with
 | nil => cases h
 | cons t r =>
  have h' : (t.kind == k && t.text == s) = true := h
  rw [Bool.and_eq_true, beq_iff_eq, beq_iff_eq] at h'
  exact ⟨t, r, rfl, h'.1, h'.2⟩
theorem eat_lt {c : UInt8} {l r : List Tok} (h : eatP c l = some r) : r.length + 1 = l.length := by
 unfold eatP at h
 split at h
 ·rename_i hi
  obtain ⟨t, q, rfl, -, -⟩ := isP_cons hi
  obtain rfl := Option.some.inj h
  rfl
 ·cases h
theorem less_must (c : UInt8) (l : List Tok) : Less 1 l.length (mustP c l) := by
 unfold mustP
 cases h : eatP c l with
 | none => exact Less.give l 3 1
 | some r => have := eat_lt h; show r.length + 1 ≤ l.length; omega
theorem less_next (k : Int) (l : List Tok) : Less 1 l.length (nextP k l) := by
 unfold nextP
 cases l with
 | nil => exact Less.give [] 3 1
 | cons t r =>
  show Less 1 _ (if t.kind = k then _ else _)
  split
  ·exact Nat.le_refl _
  ·exact Less.give (t :: r) 3 1
theorem less_ok {α : Type} (a : α) (r : List Tok) : Less 0 r.length (.ok (a, r) : PR α) := Nat.le_refl _
theorem less_moreS : ∀ (n : Nat) (l : List Tok), Less 0 l.length (moreS n l)
 | 0, l => less_ok _ l
 | n + 1, l => by
  rw [moreS]
  cases h : eatP 44 l with
  | none => exact less_ok _ l
  | some r =>
   have h1 := eat_lt h
   exact ((less_next 4 r).bnd (e := 0) fun t r2 h2 => (less_moreS n r2).bnd (e := 0) fun ts r3 h3 => less_ok _ r3).mono (by omega) (by omega)
theorem less_list (l : List Tok) : Less 1 l.length (listP l) := by
 unfold listP
 cases h : eatP 91 l with
 | none => exact (less_next 4 l).bnd (e := 0) fun t r _ => less_ok _ r
 | some r =>
  have h1 := eat_lt h
  exact ((less_next 4 r).bnd (e := 0) fun t r2 h2 => (less_moreS r2.length r2).bnd (e := 0) fun ts r3 h3 => ((less_must 93 r3).bnd (e := 0) fun _ r4 _ => less_ok _ r4).mono (Nat.le_refl _) (by omega)).mono (by omega) (by omega)
theorem less_word (tab : List Str) (l : List Tok) : Less 1 l.length (wordP tab l) := by
 unfold wordP
 cases l with
 | nil => exact Less.give [] 3 1
 | cons t r =>
  show Less 1 _ (if _ then _ else _)
  split
  ·exact Nat.le_refl _
  ·exact Less.give (t :: r) 3 1
theorem less_tags : ∀ (n k m p : Nat) (l : List Tok), Less 0 l.length (tagsP n k m p l)
 | 0, _, _, _, l => less_ok _ l
 | n + 1, k, m, p, [] => less_ok _ []
 | n + 1, k, m, p, t :: r => by
  show Less 0 _ (if _ then (if _ then _ else if _ then _ else _) else _)
  split
  ·split
   ·exact (less_tags n k _ p r).mono (by simp) (by simp)
   ·split
    ·exact (less_tags n k m _ r).mono (by simp) (by simp)
    ·exact Less.give (t :: r) 3 0
  ·exact less_ok _ _
theorem less_moreT {f : List Tok → PR Tst} (hf : ∀ l, Less 1 l.length (f l)) : ∀ (n : Nat) (l : List Tok), Less 0 l.length (moreT f n l)
 | 0, l => less_ok _ l
 | n + 1, l => by
  rw [moreT]
  cases h : eatP 44 l with
  | none => exact less_ok _ l
  | some r =>
   have h1 := eat_lt h
   exact ((hf r).bnd (e := 0) fun t r2 h2 => (less_moreT hf n r2).bnd (e := 0) fun ts r3 h3 => less_ok _ r3).mono (by omega) (by omega)
theorem less_testK {f : List Tok → PR Tst} (ih : ∀ l, Less 1 l.length (f l)) (k : Nat) (r : List Tok) : Less 0 r.length (testK f k r) := by
 unfold testK
 split
 ·exact ((ih r).bnd (e := 0) fun t r2 h2 => less_ok _ r2).mono (Nat.le_refl _) (by omega)
 ·split
  ·exact ((less_must 40 r).bnd (e := 0) fun _ r2 h2 => ((ih r2).bnd (e := 0) fun t r3 h3 => ((less_moreT ih r3.length r3).bnd (e := 0) fun ts r4 h4 => ((less_must 41 r4).bnd (e := 0) fun _ r5 _ => less_ok _ r5).mono (Nat.le_refl _) (by omega)).mono (Nat.le_refl _) (by omega)).mono (Nat.le_refl _) (by omega)).mono (Nat.le_refl _) (by omega)
  ·split
   ·exact ((less_tags r.length k 0 0 r).bnd (e := 0) fun mp r2 h2 => ((less_list r2).bnd (e := 0) fun ns r3 h3 => ((less_list r3).bnd (e := 0) fun ks r4 h4 => less_ok _ r4).mono (Nat.le_refl _) (by omega)).mono (Nat.le_refl _) (by omega)).mono (Nat.le_refl _) (by omega)
   ·split
    ·exact ((less_list r).bnd (e := 0) fun ns r3 h3 => less_ok _ r3).mono (Nat.le_refl _) (by omega)
    ·split
     ·split
      ·rename_i hi
       obtain ⟨t, q, rfl⟩ : ∃ t q, r = t :: q := by
        rcases hi with hi | hi <;> (obtain ⟨t, q, h, -, -⟩ := isP_cons hi; exact ⟨t, q, h⟩)
       exact ((less_next 3 q).bnd (e := 0) fun t r2 h2 => less_ok _ r2).mono (by simp) (by simp; omega)
      ·exact Less.give r 3 0
     ·exact less_ok _ r
theorem less_test : ∀ (n d : Nat) (l : List Tok), Less 1 l.length (testP n d l)
 | 0, d, l => ⟨Nat.le_refl _, by show (4 : Int) ≠ 0; decide⟩
 | n + 1, d, l => by
  rw [testP]
  split
  ·exact ⟨Nat.le_refl _, by show (1 : Int) ≠ 0; decide⟩
  ·exact (less_word tstTab l).bnd (e := 0) fun k r _ => less_testK (less_test n (d + 1)) k r
theorem less_cmds {f : List Tok → PR Cmd} (hf : ∀ l, Less 1 l.length (f l)) : ∀ (n : Nat) (l : List Tok), Less 1 l.length (cmdsP f n l)
 | 0, l => ⟨Nat.le_refl _, by show (4 : Int) ≠ 0; decide⟩
 | n + 1, l => by
  rw [cmdsP]
  cases h : eatP 125 l with
  | some r => have h1 := eat_lt h; show r.length + 1 ≤ l.length; omega
  | none => exact ((hf l).bnd (e := 1) fun c r2 h2 => (less_cmds hf n r2).bnd (e := 0) fun ts r3 h3 => less_ok _ r3).mono (Nat.le_refl _) (by omega)
theorem less_block {f : List Tok → PR Cmd} (hf : ∀ l, Less 1 l.length (f l)) (l : List Tok) : Less 2 l.length (blockP f l) :=
 (less_must 123 l).bnd (e := 1) fun _ r _ => less_cmds hf (r.length + 1) r
theorem less_cmdK {b : List Tok → PR Cmd} (hb : ∀ l, Less 1 l.length (b l)) (k : Nat) (r : List Tok) : Less 0 r.length (cmdK b k r) := by
 unfold cmdK
 split
 ·exact (hb r).mono (Nat.le_refl _) (by omega)
 ·split
  ·exact ((less_list r).bnd (e := 1) fun ts r2 h2 => (less_must 59 r2).bnd (e := 0) fun _ r3 h3 => less_ok _ r3).mono (Nat.le_refl _) (by omega)
  ·split
   ·exact ((less_next 4 r).bnd (e := 1) fun ts r2 h2 => (less_must 59 r2).bnd (e := 0) fun _ r3 h3 => less_ok _ r3).mono (Nat.le_refl _) (by omega)
   ·exact ((less_must 59 r).bnd (e := 0) fun _ r3 h3 => less_ok _ r3).mono (Nat.le_refl _) (by omega)
theorem less_elseK {f b : List Tok → PR Cmd} (hf : ∀ l, Less 1 l.length (f l)) (hb : ∀ l, Less 1 l.length (b l)) (t : Tst) (th : List Cmd) (r : List Tok) : Less 0 r.length (elseK f b t th r) := by
 unfold elseK
 split
 ·rename_i hi
  obtain ⟨t, q, rfl, -, -⟩ := isP_cons hi
  exact ((hb q).bnd (e := 0) fun c r3 _ => less_ok _ r3).mono (by simp) (by simp; omega)
 ·split
  ·rename_i hi
   obtain ⟨t, q, rfl, -, -⟩ := isP_cons hi
   exact ((less_block hf q).bnd (e := 0) fun c r3 _ => less_ok _ r3).mono (by simp) (by simp; omega)
  ·exact less_ok _ r
theorem less_both : ∀ (n d : Nat) (l : List Tok), Less 1 l.length (commandP n d l) ∧ Less 1 l.length (branchP n d l)
 | 0, d, l => ⟨⟨Nat.le_refl _, by show (4 : Int) ≠ 0; decide⟩, ⟨Nat.le_refl _, by show (4 : Int) ≠ 0; decide⟩⟩
 | n + 1, d, l => by
  have ihc := fun d l => (less_both n d l).1
  have ihb := fun d l => (less_both n d l).2
  refine ⟨?_, ?_⟩
  ·rw [commandP]
   split
   ·exact ⟨Nat.le_refl _, by show (1 : Int) ≠ 0; decide⟩
   ·exact (less_word cmdTab l).bnd (e := 0) fun k r _ => less_cmdK (ihb d) k r
  ·rw [branchP]
   exact (less_test (l.length + 1) 1 l).bnd (e := 0) fun t r _ => ((less_block (ihc (d + 1)) r).bnd (e := 0) fun th r2 _ => less_elseK (ihc (d + 1)) (ihb d) t th r2).mono (Nat.le_refl _) (by omega)
theorem less_command (n d : Nat) (l : List Tok) : Less 1 l.length (commandP n d l) := (less_both n d l).1
end Go.Proofs.YtmkppkjikifdlaaGreatDoor.Sc
