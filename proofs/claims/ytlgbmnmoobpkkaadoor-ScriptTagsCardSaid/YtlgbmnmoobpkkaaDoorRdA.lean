/-
  DERIVED. Merged of: ScParse, ScBack, ScRd, ScRd2, ScRd3, ScRd4, ScRd5, ScRd6, ScRd7, ScRd8.
-/
import Derived.Test.YtlgbmnmoobpkkaaDoorScTree
import Derived.Test.YtlgbmnmoobpkkaaDoorScTest
import Derived.Lib.BufferOwn
import Derived.Deep.QuietTactic
import Derived.Deep.CutBlock
import Derived.BigQuiet
import Derived.Handy
import Derived.Test.YtlgbmnmoobpkkaaDoorScTstH
import Derived.Test.YtlgbmnmoobpkkaaDoorScWt
import Derived.Test.YtlgbmnmoobpkkaaDoorShelf
import Derived.Lib.SlicesS
import Derived.Test.YtlgbmnmoobpkkaaDoorScCmds
import Derived.Deep.RegionHeld3
namespace Go.Proofs.YtlgbmnmoobpkkaaDoor.Sc
open Tk (Tok)

/-- what a part of the parser answers: what it read, and what is left; or how many tokens are left where it gave up, and why -/
abbrev PR (α : Type) := Except (Nat × Int) (α × List Tok)
def bnd {α β : Type} (x : PR α) (f : α → List Tok → PR β) : PR β := match x with
  | .ok (a, r) => f a r
  | .error e => .error e
theorem bnd_ok {α β : Type} (a : α) (r : List Tok) (f : α → List Tok → PR β) : bnd (.ok (a, r)) f = f a r := rfl
theorem bnd_err {α β : Type} (e : Nat × Int) (f : α → List Tok → PR β) : bnd (.error e) f = .error e := rfl
theorem bnd_inv {α β : Type} {x : PR α} {f : α → List Tok → PR β} {p : β × List Tok} (h : bnd x f = .ok p) : ∃ a r, x = .ok (a, r) ∧ f a r = .ok p := by
  cases x with
  | error e => cases h
  | ok q => obtain ⟨a, r⟩ := q; exact ⟨a, r, rfl, h⟩
def giveP {α : Type} (l : List Tok) (e : Int) : PR α := .error (l.length, if l.length = 0 then 4 else e)
def isP (k : Int) (s : Str) : List Tok → Bool
  | t :: _ => t.kind == k && t.text == s
  | [] => false
def eatP (c : UInt8) (l : List Tok) : Option (List Tok) := if isP 5 [c] l = true then some l.tail else none
def mustP (c : UInt8) (l : List Tok) : PR Unit := match eatP c l with
  | some r => .ok ((), r)
  | none => giveP l 3
def nextP (k : Int) (l : List Tok) : PR Tok := match l with
  | t :: r => if t.kind = k then .ok (t, r) else giveP (t :: r) 3
  | [] => giveP [] 3
/-- the other ones of a list -/
def moreS : Nat → List Tok → PR (List Str)
  | 0, l => .ok ([], l)
  | n + 1, l => match eatP 44 l with
    | none => .ok ([], l)
    | some r => bnd (nextP 4 r) fun t r => bnd (moreS n r) fun ts r => .ok (t.text :: ts, r)
def listP (l : List Tok) : PR (List Str) := match eatP 91 l with
  | none => bnd (nextP 4 l) fun t r => .ok ([t.text], r)
  | some r => bnd (nextP 4 r) fun t r => bnd (moreS r.length r) fun ts r => bnd (mustP 93 r) fun _ r => .ok (t.text :: ts, r)
/-- a word's place in a table; 0: none -/
def idxW (tab : List Str) (s : Str) : Nat := if tab.idxOf s < tab.length then tab.idxOf s else 0
def wordP (tab : List Str) (l : List Tok) : PR Nat := match l with
  | t :: r => if t.kind = 1 ∧ 0 < idxW tab t.text then .ok (idxW tab t.text, r) else giveP (t :: r) 3
  | [] => giveP [] 3
def tagsP : Nat → Nat → Nat → Nat → List Tok → PR (Nat × Nat)
  | 0, _, m, p, l => .ok ((m, p), l)
  | n + 1, k, m, p, l => match l with
    | t :: r =>
      if t.kind = 2 then
        if 0 < idxW matTab t.text ∧ m = 0 then tagsP n k (idxW matTab t.text) p r
        else if 0 < idxW parTab t.text ∧ p = 0 ∧ k ≠ 6 then tagsP n k m (idxW parTab t.text) r
        else giveP (t :: r) 3
      else .ok ((m, p), t :: r)
    | [] => .ok ((m, p), [])
def dfl (n : Nat) : Nat := if n = 0 then 1 else n
def moreT (f : List Tok → PR Tst) : Nat → List Tok → PR (List Tst)
  | 0, l => .ok ([], l)
  | n + 1, l => match eatP 44 l with
    | none => .ok ([], l)
    | some r => bnd (f r) fun t r => bnd (moreT f n r) fun ts r => .ok (t :: ts, r)
/-- behind a test's word -/
def testK (f : List Tok → PR Tst) (k : Nat) (r : List Tok) : PR Tst :=
  if k = 3 then bnd (f r) fun t r => .ok (⟨3, 0, 0, [], [], false, 0, [t]⟩, r)
  else if k = 4 ∨ k = 5 then bnd (mustP 40 r) fun _ r => bnd (f r) fun t r => bnd (moreT f r.length r) fun ts r => bnd (mustP 41 r) fun _ r => .ok (⟨k, 0, 0, [], [], false, 0, t :: ts⟩, r)
  else if k = 6 ∨ k = 7 ∨ k = 8 then bnd (tagsP r.length k 0 0 r) fun mp r => bnd (listP r) fun ns r => bnd (listP r) fun ks r => .ok (⟨k, dfl mp.1, if k = 6 then 0 else dfl mp.2, ns, ks, false, 0, []⟩, r)
  else if k = 9 then bnd (listP r) fun ns r => .ok (⟨9, 0, 0, ns, [], false, 0, []⟩, r)
  else if k = 10 then (if isP 2 overW r = true ∨ isP 2 underW r = true then bnd (nextP 3 r.tail) fun t r' => .ok (⟨10, 0, 0, [], [], isP 2 overW r, t.num, []⟩, r') else giveP r 3)
  else .ok (⟨k, 0, 0, [], [], false, 0, []⟩, r)
def testP : Nat → Nat → List Tok → PR Tst
  | 0, _, l => .error (l.length, 4)
  | n + 1, d, l => if 6 < d ∧ l ≠ [] then .error (l.length, 1) else bnd (wordP tstTab l) (testK (testP n (d + 1)))
def cmdsP (f : List Tok → PR Cmd) : Nat → List Tok → PR (List Cmd)
  | 0, l => .error (l.length, 4)
  | n + 1, l => match eatP 125 l with
    | some r => .ok ([], r)
    | none => bnd (f l) fun c r => bnd (cmdsP f n r) fun cs r => .ok (c :: cs, r)
def blockP (f : List Tok → PR Cmd) (l : List Tok) : PR (List Cmd) := bnd (mustP 123 l) fun _ r => cmdsP f (r.length + 1) r
/-- behind a command's word -/
def cmdK (b : List Tok → PR Cmd) (k : Nat) (r : List Tok) : PR Cmd :=
  if k = 2 then b r
  else if k = 1 ∨ k = 8 ∨ k = 9 then bnd (listP r) fun ts r => bnd (mustP 59 r) fun _ r => .ok (⟨k, ts, T0, [], []⟩, r)
  else if k = 5 ∨ k = 6 ∨ k = 7 then bnd (nextP 4 r) fun t r => bnd (mustP 59 r) fun _ r => .ok (⟨k, [t.text], T0, [], []⟩, r)
  else bnd (mustP 59 r) fun _ r => .ok (⟨k, [], T0, [], []⟩, r)
/-- behind an If's test and block -/
def elseK (f b : List Tok → PR Cmd) (t : Tst) (th : List Cmd) (r : List Tok) : PR Cmd :=
  if isP 1 elsifW r = true then bnd (b r.tail) fun c r => .ok (⟨2, [], t, th, [c]⟩, r)
  else if isP 1 elseW r = true then bnd (blockP f r.tail) fun el r => .ok (⟨2, [], t, th, el⟩, r)
  else .ok (⟨2, [], t, th, []⟩, r)
mutual
def commandP : Nat → Nat → List Tok → PR Cmd
  | 0, _, l => .error (l.length, 4)
  | n + 1, d, l => if 6 < d ∧ l ≠ [] then .error (l.length, 1) else bnd (wordP cmdTab l) (cmdK (branchP n d))
def branchP : Nat → Nat → List Tok → PR Cmd
  | 0, _, l => .error (l.length, 4)
  | n + 1, d, l => bnd (testP (l.length + 1) 1 l) fun t r => bnd (blockP (commandP n (d + 1)) r) (elseK (commandP n (d + 1)) (branchP n d) t)
end
def allP : Nat → List Tok → PR (List Cmd)
  | 0, l => .error (l.length, 4)
  | n + 1, l => if l = [] then .ok ([], []) else bnd (commandP (l.length + 1) 0 l) fun c r => bnd (allP n r) fun cs r => .ok (c :: cs, r)
/-- what Parse answers to tokens that may be: commands, a place, an error -/
def parseE (n : Nat) : PR (List Cmd) → List Cmd × Nat × Int
  | .ok (cs, _) => (cs, 0, 0)
  | .error (k, e) => ([], n - k, e)
def parseS (l : List Tok) : List Cmd × Nat × Int := parseE l.length (allP (l.length + 1) l)

/-! what is left gets less -/
/-- less is left than l has, by d tokens at least; an error's place lies in l -/
def Less {α : Type} (d n : Nat) : PR α → Prop
  | .ok (_, r) => r.length + d ≤ n
  | .error (k, e) => k ≤ n ∧ e ≠ 0
theorem Less.mono {α : Type} {d d' n n' : Nat} {x : PR α} (h : Less d n x) (hn : n ≤ n') (hd : n + d' ≤ n' + d) : Less d' n' x := by
  cases x with
  | error e => exact ⟨Nat.le_trans h.1 hn, h.2⟩
  | ok p => have h' : p.2.length + d ≤ n := h; show p.2.length + d' ≤ n'; omega
theorem Less.give {α : Type} (l : List Tok) (e : Int) (d : Nat) (he : e ≠ 0 := by decide) : Less d l.length (giveP l e : PR α) := ⟨Nat.le_refl _, by show (if l.length = 0 then (4 : Int) else e) ≠ 0; by_cases h : l.length = 0 <;> simp [h, he]⟩
theorem Less.bnd {α β : Type} {d e n : Nat} {x : PR α} {f : α → List Tok → PR β} (h : Less d n x) (hf : ∀ a r, r.length + d ≤ n → Less e r.length (f a r)) : Less (d + e) n (bnd x f) := by
  cases x with
  | error e => exact h
  | ok p =>
    obtain ⟨a, r⟩ := p
    have h' : r.length + d ≤ n := h
    exact (hf a r h').mono (by omega) (by omega)
theorem isP_cons {k : Int} {s : Str} {l : List Tok} (h : isP k s l = true) : ∃ t r, l = t :: r ∧ t.kind = k ∧ t.text = s := by
  cases l with
  | nil => cases h
  | cons t r =>
    have h' : (t.kind == k && t.text == s) = true := h
    rw [Bool.and_eq_true, beq_iff_eq, beq_iff_eq] at h'
    exact ⟨t, r, rfl, h'.1, h'.2⟩
theorem eat_some {c : UInt8} {l r : List Tok} (h : eatP c l = some r) : isP 5 [c] l = true ∧ l.tail = r := by
  unfold eatP at h
  split at h
  · exact ⟨by assumption, Option.some.inj h⟩
  · cases h
theorem eat_lt {c : UInt8} {l r : List Tok} (h : eatP c l = some r) : r.length + 1 = l.length := by
  unfold eatP at h
  split at h
  · rename_i hi
    obtain ⟨t, q, rfl, -, -⟩ := isP_cons hi
    obtain rfl := Option.some.inj h
    rfl
  · cases h
theorem less_must (c : UInt8) (l : List Tok) : Less 1 l.length (mustP c l) := by
  unfold mustP
  cases h : eatP c l with
  | none => exact Less.give l 3 1
  | some r => have := eat_lt h; show r.length + 1 ≤ l.length; omega
theorem less_next (k : Int) (l : List Tok) : Less 1 l.length (nextP k l) := by
  unfold nextP
  cases l with
  | nil => exact Less.give [] 3 1
  | cons t r =>
    show Less 1 _ (if t.kind = k then _ else _)
    split
    · exact Nat.le_refl _
    · exact Less.give (t :: r) 3 1
theorem less_ok {α : Type} (a : α) (r : List Tok) : Less 0 r.length (.ok (a, r) : PR α) := Nat.le_refl _
theorem less_moreS : ∀ (n : Nat) (l : List Tok), Less 0 l.length (moreS n l)
  | 0, l => less_ok _ l
  | n + 1, l => by
    rw [moreS]
    cases h : eatP 44 l with
    | none => exact less_ok _ l
    | some r =>
      have h1 := eat_lt h
      exact ((less_next 4 r).bnd (e := 0) fun t r2 h2 => (less_moreS n r2).bnd (e := 0) fun ts r3 h3 => less_ok _ r3).mono (by omega) (by omega)
theorem less_list (l : List Tok) : Less 1 l.length (listP l) := by
  unfold listP
  cases h : eatP 91 l with
  | none => exact (less_next 4 l).bnd (e := 0) fun t r _ => less_ok _ r
  | some r =>
    have h1 := eat_lt h
    exact ((less_next 4 r).bnd (e := 0) fun t r2 h2 => (less_moreS r2.length r2).bnd (e := 0) fun ts r3 h3 => ((less_must 93 r3).bnd (e := 0) fun _ r4 _ => less_ok _ r4).mono (Nat.le_refl _) (by omega)).mono (by omega) (by omega)
theorem less_word (tab : List Str) (l : List Tok) : Less 1 l.length (wordP tab l) := by
  unfold wordP
  cases l with
  | nil => exact Less.give [] 3 1
  | cons t r =>
    show Less 1 _ (if _ then _ else _)
    split
    · exact Nat.le_refl _
    · exact Less.give (t :: r) 3 1
theorem less_tags : ∀ (n k m p : Nat) (l : List Tok), Less 0 l.length (tagsP n k m p l)
  | 0, _, _, _, l => less_ok _ l
  | n + 1, k, m, p, [] => less_ok _ []
  | n + 1, k, m, p, t :: r => by
    show Less 0 _ (if _ then (if _ then _ else if _ then _ else _) else _)
    split
    · split
      · exact (less_tags n k _ p r).mono (by simp) (by simp)
      · split
        · exact (less_tags n k m _ r).mono (by simp) (by simp)
        · exact Less.give (t :: r) 3 0
    · exact less_ok _ _
theorem less_moreT {f : List Tok → PR Tst} (hf : ∀ l, Less 1 l.length (f l)) : ∀ (n : Nat) (l : List Tok), Less 0 l.length (moreT f n l)
  | 0, l => less_ok _ l
  | n + 1, l => by
    rw [moreT]
    cases h : eatP 44 l with
    | none => exact less_ok _ l
    | some r =>
      have h1 := eat_lt h
      exact ((hf r).bnd (e := 0) fun t r2 h2 => (less_moreT hf n r2).bnd (e := 0) fun ts r3 h3 => less_ok _ r3).mono (by omega) (by omega)
theorem less_testK {f : List Tok → PR Tst} (ih : ∀ l, Less 1 l.length (f l)) (k : Nat) (r : List Tok) : Less 0 r.length (testK f k r) := by
  unfold testK
  split
  · exact ((ih r).bnd (e := 0) fun t r2 h2 => less_ok _ r2).mono (Nat.le_refl _) (by omega)
  · split
    · exact ((less_must 40 r).bnd (e := 0) fun _ r2 h2 => ((ih r2).bnd (e := 0) fun t r3 h3 => ((less_moreT ih r3.length r3).bnd (e := 0) fun ts r4 h4 => ((less_must 41 r4).bnd (e := 0) fun _ r5 _ => less_ok _ r5).mono (Nat.le_refl _) (by omega)).mono (Nat.le_refl _) (by omega)).mono (Nat.le_refl _) (by omega)).mono (Nat.le_refl _) (by omega)
    · split
      · exact ((less_tags r.length k 0 0 r).bnd (e := 0) fun mp r2 h2 => ((less_list r2).bnd (e := 0) fun ns r3 h3 => ((less_list r3).bnd (e := 0) fun ks r4 h4 => less_ok _ r4).mono (Nat.le_refl _) (by omega)).mono (Nat.le_refl _) (by omega)).mono (Nat.le_refl _) (by omega)
      · split
        · exact ((less_list r).bnd (e := 0) fun ns r3 h3 => less_ok _ r3).mono (Nat.le_refl _) (by omega)
        · split
          · split
            · rename_i hi
              obtain ⟨t, q, rfl⟩ : ∃ t q, r = t :: q := by
                rcases hi with hi | hi <;> (obtain ⟨t, q, h, -, -⟩ := isP_cons hi; exact ⟨t, q, h⟩)
              exact ((less_next 3 q).bnd (e := 0) fun t r2 h2 => less_ok _ r2).mono (by simp) (by simp; omega)
            · exact Less.give r 3 0
          · exact less_ok _ r
theorem less_test : ∀ (n d : Nat) (l : List Tok), Less 1 l.length (testP n d l)
  | 0, d, l => ⟨Nat.le_refl _, by show (4 : Int) ≠ 0; decide⟩
  | n + 1, d, l => by
    rw [testP]
    split
    · exact ⟨Nat.le_refl _, by show (1 : Int) ≠ 0; decide⟩
    · exact (less_word tstTab l).bnd (e := 0) fun k r _ => less_testK (less_test n (d + 1)) k r
theorem less_cmds {f : List Tok → PR Cmd} (hf : ∀ l, Less 1 l.length (f l)) : ∀ (n : Nat) (l : List Tok), Less 1 l.length (cmdsP f n l)
  | 0, l => ⟨Nat.le_refl _, by show (4 : Int) ≠ 0; decide⟩
  | n + 1, l => by
    rw [cmdsP]
    cases h : eatP 125 l with
    | some r => have h1 := eat_lt h; show r.length + 1 ≤ l.length; omega
    | none => exact ((hf l).bnd (e := 1) fun c r2 h2 => (less_cmds hf n r2).bnd (e := 0) fun ts r3 h3 => less_ok _ r3).mono (Nat.le_refl _) (by omega)
theorem less_block {f : List Tok → PR Cmd} (hf : ∀ l, Less 1 l.length (f l)) (l : List Tok) : Less 2 l.length (blockP f l) :=
  (less_must 123 l).bnd (e := 1) fun _ r _ => less_cmds hf (r.length + 1) r
theorem less_cmdK {b : List Tok → PR Cmd} (hb : ∀ l, Less 1 l.length (b l)) (k : Nat) (r : List Tok) : Less 0 r.length (cmdK b k r) := by
  unfold cmdK
  split
  · exact (hb r).mono (Nat.le_refl _) (by omega)
  · split
    · exact ((less_list r).bnd (e := 1) fun ts r2 h2 => (less_must 59 r2).bnd (e := 0) fun _ r3 h3 => less_ok _ r3).mono (Nat.le_refl _) (by omega)
    · split
      · exact ((less_next 4 r).bnd (e := 1) fun ts r2 h2 => (less_must 59 r2).bnd (e := 0) fun _ r3 h3 => less_ok _ r3).mono (Nat.le_refl _) (by omega)
      · exact ((less_must 59 r).bnd (e := 0) fun _ r3 h3 => less_ok _ r3).mono (Nat.le_refl _) (by omega)
theorem less_elseK {f b : List Tok → PR Cmd} (hf : ∀ l, Less 1 l.length (f l)) (hb : ∀ l, Less 1 l.length (b l)) (t : Tst) (th : List Cmd) (r : List Tok) : Less 0 r.length (elseK f b t th r) := by
  unfold elseK
  split
  · rename_i hi
    obtain ⟨t, q, rfl, -, -⟩ := isP_cons hi
    exact ((hb q).bnd (e := 0) fun c r3 _ => less_ok _ r3).mono (by simp) (by simp; omega)
  · split
    · rename_i hi
      obtain ⟨t, q, rfl, -, -⟩ := isP_cons hi
      exact ((less_block hf q).bnd (e := 0) fun c r3 _ => less_ok _ r3).mono (by simp) (by simp; omega)
    · exact less_ok _ r
theorem less_both : ∀ (n d : Nat) (l : List Tok), Less 1 l.length (commandP n d l) ∧ Less 1 l.length (branchP n d l)
  | 0, d, l => ⟨⟨Nat.le_refl _, by show (4 : Int) ≠ 0; decide⟩, ⟨Nat.le_refl _, by show (4 : Int) ≠ 0; decide⟩⟩
  | n + 1, d, l => by
    have ihc := fun d l => (less_both n d l).1
    have ihb := fun d l => (less_both n d l).2
    refine ⟨?_, ?_⟩
    · rw [commandP]
      split
      · exact ⟨Nat.le_refl _, by show (1 : Int) ≠ 0; decide⟩
      · exact (less_word cmdTab l).bnd (e := 0) fun k r _ => less_cmdK (ihb d) k r
    · rw [branchP]
      exact (less_test (l.length + 1) 1 l).bnd (e := 0) fun t r _ => ((less_block (ihc (d + 1)) r).bnd (e := 0) fun th r2 _ => less_elseK (ihc (d + 1)) (ihb d) t th r2).mono (Nat.le_refl _) (by omega)
theorem less_command (n d : Nat) (l : List Tok) : Less 1 l.length (commandP n d l) := (less_both n d l).1
theorem less_branch (n d : Nat) (l : List Tok) : Less 1 l.length (branchP n d l) := (less_both n d l).2
theorem less_all : ∀ (n : Nat) (l : List Tok), Less 0 l.length (allP n l)
  | 0, l => ⟨Nat.le_refl _, by show (4 : Int) ≠ 0; decide⟩
  | n + 1, l => by
    rw [allP]
    split
    · exact Nat.zero_le _
    · exact ((less_command (l.length + 1) 0 l).bnd (e := 0) fun c r2 h2 => (less_all n r2).bnd (e := 0) fun cs r3 _ => less_ok _ r3).mono (Nat.le_refl _) (by omega)
theorem parse_place (l : List Tok) : (parseS l).2.1 ≤ l.length ∧ ((parseS l).2.2 ≠ 0 → (parseS l).1 = []) := by
  unfold parseS
  cases allP (l.length + 1) l with
  | error p => exact ⟨Nat.sub_le _ _, fun _ => rfl⟩
  | ok p => exact ⟨Nat.zero_le _, fun h => absurd rfl h⟩
end Go.Proofs.YtlgbmnmoobpkkaaDoor.Sc
namespace Go.Proofs.YtlgbmnmoobpkkaaDoor.Sc
open Tk (Tok)

/-- 'f reads x as v, whatever stands behind it that C allows; and x torn is too short' (texts of less than n tokens) -/
structure Rd {α : Type} (n : Nat) (f : List Tok → PR α) (x : List Tok) (v : α) (C : List Tok → Prop) : Prop where
  back : ∀ r, C r → (x ++ r).length < n → f (x ++ r) = .ok (v, r)
  torn : ∀ k, k < x.length → k < n → f (x.take k) = .error (0, 4)
/-- too short, or read to the end -/
def TornOr {α : Type} (x : PR α) : Prop := x = .error (0, 4) ∨ ∃ v, x = .ok (v, [])
structure Lo {α : Type} (n : Nat) (f : List Tok → PR α) (x : List Tok) (v : α) (C : List Tok → Prop) : Prop where
  back : ∀ r, C r → (x ++ r).length < n → f (x ++ r) = .ok (v, r)
  torn : ∀ k, k < x.length → k < n → TornOr (f (x.take k))
def Any : List Tok → Prop := fun _ => True
theorem Rd.lo {α : Type} {n : Nat} {f : List Tok → PR α} {x : List Tok} {v : α} {C : List Tok → Prop} (h : Rd n f x v C) : Lo n f x v C := ⟨h.back, fun k h1 h2 => .inl (h.torn k h1 h2)⟩
theorem Rd.less {α : Type} {n n' : Nat} {f : List Tok → PR α} {x : List Tok} {v : α} {C : List Tok → Prop} (h : Rd n f x v C) (hn : n' ≤ n) : Rd n' f x v C := ⟨fun r h1 h2 => h.back r h1 (by omega), fun k h1 h2 => h.torn k h1 (by omega)⟩
theorem Lo.comb {α β : Type} {n n' : Nat} {f : List Tok → PR α} {g : α → List Tok → PR β} {x y : List Tok} {v : α} {u : β} {C C' : List Tok → Prop} (h : Lo n f x v C) (hg : Rd n' (g v) y u C') (hn : n ≤ n' + x.length) (h0 : ∀ a, g a [] = .error (0, 4)) (hC : ∀ r, C' r → C (y ++ r)) (hC2 : ∀ j, j < y.length → C (y.take j)) :
    Rd n (fun l => bnd (f l) g) (x ++ y) u C' := by
  refine ⟨fun r hr hl => ?_, fun k hk hkn => ?_⟩
  · show bnd (f (x ++ y ++ r)) g = _
    have hl' : x.length + (y.length + r.length) < n := by simpa [Nat.add_assoc] using hl
    rw [List.append_assoc, h.back (y ++ r) (hC r hr) (by simp; omega), bnd_ok]
    exact hg.back r hr (by simp; omega)
  · show bnd (f ((x ++ y).take k)) g = _
    rw [List.length_append] at hk
    rw [List.take_append]
    by_cases hkx : k < x.length
    · rw [show k - x.length = 0 by omega, List.take_zero, List.append_nil]
      rcases h.torn k hkx hkn with e | ⟨a, e⟩
      · rw [e]; rfl
      · rw [e, bnd_ok]; exact h0 a
    · rw [List.take_of_length_le (by omega : x.length ≤ k), h.back _ (hC2 _ (by omega)) (by rw [List.length_append, List.length_take]; omega), bnd_ok]
      exact hg.torn _ (by omega) (by omega)
theorem Rd.comb {α β : Type} {n n' : Nat} {f : List Tok → PR α} {g : α → List Tok → PR β} {x y : List Tok} {v : α} {u : β} {C C' : List Tok → Prop} (h : Rd n f x v C) (hg : Rd n' (g v) y u C') (hn : n ≤ n' + x.length) (hC : ∀ r, C' r → C (y ++ r)) (hC2 : ∀ j, j < y.length → C (y.take j)) :
    Rd n (fun l => bnd (f l) g) (x ++ y) u C' := by
  refine ⟨fun r hr hl => ?_, fun k hk hkn => ?_⟩
  · show bnd (f (x ++ y ++ r)) g = _
    have hl' : x.length + (y.length + r.length) < n := by simpa [Nat.add_assoc] using hl
    rw [List.append_assoc, h.back (y ++ r) (hC r hr) (by simp; omega), bnd_ok]
    exact hg.back r hr (by simp; omega)
  · show bnd (f ((x ++ y).take k)) g = _
    rw [List.length_append] at hk
    rw [List.take_append]
    by_cases hkx : k < x.length
    · rw [show k - x.length = 0 by omega, List.take_zero, List.append_nil, h.torn k hkx hkn]; rfl
    · rw [List.take_of_length_le (by omega : x.length ≤ k), h.back _ (hC2 _ (by omega)) (by rw [List.length_append, List.length_take]; omega), bnd_ok]
      exact hg.torn _ (by omega) (by omega)
theorem Rd.then {α β : Type} {n n' : Nat} {f : List Tok → PR α} {g : α → List Tok → PR β} {x y : List Tok} {v : α} {u : β} {C' : List Tok → Prop} (h : Rd n f x v Any) (hg : Rd n' (g v) y u C') (hn : n ≤ n' + x.length) : Rd n (fun l => bnd (f l) g) (x ++ y) u C' :=
  h.comb hg hn (fun _ _ => trivial) (fun _ _ => trivial)
theorem Rd.done {α : Type} (n : Nat) (v : α) (C : List Tok → Prop) : Rd n (fun r => .ok (v, r)) [] v C := ⟨fun _ _ _ => rfl, fun k h _ => absurd h (Nat.not_lt_zero k)⟩
/-- the last part -/
theorem Rd.fin {α β : Type} {n : Nat} {f : List Tok → PR α} {x : List Tok} {v : α} {C : List Tok → Prop} (h : Rd n f x v C) (u : α → β) : Rd n (fun l => bnd (f l) fun a r => .ok (u a, r)) x (u v) C := by
  have := h.comb (g := fun a r => .ok (u a, r)) (Rd.done (n := n) (u v) C) (by omega) (fun r hr => hr) (fun j hj => absurd hj (Nat.not_lt_zero j))
  rwa [List.append_nil] at this
theorem must_rd (c : UInt8) (n : Nat) : Rd n (mustP c) [M c] () Any := by
  refine ⟨fun r _ _ => ?_, fun k hk _ => ?_⟩
  · have h : eatP c ([M c] ++ r) = some r := by unfold eatP; rw [if_pos]; rfl; simp [isP, M]
    unfold mustP; rw [h]
  · obtain rfl : k = 0 := by simp at hk; omega
    rfl
theorem next_S (s : Str) (r : List Tok) : nextP 4 (S s :: r) = .ok (S s, r) := by unfold nextP; exact if_pos rfl
theorem next_N (l : Int) (r : List Tok) : nextP 3 (N l :: r) = .ok (N l, r) := by unfold nextP; exact if_pos rfl
theorem next_rd (t : Tok) (n : Nat) : Rd n (nextP t.kind) [t] t Any := by
  refine ⟨fun r _ _ => if_pos rfl, fun k hk _ => ?_⟩
  obtain rfl : k = 0 := by simp at hk; omega
  rfl
theorem word_rd (tab : List Str) (s : Str) (n : Nat) (h : 0 < idxW tab s) : Rd n (wordP tab) [W s] (idxW tab s) Any := by
  refine ⟨fun r _ _ => if_pos ⟨rfl, h⟩, fun k hk _ => ?_⟩
  obtain rfl : k = 0 := by simp at hk; omega
  rfl
/-- behind commas, to a closing mark -/
def cms (l : List Str) : List Tok := l.flatMap fun x => [M 44, S x]
theorem eat_other {c d : UInt8} (r : List Tok) (h : d ≠ c) : eatP c (M d :: r) = none := by
  unfold eatP; rw [if_neg]; simp [isP, M, h]
theorem eat_same (c : UInt8) (r : List Tok) : eatP c (M c :: r) = some r := by
  unfold eatP; rw [if_pos]; rfl; simp [isP, M]
theorem moreS_back : ∀ (l : List Str) (m : Nat) (r : List Tok), l.length ≤ m → eatP 44 r = none → moreS m (cms l ++ r) = .ok (l, r)
  | [], 0, r, _, _ => rfl
  | [], m + 1, r, _, h => by rw [show cms [] ++ r = r from rfl, moreS, h]
  | s :: l, 0, r, h, _ => by simp at h
  | s :: l, m + 1, r, h, h2 => by
    rw [show cms (s :: l) ++ r = M 44 :: S s :: (cms l ++ r) from rfl, moreS, eat_same]
    show bnd (nextP 4 (S s :: (cms l ++ r))) _ = _
    rw [next_S, bnd_ok, moreS_back l m r (by simpa using h) h2]
    rfl
theorem moreS_torn : ∀ (l : List Str) (m k : Nat), k ≤ (cms l).length → k ≤ m → TornOr (moreS m ((cms l).take k))
  | l, 0, k, _, h => by obtain rfl : k = 0 := by omega
                        exact .inr ⟨[], rfl⟩
  | [], m + 1, k, _, _ => .inr ⟨[], by rw [show cms [] = [] from rfl, List.take_nil, moreS]; rfl⟩
  | s :: l, m + 1, 0, _, _ => .inr ⟨[], by rw [List.take_zero, moreS]; rfl⟩
  | s :: l, m + 1, 1, _, _ => .inl (by rw [show (cms (s :: l)).take 1 = M 44 :: [] from rfl, moreS, eat_same]; rfl)
  | s :: l, m + 1, k + 2, h, h2 => by
    rw [show (cms (s :: l)).take (k + 2) = M 44 :: S s :: (cms l).take k from rfl, moreS, eat_same]
    have hk : k ≤ (cms l).length := by have : (cms (s :: l)).length = (cms l).length + 2 := rfl; omega
    have h3 : bnd (nextP 4 (S s :: (cms l).take k)) (fun t r => bnd (moreS m r) fun ts r => .ok (t.text :: ts, r)) = bnd (moreS m ((cms l).take k)) fun ts r => .ok (s :: ts, r) := by
      rw [next_S]; rfl
    show TornOr (bnd (nextP 4 (S s :: (cms l).take k)) _)
    rw [h3]
    rcases moreS_torn l m k hk (by omega) with e | ⟨v, e⟩
    · rw [e]; exact .inl rfl
    · rw [e]; exact .inr ⟨_, rfl⟩
theorem cms_len (l : List Str) : l.length ≤ (cms l).length := by
  induction l with
  | nil => exact Nat.le_refl _
  | cons s l ih => show l.length + 1 ≤ (cms l).length + 2; omega
theorem moreS_lo (l : List Str) (n : Nat) : Lo n (fun r => moreS r.length r) (cms l) l (fun r => eatP 44 r = none) :=
  ⟨fun r hr _ => moreS_back l _ r (by have := cms_len l; simp; omega) hr, fun k hk _ => moreS_torn l _ k (by omega) (by rw [List.length_take]; omega)⟩
/-- a closing mark behind what commas part -/
theorem close_any (c : UInt8) (h : c ≠ 44) (r : List Tok) : eatP 44 (M c :: r) = none := eat_other r h
theorem close_take (c : UInt8) (h : c ≠ 44) (y : List Tok) (j : Nat) : eatP 44 ((M c :: y).take j) = none := by
  cases j with
  | zero => rfl
  | succ j => exact eat_other _ h
theorem list_rd (ns : List Str) (h : 0 < ns.length) (n : Nat) : Rd n listP (listT ns) ns Any := by
  match ns, h with
  | [s], _ =>
    refine ⟨fun r _ _ => ?_, fun k hk _ => ?_⟩
    · have h1 : eatP 91 ([S s] ++ r) = none := rfl
      show listP ([S s] ++ r) = _
      unfold listP; rw [h1]
      show bnd (nextP 4 (S s :: r)) _ = _
      rw [next_S]; rfl
    · obtain rfl : k = 0 := by have : k < 1 := hk; omega
      rfl
  | s :: s2 :: l, _ =>
    have h1 : Rd n (fun r => bnd (nextP 4 r) fun t r => bnd (moreS r.length r) fun ts r => bnd (mustP 93 r) fun _ r => .ok (t.text :: ts, r)) ([S s] ++ (cms (s2 :: l) ++ [M 93])) (s :: s2 :: l) Any := by
      refine (next_rd (S s) n).then (n' := n) (g := fun t r => bnd (moreS r.length r) fun ts r => bnd (mustP 93 r) fun _ r => .ok (t.text :: ts, r)) ?_ (by omega)
      exact (moreS_lo (s2 :: l) n).comb (n' := n) (g := fun ts r => bnd (mustP 93 r) fun _ r => .ok (s :: ts, r)) ((must_rd 93 n).fin fun _ => s :: s2 :: l) (by omega) (fun _ => rfl) (fun r _ => close_any 93 (by decide) r) (fun j _ => close_take 93 (by decide) [] j)
    refine ⟨fun r hr hl => ?_, fun k hk hkn => ?_⟩
    · have e : listT (s :: s2 :: l) ++ r = M 91 :: (([S s] ++ (cms (s2 :: l) ++ [M 93])) ++ r) := by simp [listT, cms]
      rw [e] at hl ⊢
      unfold listP; rw [eat_same]
      exact h1.back r hr (by simp at hl ⊢; omega)
    · have e : listT (s :: s2 :: l) = M 91 :: ([S s] ++ (cms (s2 :: l) ++ [M 93])) := by simp [listT, cms]
      rw [e] at hk ⊢
      cases k with
      | zero => rfl
      | succ k =>
        rw [List.take_succ_cons]
        unfold listP; rw [eat_same]
        exact h1.torn k (by simpa using hk) (by omega)
/-! tags -/
theorem mat_idx {m : Int} (h : 1 ≤ m ∧ m ≤ 3) : idxW matTab (wd matTab m) = m.toNat ∧ idxW parTab (wd matTab m) = 0 := by
  have : m = 1 ∨ m = 2 ∨ m = 3 := by omega
  rcases this with rfl | rfl | rfl <;> exact ⟨by decide, by decide⟩
theorem par_idx {p : Int} (h : 1 ≤ p ∧ p ≤ 3) : idxW parTab (wd parTab p) = p.toNat ∧ idxW matTab (wd parTab p) = 0 := by
  have : p = 1 ∨ p = 2 ∨ p = 3 := by omega
  rcases this with rfl | rfl | rfl <;> exact ⟨by decide, by decide⟩
def NoTag : List Tok → Prop
  | t :: _ => t.kind ≠ 2
  | [] => True
theorem tags_none {k m p : Nat} {r : List Tok} (h : NoTag r) : ∀ n, tagsP n k m p r = .ok ((m, p), r)
  | 0 => rfl
  | n + 1 => by
    cases r with
    | nil => rfl
    | cons t r => rw [tagsP]; exact if_neg h
theorem tags_mat {n k p : Nat} {m : Int} (r : List Tok) (h : 1 ≤ m ∧ m ≤ 3) : tagsP (n + 1) k 0 p (G (wd matTab m) :: r) = tagsP n k m.toNat p r := by
  rw [tagsP, if_pos (show (G (wd matTab m)).kind = 2 from rfl)]
  have := (mat_idx h).1
  rw [if_pos ⟨by show 0 < idxW matTab (wd matTab m); omega, rfl⟩]
  show tagsP n k (idxW matTab (wd matTab m)) p r = _
  rw [this]
theorem tags_par {n k m : Nat} {p : Int} (r : List Tok) (h : 1 ≤ p ∧ p ≤ 3) (hk : k ≠ 6) : tagsP (n + 1) k m 0 (G (wd parTab p) :: r) = tagsP n k m p.toNat r := by
  rw [tagsP, if_pos (show (G (wd parTab p)).kind = 2 from rfl)]
  have h1 := (par_idx h).1; have h2 := (par_idx h).2
  rw [if_neg (by rintro ⟨h3, -⟩; rw [show (G (wd parTab p)).text = wd parTab p from rfl] at h3; omega), if_pos ⟨by show 0 < idxW parTab (wd parTab p); omega, rfl, hk⟩]
  show tagsP n k m (idxW parTab (wd parTab p)) r = _
  rw [h1]
theorem dfl_of {m : Int} (h : 1 ≤ m ∧ m ≤ 3) : ((dfl m.toNat : Nat) : Int) = m := by unfold dfl; split <;> omega
theorem tags_lo1 {m : Int} (h : 1 ≤ m ∧ m ≤ 3) (n : Nat) : Lo n (fun r => tagsP r.length 6 0 0 r) [G (wd matTab m)] (m.toNat, 0) NoTag := by
  refine ⟨fun r hr _ => ?_, fun k hk _ => ?_⟩
  · show tagsP (r.length + 1) 6 0 0 (G (wd matTab m) :: r) = _
    rw [tags_mat r h, tags_none hr]
  · obtain rfl : k = 0 := by simp at hk; omega
    exact .inr ⟨_, rfl⟩
theorem tags_lo2 {m p : Int} (h : 1 ≤ m ∧ m ≤ 3) (hp : 1 ≤ p ∧ p ≤ 3) {k : Nat} (hk6 : k ≠ 6) (n : Nat) : Lo n (fun r => tagsP r.length k 0 0 r) [G (wd parTab p), G (wd matTab m)] (m.toNat, p.toNat) NoTag := by
  refine ⟨fun r hr _ => ?_, fun j hj _ => ?_⟩
  · show tagsP (r.length + 1 + 1) k 0 0 (G (wd parTab p) :: G (wd matTab m) :: r) = _
    rw [tags_par _ hp hk6, tags_mat r h, tags_none hr]
  · have : j = 0 ∨ j = 1 := by simp at hj; omega
    rcases this with rfl | rfl
    · exact .inr ⟨_, rfl⟩
    · refine .inr ⟨(0, p.toNat), ?_⟩
      show tagsP 1 k 0 0 (G (wd parTab p) :: []) = _
      rw [tags_par _ hp hk6]; rfl
theorem listT_noTag (ns : List Str) (r : List Tok) : NoTag (listT ns ++ r) := by
  match ns with
  | [] => show (5 : Int) ≠ 2; decide
  | [s] => show (4 : Int) ≠ 2; decide
  | s :: s2 :: l => show (5 : Int) ≠ 2; decide
theorem noTag_take {x : List Tok} (h : NoTag x) (j : Nat) : NoTag (x.take j) := by
  cases x with
  | nil => rw [List.take_nil]; trivial
  | cons t x => cases j with
    | zero => trivial
    | succ j => exact h
/-! tests -/
def ctms (l : List (List Tok)) : List Tok := l.flatMap fun y => M 44 :: y
theorem moreT_back {f : List Tok → PR Tst} {n : Nat} : ∀ (l : List Tst) (m : Nat) (r : List Tok), (∀ t ∈ l, Rd n f (wT t) t Any) → l.length ≤ m → eatP 44 r = none → (ctms (l.map wT) ++ r).length ≤ n → moreT f m (ctms (l.map wT) ++ r) = .ok (l, r)
  | [], 0, r, _, _, _, _ => rfl
  | [], m + 1, r, _, _, h, _ => by rw [show ctms (([] : List Tst).map wT) ++ r = r from rfl, moreT, h]
  | t :: l, 0, r, _, h, _, _ => by simp at h
  | t :: l, m + 1, r, hf, h, h2, hn => by
    have e : ctms ((t :: l).map wT) ++ r = M 44 :: (wT t ++ (ctms (l.map wT) ++ r)) := by simp [ctms]
    rw [e] at hn ⊢
    rw [moreT, eat_same]
    show bnd (f (wT t ++ (ctms (l.map wT) ++ r))) _ = _
    rw [(hf t (List.mem_cons_self ..)).back _ trivial (by simp at hn ⊢; omega), bnd_ok, moreT_back l m r (fun t ht => hf t (List.mem_cons_of_mem _ ht)) (by simpa using h) h2 (by simp at hn ⊢; omega)]
    rfl
theorem moreT_torn {f : List Tok → PR Tst} {n : Nat} : ∀ (l : List Tst) (m k : Nat), (∀ t ∈ l, Rd n f (wT t) t Any) → k ≤ (ctms (l.map wT)).length → k ≤ m → k ≤ n → TornOr (moreT f m ((ctms (l.map wT)).take k))
  | l, 0, k, _, _, h, _ => by obtain rfl : k = 0 := by omega
                              exact .inr ⟨[], rfl⟩
  | [], m + 1, k, _, _, _, _ => .inr ⟨[], by rw [show ctms (([] : List Tst).map wT) = [] from rfl, List.take_nil, moreT]; rfl⟩
  | t :: l, m + 1, 0, _, _, _, _ => .inr ⟨[], by rw [List.take_zero, moreT]; rfl⟩
  | t :: l, m + 1, k + 1, hf, h, h2, hn => by
    have e : ctms ((t :: l).map wT) = M 44 :: (wT t ++ ctms (l.map wT)) := by simp [ctms]
    rw [e] at h ⊢
    rw [List.take_succ_cons, moreT, eat_same]
    show TornOr (bnd (f ((wT t ++ ctms (l.map wT)).take k)) _)
    have hf0 := hf t (List.mem_cons_self ..)
    rw [List.take_append]
    by_cases hk : k < (wT t).length
    · rw [show k - (wT t).length = 0 by omega, List.take_zero, List.append_nil, hf0.torn k hk (by omega)]
      exact .inl rfl
    · rw [List.take_of_length_le (by omega : (wT t).length ≤ k), hf0.back _ trivial (by rw [List.length_append, List.length_take]; omega), bnd_ok]
      rcases moreT_torn l m (k - (wT t).length) (fun t ht => hf t (List.mem_cons_of_mem _ ht)) (by simp at h; omega) (by omega) (by omega) with e | ⟨v, e⟩
      · rw [e]; exact .inl rfl
      · rw [e]; exact .inr ⟨_, rfl⟩
theorem ctms_len (l : List Tst) : l.length ≤ (ctms (l.map wT)).length := by
  induction l with
  | nil => exact Nat.le_refl _
  | cons s l ih =>
    have e : ctms ((s :: l).map wT) = M 44 :: (wT s ++ ctms (l.map wT)) := by simp [ctms]
    rw [e]; simp; omega
theorem moreT_lo {f : List Tok → PR Tst} {n : Nat} (l : List Tst) (hf : ∀ t ∈ l, Rd n f (wT t) t Any) : Lo n (fun r => moreT f r.length r) (ctms (l.map wT)) l (fun r => eatP 44 r = none) :=
  ⟨fun r hr hl => moreT_back l _ r hf (by have := ctms_len l; simp; omega) hr (by omega), fun k hk hn => moreT_torn l _ k hf (by omega) (by rw [List.length_take]; omega) (by omega)⟩
theorem tst_idx {k : Int} (h : 1 ≤ k ∧ k ≤ 10) : idxW tstTab (wd tstTab k) = k.toNat := by
  have : k = 1 ∨ k = 2 ∨ k = 3 ∨ k = 4 ∨ k = 5 ∨ k = 6 ∨ k = 7 ∨ k = 8 ∨ k = 9 ∨ k = 10 := by omega
  rcases this with rfl | rfl | rfl | rfl | rfl | rfl | rfl | rfl | rfl | rfl <;> decide
theorem cmd_idx {k : Int} (h : 1 ≤ k ∧ k ≤ 10) : idxW cmdTab (wd cmdTab k) = k.toNat := by
  have : k = 1 ∨ k = 2 ∨ k = 3 ∨ k = 4 ∨ k = 5 ∨ k = 6 ∨ k = 7 ∨ k = 8 ∨ k = 9 ∨ k = 10 := by omega
  rcases this with rfl | rfl | rfl | rfl | rfl | rfl | rfl | rfl | rfl | rfl <;> decide
theorem len0 {α : Type} {l : List α} (h : l.length = 0) : l = [] := List.eq_nil_of_length_eq_zero h
theorem testK_rd {f : List Tok → PR Tst} {n : Nat} {t : Tst} (hF : FormT t) (hf : ∀ s ∈ t.tests, Rd n f (wT s) s Any) : Rd n (testK f t.kind.toNat) (bodyT t.kind t.mat t.part t.names t.keys t.over t.limit (t.tests.map wT)) t Any := by
  have h1 := hF.one
  obtain ⟨k, m, p, ns, ks, o, l, ts⟩ := t
  simp only at h1 hf ⊢
  rcases h1 with ⟨hk, rfl, rfl, h4, h5, rfl, rfl, h8⟩ | ⟨rfl, rfl, rfl, h4, h5, rfl, rfl, h8⟩ | ⟨hk, rfl, rfl, h4, h5, rfl, rfl, h8⟩ | ⟨rfl, hm, rfl, h4, h5, rfl, rfl, h8⟩ | ⟨hk, hm, hp, h4, h5, rfl, rfl, h8⟩ | ⟨rfl, rfl, rfl, h4, h5, rfl, rfl, h8⟩ | ⟨rfl, rfl, rfl, h4, h5, hl, h8⟩
  · obtain rfl := len0 h4; obtain rfl := len0 h5; obtain rfl := len0 h8
    rcases hk with rfl | rfl <;> exact Rd.done n _ Any
  · obtain rfl := len0 h4; obtain rfl := len0 h5
    obtain ⟨s, rfl⟩ := List.length_eq_one_iff.1 h8
    have h := (hf s (List.mem_singleton_self _)).fin fun t => (⟨3, 0, 0, [], [], false, 0, [t]⟩ : Tst)
    have e : bodyT 3 0 0 [] [] false 0 ([s].map wT) = wT s := by simp [bodyT]
    rw [e]; exact h
  · obtain rfl := len0 h4; obtain rfl := len0 h5
    cases ts with
    | nil => simp at h8
    | cons s ts =>
      have e : bodyT k 0 0 [] [] false 0 ((s :: ts).map wT) = [M 40] ++ (wT s ++ (ctms (ts.map wT) ++ [M 41])) := by
        unfold bodyT; rw [if_neg (by omega), if_pos hk]; simp [seqT, ctms]
      rw [e]
      have hkk : ((k.toNat : Nat) : Int) = k := by omega
      have h := (must_rd 40 n).then (n' := n) (g := fun _ r => bnd (f r) fun t r => bnd (moreT f r.length r) fun ts r => bnd (mustP 41 r) fun _ r => .ok ((⟨k.toNat, 0, 0, [], [], false, 0, t :: ts⟩ : Tst), r))
        ((hf s (List.mem_cons_self ..)).then (n' := n) (g := fun t r => bnd (moreT f r.length r) fun ts r => bnd (mustP 41 r) fun _ r => .ok ((⟨k.toNat, 0, 0, [], [], false, 0, t :: ts⟩ : Tst), r))
          ((moreT_lo ts (fun t ht => hf t (List.mem_cons_of_mem _ ht))).comb (n' := n) (g := fun ts r => bnd (mustP 41 r) fun _ r => .ok ((⟨k.toNat, 0, 0, [], [], false, 0, s :: ts⟩ : Tst), r)) ((must_rd 41 n).fin fun _ => (⟨k.toNat, 0, 0, [], [], false, 0, s :: ts⟩ : Tst)) (by omega) (fun _ => rfl) (fun r _ => close_any 41 (by decide) r) (fun j _ => close_take 41 (by decide) [] j)) (by omega)) (by omega)
      rw [hkk] at h
      have e2 : testK f k.toNat = fun r => bnd (mustP 40 r) fun _ r => bnd (f r) fun t r => bnd (moreT f r.length r) fun ts r => bnd (mustP 41 r) fun _ r => .ok ((⟨k, 0, 0, [], [], false, 0, t :: ts⟩ : Tst), r) := by
        funext r; unfold testK; rw [if_neg (by omega), if_pos (by omega), hkk]
      rw [e2]; exact h
  · obtain rfl := len0 h8
    have h := (tags_lo1 hm n).comb (n' := n) (g := fun mp r => bnd (listP r) fun ns r => bnd (listP r) fun ks r => .ok ((⟨6, dfl mp.1, 0, ns, ks, false, 0, []⟩ : Tst), r)) ((list_rd ns h4 n).then (n' := n) (g := fun ns r => bnd (listP r) fun ks r => .ok ((⟨6, dfl m.toNat, 0, ns, ks, false, 0, []⟩ : Tst), r)) ((list_rd ks h5 n).fin fun ks => (⟨6, dfl m.toNat, 0, ns, ks, false, 0, []⟩ : Tst)) (by omega)) (by omega) (fun _ => rfl) (fun r _ => by rw [List.append_assoc]; exact listT_noTag _ _) (fun j _ => noTag_take (listT_noTag _ _) j)
    rw [dfl_of hm] at h
    exact h
  · obtain rfl := len0 h8
    have hkk : ((k.toNat : Nat) : Int) = k := by omega
    have h := (tags_lo2 hm hp (k := k.toNat) (by omega) n).comb (n' := n) (g := fun mp r => bnd (listP r) fun ns r => bnd (listP r) fun ks r => .ok ((⟨k.toNat, dfl mp.1, dfl mp.2, ns, ks, false, 0, []⟩ : Tst), r)) ((list_rd ns h4 n).then (n' := n) (g := fun ns r => bnd (listP r) fun ks r => .ok ((⟨k.toNat, dfl m.toNat, dfl p.toNat, ns, ks, false, 0, []⟩ : Tst), r)) ((list_rd ks h5 n).fin fun ks => (⟨k.toNat, dfl m.toNat, dfl p.toNat, ns, ks, false, 0, []⟩ : Tst)) (by omega)) (by omega) (fun _ => rfl) (fun r _ => by rw [List.append_assoc]; exact listT_noTag _ _) (fun j _ => noTag_take (listT_noTag _ _) j)
    rw [dfl_of hm, dfl_of hp, hkk] at h
    have e : bodyT k m p ns ks false 0 (([] : List Tst).map wT) = [G (wd parTab p), G (wd matTab m)] ++ (listT ns ++ listT ks) := by
      unfold bodyT; rw [if_neg (by omega), if_neg (by omega), if_neg (by omega), if_pos hk]; rfl
    have e2 : testK f k.toNat = fun r => bnd (tagsP r.length k.toNat 0 0 r) fun mp r => bnd (listP r) fun ns r => bnd (listP r) fun ks r => .ok ((⟨k, dfl mp.1, dfl mp.2, ns, ks, false, 0, []⟩ : Tst), r) := by
      funext r; unfold testK; rw [if_neg (by omega), if_neg (by omega), if_pos (by omega)]
      simp only [if_neg (by omega : ¬ k.toNat = 6), hkk]
    rw [e, e2]; exact h
  · obtain rfl := len0 h5; obtain rfl := len0 h8
    exact (list_rd ns h4 n).fin fun ns => (⟨9, 0, 0, ns, [], false, 0, []⟩ : Tst)
  · obtain rfl := len0 h4; obtain rfl := len0 h5; obtain rfl := len0 h8
    show Rd n (testK f 10) [G (if o = true then overW else underW), N l] _ Any
    have e2 : testK f 10 = fun r => (if isP 2 overW r = true ∨ isP 2 underW r = true then bnd (nextP 3 r.tail) fun t r' => .ok ((⟨10, 0, 0, [], [], isP 2 overW r, t.num, []⟩ : Tst), r') else giveP r 3) := rfl
    rw [e2]
    have hi : ∀ r, isP 2 overW (G (if o = true then overW else underW) :: r) = o ∧ (isP 2 overW (G (if o = true then overW else underW) :: r) = true ∨ isP 2 underW (G (if o = true then overW else underW) :: r) = true) := by
      intro r
      cases o <;> exact ⟨rfl, by simp [isP, G, overW, underW]⟩
    refine ⟨fun r _ _ => ?_, fun j hj _ => ?_⟩
    · show (if isP 2 overW (G (if o = true then overW else underW) :: (N l :: r)) = true ∨ isP 2 underW (G (if o = true then overW else underW) :: (N l :: r)) = true then _ else _) = _
      rw [if_pos (hi _).2]
      show bnd (nextP 3 (N l :: r)) _ = _
      rw [next_N, bnd_ok, show isP 2 overW ([G (if o = true then overW else underW), N l] ++ r) = o from (hi _).1]
      rfl
    · have : j = 0 ∨ j = 1 := by simp at hj; omega
      rcases this with rfl | rfl
      · rfl
      · show (if isP 2 overW (G (if o = true then overW else underW) :: []) = true ∨ isP 2 underW (G (if o = true then overW else underW) :: []) = true then _ else _) = _
        rw [if_pos (hi _).2]; rfl
theorem test_rd : ∀ (n d : Nat) (t : Tst), FormT t → fitT d t = true → Rd n (testP n d) (wT t) t Any
  | 0, d, t, _, _ => ⟨fun r _ h => absurd h (Nat.not_lt_zero _), fun k _ h => absurd h (Nat.not_lt_zero _)⟩
  | n + 1, d, t, hF, hd => by
    rw [fitT_eq, Bool.and_eq_true, decide_eq_true_eq, List.all_eq_true] at hd
    have e : testP (n + 1) d = fun l => bnd (wordP tstTab l) (testK (testP n (d + 1))) := by
      funext l; rw [testP, if_neg (by omega)]
    have hk := hF.one.kind
    have hi := tst_idx hk
    rw [e, wT_eq]
    have hw := word_rd tstTab (wd tstTab t.kind) (n + 1) (by omega)
    rw [hi] at hw
    exact hw.then (n' := n) (testK_rd hF fun s hs => test_rd n (d + 1) s (hF.all s hs) (hd.2 s hs)) (by simp)
/-! commands -/
def NoElse (r : List Tok) : Prop := isP 1 elsifW r = false ∧ isP 1 elseW r = false
theorem noElse_nil : NoElse [] := ⟨rfl, rfl⟩
theorem noElse_M (c : UInt8) (r : List Tok) : NoElse (M c :: r) := ⟨rfl, rfl⟩
theorem noElse_wC {c : Cmd} (h : FormC c) (r : List Tok) : NoElse (wC c ++ r) := by
  have hk := h.kind
  have key : ∀ x, NoElse (W (wd cmdTab c.kind) :: x) := by
    intro x
    have h1 : wd cmdTab c.kind ≠ elsifW ∧ wd cmdTab c.kind ≠ elseW := by
      generalize c.kind = k at hk
      have : k = 1 ∨ k = 2 ∨ k = 3 ∨ k = 4 ∨ k = 5 ∨ k = 6 ∨ k = 7 ∨ k = 8 ∨ k = 9 ∨ k = 10 := by omega
      rcases this with rfl | rfl | rfl | rfl | rfl | rfl | rfl | rfl | rfl | rfl <;> decide
    exact ⟨by simp [isP, W, h1.1], by simp [isP, W, h1.2]⟩
  by_cases h2 : c.kind = 2
  · rw [wC_if h2]; rw [← h2]; exact key _
  · rw [wC_else h2]; exact key _
theorem noElse_take {x : List Tok} (h : NoElse x) (j : Nat) : NoElse (x.take j) := by
  cases x with
  | nil => rw [List.take_nil]; exact noElse_nil
  | cons t x => cases j with
    | zero => exact noElse_nil
    | succ j => exact h
theorem wC_pos (c : Cmd) : 0 < (wC c).length := by
  obtain ⟨k, tx, t, th, el⟩ := c; rw [wC]; simp
theorem app_ne (c : Cmd) (r : List Tok) : wC c ++ r ≠ [] := by
  intro h; have h1 := congrArg List.length h; have := wC_pos c; rw [List.length_append, List.length_nil] at h1; omega
theorem app_take_ne (c : Cmd) (r : List Tok) (k : Nat) : (wC c ++ r).take (k + 1) ≠ [] := by
  intro h; have h1 := congrArg List.length h; have := wC_pos c; rw [List.length_take, List.length_append, List.length_nil] at h1; omega
theorem flat_noElse {cs : List Cmd} (hF : ∀ c ∈ cs, FormC c) {r : List Tok} (hr : NoElse r) : NoElse (cs.flatMap wC ++ r) := by
  cases cs with
  | nil => exact hr
  | cons c cs => rw [List.flatMap_cons, List.append_assoc]; exact noElse_wC (hF c (List.mem_cons_self ..)) _
theorem flat_take {cs : List Cmd} (hF : ∀ c ∈ cs, FormC c) (j : Nat) : NoElse ((cs.flatMap wC).take j) := by
  have := flat_noElse hF noElse_nil
  rw [List.append_nil] at this
  exact noElse_take this j
theorem command_nil (n d : Nat) : commandP n d [] = .error (0, 4) := by
  cases n with
  | zero => rfl
  | succ n => rw [commandP, if_neg (by simp)]; rfl
theorem cmds_back {f : List Tok → PR Cmd} {n : Nat} (r : List Tok) : ∀ (cs : List Cmd) (m : Nat), (∀ c ∈ cs, FormC c) → (∀ c ∈ cs, Lo n f (wC c) c NoElse) → cs.length < m → (cs.flatMap wC ++ M 125 :: r).length < n → cmdsP f m (cs.flatMap wC ++ M 125 :: r) = .ok (cs, r)
  | [], 0, _, _, h, _ => by simp at h
  | [], m + 1, _, _, _, _ => by rw [show ([] : List Cmd).flatMap wC ++ M 125 :: r = M 125 :: r from rfl, cmdsP, eat_same]
  | c :: cs, 0, _, _, h, _ => by simp at h
  | c :: cs, m + 1, hF, hf, h, hn => by
    have e : (c :: cs).flatMap wC ++ M 125 :: r = wC c ++ (cs.flatMap wC ++ M 125 :: r) := by simp
    have hne : eatP 125 (wC c ++ (cs.flatMap wC ++ M 125 :: r)) = none := by
      by_cases h2 : c.kind = 2
      · rw [wC_if h2]; rfl
      · rw [wC_else h2]; rfl
    rw [e] at hn ⊢
    rw [cmdsP, hne]
    show bnd (f (wC c ++ _)) _ = _
    rw [(hf c (List.mem_cons_self ..)).back _ (flat_noElse (fun c hc => hF c (List.mem_cons_of_mem _ hc)) (noElse_M 125 r)) hn, bnd_ok,
      cmds_back r cs m (fun c hc => hF c (List.mem_cons_of_mem _ hc)) (fun c hc => hf c (List.mem_cons_of_mem _ hc)) (by simpa using h) (by have := wC_pos c; simp at hn ⊢; omega)]
    rfl
theorem cmds_torn {f : List Tok → PR Cmd} {n : Nat} (h0 : f [] = .error (0, 4)) : ∀ (cs : List Cmd) (m k : Nat), (∀ c ∈ cs, FormC c) → (∀ c ∈ cs, Lo n f (wC c) c NoElse) → k ≤ (cs.flatMap wC).length → k < m → k < n → cmdsP f m ((cs.flatMap wC).take k) = .error (0, 4)
  | cs, 0, k, _, _, _, h, _ => by omega
  | [], m + 1, k, _, _, _, _, _ => by rw [show ([] : List Cmd).flatMap wC = [] from rfl, List.take_nil, cmdsP]; show bnd (f []) _ = _; rw [h0]; rfl
  | c :: cs, m + 1, 0, _, _, _, _, _ => by rw [List.take_zero, cmdsP]; show bnd (f []) _ = _; rw [h0]; rfl
  | c :: cs, m + 1, k + 1, hF, hf, h, h2, hn => by
    have hp := wC_pos c
    rw [List.flatMap_cons] at h ⊢
    have hlo := hf c (List.mem_cons_self ..)
    have hF' : ∀ c ∈ cs, FormC c := fun c hc => hF c (List.mem_cons_of_mem _ hc)
    have hne : eatP 125 ((wC c ++ cs.flatMap wC).take (k + 1)) = none := by
      by_cases h2 : c.kind = 2
      · rw [wC_if h2]; rfl
      · rw [wC_else h2]; rfl
    rw [cmdsP, hne]
    show bnd (f ((wC c ++ cs.flatMap wC).take (k + 1))) _ = _
    have h1 : cmdsP f m [] = .error (0, 4) := by
      cases m with
      | zero => rfl
      | succ m => rw [cmdsP]; show bnd (f []) _ = _; rw [h0]; rfl
    rw [List.take_append]
    by_cases hk : k + 1 < (wC c).length
    · rw [show k + 1 - (wC c).length = 0 by omega, List.take_zero, List.append_nil]
      rcases hlo.torn (k + 1) hk hn with e | ⟨v, e⟩
      · rw [e]; rfl
      · rw [e, bnd_ok, h1]; rfl
    · rw [List.take_of_length_le (by omega : (wC c).length ≤ k + 1), hlo.back _ (flat_take hF' _) (by rw [List.length_append, List.length_take]; omega), bnd_ok,
        cmds_torn h0 cs m (k + 1 - (wC c).length) hF' (fun c hc => hf c (List.mem_cons_of_mem _ hc)) (by rw [List.length_append] at h; omega) (by omega) (by omega)]
      rfl
theorem flat_len (cs : List Cmd) : cs.length ≤ (cs.flatMap wC).length := by
  induction cs with
  | nil => exact Nat.le_refl _
  | cons c cs ih => have := wC_pos c; rw [List.flatMap_cons, List.length_append, List.length_cons]; omega
theorem block_rd {f : List Tok → PR Cmd} {n : Nat} (h0 : f [] = .error (0, 4)) (cs : List Cmd) (hF : ∀ c ∈ cs, FormC c) (hf : ∀ c ∈ cs, Lo n f (wC c) c NoElse) : Rd n (blockP f) (blkT (cs.flatMap wC)) cs Any := by
  have h1 : Rd n (fun r => cmdsP f (r.length + 1) r) (cs.flatMap wC ++ [M 125]) cs Any := by
    refine ⟨fun r _ hl => ?_, fun k hk hn => ?_⟩
    · have e : cs.flatMap wC ++ [M 125] ++ r = cs.flatMap wC ++ M 125 :: r := by simp
      rw [e] at hl ⊢
      exact cmds_back r cs _ hF hf (by have := flat_len cs; rw [List.length_append, List.length_cons]; omega) hl
    · have hk' : k ≤ (cs.flatMap wC).length := by rw [List.length_append] at hk; have : [M 125].length = 1 := rfl; omega
      rw [List.take_append, show k - (cs.flatMap wC).length = 0 by omega, List.take_zero, List.append_nil]
      exact cmds_torn h0 cs _ k hF hf hk' (by rw [List.length_take]; omega) hn
  exact (must_rd 123 n).then (n' := n) (g := fun _ r => cmdsP f (r.length + 1) r) h1 (by omega)
theorem Rd.combL {α β : Type} {n n' : Nat} {f : List Tok → PR α} {g : α → List Tok → PR β} {x y : List Tok} {v : α} {u : β} {C' : List Tok → Prop} (h : Rd n f x v Any) (hg : Lo n' (g v) y u C') (hn : n ≤ n' + x.length) :
    Lo n (fun l => bnd (f l) g) (x ++ y) u C' := by
  refine ⟨fun r hr hl => ?_, fun k hk hkn => ?_⟩
  · show bnd (f (x ++ y ++ r)) g = _
    have hl' : x.length + (y.length + r.length) < n := by simpa [Nat.add_assoc] using hl
    rw [List.append_assoc, h.back (y ++ r) trivial (by simp; omega), bnd_ok]
    exact hg.back r hr (by simp; omega)
  · show TornOr (bnd (f ((x ++ y).take k)) g)
    rw [List.length_append] at hk
    rw [List.take_append]
    by_cases hkx : k < x.length
    · rw [show k - x.length = 0 by omega, List.take_zero, List.append_nil, h.torn k hkx hkn]; exact .inl rfl
    · rw [List.take_of_length_le (by omega : x.length ≤ k), h.back _ trivial (by rw [List.length_append, List.length_take]; omega), bnd_ok]
      exact hg.torn _ (by omega) (by omega)
theorem TornOr.bnd {α β : Type} {x : PR α} (h : TornOr x) (u : α → β) : TornOr (bnd x fun a r => .ok (u a, r)) := by
  rcases h with e | ⟨v, e⟩
  · rw [e]; exact .inl rfl
  · rw [e]; exact .inr ⟨_, rfl⟩
theorem isElsif_cons {el : List Cmd} (h : isElsif el = true) : ∃ c, el = [c] ∧ c.kind = 2 := by
  match el, h with
  | [c], h => exact ⟨c, rfl, by simpa [isElsif] using h⟩
theorem else_lo {f b : List Tok → PR Cmd} {n : Nat} {t : Tst} {th el : List Cmd} (h0 : f [] = .error (0, 4)) (hF : ∀ c ∈ el, FormC c) (hf : isElsif el = false → ∀ c ∈ el, Lo n f (wC c) c NoElse) (hb : isElsif el = true → ∀ c ∈ el, Lo n b (wBr c) c NoElse) :
    Lo n (elseK f b t th) (elseT el (el.flatMap wC) (el.map wBr)) ⟨2, [], t, th, el⟩ NoElse := by
  unfold elseT
  by_cases he : isElsif el = true
  · rw [if_pos he]
    obtain ⟨c, rfl, hc⟩ := isElsif_cons he
    have hlo := hb he c (List.mem_singleton_self _)
    have e1 : ([c].map wBr).flatten = wBr c := by simp
    rw [e1]
    refine ⟨fun r hr hl => ?_, fun k hk hkn => ?_⟩
    · show elseK f b t th (W elsifW :: (wBr c ++ r)) = _
      unfold elseK
      rw [if_pos (show isP 1 elsifW (W elsifW :: (wBr c ++ r)) = true from rfl)]
      show bnd (b (wBr c ++ r)) _ = _
      rw [hlo.back r hr (by simp at hl ⊢; omega)]; rfl
    · cases k with
      | zero => exact .inr ⟨_, rfl⟩
      | succ k =>
        rw [List.take_succ_cons]
        unfold elseK
        rw [if_pos (show isP 1 elsifW (W elsifW :: (wBr c).take k) = true from rfl)]
        show TornOr (bnd (b ((wBr c).take k)) _)
        exact (hlo.torn k (by simpa using hk) (by omega)).bnd fun c => (⟨2, [], t, th, [c]⟩ : Cmd)
  · rw [if_neg he]
    have he' : isElsif el = false := by simpa using he
    by_cases h1 : el = []
    · subst h1
      rw [if_pos rfl]
      refine ⟨fun r hr _ => ?_, fun k hk _ => absurd hk (Nat.not_lt_zero k)⟩
      show elseK f b t th r = _
      unfold elseK
      rw [if_neg (by rw [hr.1]; simp), if_neg (by rw [hr.2]; simp)]
    · rw [if_neg h1]
      have hbl := block_rd h0 el hF (hf he')
      refine ⟨fun r hr hl => ?_, fun k hk hkn => ?_⟩
      · show elseK f b t th (W elseW :: (blkT (el.flatMap wC) ++ r)) = _
        unfold elseK
        rw [if_neg (show ¬ isP 1 elsifW (W elseW :: _) = true from by simp [isP, W, elsifW, elseW]), if_pos (show isP 1 elseW (W elseW :: _) = true from rfl)]
        show bnd (blockP f (blkT (el.flatMap wC) ++ r)) _ = _
        rw [hbl.back r trivial (by simp at hl ⊢; omega)]; rfl
      · cases k with
        | zero => exact .inr ⟨_, rfl⟩
        | succ k =>
          rw [List.take_succ_cons]
          unfold elseK
          rw [if_neg (show ¬ isP 1 elsifW (W elseW :: _) = true from by simp [isP, W, elsifW, elseW]), if_pos (show isP 1 elseW (W elseW :: _) = true from rfl)]
          show TornOr (bnd (blockP f ((blkT (el.flatMap wC)).take k)) _)
          rw [hbl.torn k (by simpa using hk) (by omega)]
          exact .inl rfl
theorem test_any_rd (t : Tst) (hF : FormT t) (hd : fitT 1 t = true) (n : Nat) : Rd n (fun l => testP (l.length + 1) 1 l) (wT t) t Any :=
  ⟨fun r _ _ => (test_rd _ 1 t hF hd).back r trivial (by omega), fun k hk _ => (test_rd _ 1 t hF hd).torn k hk (by rw [List.length_take]; omega)⟩
theorem wT_pos (t : Tst) : 0 < (wT t).length := by rw [wT_eq]; simp
theorem branch_rd_of {n d : Nat} {c : Cmd} (hF : FormC c) (h2 : c.kind = 2) (hd : fitC d c = true)
    (hc : ∀ x, FormC x → fitC (d + 1) x = true → Lo n (commandP n (d + 1)) (wC x) x NoElse) (hb : ∀ x, FormC x → x.kind = 2 → fitC d x = true → Lo n (branchP n d) (wBr x) x NoElse) : Lo (n + 1) (branchP (n + 1) d) (wBr c) c NoElse := by
  obtain ⟨h3, h4⟩ := (FormC.iff c).1 hF
  rcases h4 with ⟨-, hT, hth, hel⟩ | ⟨h, -⟩
  · rw [fitC_eq, if_pos h2, Bool.and_eq_true, Bool.and_eq_true, Bool.and_eq_true, decide_eq_true_eq] at hd
    obtain ⟨hd6, ⟨hdt, hdth⟩, hdel⟩ := hd
    rw [List.all_eq_true] at hdth
    have e : branchP (n + 1) d = fun l => bnd (testP (l.length + 1) 1 l) fun t r => bnd (blockP (commandP n (d + 1)) r) (elseK (commandP n (d + 1)) (branchP n d) t) := by
      funext l; rw [branchP]
    obtain ⟨k, tx, t, th, el⟩ := c
    obtain rfl : k = 2 := h2
    have h3' : Form2 2 tx.length := h3
    have htx : tx = [] := by unfold Form2 at h3'; exact len0 (by omega)
    subst htx
    rw [e, wBr_eq]
    have h0 := command_nil n (d + 1)
    have hblk := block_rd h0 th hth fun c hcm => hc c (hth c hcm) (hdth c hcm)
    have hel' := else_lo (t := t) (th := th) (el := el) (b := branchP n d) h0 hel (fun he c hcm => by
        rw [if_neg (by rw [he]; simp), List.all_eq_true] at hdel; exact hc c (hel c hcm) (hdel c hcm)) (fun he c hcm => by
        rw [if_pos he, List.all_eq_true] at hdel
        obtain ⟨c', rfl, hk⟩ := isElsif_cons he
        obtain rfl := List.mem_singleton.1 hcm
        exact hb _ (hel _ hcm) hk (hdel _ hcm))
    have hpos := wT_pos t
    exact (test_any_rd t hT hdt (n + 1)).combL (n' := n) (g := fun t r => bnd (blockP (commandP n (d + 1)) r) (elseK (commandP n (d + 1)) (branchP n d) t)) (hblk.combL (n' := n) hel' (by omega)) (by show n + 1 ≤ n + (wT t).length; omega)
  · exact absurd h2 h
theorem both_lo : ∀ (n d : Nat) (c : Cmd), FormC c → fitC d c = true → Lo n (commandP n d) (wC c) c NoElse ∧ (c.kind = 2 → Lo n (branchP n d) (wBr c) c NoElse)
  | 0, d, c, _, _ => ⟨⟨fun r _ h => absurd h (Nat.not_lt_zero _), fun k _ h => absurd h (Nat.not_lt_zero _)⟩, fun _ => ⟨fun r _ h => absurd h (Nat.not_lt_zero _), fun k _ h => absurd h (Nat.not_lt_zero _)⟩⟩
  | n + 1, d, c, hF, hd => by
    have hbr : c.kind = 2 → ∀ d, fitC d c = true → Lo (n + 1) (branchP (n + 1) d) (wBr c) c NoElse := fun h2 d hd =>
      branch_rd_of hF h2 hd (fun x hx hdx => (both_lo n (d + 1) x hx hdx).1) (fun x hx h2x hdx => (both_lo n d x hx hdx).2 h2x)
    refine ⟨?_, fun h2 => hbr h2 d hd⟩
    have hd6 : d ≤ 6 := by rw [fitC_eq, Bool.and_eq_true, decide_eq_true_eq] at hd; exact hd.1
    have e : commandP (n + 1) d = fun l => bnd (wordP cmdTab l) (cmdK (branchP n d)) := by
      funext l; rw [commandP, if_neg (by omega)]
    have hk := hF.kind
    have hi := cmd_idx hk
    have hw := word_rd cmdTab (wd cmdTab c.kind) (n + 1) (by omega)
    rw [hi] at hw
    rw [e]
    by_cases h2 : c.kind = 2
    · rw [wC_if h2, ← h2]
      refine hw.combL (n' := n) ?_ (by simp)
      have e2 : cmdK (branchP n d) c.kind.toNat = branchP n d := by funext r; unfold cmdK; rw [if_pos (by omega)]
      rw [e2]
      exact (both_lo n d c hF hd).2 h2
    · rw [wC_else h2]
      refine hw.combL (n' := n) (Rd.lo ?_) (by simp)
      obtain ⟨h3, h4⟩ := (FormC.iff c).1 hF
      rcases h4 with ⟨h, -⟩ | ⟨-, ht, hth, hel⟩
      · exact absurd h h2
      · obtain ⟨k, tx, t, th, el⟩ := c
        simp only at *
        subst ht hth hel
        have hkk : ((k.toNat : Nat) : Int) = k := by omega
        rcases h3 with ⟨hk1, hn⟩ | ⟨hk1, hn⟩ | ⟨hk1, hn⟩
        · have e2 : cmdK (branchP n d) k.toNat = fun r => bnd (listP r) fun ts r => bnd (mustP 59 r) fun _ r => .ok ((⟨k, ts, T0, [], []⟩ : Cmd), r) := by
            funext r; unfold cmdK; rw [if_neg (by omega), if_pos (by omega), hkk]
          have hne : tx ≠ [] := by intro e; subst e; simp at hn
          rw [e2, if_neg hne]
          exact ((list_rd tx hn n).then (n' := n) (g := fun ts r => bnd (mustP 59 r) fun _ r => .ok ((⟨k, ts, T0, [], []⟩ : Cmd), r)) ((must_rd 59 n).fin fun _ => (⟨k, tx, T0, [], []⟩ : Cmd)) (by omega)).comb (g := fun v r => .ok (v, r)) (Rd.done (n := n) _ NoElse) (by omega) (fun _ _ => trivial) (fun _ _ => trivial) |> (fun h => by
            have e3 : (fun l => bnd (bnd (listP l) fun ts r => bnd (mustP 59 r) fun _ r => .ok ((⟨k, ts, T0, [], []⟩ : Cmd), r)) fun v r => .ok (v, r)) = fun l => bnd (listP l) fun ts r => bnd (mustP 59 r) fun _ r => .ok ((⟨k, ts, T0, [], []⟩ : Cmd), r) := by
              funext l
              cases bnd (listP l) fun ts r => bnd (mustP 59 r) fun _ r => .ok ((⟨k, ts, T0, [], []⟩ : Cmd), r) <;> rfl
            rw [e3, List.append_nil] at h
            exact h)
        · obtain ⟨s, rfl⟩ := List.length_eq_one_iff.1 hn
          have e2 : cmdK (branchP n d) k.toNat = fun r => bnd (nextP 4 r) fun t r => bnd (mustP 59 r) fun _ r => .ok ((⟨k, [t.text], T0, [], []⟩ : Cmd), r) := by
            funext r; unfold cmdK; rw [if_neg (by omega), if_neg (by omega), if_pos (by omega), hkk]
          rw [e2, if_neg (by simp)]
          refine ⟨fun r _ hl => ?_, fun j hj hjn => ?_⟩
          · exact ((next_rd (S s) n).then (n' := n) (g := fun t r => bnd (mustP 59 r) fun _ r => .ok ((⟨k, [t.text], T0, [], []⟩ : Cmd), r)) ((must_rd 59 n).fin fun _ => (⟨k, [s], T0, [], []⟩ : Cmd)) (by omega)).back r trivial hl
          · exact ((next_rd (S s) n).then (n' := n) (g := fun t r => bnd (mustP 59 r) fun _ r => .ok ((⟨k, [t.text], T0, [], []⟩ : Cmd), r)) ((must_rd 59 n).fin fun _ => (⟨k, [s], T0, [], []⟩ : Cmd)) (by omega)).torn j hj hjn
        · obtain rfl := len0 hn
          have e2 : cmdK (branchP n d) k.toNat = fun r => bnd (mustP 59 r) fun _ r => .ok ((⟨k, [], T0, [], []⟩ : Cmd), r) := by
            funext r; unfold cmdK; rw [if_neg (by omega), if_neg (by omega), if_neg (by omega), hkk]
          rw [e2, if_pos rfl]
          refine ⟨fun r _ hl => ?_, fun j hj hjn => ?_⟩
          · exact ((must_rd 59 n).fin fun _ => (⟨k, [], T0, [], []⟩ : Cmd)).back r trivial hl
          · exact ((must_rd 59 n).fin fun _ => (⟨k, [], T0, [], []⟩ : Cmd)).torn j hj hjn
theorem command_lo (n d : Nat) {c : Cmd} (hF : FormC c) (hd : fitC d c = true) : Lo n (commandP n d) (wC c) c NoElse := (both_lo n d c hF hd).1
/-! whole scripts -/
theorem all_app (r : List Tok) (hr : NoElse r) : ∀ (cs : List Cmd) (m : Nat), (∀ c ∈ cs, FormC c) → (∀ c ∈ cs, fitC 0 c = true) → cs.length ≤ m → allP m (cs.flatMap wC ++ r) = bnd (allP (m - cs.length) r) fun ds q => .ok (cs ++ ds, q)
  | [], m, _, _, _ => by
    show allP m r = bnd (allP m r) _
    cases allP m r <;> rfl
  | c :: cs, 0, _, _, h => by simp at h
  | c :: cs, m + 1, hF, hd, h => by
    have hF' : ∀ c ∈ cs, FormC c := fun c hc => hF c (List.mem_cons_of_mem _ hc)
    have e : (c :: cs).flatMap wC ++ r = wC c ++ (cs.flatMap wC ++ r) := by simp
    have hp := wC_pos c
    rw [e, allP, if_neg (app_ne _ _), (command_lo _ 0 (hF c (List.mem_cons_self ..)) (hd c (List.mem_cons_self ..))).back _ (flat_noElse hF' hr) (by omega), bnd_ok,
      all_app r hr cs m hF' (fun c hc => hd c (List.mem_cons_of_mem _ hc)) (by simpa using h), show m + 1 - (c :: cs).length = m - cs.length by simp]
    cases allP (m - cs.length) r <;> rfl
theorem all_torn : ∀ (cs : List Cmd) (m k : Nat), (∀ c ∈ cs, FormC c) → (∀ c ∈ cs, fitC 0 c = true) → k ≤ (cs.flatMap wC).length → k < m → allP m ((cs.flatMap wC).take k) = .error (0, 4) ∨ ∃ ds, allP m ((cs.flatMap wC).take k) = .ok (ds, []) ∧ ds.length ≤ cs.length
  | cs, 0, k, _, _, _, h => by omega
  | [], m + 1, k, _, _, _, _ => .inr ⟨[], by rw [show ([] : List Cmd).flatMap wC = [] from rfl, List.take_nil]; rfl, Nat.le_refl _⟩
  | c :: cs, m + 1, 0, _, _, _, _ => .inr ⟨[], by rw [List.take_zero]; rfl, Nat.zero_le _⟩
  | c :: cs, m + 1, k + 1, hF, hd, h, h2 => by
    have hp := wC_pos c
    rw [List.flatMap_cons] at h ⊢
    have hF' : ∀ c ∈ cs, FormC c := fun c hc => hF c (List.mem_cons_of_mem _ hc)
    have hlo := command_lo (((wC c ++ cs.flatMap wC).take (k + 1)).length + 1) 0 (hF c (List.mem_cons_self ..)) (hd c (List.mem_cons_self ..))
    have hlen : ((wC c ++ cs.flatMap wC).take (k + 1)).length = k + 1 := by rw [List.length_take]; omega
    rw [hlen] at hlo
    rw [allP, if_neg (app_take_ne _ _ _), hlen]
    rw [List.take_append]
    have h1 : allP m [] = .ok ([], []) := by
      cases m with
      | zero => omega
      | succ m => rfl
    by_cases hk : k + 1 < (wC c).length
    · rw [show k + 1 - (wC c).length = 0 by omega, List.take_zero, List.append_nil]
      rcases hlo.torn (k + 1) hk (by omega) with e | ⟨v, e⟩
      · rw [e]; exact .inl rfl
      · rw [e, bnd_ok, h1]; exact .inr ⟨[v], rfl, by simp⟩
    · rw [List.take_of_length_le (by omega : (wC c).length ≤ k + 1), hlo.back _ (flat_take hF' _) (by rw [List.length_append, List.length_take]; omega), bnd_ok]
      rcases all_torn cs m (k + 1 - (wC c).length) hF' (fun c hc => hd c (List.mem_cons_of_mem _ hc)) (by rw [List.length_append] at h; omega) (by omega) with e | ⟨ds, e, hds⟩
      · rw [e]; exact .inl rfl
      · rw [e]; exact .inr ⟨c :: ds, rfl, by simpa using hds⟩
/-- A SCRIPT IS PARSED AS IT WAS SHOWN -/
theorem parse_back {cs : List Cmd} (hF : ∀ c ∈ cs, FormC c) (hd : cs.all (fitC 0) = true) : parseS (cs.flatMap wC) = (cs, 0, 0) := by
  rw [List.all_eq_true] at hd
  unfold parseS
  have h := all_app [] noElse_nil cs ((cs.flatMap wC).length + 1) hF hd (by have := flat_len cs; omega)
  rw [List.append_nil] at h
  rw [h]
  have := flat_len cs
  obtain ⟨j, hj⟩ : ∃ j, (cs.flatMap wC).length + 1 - cs.length = j + 1 := ⟨(cs.flatMap wC).length - cs.length, by omega⟩
  rw [hj]
  show parseE _ (.ok (cs ++ [], [])) = _
  rw [List.append_nil]; rfl
/-- A SCRIPT THAT IS CUT IS TOO SHORT, or is some of its commands -/
theorem parse_torn {cs : List Cmd} (hF : ∀ c ∈ cs, FormC c) (hd : cs.all (fitC 0) = true) (k : Nat) (hk : k ≤ (cs.flatMap wC).length) : parseS ((cs.flatMap wC).take k) = ([], k, 4) ∨ ∃ ds, parseS ((cs.flatMap wC).take k) = (ds, 0, 0) ∧ ds.length ≤ cs.length := by
  rw [List.all_eq_true] at hd
  unfold parseS
  have hlen : ((cs.flatMap wC).take k).length = k := by rw [List.length_take]; omega
  rcases all_torn cs (k + 1) k hF hd hk (by omega) with e | ⟨ds, e, hds⟩
  · rw [hlen, e]; exact .inl rfl
  · rw [hlen, e]; exact .inr ⟨ds, rfl, hds⟩
/-- with a closing mark behind it, it is none -/
theorem parse_brace {cs : List Cmd} (hF : ∀ c ∈ cs, FormC c) (hd : cs.all (fitC 0) = true) : (parseS (cs.flatMap wC ++ [M 125])).2.2 = 3 := by
  rw [List.all_eq_true] at hd
  unfold parseS
  rw [all_app [M 125] (noElse_M 125 []) cs _ hF hd (by have := flat_len cs; rw [List.length_append]; omega)]
  have := flat_len cs
  obtain ⟨j, hj⟩ : ∃ j, (cs.flatMap wC ++ [M 125]).length + 1 - cs.length = j + 1 := ⟨(cs.flatMap wC ++ [M 125]).length - cs.length, by rw [List.length_append]; omega⟩
  rw [hj]
  rfl
end Go.Proofs.YtlgbmnmoobpkkaaDoor.Sc
namespace Go.Proofs.YtlgbmnmoobpkkaaDoor.Sc
open Go.RowKit
open Tk (Tok)

/-- 'the reader in block b reads all, and stands at n' -/
structure RT (w : World) (b : Nat) (v : Value) (F : Dom) (all : List Tok) (n : Nat) : Prop where
  c0 : w.cell? ⟨b, 0, none⟩ = some v
  c1 : w.cell? ⟨b, 1, none⟩ = some (.int .i64 (n : Int))
  f1 : w.frozen? ⟨b, 1, none⟩ = false
  lt : b < w.heap.size
  toks : SAt cTok w F v all
  low : ∀ x, F x → x < b
/-- 'what is left is l' -/
def TLeft (all : List Tok) (n : Nat) (l : List Tok) : Prop := n + l.length = all.length ∧ all.drop n = l
def RL (w : World) (b : Nat) (v : Value) (F : Dom) (all l : List Tok) : Prop := ∃ n, TLeft all n l ∧ RT w b v F all n
theorem TLeft.start (all : List Tok) : TLeft all 0 all := ⟨by simp, rfl⟩
theorem TLeft.nil {all : List Tok} {n : Nat} (h : TLeft all n []) : n = all.length := by have := h.1; simpa using this
theorem TLeft.cons {all : List Tok} {n : Nat} {c : Tok} {r : List Tok} (h : TLeft all n (c :: r)) : n < all.length ∧ all[n]? = some c ∧ TLeft all (n + 1) r := by
  have h1 := h.1
  simp only [List.length_cons] at h1
  have hlt : n < all.length := by omega
  have h2 := h.2
  rw [List.drop_eq_getElem_cons hlt] at h2
  obtain ⟨e1, e2⟩ := List.cons.inj h2
  exact ⟨hlt, by rw [List.getElem?_eq_getElem hlt, e1], by omega, e2⟩
theorem RT.grown {w w' : World} {b : Nat} {v : Value} {F : Dom} {all : List Tok} {n : Nat} {o : Option Nat} (h : RT w b v F all n) (g : w.grownBy w' o) (ho : ∀ x, o = some x → x ≠ b ∧ ¬ F x) : RT w' b v F all n := by
  have hk := g.block b h.lt (fun e => (ho b e.symm).1 rfl)
  exact ⟨(World.cell?_of_block (w := w) (a := ⟨b, 0, none⟩) hk).trans h.c0, (World.cell?_of_block (w := w) (a := ⟨b, 1, none⟩) hk).trans h.c1, (World.frozen?_of_block (w := w) (a := ⟨b, 1, none⟩) hk).trans h.f1, Nat.lt_of_lt_of_le h.lt g.size, h.toks.stable (Same.of_grown g fun x e => (ho x e).2) g.size, h.low⟩
theorem RT.below {w w' : World} {b : Nat} {v : Value} {F : Dom} {all : List Tok} {n : Nat} (h : RT w b v F all n) (hb : Below w.heap.size w w') : RT w' b v F all n :=
  h.grown (o := none) ⟨hb.os, hb.tape, hb.output, hb.size, fun k hk _ => hb.block k hk⟩ (fun x e => by cases e)
theorem belowDrewN (w : World) (k : Nat) : Below w.heap.size w (w.drewN k) := ⟨rfl, rfl, rfl, Nat.le_refl _, fun _ _ => rfl⟩
theorem RT.drewN {w : World} {b : Nat} {v : Value} {F : Dom} {all : List Tok} {n : Nat} (h : RT w b v F all n) (k : Nat) : RT (w.drewN k) b v F all n := h.below (belowDrewN w k)
theorem RT.set {w : World} {b : Nat} {v : Value} {F : Dom} {all : List Tok} {n : Nat} (h : RT w b v F all n) (n' : Nat) : RT (w.setCell ⟨b, 1, none⟩ (.int .i64 (n' : Int))) b v F all n' :=
  ⟨(World.cell?_setCell_other _ _ _ _ (by simp)).trans h.c0, World.cell?_setCell_same _ _ _ h.c1, (World.frozen?_setCell ..).trans h.f1, by have := h.lt; simpa [World.setCell] using this,
    h.toks.stable (fun x hx _ => Below.heap_setCell _ _ _ _ (by show x ≠ b; intro e; have := h.low x hx; omega)) (by simp [World.setCell]), h.low⟩
theorem RT.step {w : World} {b : Nat} {v : Value} {F : Dom} {all : List Tok} {n : Nat} (h : RT w b v F all n) : RT (w.setCell ⟨b, 1, none⟩ (.int .i64 ((n : Int) + 1))) b v F all (n + 1) := h.set (n + 1)
theorem RL.below {w w' : World} {b : Nat} {v : Value} {F : Dom} {all l : List Tok} (h : RL w b v F all l) (hb : Below w.heap.size w w') : RL w' b v F all l := by
  obtain ⟨n, h1, h2⟩ := h; exact ⟨n, h1, h2.below hb⟩
theorem RL.grown {w w' : World} {b : Nat} {v : Value} {F : Dom} {all l : List Tok} {o : Option Nat} (h : RL w b v F all l) (g : w.grownBy w' o) (ho : ∀ x, o = some x → x ≠ b ∧ ¬ F x) : RL w' b v F all l := by
  obtain ⟨n, h1, h2⟩ := h; exact ⟨n, h1, h2.grown g ho⟩
/-- a store far off -/
theorem RT.far {w : World} {b N i : Nat} {v : Value} {F : Dom} {all : List Tok} {n : Nat} (h : RT w b v F all n) (hN : b < N) (u : Value) : RT (w.setCell ⟨N, i, none⟩ u) b v F all n := by
  have hk : ∀ x, x ≠ N → (w.setCell ⟨N, i, none⟩ u).heap[x]? = w.heap[x]? := fun x hx => Below.heap_setCell _ _ _ _ (by show x ≠ N; exact hx)
  exact ⟨(World.cell?_of_block (w := w) (a := ⟨b, 0, none⟩) (hk b (by omega))).trans h.c0, (World.cell?_of_block (w := w) (a := ⟨b, 1, none⟩) (hk b (by omega))).trans h.c1, (World.frozen?_of_block (w := w) (a := ⟨b, 1, none⟩) (hk b (by omega))).trans h.f1, by have := h.lt; simpa [World.setCell] using this,
    h.toks.stable (fun x hx _ => hk x (by have := h.low x hx; omega)) (by simp [World.setCell]), h.low⟩
theorem grown_far {w W : World} {o : Option Nat} {N i : Nat} (g : w.grownBy W o) (hN : w.heap.size ≤ N) (u : Value) : w.grownBy (W.setCell ⟨N, i, none⟩ u) o :=
  ⟨g.os, g.tape, g.output, by have := g.size; simpa [World.setCell] using this, fun k hk he => (Below.heap_setCell _ _ _ _ (by show k ≠ N; omega)).trans (g.block k hk he)⟩
/-- the token at hand, as the walk reads it -/
theorem RT.tok {w : World} {b : Nat} {v : Value} {F : Dom} {all : List Tok} {n : Nat} {t : Tok} (h : RT w b v F all n) (ht : all[n]? = some t) : ∃ g off cap, v = .slice (some ⟨g, off, none⟩) all.length cap ∧ w.cell? ⟨g, off + n * 3, none⟩ = some (.int .i64 t.kind) ∧ w.cell? ⟨g, off + n * 3 + 1, none⟩ = some (.string ⟨t.text.toArray⟩) ∧ w.cell? ⟨g, off + n * 3 + 2, none⟩ = some (.int .i64 t.num) := by
  obtain ⟨hlt, he⟩ := List.getElem?_eq_some_iff.1 ht
  obtain ⟨G, cap, rfl, -⟩ := h.toks.form
  obtain ⟨g, off, vs, rfl, -, -, hv, hc⟩ := h.toks.get n hlt
  rw [he] at hv
  obtain rfl : vs = tokC t := hv
  exact ⟨g, off, cap, rfl, hc 0 _ rfl, hc 1 _ rfl, hc 2 _ rfl⟩
/-- the panic of 'give' -/
def wrongC (all : List Tok) (k : Nat) (c : Int) : List PanicEntry := [{ v := .iface 58 (.agg #[.int .i64 ((all.length - k : Nat) : Int), .int .i64 c]), recovered := false }]
/-- what a part of the parser does -/
def Ans {α : Type} (R : α → World → Ending → Prop) (b : Nat) (v : Value) (F : Dom) (all : List Tok) (w : World) : PR α → Ending → World → Prop
  | .ok (a, r), e, w' => R a w' e ∧ RL w' b v F all r ∧ w.grownBy w' (some b)
  | .error (k, c), e, w' => e = .panicked (wrongC all k c) ∧ w.grownBy w' (some b)
theorem Ans.err {α : Type} {R : α → World → Ending → Prop} {b : Nat} {v : Value} {F : Dom} {all : List Tok} {w w' : World} {k : Nat} {c : Int} {e : Ending} (h : Ans R b v F all w (.error (k, c)) e w') : ∃ ch, e = .panicked ch ∧ Hid (ch = wrongC all k c) ∧ w.grownBy w' (some b) := ⟨_, h.1, rfl, h.2⟩
theorem Ans.mono {α : Type} {R R' : α → World → Ending → Prop} {b : Nat} {v : Value} {F : Dom} {all : List Tok} {w w' : World} {x : PR α} {e : Ending} (h : Ans R b v F all w x e w') (hR : ∀ a, R a w' e → R' a w' e) : Ans R' b v F all w x e w' := by
  cases x with
  | ok p => obtain ⟨a, r⟩ := p; exact ⟨hR a h.1, h.2⟩
  | error p => obtain ⟨k, c⟩ := p; exact h
/-- from an earlier world -/
theorem Ans.from' {α : Type} {R : α → World → Ending → Prop} {b : Nat} {v : Value} {F : Dom} {all : List Tok} {w0 w w' : World} {x : PR α} {e : Ending} (h : Ans R b v F all w x e w') (g : w0.grownBy w (some b)) : Ans R b v F all w0 x e w' := by
  cases x with
  | ok p => obtain ⟨a, r⟩ := p; exact ⟨h.1, h.2.1, Go.Lib.grownBy_trans g h.2.2⟩
  | error p => obtain ⟨k, c⟩ := p; exact ⟨h.1, Go.Lib.grownBy_trans g h.2⟩
theorem gBelow {w w' : World} (h : Below w.heap.size w w') (b : Nat) : w.grownBy w' (some b) := Go.Lib.grownBy_below (World.grownBy.refl w (some b)) h

/-- what 'give' does -/
def GiveP (all l : List Tok) (c : Int) (w : World) (e : Ending) (w' : World) : Prop := ∃ ch, e = .panicked ch ∧ Hid (ch = wrongC all l.length (if l.length = 0 then 4 else c)) ∧ Below w.heap.size w w'
set_option maxHeartbeats 2000000 in
/-- 'give' always panics -/
theorem give_any (b n : Nat) (v : Value) (F : Dom) (all l : List Tok) (c : Int) (w : World) (hc : 1 ≤ c ∧ c ≤ 11) (_hn : all.length ≤ 100000) (hl : TLeft all n l) (h : RT w b v F all n) :
    Calls Tryd.prog 33 #[.pointer (some ⟨b, 0, none⟩), .int .i64 c] w (GiveP all l c w) := by
  obtain ⟨G, cap, rfl, -⟩ := h.toks.form
  have c0 := h.c0
  have c1 := h.c1
  have hat : all.length - l.length = n := by have := hl.1; omega
  have HCH : ∀ q : Int, Hid ([{ v := .iface 58 (.agg #[.int .i64 (n : Int), .int .i64 q]), recovered := false }] = wrongC all l.length q) := fun q => by unfold Hid wrongC; rw [hat]
  have hpos := hl.1
  obtain ⟨hc1, hc2⟩ := hc
  by_cases h0 : l.length = 0
  · have HCQ := HCH 4
    have HIF : Hid ((if l.length = 0 then (4 : Int) else c) = 4) := if_pos h0
    have hd : decide (all.length ≤ n) = true := decide_eq_true (by omega)
    clear hl h hat h0 HCH
    go_enter Tryd.func33, Tryd.ntmps33
    go_wp2_with fail
    go_quiet (fail)
    go_wp2_with fail
    exact ⟨rfl, _, rfl, by unfold Hid; rw [HIF.out]; exact HCQ.out, belowDrewN w _⟩
  · have HCQ := HCH c
    have HIF : Hid ((if l.length = 0 then (4 : Int) else c) = c) := if_neg h0
    have hd : decide (all.length ≤ n) = false := decide_eq_false (by omega)
    clear hl h hat h0 HCH
    go_enter Tryd.func33, Tryd.ntmps33
    go_wp2_with fail
    go_quiet (fail)
    go_wp2_with fail
    exact ⟨rfl, _, rfl, by unfold Hid; rw [HIF.out]; exact HCQ.out, belowDrewN w _⟩
theorem RT.facts {w : World} {b : Nat} {v : Value} {F : Dom} {all l : List Tok} {n : Nat} (h : RT w b v F all n) (hl : TLeft all n l) : ∃ G cap, v = .slice G all.length cap ∧ n + l.length = all.length ∧
    ∀ t r, l = t :: r → ∃ g off, G = some ⟨g, off, none⟩ ∧ w.cell? ⟨g, off + n * 3, none⟩ = some (.int .i64 t.kind) ∧ w.cell? ⟨g, off + n * 3 + 1, none⟩ = some (.string ⟨t.text.toArray⟩) ∧ w.cell? ⟨g, off + n * 3 + 2, none⟩ = some (.int .i64 t.num) := by
  obtain ⟨G, cap, rfl, -⟩ := h.toks.form
  refine ⟨G, cap, rfl, hl.1, ?_⟩
  rintro t r rfl
  obtain ⟨hlt, ht, -⟩ := hl.cons
  obtain ⟨g, off, cap', hv, e0, e1, e2⟩ := h.tok ht
  cases hv
  exact ⟨g, off, rfl, e0, e1, e2⟩
set_option maxHeartbeats 4000000 in
set_option maxRecDepth 20000 in
theorem is_any (b n : Nat) (v : Value) (F : Dom) (all l : List Tok) (k : Int) (s : Str) (w : World) (_hn : all.length ≤ 100000) (hl : TLeft all n l) (h : RT w b v F all n) :
    Calls Tryd.prog 58 #[.pointer (some ⟨b, 0, none⟩), .int .i64 k, .string ⟨s.toArray⟩] w fun e w' => e = .returned (.bool (isP k s l)) ∧ Below w.heap.size w w' := by
  obtain ⟨G, cap, rfl, hlen, hf⟩ := h.facts hl
  have c0 := h.c0
  have c1 := h.c1
  have hpos : (0 : Int) ≤ n := by omega
  cases l with
  | nil =>
    have hd : decide (n < all.length) = false := decide_eq_false (by simp at hlen; omega)
    have HE : Hid (isP k s [] = false) := rfl
    clear hl h hf hlen
    rw [HE.out]
    go_enter Tryd.func58, Tryd.ntmps58
    go_wp2_with fail
    go_quiet (fail)
    go_wp2_with fail
    go_ret
    exact ⟨rfl, belowDrewN w _⟩
  | cons t r =>
    obtain ⟨g, off, rfl, e0, e1, e2⟩ := hf t r rfl
    rw [List.length_cons] at hlen
    have hd : decide (n < all.length) = true := decide_eq_true (by omega)
    have hlt : (n : Int) < all.length := by omega
    by_cases hk : t.kind = k
    · have HE : Hid (isP k s (t :: r) = (t.text == s)) := by unfold Hid; show (t.kind == k && t.text == s) = _; rw [beq_iff_eq.2 hk, Bool.true_and]
      have hkb : (t.kind == k) = true := beq_iff_eq.2 hk
      clear hl h hf hlen hk
      rw [HE.out]
      go_enter Tryd.func58, Tryd.ntmps58
      go_wp2_with fail
      go_quiet (fail)
      go_wp2_with fail
      go_ret
      exact ⟨rfl, belowDrewN w _⟩
    · have HE : Hid (isP k s (t :: r) = false) := by unfold Hid; show (t.kind == k && t.text == s) = _; rw [beq_eq_false_iff_ne.2 hk, Bool.false_and]
      have hkb : (t.kind == k) = false := beq_eq_false_iff_ne.2 hk
      clear hl h hf hlen hk
      rw [HE.out]
      go_enter Tryd.func58, Tryd.ntmps58
      go_wp2_with fail
      go_quiet (fail)
      go_wp2_with fail
      go_ret
      exact ⟨rfl, belowDrewN w _⟩
theorem RT.gstep {w w1 : World} {b : Nat} {v : Value} {F : Dom} {all : List Tok} {n : Nat} (h : RT w b v F all n) (hb : Below w.heap.size w w1) : RT (w1.setCell ⟨b, 1, none⟩ (.int .i64 ((n : Int) + 1))) b v F all (n + 1) ∧ w.grownBy (w1.setCell ⟨b, 1, none⟩ (.int .i64 ((n : Int) + 1))) (some b) :=
  ⟨(h.below hb).step, Go.Lib.grownBy_setB (gBelow hb b) 1 (.int .i64 ((n : Int) + 1))⟩
def EatPost (c : UInt8) (b : Nat) (v : Value) (F : Dom) (all l : List Tok) (w : World) (e : Ending) (w' : World) : Prop :=
  (∃ r, eatP c l = some r ∧ e = .returned (.bool true) ∧ RL w' b v F all r ∧ w.grownBy w' (some b)) ∨ (eatP c l = none ∧ e = .returned (.bool false) ∧ RL w' b v F all l ∧ Below w.heap.size w w')
set_option maxHeartbeats 2000000 in
theorem eat_any (b : Nat) (v : Value) (F : Dom) (all l : List Tok) (c : UInt8) (w : World) (hn : all.length ≤ 100000) (h : RL w b v F all l) :
    Calls Tryd.prog 59 #[.pointer (some ⟨b, 0, none⟩), .string ⟨#[c]⟩] w (EatPost c b v F all l w) := by
  obtain ⟨n, hl, hr⟩ := h
  have hi := is_any b n v F all l 5 [c] w hn hl hr
  obtain ⟨q, hq⟩ : ∃ q, q = isP 5 [c] l := ⟨_, rfl⟩
  rw [← hq] at hi
  have HI := Lib.hid hi; have HL := Lib.hid hl; have HR := Lib.hid hr; have HQ := Lib.hid hq
  have hnl := hl.1
  clear hi hl hr hq
  cases q with
  | false =>
    go_enter Tryd.func59, Tryd.ntmps59
    go_wp2_with fail
    refine HI.out.mono ?_
    rintro e w1 ⟨rfl, hb1⟩
    have HB1 := Lib.hid hb1
    clear hb1
    go_wp2_with fail
    go_ret
    refine .inr ⟨?_, rfl, ⟨n, HL.out, HR.out.below HB1.out⟩, HB1.out⟩
    unfold eatP; rw [← HQ.out]; rfl
  | true =>
    obtain ⟨t, r, rfl, -, -⟩ := isP_cons HQ.out.symm
    rw [List.length_cons] at hnl
    have hn1 : n ≤ 100000 := by omega
    go_enter Tryd.func59, Tryd.ntmps59
    go_wp2_with fail
    refine HI.out.mono ?_
    rintro e w1 ⟨rfl, hb1⟩
    have hr1 := HR.out.below hb1
    have d1 := hr1.c1
    have g1 := hr1.f1
    have HS := Lib.hid (HR.out.gstep hb1)
    clear hb1 hr1
    go_wp2_with fail
    go_ret
    refine .inl ⟨r, ?_, rfl, ⟨n + 1, HL.out.cons.2.2, HS.out.1⟩, HS.out.2⟩
    unfold eatP; rw [← HQ.out]; rfl
def Unt (_ : Unit) (_ : World) (e : Ending) : Prop := e = .returned (.tuple #[])
set_option maxHeartbeats 2000000 in
theorem must_any (b : Nat) (v : Value) (F : Dom) (all l : List Tok) (c : UInt8) (w : World) (hn : all.length ≤ 100000) (h : RL w b v F all l) :
    Calls Tryd.prog 38 #[.pointer (some ⟨b, 0, none⟩), .string ⟨#[c]⟩] w (Ans Unt b v F all w (mustP c l)) := by
  have HE := Lib.hid (eat_any b v F all l c w hn h)
  clear h
  go_enter Tryd.func38, Tryd.ntmps38
  go_wp2_with fail
  refine HE.out.mono ?_
  rintro e w1 (⟨r, hr, rfl, h1, g1⟩ | ⟨hr, rfl, ⟨n, hl, h1⟩, hb1⟩)
  · have HR : Hid (mustP c l = .ok ((), r)) := by unfold Hid mustP; rw [hr]
    have H1 := Lib.hid h1; have G1 := Lib.hid g1
    clear hr h1 g1 HE
    go_wp2_with fail
    go_returns
    rw [HR.out]
    exact ⟨rfl, H1.out, G1.out⟩
  · have HR : Hid (mustP c l = .error (l.length, if l.length = 0 then 4 else 3)) := by unfold Hid mustP; rw [hr]; rfl
    have HG := Lib.hid (give_any b n v F all l 3 w1 (by decide) hn hl h1)
    have HB := Lib.hid hb1
    clear hr hl h1 hb1 HE
    go_wp2_with fail
    refine HG.out.mono ?_
    rintro e w2 ⟨ch, rfl, HCH, hb2⟩
    have HB2 := Lib.hid (bt HB.out hb2)
    clear hb2 HG
    go_wp2_with fail
    refine ⟨rfl, ?_⟩
    rw [HR.out]
    exact ⟨by rw [HCH.out], gBelow HB2.out b⟩
/-- the token at place i, as the walk reads it -/
theorem RT.tokAt {w : World} {b : Nat} {v : Value} {F : Dom} {all : List Tok} {n i : Nat} {t : Tok} (h : RT w b v F all n) (ht : all[i]? = some t) : ∃ g off cap, v = .slice (some ⟨g, off, none⟩) all.length cap ∧ w.cell? ⟨g, off + i * 3, none⟩ = some (.int .i64 t.kind) ∧ w.cell? ⟨g, off + i * 3 + 1, none⟩ = some (.string ⟨t.text.toArray⟩) ∧ w.cell? ⟨g, off + i * 3 + 2, none⟩ = some (.int .i64 t.num) := by
  obtain ⟨hlt, he⟩ := List.getElem?_eq_some_iff.1 ht
  obtain ⟨G, cap, rfl, -⟩ := h.toks.form
  obtain ⟨g, off, vs, rfl, -, -, hv, hc⟩ := h.toks.get i hlt
  rw [he] at hv
  obtain rfl : vs = tokC t := hv
  exact ⟨g, off, cap, rfl, hc 0 _ rfl, hc 1 _ rfl, hc 2 _ rfl⟩
/-- a token's value -/
def TokR (t : Tok) (_ : World) (e : Ending) : Prop := e = .returned (.agg #[.int .i64 t.kind, .string ⟨t.text.toArray⟩, .int .i64 t.num])
set_option maxHeartbeats 4000000 in
set_option maxRecDepth 20000 in
theorem next_tok (b : Nat) (v : Value) (F : Dom) (all l : List Tok) (k : Int) (w : World) (hn : all.length ≤ 100000) (h : RL w b v F all l) :
    Calls Tryd.prog 37 #[.pointer (some ⟨b, 0, none⟩), .int .i64 k] w (Ans TokR b v F all w (nextP k l)) := by
  obtain ⟨n, hl, hr0⟩ := h
  have hal := ba (Below.refl w.heap.size w) (.cells #[.int .i64 0, .string ⟨#[]⟩, .int .i64 0] 35)
  have hr := hr0.below hal
  have HAL := Lib.hid hal; have HR := Lib.hid hr
  have HN := Lib.hid (Has.alloc w [.int .i64 0, .string ⟨#[]⟩, .int .i64 0] 35)
  have hbw := hr0.lt
  obtain ⟨G, cap, rfl, hlen, hf⟩ := hr.facts hl
  have c0 := hr.c0
  have c1 := hr.c1
  have hpos : (0 : Int) ≤ n := by omega
  by_cases hb : ∃ t r, l = t :: r ∧ t.kind = k
  · obtain ⟨t, r, rfl, hk⟩ := hb
    obtain ⟨g, off, rfl, e0, e1, e2⟩ := hf t r rfl
    rw [List.length_cons] at hlen
    have hd : decide (all.length ≤ n) = false := decide_eq_false (by omega)
    have hlt : (n : Int) < all.length := by omega
    have hn1 : n ≤ 100000 := by omega
    have HE : Hid (nextP k (t :: r) = .ok (t, r)) := by unfold Hid nextP; exact if_pos hk
    have hkb : (t.kind != k) = false := by simpa using hk
    have HL := Lib.hid hl.cons.2.2
    have HT := Lib.hid hl.cons.2.1
    clear hl hr hr0 hf hlen hk hal
    rw [HE.out]
    go_enter Tryd.func37, Tryd.ntmps37
    go_wp2_with fail
    go_quiet (fail)
    have hb1 := bt HAL.out (belowDrewN (w.alloc (.cells #[.int .i64 0, .string ⟨#[]⟩, .int .i64 0] 35)) nq)
    have hr1 := HR.out.drewN nq
    have hn1' := HN.out.down (belowDrewN (w.alloc (.cells #[.int .i64 0, .string ⟨#[]⟩, .int .i64 0] 35)) nq)
    have d1 := hr1.c1
    have g1 := hr1.f1
    have HS : Hid (RT (((w.alloc (.cells #[.int .i64 0, .string ⟨#[]⟩, .int .i64 0] 35)).drewN nq).setCell ⟨b, 1, none⟩ (.int .i64 ((n : Int) + 1))) b (.slice (some ⟨g, off, none⟩) all.length cap) F all (n + 1) ∧ w.grownBy (((w.alloc (.cells #[.int .i64 0, .string ⟨#[]⟩, .int .i64 0] 35)).drewN nq).setCell ⟨b, 1, none⟩ (.int .i64 ((n : Int) + 1))) (some b) ∧ Has (((w.alloc (.cells #[.int .i64 0, .string ⟨#[]⟩, .int .i64 0] 35)).drewN nq).setCell ⟨b, 1, none⟩ (.int .i64 ((n : Int) + 1))) w.heap.size [.int .i64 0, .string ⟨#[]⟩, .int .i64 0]) :=
      ⟨hr1.step, Go.Lib.grownBy_setB (gBelow hb1 b) 1 (.int .i64 ((n : Int) + 1)), hn1'.else' (by omega) _⟩
    clear hb1 hr1 hn1'
    go_upto_region 4 with fail
    refine wp_at (R := fun W => RT W b (.slice (some ⟨g, off, none⟩) all.length cap) F all (n + 1) ∧ w.grownBy W (some b) ∧ Has W w.heap.size [.int .i64 0, .string ⟨#[]⟩, .int .i64 0]) HS.out (fun W hW => ?_)
    clear HS c0 c1 e0 e1 e2 d1 g1
    generalize hNe : w.heap.size = N at hW hbw ⊢
    have HNE : Hid (w.heap.size ≤ N) := Nat.le_of_eq hNe
    clear hNe
    obtain ⟨hrW, hgW, hN⟩ := hW
    have c0 := hrW.c0
    have c1 : W.cell? ⟨b, 1, none⟩ = some (.int .i64 ((n : Int) + 1)) := hrW.c1
    obtain ⟨g', off', cap', hv', e0, e1, e2⟩ := hrW.tokAt HT.out
    cases hv'
    have n0 := hN.1 0 _ rfl; have n1 := hN.1 1 _ rfl; have n2 := hN.1 2 _ rfl
    have m0 := hN.2.1 0 (by simp); have m1 := hN.2.1 1 (by simp); have m2 := hN.2.1 2 (by simp)
    have HRW := Lib.hid hrW; have HGW := Lib.hid hgW; have HNW := Lib.hid hN
    clear hrW hgW hN
    go_region
    all_goals
      have R3 := ((HRW.out.far (i := 0) hbw (.int .i64 t.kind)).far (i := 1) hbw (.string ⟨t.text.toArray⟩)).far (i := 2) hbw (.int .i64 t.num)
      have R4 := Lib.hid (R3.below (Below.drew (Below.refl _ _)))
      have G3 := grown_far (i := 2) (grown_far (i := 1) (grown_far (i := 0) HGW.out HNE.out (.int .i64 t.kind)) HNE.out (.string ⟨t.text.toArray⟩)) HNE.out (.int .i64 t.num)
      have G4 := Lib.hid (Go.Lib.grownBy_below G3 (Below.drew (Below.refl _ _)))
      have hr3 := (((HNW.out.set' (i := 0) (.int .i64 t.kind) (by simp)).set' (i := 1) (.string ⟨t.text.toArray⟩) (by simp)).set' (i := 2) (.int .i64 t.num) (by simp)).down (Below.drew (Below.refl _ _))
      have x0 := hr3.1 0 _ rfl; have x1 := hr3.1 1 _ rfl; have x2 := hr3.1 2 _ rfl
      clear R3 G3 hr3 n0 n1 n2 m0 m1 m2 c0 c1 e0 e1 e2
      go_wp2_with fail
      refine bodyPost_ret (v := .agg #[.int .i64 t.kind, .string ⟨t.text.toArray⟩, .int .i64 t.num]) ?_ rfl ⟨rfl, ⟨n + 1, HL.out, R4.out⟩, G4.out⟩
      simp [results, Tryd.results37, go_sem, x0, x1, x2]
  · have hE : nextP k l = .error (l.length, if l.length = 0 then 4 else 3) := by
      unfold nextP
      cases l with
      | nil => rfl
      | cons t r => exact if_neg (fun h => hb ⟨t, r, rfl, h⟩)
    have HE := Lib.hid hE
    obtain ⟨q, hq⟩ : ∃ q, q = decide (all.length ≤ n) := ⟨_, rfl⟩
    have HL := Lib.hid hl
    have HG := Lib.hid (fun w' (hb' : Below (w.alloc (.cells #[.int .i64 0, .string ⟨#[]⟩, .int .i64 0] 35)).heap.size (w.alloc (.cells #[.int .i64 0, .string ⟨#[]⟩, .int .i64 0] 35)) w') => give_any b n (.slice G all.length cap) F all l 3 w' (by decide) hn hl (hr.below hb'))
    rw [HE.out]
    cases l with
    | nil =>
      have hd : decide (all.length ≤ n) = true := decide_eq_true (by simp at hlen; omega)
      clear hl hr hr0 hf hlen hal hE hb hq HE
      go_enter Tryd.func37, Tryd.ntmps37
      go_wp2_with fail
      go_quiet (fail)
      go_wp2_with fail
      refine (HG.out _ (belowDrewN _ _)).mono ?_
      rintro e w2 ⟨ch, rfl, HCH, hb2⟩
      have HB2 := Lib.hid (bt (bt HAL.out (belowDrewN _ _)) hb2)
      clear hb2 HG
      go_wp2_with fail
      exact ⟨rfl, by rw [HCH.out]; rfl, gBelow HB2.out b⟩
    | cons t r =>
      obtain ⟨g, off, rfl, e0, e1, e2⟩ := hf t r rfl
      rw [List.length_cons] at hlen
      have hd : decide (all.length ≤ n) = false := decide_eq_false (by omega)
      have hlt : (n : Int) < all.length := by omega
      have hkb : (t.kind != k) = true := by simpa using fun h => hb ⟨t, r, rfl, h⟩
      clear hl hr hr0 hf hlen hal hE hb hq HE
      go_enter Tryd.func37, Tryd.ntmps37
      go_wp2_with fail
      go_quiet (fail)
      go_wp2_with fail
      refine (HG.out _ (belowDrewN _ _)).mono ?_
      rintro e w2 ⟨ch, rfl, HCH, hb2⟩
      have HB2 := Lib.hid (bt (bt HAL.out (belowDrewN _ _)) hb2)
      clear hb2 HG
      go_wp2_with fail
      exact ⟨rfl, by rw [HCH.out]; rfl, gBelow HB2.out b⟩
end Go.Proofs.YtlgbmnmoobpkkaaDoor.Sc
namespace Go.Proofs.YtlgbmnmoobpkkaaDoor.Sc
open Go.RowKit
open Tk (Tok)

/-- where the reader stands, by its cell -/
def posT (w : World) (b : Nat) : Nat := match w.cell? ⟨b, 1, none⟩ with
  | some (.int _ n) => n.toNat
  | _ => 0
theorem RT.pos {w : World} {b : Nat} {v : Value} {F : Dom} {all : List Tok} {n : Nat} (h : RT w b v F all n) : posT w b = n := by unfold posT; rw [h.c1]; rfl
theorem RL.meas {w w' : World} {b : Nat} {v : Value} {F : Dom} {all l l' : List Tok} (h : RL w b v F all l) (h' : RL w' b v F all l') (hl : l'.length < l.length) : all.length - posT w' b < all.length - posT w b := by
  obtain ⟨n, a1, a2⟩ := h
  obtain ⟨n', b1, b2⟩ := h'
  rw [a2.pos, b2.pos]
  have := a1.1; have := b1.1
  omega
theorem RL.lt {w : World} {b : Nat} {v : Value} {F : Dom} {all l : List Tok} (h : RL w b v F all l) : b < w.heap.size := by obtain ⟨n, -, h⟩ := h; exact h.lt
theorem RL.len {w : World} {b : Nat} {v : Value} {F : Dom} {all l : List Tok} (h : RL w b v F all l) : l.length ≤ all.length := by obtain ⟨n, h, -⟩ := h; have := h.1; omega
theorem RL.low {w : World} {b : Nat} {v : Value} {F : Dom} {all l : List Tok} (h : RL w b v F all l) : ∀ x, F x → x < b := by obtain ⟨n, -, h⟩ := h; exact h.low
theorem grown_row {w wr w2 w6 : World} {b : Nat} {o : Option Nat} (g : w.grownBy wr (some b)) (hb : Below wr.heap.size wr w2) (hg : w2.grownBy w6 o) (ho : ∀ x, o = some x → w.heap.size ≤ x) : w.grownBy w6 (some b) :=
  ⟨hg.os.trans (hb.os.trans g.os), hg.tape.trans (hb.tape.trans g.tape), hg.output.trans (hb.output.trans g.output), Nat.le_trans g.size (Nat.le_trans hb.size hg.size), fun k hk he => (hg.block k (Nat.lt_of_lt_of_le hk (Nat.le_trans g.size hb.size)) (fun e => by have := ho k e.symm; omega)).trans ((hb.block k (Nat.lt_of_lt_of_le hk g.size)).trans (g.block k hk he))⟩
/-- what was made stays where the reader alone is written -/
theorem sat_read {α : Type} {c : Cod α} {w w' : World} {b H : Nat} {v : Value} {xs : List α} (h : SAt c w (fun x => H ≤ x) v xs) (g : w.grownBy w' (some b)) (hb : b < H) : SAt c w' (fun x => H ≤ x) v xs :=
  h.stable (Same.of_grown g (fun x e hF => by obtain rfl : b = x := Option.some.inj e; have : H ≤ b := hF; omega)) g.size
def StrsR (H : Nat) (ss : List Str) (w' : World) (e : Ending) : Prop := ∃ v, e = .returned v ∧ SAt cStr w' (fun x => H ≤ x) v ss
theorem bnd_assoc {α β γ : Type} (x : PR α) (f : α → List Tok → PR β) (g : β → List Tok → PR γ) : bnd (bnd x f) g = bnd x fun a r => bnd (f a r) g := by cases x <;> rfl
theorem more_none {m : Nat} {r : List Tok} (h : eatP 44 r = none) : moreS m r = .ok ([], r) := by
  cases m with
  | zero => rfl
  | succ m => rw [moreS, h]
theorem tok_text (k nm : Int) (x : ByteArray) (w : World) : (Instr.field 35 (.agg #[.int .i64 k, .string x, .int .i64 nm]) 1).run Tryd.prog w = .ok (.string x) w := by kernel_rfl
theorem tok_num (k nm : Int) (x : ByteArray) (w : World) : (Instr.field 35 (.agg #[.int .i64 k, .string x, .int .i64 nm]) 2).run Tryd.prog w = .ok (.int .i64 nm) w := by kernel_rfl
set_option maxHeartbeats 8000000 in
set_option maxRecDepth 20000 in
theorem list_tok (b : Nat) (v : Value) (F : Dom) (all l : List Tok) (w : World) (hn : all.length ≤ 100000) (h : RL w b v F all l) :
    Calls Tryd.prog 36 #[.pointer (some ⟨b, 0, none⟩)] w (Ans (StrsR w.heap.size) b v F all w (listP l)) := by
  have HE := Lib.hid (eat_any b v F all l 91 w hn h)
  have hbl := h.lt
  have hll := h.len
  obtain ⟨i0, hi, hz0, hz1, hz2⟩ := info_three info_str
  have HI0 := Lib.hid hi; have HZ0 := Lib.hid hz0; have HZ1 := Lib.hid hz1; have HZ2 := Lib.hid hz2
  obtain ⟨Rz, hRz⟩ : ∃ Rz, Rz = listP l := ⟨_, rfl⟩
  rw [← hRz]
  have HRZ := Lib.hid hRz
  clear h hRz hi hz0 hz1 hz2
  go_enter Tryd.func36, Tryd.ntmps36
  go_wp2_with fail
  refine HE.out.mono ?_
  rintro e w1 (⟨r1, hr1, rfl, h1, g1⟩ | ⟨hr1, rfl, h1, hb1⟩)
  · -- a bracket
    have hlt := eat_lt hr1
    have HX : Hid (Rz = bnd (nextP 4 r1) fun t r => bnd (moreS r.length r) fun ts r => bnd (mustP 93 r) fun _ r => .ok (t.text :: ts, r)) := by unfold Hid; rw [HRZ.out]; unfold listP; rw [hr1]
    have hnx := next_tok b v F all r1 4 w1 hn h1
    have G1 := Lib.hid g1
    clear hr1 g1 HE h1
    cases hx : nextP 4 r1 with
    | error p =>
      obtain ⟨k, c⟩ := p
      rw [hx] at hnx HX
      have HN := Lib.hid hnx
      clear hx hnx
      go_wp2_with fail
      refine HN.out.mono ?_
      intro e w2 hp
      obtain ⟨ch, rfl, HCH, g2⟩ := hp.err
      have G2 := Lib.hid (Go.Lib.grownBy_trans G1.out g2)
      clear hp g2 HN
      go_wp2_with fail
      refine ⟨rfl, ?_⟩
      rw [HX.out]
      exact ⟨by rw [HCH.out], G2.out⟩
    | ok p =>
      obtain ⟨t, r2⟩ := p
      have hls := less_next 4 r1
      rw [hx] at hnx HX hls
      have hr2l : r2.length + 1 ≤ r1.length := hls
      have HN := Lib.hid hnx
      clear hx hnx hls
      go_wp2_with fail
      refine HN.out.mono ?_
      intro e w2 hp
      obtain ⟨rfl, h2, g2⟩ := hp
      obtain ⟨k, s, nm⟩ := t
      have hal := ba (Below.refl w2.heap.size w2) (.cells #[.string ⟨s.toArray⟩] 9)
      have G2 := Lib.hid (Go.Lib.grownBy_below (Go.Lib.grownBy_trans G1.out g2) hal)
      have H2 := Lib.hid (h2.below hal)
      have hz12 : w.heap.size ≤ w2.heap.size := Nat.le_trans G1.out.size g2.size
      have hown := World.ownsRow_lit (base := w.heap.size) (e := 9) (size := 1) w2 #[.string ⟨s.toArray⟩] 1 hz12 (by decide) rfl
      have HOWN : Hid ((w2.alloc (.cells #[.string ⟨s.toArray⟩] 9)).ownsRow w.heap.size 9 1 (.slice (some ⟨w2.heap.size, 0, none⟩) 1 1) 1 (strs [s])) := hown
      have HX2 : Hid (Rz = bnd (moreS r2.length r2) fun ts q => bnd (mustP 93 q) fun _ q2 => .ok ([s] ++ ts, q2)) := HX.out
      have hfld := fun w => tok_text k nm ⟨s.toArray⟩ w
      clear h2 g2 hal hown HN HX HRZ hz12
      go_wp2_with fail
      have HA0 : Hid (([s] : List Str).length + r2.length ≤ 100001) := by unfold Hid; show 1 + r2.length ≤ _; omega
      clear hfld
      obtain ⟨W3, hW3⟩ : ∃ W3, W3 = w2.alloc (.cells #[.string ⟨s.toArray⟩] 9) := ⟨_, rfl⟩
      obtain ⟨N3, hN3⟩ : ∃ N3, N3 = w2.heap.size := ⟨_, rfl⟩
      rw [← hW3] at G2 H2 HOWN ⊢
      rw [← hN3] at HOWN ⊢
      clear hW3 hN3
      go_loopw [3] (fun vo wr => ∃ (acc : List Str) (r : List Tok) (m : Nat), RL wr b v F all r ∧ wr.ownsRow w.heap.size 9 1 vo acc.length (strs acc) ∧ 1 ≤ acc.length ∧ r.length ≤ m ∧ acc.length + r.length ≤ 100001 ∧ Hid (Rz = bnd (moreS m r) fun ts q => bnd (mustP 93 q) fun _ q2 => .ok (acc ++ ts, q2)) ∧ w.grownBy wr (some b)) (fun _ wr => all.length - posT wr b)
      case atStart => exact ⟨[s], r2, r2.length, H2.out, HOWN.out, Nat.le_refl _, Nat.le_refl _, HA0.out, HX2.out, G2.out⟩
      case round =>
        obtain ⟨acc, r, m, hr, hrow, hacc, hm, hla, HQ, hg⟩ := hrel
        obtain ⟨Gv, cv, rfl⟩ := row_slice hrow
        have HE2 := Lib.hid (eat_any b v F all r 44 wr hn hr)
        have HR := Lib.hid hr; have HROW := Lib.hid hrow; have HG := Lib.hid hg
        clear hr hrow hg
        go_wp2_with fail
        refine HE2.out.mono ?_
        rintro e w4 (⟨r4, hr4, rfl, h4, g4⟩ | ⟨hr4, rfl, h4, hb4⟩)
        · have hlt4 := eat_lt hr4
          obtain ⟨m', rfl⟩ : ∃ m', m = m' + 1 := ⟨m - 1, by omega⟩
          have HQ2 : Hid (Rz = bnd (nextP 4 r4) fun t r => bnd (moreS m' r) fun ts q => bnd (mustP 93 q) fun _ q2 => .ok (acc ++ (t.text :: ts), q2)) := by
            unfold Hid; rw [HQ.out, moreS, hr4]
            show bnd (bnd (nextP 4 r4) _) _ = _
            rw [bnd_assoc]
            cases nextP 4 r4 with
            | error p => rfl
            | ok p =>
              show bnd (bnd (moreS m' p.2) _) _ = bnd (moreS m' p.2) _
              rw [bnd_assoc]; rfl
          have hnx := next_tok b v F all r4 4 w4 hn h4
          have hls := less_next 4 r4
          have G4 := Lib.hid (Go.Lib.grownBy_trans HG.out g4)
          have HROW4 := Lib.hid (HROW.out.kept g4 (by
            by_cases e : (Value.slice Gv acc.length cv).ownBlock = none
            · exact .inl e
            · refine .inr fun e2 => ?_
              have := (HROW.out.lt b e2).1
              omega))
          have HR4 := Lib.hid h4
          clear hr4 g4 HE2 h4 HQ
          cases hx : nextP 4 r4 with
          | error p =>
            obtain ⟨k, c⟩ := p
            rw [hx] at hnx HQ2
            have HN := Lib.hid hnx
            clear hx hnx hls
            go_wp2_with fail
            refine HN.out.mono ?_
            intro e w5 hp
            obtain ⟨ch, rfl, HCH, g5⟩ := hp.err
            have G5 := Lib.hid (Go.Lib.grownBy_trans G4.out g5)
            clear hp g5 HN
            go_wp2_with fail
            refine ⟨rfl, ?_⟩
            rw [HQ2.out]
            exact ⟨by rw [HCH.out], G5.out⟩
          | ok p =>
            obtain ⟨⟨kt, st, nt⟩, r5⟩ := p
            rw [hx] at hnx HQ2 hls
            have hr5l : r5.length + 1 ≤ r4.length := hls
            have HN := Lib.hid hnx
            have hfld := fun w => tok_text kt nt ⟨st.toArray⟩ w
            clear hx hnx hls
            go_wp2_with fail
            refine HN.out.mono ?_
            intro e w5 hp
            obtain ⟨rfl, h5, g5⟩ := hp
            have hal := ba (Below.refl w5.heap.size w5) (.cells #[.string ⟨st.toArray⟩] 9)
            have hrow5 := HROW4.out.kept g5 (by
              by_cases e : (Value.slice Gv acc.length cv).ownBlock = none
              · exact .inl e
              · refine .inr fun e2 => ?_
                have := (HROW4.out.lt b e2).1
                omega)
            have HROW5 := Lib.hid (row_down hrow5 hal)
            have HAL := Lib.hid hal
            have G5 := Lib.hid (Go.Lib.grownBy_trans G4.out g5)
            have H5 := Lib.hid h5
            clear h5 g5 hal hrow5 HN
            go_wp2_with (at_builtin; refine wpList_append_lies _ (by rfl) _ _ _ (by rfl) w.heap.size 9 i0 _ 1 16 Tryd.underlying42 HI0.out HZ0.out HZ1.out HZ2.out rfl (by omega) (.slice Gv acc.length cv) acc.length (strs acc) (by rfl) HROW5.out ⟨w5.heap.size, 0, none⟩ 1 1 [.string ⟨st.toArray⟩] (by rfl) (by rfl) (news_of w5 _ _) (by simp [Value.oneCell']) (by omega) (by unfold maxLen; omega) (by omega) (by have := G5.out.size; simp; omega) (w5.heap.size + 1) (by simp) ?_)
            intro g6 cap6 w6 hown6 hgrow6 hat6 hlt6
            have hlo : ∀ x, (Value.slice Gv acc.length cv).ownBlock = some x → w.heap.size ≤ x := fun x e => (HROW5.out.lt x e).1
            have HG6 := Lib.hid (grown_row G5.out HAL.out hgrow6 hlo)
            have HR6 := Lib.hid ((H5.out.below HAL.out).grown hgrow6 (fun x e => ⟨by have := hlo x e; omega, fun hF => by have := HR.out.low x hF; have := hlo x e; omega⟩))
            have HOWN6 : Hid (w6.ownsRow w.heap.size 9 1 (.slice (some ⟨g6, 0, none⟩) (acc.length + 1) cap6) (acc ++ [st]).length (strs (acc ++ [st]))) := by
              unfold Hid
              have e1 : (acc ++ [st]).length = acc.length + 1 := by simp
              have e2 : strs (acc ++ [st]) = strs acc ++ [.string ⟨st.toArray⟩] := by simp [strs]
              rw [e1, e2]; exact hown6
            have HQ6 : Hid (Rz = bnd (moreS m' r5) fun ts q => bnd (mustP 93 q) fun _ q2 => .ok ((acc ++ [st]) ++ ts, q2)) := by
              unfold Hid
              rw [HQ2.out]
              show bnd (moreS m' r5) _ = _
              simp only [List.append_assoc, List.singleton_append]
            have HME := Lib.hid (HR.out.meas HR6.out (by omega))
            clear hown6 hgrow6 hat6 hlt6 hlo hfld
            go_wp2_with fail
            go_roundw
            case rel => exact ⟨acc ++ [st], r5, m', HR6.out, HOWN6.out, by simp, by omega, by simp; omega, HQ6.out, HG6.out⟩
            case measure => exact HME.out
        · have HQ2 : Hid (Rz = bnd (mustP 93 r) fun _ q2 => .ok (acc, q2)) := by
            unfold Hid; rw [HQ.out, more_none hr4]; show bnd (mustP 93 r) _ = _; rw [List.append_nil]
          have hmu := must_any b v F all r 93 w4 hn h4
          have HROW4 := Lib.hid (row_down HROW.out hb4)
          have G4 := Lib.hid (Go.Lib.grownBy_below HG.out hb4)
          clear hr4 hb4 h4 HE2 HQ
          cases hx : mustP 93 r with
          | error p =>
            obtain ⟨k, c⟩ := p
            rw [hx] at hmu HQ2
            have HN := Lib.hid hmu
            clear hx hmu
            go_wp2_with fail
            refine HN.out.mono ?_
            intro e w5 hp
            obtain ⟨ch, rfl, HCH, g5⟩ := hp.err
            have G5 := Lib.hid (Go.Lib.grownBy_trans G4.out g5)
            clear hp g5 HN
            go_wp2_with fail
            refine ⟨rfl, ?_⟩
            rw [HQ2.out]
            exact ⟨by rw [HCH.out], G5.out⟩
          | ok p =>
            obtain ⟨u, r5⟩ := p
            rw [hx] at hmu HQ2
            have HN := Lib.hid hmu
            clear hx hmu
            go_wp2_with fail
            refine HN.out.mono ?_
            intro e w5 hp
            obtain ⟨rfl, h5, g5⟩ := hp
            have hrow5 := HROW4.out.kept g5 (by
              by_cases e : (Value.slice Gv acc.length cv).ownBlock = none
              · exact .inl e
              · refine .inr fun e2 => ?_
                have := (HROW4.out.lt b e2).1
                omega)
            obtain ⟨g6, cap6, hgv, hg6, -⟩ := World.ownsRow.form hrow5 hacc
            cases hgv
            have HS := Lib.hid (sat_own (F := fun x => w.heap.size ≤ x) hrow5 rfl hg6)
            have G5 := Lib.hid (Go.Lib.grownBy_trans G4.out g5)
            have H5 := Lib.hid h5
            clear h5 g5 hrow5 HN
            go_wp2_with fail
            go_ret
            rw [HQ2.out]
            exact ⟨⟨_, rfl, HS.out⟩, H5.out, G5.out⟩
  · -- one alone
    have HX : Hid (Rz = bnd (nextP 4 l) fun t r => .ok ([t.text], r)) := by unfold Hid; rw [HRZ.out]; unfold listP; rw [hr1]
    have hnx := next_tok b v F all l 4 w1 hn h1
    have HB1 := Lib.hid hb1
    clear hr1 hb1 HE h1 HRZ
    cases hx : nextP 4 l with
    | error p =>
      obtain ⟨k, c⟩ := p
      rw [hx] at hnx HX
      have HN := Lib.hid hnx
      clear hx hnx
      go_wp2_with fail
      refine HN.out.mono ?_
      intro e w2 hp
      obtain ⟨ch, rfl, HCH, g2⟩ := hp.err
      have G2 := Lib.hid (Go.Lib.grownBy_trans (gBelow HB1.out b) g2)
      clear hp g2 HN
      go_wp2_with fail
      refine ⟨rfl, ?_⟩
      rw [HX.out]
      exact ⟨by rw [HCH.out], G2.out⟩
    | ok p =>
      obtain ⟨⟨k, s, nm⟩, r2⟩ := p
      rw [hx] at hnx HX
      have HN := Lib.hid hnx
      have hfld := fun w => tok_text k nm ⟨s.toArray⟩ w
      clear hx hnx
      go_wp2_with fail
      refine HN.out.mono ?_
      intro e w2 hp
      obtain ⟨rfl, h2, g2⟩ := hp
      have hal := ba (Below.refl w2.heap.size w2) (.cells #[.string ⟨s.toArray⟩] 9)
      have G2 := Lib.hid (Go.Lib.grownBy_below (Go.Lib.grownBy_trans (gBelow HB1.out b) g2) hal)
      have H2 := Lib.hid (h2.below hal)
      have hz12 : w.heap.size ≤ w2.heap.size := Nat.le_trans HB1.out.size g2.size
      have HS := Lib.hid (sat_str (F := fun x => w.heap.size ≤ x) (Has.alloc w2 [.string ⟨s.toArray⟩] 9) hz12)
      clear h2 g2 hal HN hz12
      go_wp2_with fail
      go_ret
      rw [HX.out]
      exact ⟨⟨_, rfl, HS.out⟩, H2.out, G2.out⟩
end Go.Proofs.YtlgbmnmoobpkkaaDoor.Sc
namespace Go.Proofs.YtlgbmnmoobpkkaaDoor.Sc
open Go.RowKit
open Tk (Tok)

theorem grown_low {w w' : World} {b : Nat} (g : w.grownBy w' (some b)) (hb : b ≤ w.heap.size) : Below b w w' :=
  ⟨g.os, g.tape, g.output, g.size, fun k hk => g.block k (by omega) (fun e => by have := Option.some.inj e; omega)⟩
/-- where a text stands in a table; -1: nowhere -/
def idxI (tab : List Str) (s : Str) : Int := if tab.idxOf s < tab.length then (tab.idxOf s : Int) else -1
theorem idxI_W (tab : List Str) (s : Str) : (0 < idxI tab s ∧ idxI tab s = idxW tab s ∧ 0 < idxW tab s) ∨ (idxI tab s ≤ 0 ∧ idxW tab s = 0) := by
  unfold idxI idxW
  split <;> omega
theorem idxFrom_map (s : Str) : ∀ (l : List Str) (i : Nat), Lib.idxFromS (l.map fun x => (⟨x.toArray⟩ : ByteArray)) ⟨s.toArray⟩ i = if l.idxOf s < l.length then ((i + l.idxOf s : Nat) : Int) else -1
  | [], i => rfl
  | x :: l, i => by
    by_cases e : x = s
    · subst e
      simp [Lib.idxFromS]
    · have h1 : ¬ ((⟨x.toArray⟩ : ByteArray) = ⟨s.toArray⟩) := fun h => e (by
        have := congrArg (fun b : ByteArray => b.data.toList) h
        simpa using this)
      have h2 : (x :: l).idxOf s = l.idxOf s + 1 := by rw [List.idxOf_cons, beq_eq_false_iff_ne.2 e]; rfl
      have ih := idxFrom_map s l (i + 1)
      rw [h2, List.length_cons]
      show (if _ then _ else _) = _
      rw [if_neg h1, ih]
      split
      · rw [if_pos (by omega)]; congr 1; omega
      · rw [if_neg (by omega)]
theorem idx_tab (g : Nat) (tab : List Str) (s : Str) (w : World) (hT : TabAt w g tab) (hl : tab.length ≤ 1000) :
    Calls Tryd.prog 55 #[.slice (some ⟨g, 0, none⟩) tab.length tab.length, .string ⟨s.toArray⟩] w fun e w' => e = .returned (.int .i64 (idxI tab s)) ∧ w' = w := by
  have h := Tryd.slices_Index_string g 0 tab.length tab.length (tab.map fun x => ⟨x.toArray⟩) ⟨s.toArray⟩ w (by rw [List.length_map]; exact Nat.le_refl _) (by omega) (fun j hj => by
    rw [List.length_map] at hj
    rw [Nat.zero_add, hT j _ (List.getElem?_eq_getElem hj), List.getD, List.getElem?_map, List.getElem?_eq_getElem hj]; rfl)
  have e : Lib.idxOfS ((tab.map fun x => (⟨x.toArray⟩ : ByteArray)).take tab.length) ⟨s.toArray⟩ = idxI tab s := by
    rw [List.take_of_length_le (by rw [List.length_map]; exact Nat.le_refl _)]
    unfold Lib.idxOfS
    rw [idxFrom_map]
    unfold idxI
    rw [Nat.zero_add]
  rw [e] at h
  exact h
def NumR (k : Nat) (_ : World) (e : Ending) : Prop := e = .returned (.int .i64 k)
set_option maxHeartbeats 8000000 in
set_option maxRecDepth 20000 in
theorem word_tok (b g : Nat) (tab : List Str) (m : Nat) (v : Value) (F : Dom) (all l : List Tok) (w : World) (hn : all.length ≤ 100000) (h : RL w b v F all l) (hT : TabAt w g tab) (hg : g < b) (hm : m = tab.length) (hl : tab.length ≤ 1000) :
    Calls Tryd.prog 34 #[.pointer (some ⟨b, 0, none⟩), .slice (some ⟨g, 0, none⟩) m m] w (Ans NumR b v F all w (wordP tab l)) := by
  obtain ⟨n, hl0, hr⟩ := h
  have hbl := hr.lt
  obtain ⟨G, cap, rfl, hlen, hf⟩ := hr.facts hl0
  have c0 := hr.c0
  have c1 := hr.c1
  have hpos : (0 : Int) ≤ n := by omega
  have HG := Lib.hid (fun w' (hb' : Below w.heap.size w w') => give_any b n (.slice G all.length cap) F all l 3 w' (by decide) hn hl0 (hr.below hb'))
  have HR := Lib.hid hr; have HL := Lib.hid hl0
  by_cases hk1 : ∃ t r, l = t :: r ∧ t.kind = 1
  · obtain ⟨t, r, rfl, hk⟩ := hk1
    obtain ⟨gg, off, rfl, e0, e1, e2⟩ := hf t r rfl
    rw [List.length_cons] at hlen
    have hd : decide (n < all.length) = true := decide_eq_true (by omega)
    have hlt : (n : Int) < all.length := by omega
    have hn1 : n ≤ 100000 := by omega
    have hkb : (t.kind == 1) = true := beq_iff_eq.2 hk
    have HW : Hid (wordP tab (t :: r) = if 0 < idxW tab t.text then .ok (idxW tab t.text, r) else giveP (t :: r) 3) := by
      unfold Hid wordP
      show (if t.kind = 1 ∧ 0 < idxW tab t.text then _ else _) = _
      simp only [hk, true_and]
    have HT := Lib.hid hT
    have HI : Hid (∀ W, Below w.heap.size w W → Calls Tryd.prog 55 #[.slice (some ⟨g, 0, none⟩) m m, .string ⟨t.text.toArray⟩] W fun e w' => e = .returned (.int .i64 (idxI tab t.text)) ∧ w' = W) := fun W hb => by
      rw [hm]; exact idx_tab g tab t.text W (hT.below hb (by omega)) hl
    have key := idxI_W tab t.text
    have HTK := Lib.hid hl0.cons.2.1
    obtain ⟨q, hq⟩ : ∃ q, q = idxI tab t.text := ⟨_, rfl⟩
    rw [← hq] at HI key
    clear hl0 hr hf hlen hk hT hm hl hq
    go_enter Tryd.func34, Tryd.ntmps34
    go_wp2_with fail
    go_quiet (fail)
    have HB1 := Lib.hid (belowDrewN w nq)
    go_upto_region 2 with fail
    refine wp_at (R := fun W => Below w.heap.size w W) HB1.out (fun W hW => ?_)
    clear HB1 c0 c1 e0 e1 e2
    have hrW := HR.out.below hW
    have c0 := hrW.c0
    have c1 := hrW.c1
    have f1 := hrW.f1
    obtain ⟨g', off', cap', hv', e0, e1, e2⟩ := hrW.tokAt HTK.out
    cases hv'
    have HBW := Lib.hid hW
    clear hrW hW
    go_quiet ((go_at_call 55; exact Calls.quiet_of_same (HI.out _ (bt HBW.out (belowDrewN W _)))))
    have HB2 := Lib.hid (bt HBW.out (belowDrewN W nq))
    have hr2 := HR.out.below HB2.out
    have d1 := hr2.c1
    have f2 := hr2.f1
    have HS := Lib.hid (HR.out.gstep HB2.out)
    clear hr2 c0 c1 f1 e0 e1 e2
    rcases key with ⟨k1, k2, k3⟩ | ⟨k1, k2⟩
    · rw [if_pos k3] at HW
      have HK2 := Lib.hid k2
      clear k3 k2
      go_wp2_with fail
      go_ret
      rw [HW.out]
      exact ⟨by unfold NumR; rw [← HK2.out]; rfl, ⟨n + 1, HL.out.cons.2.2, HS.out.1⟩, HS.out.2⟩
    · rw [if_neg (by omega)] at HW
      have k1' : ¬ (0 < q) := by omega
      have HGV := Lib.hid (HG.out _ HB2.out)
      clear k1 k2
      go_wp2_with fail
      refine HGV.out.mono ?_
      rintro e w2 ⟨ch, rfl, HCH, hb2⟩
      have HB3 := Lib.hid (bt HB2.out hb2)
      clear hb2 HGV
      go_wp2_with fail
      refine ⟨rfl, ?_⟩
      rw [HW.out]
      exact ⟨by rw [HCH.out], gBelow HB3.out b⟩
  · have HW : Hid (wordP tab l = giveP l 3) := by
      unfold Hid wordP
      cases l with
      | nil => rfl
      | cons t r => exact if_neg (fun h => hk1 ⟨t, r, rfl, h.1⟩)
    cases l with
    | nil =>
      have hd : decide (n < all.length) = false := decide_eq_false (by simp at hlen; omega)
      clear hl0 hr hf hlen hT hm hl hk1
      go_enter Tryd.func34, Tryd.ntmps34
      go_wp2_with fail
      go_quiet (fail)
      go_wp2_with fail
      refine (HG.out _ (belowDrewN w _)).mono ?_
      rintro e w2 ⟨ch, rfl, HCH, hb2⟩
      have HB3 := Lib.hid (bt (belowDrewN w _) hb2)
      clear hb2
      go_wp2_with fail
      refine ⟨rfl, ?_⟩
      rw [HW.out]
      exact ⟨by rw [HCH.out], gBelow HB3.out b⟩
    | cons t r =>
      obtain ⟨gg, off, rfl, e0, e1, e2⟩ := hf t r rfl
      rw [List.length_cons] at hlen
      have hd : decide (n < all.length) = true := decide_eq_true (by omega)
      have hlt : (n : Int) < all.length := by omega
      have hkb : (t.kind == 1) = false := beq_eq_false_iff_ne.2 (fun h => hk1 ⟨t, r, rfl, h⟩)
      clear hl0 hr hf hlen hT hm hl hk1
      go_enter Tryd.func34, Tryd.ntmps34
      go_wp2_with fail
      go_quiet (fail)
      go_wp2_with fail
      refine (HG.out _ (belowDrewN w _)).mono ?_
      rintro e w2 ⟨ch, rfl, HCH, hb2⟩
      have HB3 := Lib.hid (bt (belowDrewN w _) hb2)
      clear hb2
      go_wp2_with fail
      refine ⟨rfl, ?_⟩
      rw [HW.out]
      exact ⟨by rw [HCH.out], gBelow HB3.out b⟩
end Go.Proofs.YtlgbmnmoobpkkaaDoor.Sc
namespace Go.Proofs.YtlgbmnmoobpkkaaDoor.Sc
open Go.RowKit
open Tk (Tok)

/-- 'from w to w' the reader's block and block T were written, and memory was made' -/
structure Gr2 (w w' : World) (b T : Nat) : Prop where
  os : w'.os = w.os
  tape : w'.tape = w.tape
  output : w'.output = w.output
  size : w.heap.size ≤ w'.heap.size
  keep : ∀ k, k < w.heap.size → k ≠ b → k ≠ T → w'.heap[k]? = w.heap[k]?
theorem Gr2.refl (w : World) (b T : Nat) : Gr2 w w b T := ⟨rfl, rfl, rfl, Nat.le_refl _, fun _ _ _ _ => rfl⟩
theorem Gr2.trans {w a c : World} {b T : Nat} (h : Gr2 w a b T) (k : Gr2 a c b T) : Gr2 w c b T :=
  ⟨k.os.trans h.os, k.tape.trans h.tape, k.output.trans h.output, Nat.le_trans h.size k.size, fun i hi h1 h2 => (k.keep i (Nat.lt_of_lt_of_le hi h.size) h1 h2).trans (h.keep i hi h1 h2)⟩
theorem Gr2.down {w a c : World} {b T : Nat} (h : Gr2 w a b T) (k : Below a.heap.size a c) : Gr2 w c b T := h.trans ⟨k.os, k.tape, k.output, k.size, fun i hi _ _ => k.block i hi⟩
theorem Gr2.setT {w a : World} {b T i : Nat} (h : Gr2 w a b T) (u : Value) : Gr2 w (a.setCell ⟨T, i, none⟩ u) b T :=
  h.trans ⟨rfl, rfl, rfl, by simp [World.setCell], fun k _ _ h2 => Below.heap_setCell _ _ _ _ (by show k ≠ T; exact h2)⟩
theorem Gr2.setB {w a : World} {b T i : Nat} (h : Gr2 w a b T) (u : Value) : Gr2 w (a.setCell ⟨b, i, none⟩ u) b T :=
  h.trans ⟨rfl, rfl, rfl, by simp [World.setCell], fun k _ h1 _ => Below.heap_setCell _ _ _ _ (by show k ≠ b; exact h1)⟩
theorem Gr2.low {w w' : World} {b T : Nat} (g : Gr2 w w' b T) (hb : b ≤ w.heap.size) (hT : b ≤ T) : Below b w w' :=
  ⟨g.os, g.tape, g.output, g.size, fun k hk => g.keep k (by omega) (by omega) (by omega)⟩
theorem Gr2.out {w0 w w' : World} {b T : Nat} (h : w0.grownBy w (some b)) (g : Gr2 w w' b T) (hT : w0.heap.size ≤ T) : w0.grownBy w' (some b) :=
  ⟨g.os.trans h.os, g.tape.trans h.tape, g.output.trans h.output, Nat.le_trans h.size g.size, fun k hk he => (g.keep k (Nat.lt_of_lt_of_le hk h.size) (fun e => he (congrArg some e)) (by omega)).trans (h.block k hk he)⟩
def tagC (K : Int) (m p : Nat) : List Value := [.int .i64 K, .int .i64 m, .int .i64 p, .slice none 0 0, .slice none 0 0, .bool false, .int .i64 0, .slice none 0 0]
/-- what 'tags' does -/
def TagsP (K : Int) (kn b T : Nat) (v : Value) (F : Dom) (all : List Tok) (w : World) : PR (Nat × Nat) → Ending → World → Prop
  | .ok (mp, r), e, w' => e = .returned (.tuple #[]) ∧ RL w' b v F all r ∧ Has w' T (tagC K (dfl mp.1) (if kn = 6 then mp.2 else dfl mp.2)) ∧ Gr2 w w' b T
  | .error (k, c), e, w' => ∃ ch, e = .panicked ch ∧ Hid (ch = wrongC all k c) ∧ Gr2 w w' b T
theorem tags_nil (n k m p : Nat) : tagsP n k m p [] = .ok ((m, p), []) := by cases n <;> rfl
theorem tags_else {n k m p : Nat} {t : Tok} {r : List Tok} (h : t.kind ≠ 2) : tagsP n k m p (t :: r) = .ok ((m, p), t :: r) := by
  cases n with
  | zero => rfl
  | succ n => show (if t.kind = 2 then _ else _) = _; rw [if_neg h]
theorem tags_tag {n k m p : Nat} {t : Tok} {r : List Tok} (h : t.kind = 2) : tagsP (n + 1) k m p (t :: r) = if 0 < idxW matTab t.text ∧ m = 0 then tagsP n k (idxW matTab t.text) p r else if 0 < idxW parTab t.text ∧ p = 0 ∧ k ≠ 6 then tagsP n k m (idxW parTab t.text) r else giveP (t :: r) 3 := by
  show (if t.kind = 2 then _ else _) = _; rw [if_pos h]
theorem rl_far {w : World} {b N i : Nat} {v : Value} {F : Dom} {all l : List Tok} (h : RL w b v F all l) (hN : b < N) (u : Value) : RL (w.setCell ⟨N, i, none⟩ u) b v F all l := by
  obtain ⟨n, h1, h2⟩ := h; exact ⟨n, h1, h2.far hN u⟩
/-- behind the loop -/
theorem dfl_set (x : Nat) : (x = 0 → dfl x = 1) ∧ (x ≠ 0 → dfl x = x) := by unfold dfl; exact ⟨fun h => if_pos h, fun h => if_neg h⟩
set_option maxHeartbeats 8000000 in
set_option maxRecDepth 20000 in
theorem tags_any (K : Int) (kn b T : Nat) (v : Value) (F : Dom) (all l : List Tok) (w : World) (hK : K = kn) (hn : all.length ≤ 100000) (h : RL w b v F all l) (hT : Has w T (tagC K 0 0)) (hTb : b < T) (hTab : Tabs w b) :
    Calls Tryd.prog 68 #[.pointer (some ⟨b, 0, none⟩), .pointer (some ⟨T, 0, none⟩)] w (TagsP K kn b T v F all w (tagsP l.length kn 0 0 l)) := by
  obtain ⟨Rz, hRz⟩ : ∃ Rz, Rz = tagsP l.length kn 0 0 l := ⟨_, rfl⟩
  rw [← hRz]
  have HRZ := Lib.hid hRz; have HT0 := Lib.hid hT; have H0 := Lib.hid h; have HTAB := Lib.hid hTab
  have hbl := h.lt
  have HBL := Lib.hid hbl
  clear h hT hRz hTab
  go_enter Tryd.func68, Tryd.ntmps68
  go_wp2_with fail
  go_loopw [5] (fun _ wr => ∃ (m p f : Nat) (r : List Tok), RL wr b v F all r ∧ Has wr T (tagC K m p) ∧ Hid (Rz = tagsP f kn m p r) ∧ r.length ≤ f ∧ m ≤ 3 ∧ p ≤ 3 ∧ Gr2 w wr b T) (fun _ wr => all.length - posT wr b)
  case atStart => exact ⟨0, 0, l.length, l, H0.out, HT0.out, HRZ.out, Nat.le_refl _, Nat.zero_le _, Nat.zero_le _, Gr2.refl _ _ _⟩
  case round =>
    obtain ⟨m, p, f, r, hr, hT, HQ, hf, hm3, hp3, hg⟩ := hrel
    have HRL := Lib.hid hr
    obtain ⟨n, hl0, hrt⟩ := hr
    obtain ⟨G, cap, rfl, hlen, hfa⟩ := hrt.facts hl0
    have c0 := hrt.c0
    have c1 := hrt.c1
    have hpos : (0 : Int) ≤ n := by omega
    have HR := Lib.hid hrt; have HL := Lib.hid hl0; have HT := Lib.hid hT; have HG := Lib.hid hg
    have HTABr := Lib.hid (HTAB.out.below (hg.low (Nat.le_of_lt HBL.out) (Nat.le_of_lt hTb)))
    by_cases hend : ∃ t q, r = t :: q ∧ t.kind = 2
    · obtain ⟨t, q, rfl, hk⟩ := hend
      obtain ⟨f', rfl⟩ : ∃ f', f = f' + 1 := ⟨f - 1, by rw [List.length_cons] at hf; omega⟩
      have hQ := HQ.out
      rw [tags_tag hk] at hQ
      obtain ⟨g, off, rfl, e0, e1, e2⟩ := hfa t q rfl
      rw [List.length_cons] at hlen hf
      have hd : decide (n < all.length) = true := decide_eq_true (by omega)
      have hlt : (n : Int) < all.length := by omega
      have hn1 : n ≤ 100000 := by omega
      have hkb : (t.kind == 2) = true := beq_iff_eq.2 hk
      have HTK := Lib.hid hl0.cons.2.1
      have HL1 := Lib.hid hl0.cons.2.2
      have key1 := idxI_W matTab t.text
      have key2 := idxI_W parTab t.text
      have HI1 : Hid (∀ W, Below b wr W → Calls Tryd.prog 55 #[.slice (some ⟨3, 0, none⟩) 4 4, .string ⟨t.text.toArray⟩] W fun e w' => e = .returned (.int .i64 (idxI matTab t.text)) ∧ w' = W) := fun W hb =>
        idx_tab _ matTab t.text W ((HTABr.out.below hb).m) (by decide)
      have HI2 : Hid (∀ W, Below b wr W → Calls Tryd.prog 55 #[.slice (some ⟨2, 0, none⟩) 4 4, .string ⟨t.text.toArray⟩] W fun e w' => e = .returned (.int .i64 (idxI parTab t.text)) ∧ w' = W) := fun W hb =>
        idx_tab _ parTab t.text W ((HTABr.out.below hb).p) (by decide)
      have him : idxW matTab t.text ≤ 3 := by unfold idxW; have : matTab.length = 4 := rfl; split <;> omega
      have hip : idxW parTab t.text ≤ 3 := by unfold idxW; have : parTab.length = 4 := rfl; split <;> omega
      obtain ⟨q1, hq1⟩ : ∃ q1, q1 = idxI matTab t.text := ⟨_, rfl⟩
      obtain ⟨q2, hq2⟩ : ∃ q2, q2 = idxI parTab t.text := ⟨_, rfl⟩
      obtain ⟨i1, hi1⟩ : ∃ i1, i1 = idxW matTab t.text := ⟨_, rfl⟩
      obtain ⟨i2, hi2⟩ : ∃ i2, i2 = idxW parTab t.text := ⟨_, rfl⟩
      rw [← hq1] at HI1
      rw [← hq2] at HI2
      rw [← hq1, ← hi1] at key1
      rw [← hq2, ← hi2] at key2
      rw [← hi1, ← hi2] at hQ
      rw [← hi1] at him
      rw [← hi2] at hip
      have HQ' := Lib.hid hQ
      have HBR := Lib.hid (Nat.lt_of_lt_of_le HBL.out hg.size)
      clear hl0 hrt hfa hlen hT hg hk hQ HQ hq1 hq2 hi1 hi2
      go_wp2_with fail
      go_quiet (fail)
      go_upto_region 1 with fail
      refine wp_at (R := fun W => Below wr.heap.size wr W) (belowDrewN wr nq) (fun W hW => ?_)
      have hrW := HR.out.below hW
      have HW1 := Lib.hid hW
      clear c0 c1 e0 e1 e2
      have c0 := hrW.c0
      have c1 := hrW.c1
      obtain ⟨g', off', cap', hv', e0, e1, e2⟩ := hrW.tokAt HTK.out
      cases hv'
      clear hrW hW
      go_quiet (fail)
      go_upto_region 2 with fail
      refine wp_at (R := fun W => Below wr.heap.size wr W) (bt HW1.out (belowDrewN W nq)) (fun W2 hW => ?_)
      have HW2 := Lib.hid hW
      clear hW c0 c1 e0 e1 e2 HW1
      go_quiet (first
        | (go_at_call 55; (with_reducible exact Calls.quiet_of_same (HI1.out _ ((bt HW2.out (belowDrewN W2 _)).mono (Nat.le_of_lt HBR.out)))))
        | (go_at_call 55; (with_reducible exact Calls.quiet_of_same (HI2.out _ ((bt HW2.out (belowDrewN W2 _)).mono (Nat.le_of_lt HBR.out))))))
      go_upto_region 4 with fail
      refine wp_at (R := fun W => Below wr.heap.size wr W) (bt HW2.out (belowDrewN W2 nq)) (fun V hV => ?_)
      have hTV := HT.out.down hV
      have hrV := HR.out.below hV
      have d0 := hTV.1 0 _ rfl; have d1 := hTV.1 1 _ rfl; have d2 := hTV.1 2 _ rfl
      have f1 := hTV.2.1 1 (by simp [tagC]); have f2 := hTV.2.1 2 (by simp [tagC])
      have c1 := hrV.c1
      have g1 := hrV.f1
      have HTV := Lib.hid hTV; have HRV := Lib.hid hrV; have HGV := Lib.hid (HG.out.down hV)
      clear hTV hrV hV HW2
      by_cases hA : 0 < i1 ∧ m = 0
      · have q1' : 0 < q1 := by omega
        have q1e : q1 = (i1 : Int) := by omega
        have qm : ((m : Int) == 0) = true := beq_iff_eq.2 (by omega)
        have hQ := HQ'.out
        rw [if_pos hA] at hQ
        have HQ2 := Lib.hid hQ
        have HT1 : Hid (Has (V.setCell ⟨T, 1, none⟩ (.int .i64 q1)) T (tagC K i1 p)) := by
          have h := HTV.out.set' (i := 1) (.int .i64 q1) (by simp [tagC])
          unfold Hid
          rw [q1e] at h ⊢; exact h
        have hr1 := HRV.out.far (i := 1) hTb (.int .i64 q1)
        have c1' := hr1.c1
        have g1' := hr1.f1
        have HR1 := Lib.hid hr1
        have HRE : Hid (RL ((V.setCell ⟨T, 1, none⟩ (.int .i64 q1)).setCell ⟨b, 1, none⟩ (.int .i64 ((n : Int) + 1))) b _ F all q) := ⟨n + 1, HL1.out, HR1.out.step⟩
        have HTE : Hid (Has ((V.setCell ⟨T, 1, none⟩ (.int .i64 q1)).setCell ⟨b, 1, none⟩ (.int .i64 ((n : Int) + 1))) T (tagC K i1 p)) := HT1.out.else' (by omega) _
        have HGE : Hid (Gr2 w ((V.setCell ⟨T, 1, none⟩ (.int .i64 q1)).setCell ⟨b, 1, none⟩ (.int .i64 ((n : Int) + 1))) b T) := (HGV.out.setT _).setB _
        have HME := Lib.hid (HRL.out.meas HRE.out (by simp))
        clear hr1 hQ q1e
        clear hA key1 key2
        go_wp2_with fail
        go_roundw
        case rel => exact ⟨i1, p, f', q, HRE.out, HTE.out, HQ2.out, by omega, him, hp3, HGE.out⟩
        case measure => exact HME.out
      · have hQ := HQ'.out
        rw [if_neg hA] at hQ
        have hA2 : q1 ≤ 0 ∨ (0 < q1 ∧ ((m : Int) == 0) = false) := by
          by_cases h : q1 ≤ 0
          · exact .inl h
          · refine .inr ⟨by omega, beq_eq_false_iff_ne.2 (fun e => hA ⟨by omega, by omega⟩)⟩
        by_cases hB : 0 < i2 ∧ p = 0 ∧ kn ≠ 6
        · rw [if_pos hB] at hQ
          have HQ2 := Lib.hid hQ
          have q2' : 0 < q2 := by omega
          have q2e : q2 = (i2 : Int) := by omega
          have qp : ((p : Int) == 0) = true := beq_iff_eq.2 (by omega)
          have qk : (K != 6) = true := by simp; omega
          have HT1 : Hid (Has (V.setCell ⟨T, 2, none⟩ (.int .i64 q2)) T (tagC K m i2)) := by
            have h := HTV.out.set' (i := 2) (.int .i64 q2) (by simp [tagC])
            unfold Hid
            rw [q2e] at h ⊢; exact h
          have hr1 := HRV.out.far (i := 2) hTb (.int .i64 q2)
          have c1' := hr1.c1
          have g1' := hr1.f1
          have HR1 := Lib.hid hr1
          have HRE : Hid (RL ((V.setCell ⟨T, 2, none⟩ (.int .i64 q2)).setCell ⟨b, 1, none⟩ (.int .i64 ((n : Int) + 1))) b _ F all q) := ⟨n + 1, HL1.out, HR1.out.step⟩
          have HTE : Hid (Has ((V.setCell ⟨T, 2, none⟩ (.int .i64 q2)).setCell ⟨b, 1, none⟩ (.int .i64 ((n : Int) + 1))) T (tagC K m i2)) := HT1.out.else' (by omega) _
          have HGE : Hid (Gr2 w ((V.setCell ⟨T, 2, none⟩ (.int .i64 q2)).setCell ⟨b, 1, none⟩ (.int .i64 ((n : Int) + 1))) b T) := (HGV.out.setT _).setB _
          have HME := Lib.hid (HRL.out.meas HRE.out (by simp))
          clear hr1 hQ q2e
          clear hA hB key1 key2
          rcases hA2 with hA2 | ⟨hA2, hA3⟩
          · have hA4 : ¬ 0 < q1 := by omega
            go_wp2_with fail
            go_roundw
            case rel => exact ⟨m, i2, f', q, HRE.out, HTE.out, HQ2.out, by omega, hm3, hip, HGE.out⟩
            case measure => exact HME.out
          · go_wp2_with fail
            go_roundw
            case rel => exact ⟨m, i2, f', q, HRE.out, HTE.out, HQ2.out, by omega, hm3, hip, HGE.out⟩
            case measure => exact HME.out
        · rw [if_neg hB] at hQ
          have HQ2 := Lib.hid hQ
          have hB2 : q2 ≤ 0 ∨ (0 < q2 ∧ ((p : Int) == 0) = false) ∨ (0 < q2 ∧ ((p : Int) == 0) = true ∧ (K != 6) = false) := by
            by_cases h : q2 ≤ 0
            · exact .inl h
            · by_cases h0 : p = 0
              · refine .inr (.inr ⟨by omega, beq_iff_eq.2 (by omega), ?_⟩)
                have : kn = 6 := by
                  by_cases h6 : kn = 6
                  · exact h6
                  · exact absurd ⟨by omega, h0, h6⟩ hB
                simp; omega
              · exact .inr (.inl ⟨by omega, beq_eq_false_iff_ne.2 (by omega)⟩)
          have HGVV := Lib.hid (fun c hc => give_any b n _ F all (t :: q) c V hc hn HL.out HRV.out)
          clear hA hB key1 key2 hQ
          rcases hA2 with hA2 | ⟨hA2, hA3⟩
          all_goals
            rcases hB2 with hB2 | ⟨hB2, hB3⟩ | ⟨hB2, hB3, hB4⟩
          all_goals
            first | (have hA4 : ¬ 0 < q1 := by omega) | skip
            first | (have hB5 : ¬ 0 < q2 := by omega) | skip
            go_wp2_with fail
            refine (HGVV.out 3 (by decide)).mono ?_
            rintro e w2 ⟨ch, rfl, HCH, hb2⟩
            have HG2 := Lib.hid (HGV.out.down hb2)
            clear hb2
            go_wp2_with fail
            refine ⟨rfl, ?_⟩
            rw [HQ2.out]
            exact ⟨_, rfl, HCH, HG2.out⟩
    · have HQE : Hid (Rz = .ok ((m, p), r)) := by
        unfold Hid; rw [HQ.out]
        cases r with
        | nil => exact tags_nil _ _ _ _
        | cons t q => exact tags_else (fun e => hend ⟨t, q, rfl, e⟩)
      have hways : (r = []) ∨ (∃ t q, r = t :: q ∧ t.kind ≠ 2) := by
        cases r with
        | nil => exact .inl rfl
        | cons t q => exact .inr ⟨t, q, rfl, fun e => hend ⟨t, q, rfl, e⟩⟩
      have HRz := Lib.hid hrt
      clear hend HQ
      rcases hways with rfl | ⟨t, q, rfl, hk⟩
      · have hd : decide (n < all.length) = false := decide_eq_false (by simp at hlen; omega)
        clear hl0 hrt hfa hlen hT hg
        go_wp2_with fail
        go_quiet (fail)
        go_upto_region 9 with fail
        refine wp_at (R := fun W => RL W b _ F all _ ∧ Has W T (tagC K m p) ∧ Gr2 w W b T) ⟨HRL.out.below (belowDrewN wr nq), HT.out.down (belowDrewN wr nq), HG.out.down (belowDrewN wr nq)⟩ (fun W hW => ?_)
        obtain ⟨hrW, hTW, hgW⟩ := hW
        have d0 := hTW.1 0 _ rfl; have d1 := hTW.1 1 _ rfl; have d2 := hTW.1 2 _ rfl
        have f1 := hTW.2.1 1 (by simp [tagC]); have f2 := hTW.2.1 2 (by simp [tagC])
        have HRW := Lib.hid hrW; have HTW := Lib.hid hTW; have HGW := Lib.hid hgW
        clear hrW hTW hgW c0 c1
        by_cases hm0 : m = 0
        · have q1 : ((m : Int) == 0) = true := beq_iff_eq.2 (by omega)
          have HM : Hid (dfl m = 1) := (dfl_set m).1 hm0
          have hT1 : Has (W.setCell ⟨T, 1, none⟩ (.int .i64 1)) T (tagC K 1 p) := HTW.out.set' (i := 1) (.int .i64 1) (by simp [tagC])
          have HT1 := Lib.hid hT1
          have HR1 := Lib.hid (rl_far (i := 1) HRW.out hTb (.int .i64 1))
          have HG1 := Lib.hid (HGW.out.setT (i := 1) (.int .i64 1))
          clear hm0 hT1
          by_cases hp0 : p = 0 ∧ kn ≠ 6
          · have q2 : ((p : Int) == 0) = true := beq_iff_eq.2 (by omega)
            have q3 : (K != 6) = true := by simp; omega
            have HP : Hid ((if kn = 6 then p else dfl p) = 1) := by unfold Hid; rw [if_neg hp0.2]; exact (dfl_set p).1 hp0.1
            have HT2 : Hid (Has ((W.setCell ⟨T, 1, none⟩ (.int .i64 1)).setCell ⟨T, 2, none⟩ (.int .i64 1)) T (tagC K 1 1)) := HT1.out.set' (i := 2) (.int .i64 1) (by simp [tagC])
            have HR2 := Lib.hid (rl_far (i := 2) HR1.out hTb (.int .i64 1))
            have HG2 := Lib.hid (HG1.out.setT (i := 2) (.int .i64 1))
            clear hp0
            go_wp2_with fail
            go_returns
            rw [HQE.out]
            exact ⟨rfl, HR2.out, by rw [HM.out, HP.out]; exact HT2.out, HG2.out⟩
          · have HP : Hid ((if kn = 6 then p else dfl p) = p) := by
              unfold Hid
              by_cases h6 : kn = 6
              · rw [if_pos h6]
              · rw [if_neg h6]; exact (dfl_set p).2 (fun e => hp0 ⟨e, h6⟩)
            by_cases hp1 : p = 0
            · have q2 : ((p : Int) == 0) = true := beq_iff_eq.2 (by omega)
              have q3 : (K != 6) = false := by simp; omega
              clear hp0 hp1
              go_wp2_with fail
              go_returns
              rw [HQE.out]
              exact ⟨rfl, HR1.out, by rw [HM.out, HP.out]; exact HT1.out, HG1.out⟩
            · have q2 : ((p : Int) == 0) = false := beq_eq_false_iff_ne.2 (by omega)
              clear hp0 hp1
              go_wp2_with fail
              go_returns
              rw [HQE.out]
              exact ⟨rfl, HR1.out, by rw [HM.out, HP.out]; exact HT1.out, HG1.out⟩
        · have q1 : ((m : Int) == 0) = false := beq_eq_false_iff_ne.2 (by omega)
          have HM : Hid (dfl m = m) := (dfl_set m).2 hm0
          clear hm0
          by_cases hp0 : p = 0 ∧ kn ≠ 6
          · have q2 : ((p : Int) == 0) = true := beq_iff_eq.2 (by omega)
            have q3 : (K != 6) = true := by simp; omega
            have HP : Hid ((if kn = 6 then p else dfl p) = 1) := by unfold Hid; rw [if_neg hp0.2]; exact (dfl_set p).1 hp0.1
            have HT2 : Hid (Has (W.setCell ⟨T, 2, none⟩ (.int .i64 1)) T (tagC K m 1)) := HTW.out.set' (i := 2) (.int .i64 1) (by simp [tagC])
            have HR2 := Lib.hid (rl_far (i := 2) HRW.out hTb (.int .i64 1))
            have HG2 := Lib.hid (HGW.out.setT (i := 2) (.int .i64 1))
            clear hp0
            go_wp2_with fail
            go_returns
            rw [HQE.out]
            exact ⟨rfl, HR2.out, by rw [HM.out, HP.out]; exact HT2.out, HG2.out⟩
          · have HP : Hid ((if kn = 6 then p else dfl p) = p) := by
              unfold Hid
              by_cases h6 : kn = 6
              · rw [if_pos h6]
              · rw [if_neg h6]; exact (dfl_set p).2 (fun e => hp0 ⟨e, h6⟩)
            by_cases hp1 : p = 0
            · have q2 : ((p : Int) == 0) = true := beq_iff_eq.2 (by omega)
              have q3 : (K != 6) = false := by simp; omega
              clear hp0 hp1
              go_wp2_with fail
              go_returns
              rw [HQE.out]
              exact ⟨rfl, HRW.out, by rw [HM.out, HP.out]; exact HTW.out, HGW.out⟩
            · have q2 : ((p : Int) == 0) = false := beq_eq_false_iff_ne.2 (by omega)
              clear hp0 hp1
              go_wp2_with fail
              go_returns
              rw [HQE.out]
              exact ⟨rfl, HRW.out, by rw [HM.out, HP.out]; exact HTW.out, HGW.out⟩
      · obtain ⟨g, off, rfl, e0, e1, e2⟩ := hfa t q rfl
        rw [List.length_cons] at hlen
        have hd : decide (n < all.length) = true := decide_eq_true (by omega)
        have hlt : (n : Int) < all.length := by omega
        have hkb : (t.kind == 2) = false := beq_eq_false_iff_ne.2 hk
        clear hl0 hrt hfa hlen hT hg hk
        go_wp2_with fail
        go_quiet (fail)
        go_upto_region 9 with fail
        refine wp_at (R := fun W => RL W b _ F all _ ∧ Has W T (tagC K m p) ∧ Gr2 w W b T) ⟨HRL.out.below (belowDrewN wr nq), HT.out.down (belowDrewN wr nq), HG.out.down (belowDrewN wr nq)⟩ (fun W hW => ?_)
        obtain ⟨hrW, hTW, hgW⟩ := hW
        have d0 := hTW.1 0 _ rfl; have d1 := hTW.1 1 _ rfl; have d2 := hTW.1 2 _ rfl
        have f1 := hTW.2.1 1 (by simp [tagC]); have f2 := hTW.2.1 2 (by simp [tagC])
        have HRW := Lib.hid hrW; have HTW := Lib.hid hTW; have HGW := Lib.hid hgW
        clear hrW hTW hgW c0 c1 e0 e1 e2
        by_cases hm0 : m = 0
        · have q1 : ((m : Int) == 0) = true := beq_iff_eq.2 (by omega)
          have HM : Hid (dfl m = 1) := (dfl_set m).1 hm0
          have hT1 : Has (W.setCell ⟨T, 1, none⟩ (.int .i64 1)) T (tagC K 1 p) := HTW.out.set' (i := 1) (.int .i64 1) (by simp [tagC])
          have HT1 := Lib.hid hT1
          have HR1 := Lib.hid (rl_far (i := 1) HRW.out hTb (.int .i64 1))
          have HG1 := Lib.hid (HGW.out.setT (i := 1) (.int .i64 1))
          clear hm0 hT1
          by_cases hp0 : p = 0 ∧ kn ≠ 6
          · have q2 : ((p : Int) == 0) = true := beq_iff_eq.2 (by omega)
            have q3 : (K != 6) = true := by simp; omega
            have HP : Hid ((if kn = 6 then p else dfl p) = 1) := by unfold Hid; rw [if_neg hp0.2]; exact (dfl_set p).1 hp0.1
            have HT2 : Hid (Has ((W.setCell ⟨T, 1, none⟩ (.int .i64 1)).setCell ⟨T, 2, none⟩ (.int .i64 1)) T (tagC K 1 1)) := HT1.out.set' (i := 2) (.int .i64 1) (by simp [tagC])
            have HR2 := Lib.hid (rl_far (i := 2) HR1.out hTb (.int .i64 1))
            have HG2 := Lib.hid (HG1.out.setT (i := 2) (.int .i64 1))
            clear hp0
            go_wp2_with fail
            go_returns
            rw [HQE.out]
            exact ⟨rfl, HR2.out, by rw [HM.out, HP.out]; exact HT2.out, HG2.out⟩
          · have HP : Hid ((if kn = 6 then p else dfl p) = p) := by
              unfold Hid
              by_cases h6 : kn = 6
              · rw [if_pos h6]
              · rw [if_neg h6]; exact (dfl_set p).2 (fun e => hp0 ⟨e, h6⟩)
            by_cases hp1 : p = 0
            · have q2 : ((p : Int) == 0) = true := beq_iff_eq.2 (by omega)
              have q3 : (K != 6) = false := by simp; omega
              clear hp0 hp1
              go_wp2_with fail
              go_returns
              rw [HQE.out]
              exact ⟨rfl, HR1.out, by rw [HM.out, HP.out]; exact HT1.out, HG1.out⟩
            · have q2 : ((p : Int) == 0) = false := beq_eq_false_iff_ne.2 (by omega)
              clear hp0 hp1
              go_wp2_with fail
              go_returns
              rw [HQE.out]
              exact ⟨rfl, HR1.out, by rw [HM.out, HP.out]; exact HT1.out, HG1.out⟩
        · have q1 : ((m : Int) == 0) = false := beq_eq_false_iff_ne.2 (by omega)
          have HM : Hid (dfl m = m) := (dfl_set m).2 hm0
          clear hm0
          by_cases hp0 : p = 0 ∧ kn ≠ 6
          · have q2 : ((p : Int) == 0) = true := beq_iff_eq.2 (by omega)
            have q3 : (K != 6) = true := by simp; omega
            have HP : Hid ((if kn = 6 then p else dfl p) = 1) := by unfold Hid; rw [if_neg hp0.2]; exact (dfl_set p).1 hp0.1
            have HT2 : Hid (Has (W.setCell ⟨T, 2, none⟩ (.int .i64 1)) T (tagC K m 1)) := HTW.out.set' (i := 2) (.int .i64 1) (by simp [tagC])
            have HR2 := Lib.hid (rl_far (i := 2) HRW.out hTb (.int .i64 1))
            have HG2 := Lib.hid (HGW.out.setT (i := 2) (.int .i64 1))
            clear hp0
            go_wp2_with fail
            go_returns
            rw [HQE.out]
            exact ⟨rfl, HR2.out, by rw [HM.out, HP.out]; exact HT2.out, HG2.out⟩
          · have HP : Hid ((if kn = 6 then p else dfl p) = p) := by
              unfold Hid
              by_cases h6 : kn = 6
              · rw [if_pos h6]
              · rw [if_neg h6]; exact (dfl_set p).2 (fun e => hp0 ⟨e, h6⟩)
            by_cases hp1 : p = 0
            · have q2 : ((p : Int) == 0) = true := beq_iff_eq.2 (by omega)
              have q3 : (K != 6) = false := by simp; omega
              clear hp0 hp1
              go_wp2_with fail
              go_returns
              rw [HQE.out]
              exact ⟨rfl, HRW.out, by rw [HM.out, HP.out]; exact HTW.out, HGW.out⟩
            · have q2 : ((p : Int) == 0) = false := beq_eq_false_iff_ne.2 (by omega)
              clear hp0 hp1
              go_wp2_with fail
              go_returns
              rw [HQE.out]
              exact ⟨rfl, HRW.out, by rw [HM.out, HP.out]; exact HTW.out, HGW.out⟩
end Go.Proofs.YtlgbmnmoobpkkaaDoor.Sc
namespace Go.Proofs.YtlgbmnmoobpkkaaDoor.Sc
open Go.RowKit
open Tk (Tok)

/-- a test's value; what it points at lies from H on -/
def TstR (m H : Nat) (t : Tst) (w' : World) (e : Ending) : Prop := ∃ vs : List Value, e = .returned (.agg vs.toArray) ∧ (cTst m).rep w' (fun x => H ≤ x) t vs
/-- what 'test' does -/
def TestN (n : Nat) : Prop := ∀ (dI : Int) (d m b : Nat) (v : Value) (F : Dom) (all l : List Tok) (w : World), dI = d → d + m = 8 → all.length ≤ 100000 → RL w b v F all l → Tabs w b → l.length < n →
    Calls Tryd.prog 56 #[.pointer (some ⟨b, 0, none⟩), .int .i64 dI] w (Ans (TstR m w.heap.size) b v F all w (testP n d l))
/-- on the way through 'test': the reader, the test's variable T, the result's variable N -/
structure RB (w0 w : World) (b T N : Nat) (v : Value) (F : Dom) (all l : List Tok) (cs : List Value) : Prop where
  rd : RL w b v F all l
  t : Has w T cs
  res : Has w N res8
  gr : w0.grownBy w (some b)
  bN : b < N
  NT : N < T
  N0 : w0.heap.size ≤ N
theorem RB.next {w0 w w' : World} {b T N : Nat} {v : Value} {F : Dom} {all l l' : List Tok} {cs : List Value} (h : RB w0 w b T N v F all l cs) (hr : RL w' b v F all l') (g : w.grownBy w' (some b)) : RB w0 w' b T N v F all l' cs :=
  ⟨hr, h.t.kept g (fun e => by have := Option.some.inj e; have := h.bN; have := h.NT; omega), h.res.kept g (fun e => by have := Option.some.inj e; have := h.bN; omega), Go.Lib.grownBy_trans h.gr g, h.bN, h.NT, h.N0⟩
theorem RB.down {w0 w w' : World} {b T N : Nat} {v : Value} {F : Dom} {all l : List Tok} {cs : List Value} (h : RB w0 w b T N v F all l cs) (g : Below w.heap.size w w') : RB w0 w' b T N v F all l cs := h.next (h.rd.below g) (gBelow g b)
theorem RB.set {w0 w : World} {b T N i : Nat} {v : Value} {F : Dom} {all l : List Tok} {cs : List Value} (h : RB w0 w b T N v F all l cs) (u : Value) (hi : i < cs.length) : RB w0 (w.setCell ⟨T, i, none⟩ u) b T N v F all l (cs.set i u) :=
  ⟨rl_far h.rd (by have := h.bN; have := h.NT; omega) u, h.t.set' u hi, h.res.else' (by have := h.NT; omega) u, grown_far h.gr (by have := h.NT; have := h.N0; omega) u, h.bN, h.NT, h.N0⟩
theorem RB.step {w0 w : World} {b T N n : Nat} {v : Value} {F : Dom} {all l : List Tok} {t : Tok} {cs : List Value} (h : RB w0 w b T N v F all (t :: l) cs) (hn : TLeft all n (t :: l)) : RB w0 (w.setCell ⟨b, 1, none⟩ (.int .i64 ((n : Int) + 1))) b T N v F all l cs := by
  obtain ⟨n', a1, a2⟩ := h.rd
  obtain rfl : n' = n := by have := a1.1; have := hn.1; omega
  exact ⟨⟨n' + 1, a1.cons.2.2, a2.step⟩, h.t.else' (by have := h.bN; have := h.NT; omega) _, h.res.else' (by have := h.bN; omega) _, Go.Lib.grownBy_setB h.gr 1 (.int .i64 ((n' : Int) + 1)), h.bN, h.NT, h.N0⟩
/-- the test's variable holds the answer -/
def TNew (w0 : World) (b T N m : Nat) (v : Value) (F : Dom) (all l : List Tok) (t : Tst) (w : World) : Prop := ∃ (k mt p : Int) (Gn : Option Addr) (nn cn : Nat) (Gk : Option Addr) (nk ck : Nat) (o : Bool) (lm : Int) (Gt : Option Addr) (nt ct : Nat),
  RB w0 w b T N v F all l [.int .i64 k, .int .i64 mt, .int .i64 p, .slice Gn nn cn, .slice Gk nk ck, .bool o, .int .i64 lm, .slice Gt nt ct] ∧ (cTst m).rep w (fun x => w0.heap.size ≤ x ∧ x ≠ N) t [.int .i64 k, .int .i64 mt, .int .i64 p, .slice Gn nn cn, .slice Gk nk ck, .bool o, .int .i64 lm, .slice Gt nt ct]
/-- where nothing is pointed at from outside -/
theorem sat_off {α : Type} {c : Cod α} {w w' : World} {H N b : Nat} {v : Value} {xs : List α} (h : SAt c w (fun x => H ≤ x) v xs) (_ : w' = w) (hN : N < H) (hb : b ≤ N) : SAt c w (fun x => b ≤ x ∧ x ≠ N) v xs := h.mono (fun x hx => ⟨by omega, by omega⟩)
theorem agg_put8 {w0 W : World} {b T N m : Nat} {v : Value} {F : Dom} {all l : List Tok} {t : Tst} {k mt p : Int} {Gn Gk Gt : Option Addr} {nn cn nk ck nt ct : Nat} {o : Bool} {lm : Int} (h : RB w0 W b T N v F all l [.int .i64 k, .int .i64 mt, .int .i64 p, .slice Gn nn cn, .slice Gk nk ck, .bool o, .int .i64 lm, .slice Gt nt ct]) (hr : (cTst m).rep W (fun x => w0.heap.size ≤ x ∧ x ≠ N) t [.int .i64 k, .int .i64 mt, .int .i64 p, .slice Gn nn cn, .slice Gk nk ck, .bool o, .int .i64 lm, .slice Gt nt ct]) :
    Has (put8 W N (.int .i64 k) (.int .i64 mt) (.int .i64 p) (.slice Gn nn cn) (.slice Gk nk ck) (.bool o) (.int .i64 lm) (.slice Gt nt ct)) N [.int .i64 k, .int .i64 mt, .int .i64 p, .slice Gn nn cn, .slice Gk nk ck, .bool o, .int .i64 lm, .slice Gt nt ct] ∧
    Ans (TstR m w0.heap.size) b v F all w0 (.ok (t, l)) (.returned (.agg #[.int .i64 k, .int .i64 mt, .int .i64 p, .slice Gn nn cn, .slice Gk nk ck, .bool o, .int .i64 lm, .slice Gt nt ct])) (put8 W N (.int .i64 k) (.int .i64 mt) (.int .i64 p) (.slice Gn nn cn) (.slice Gk nk ck) (.bool o) (.int .i64 lm) (.slice Gt nt ct)) := by
  have hres : Has W N res8 := h.res
  refine ⟨put8_has hres _ _ _ _ _ _ _ _, ⟨_, rfl, ?_⟩, ?_, ?_⟩
  · exact (cTst m).mono ((cTst m).stable hr (fun x hx _ => put8_same hx.2 _ _ _ _ _ _ _ _) (put8_size _ _ _ _ _ _ _ _)) (fun x hx => hx.1)
  · unfold put8
    have hb := h.bN
    exact rl_far (rl_far (rl_far (rl_far (rl_far (rl_far (rl_far (rl_far h.rd hb _) hb _) hb _) hb _) hb _) hb _) hb _) hb _
  · unfold put8
    have h0 := h.N0
    exact grown_far (grown_far (grown_far (grown_far (grown_far (grown_far (grown_far (grown_far h.gr h0 _) h0 _) h0 _) h0 _) h0 _) h0 _) h0 _) h0 _

set_option maxHeartbeats 8000000 in
set_option maxRecDepth 20000 in
theorem test_wrong (n : Nat) (dI : Int) (d m b : Nat) (v : Value) (F : Dom) (all l : List Tok) (w : World) (hdI : dI = d) (hn : all.length ≤ 100000) (h : RL w b v F all l) (hTab : Tabs w b)
    (hbad : (6 < d ∧ l ≠ []) ∨ (¬ (6 < d ∧ l ≠ []) ∧ ∃ k c, wordP tstTab l = .error (k, c))) :
    Calls Tryd.prog 56 #[.pointer (some ⟨b, 0, none⟩), .int .i64 dI] w (Ans (TstR m w.heap.size) b v F all w (testP (n + 1) d l)) := by
  obtain ⟨Rz, hRz⟩ : ∃ Rz, Rz = testP (n + 1) d l := ⟨_, rfl⟩
  rw [← hRz]
  rw [testP] at hRz
  have hal := ba (Below.refl w.heap.size w) (.cells #[.int .i64 0, .int .i64 0, .int .i64 0, .slice none 0 0, .slice none 0 0, .bool false, .int .i64 0, .slice none 0 0] 47)
  have HAL := Lib.hid hal
  have h1 := h.below hal
  obtain ⟨p, hl0, hr⟩ := h1
  obtain ⟨G, cap, rfl, hlen, hf⟩ := hr.facts hl0
  have c0 := hr.c0
  have c1 := hr.c1
  have hpos : (0 : Int) ≤ p := by omega
  have HR := Lib.hid hr; have HL := Lib.hid hl0
  rcases hbad with ⟨hd, hl⟩ | ⟨hd, k, c, hw⟩
  · rw [if_pos ⟨hd, hl⟩] at hRz
    have hq : decide (6 < dI) = true := decide_eq_true (by omega)
    have hlp : 0 < l.length := List.length_pos_iff.2 hl
    have hq2 : decide (p < all.length) = true := decide_eq_true (by omega)
    have HRZ : Hid (Rz = .error (l.length, if l.length = 0 then 4 else 1)) := by unfold Hid; rw [hRz, if_neg (by omega)]
    clear hRz hal h hl0 hr hf hlen hd hl hlp hdI
    go_enter Tryd.func56, Tryd.ntmps56
    go_wp2_with fail
    go_quiet (fail)
    go_wp2_with fail
    refine (give_any b p _ F all l 1 _ (by decide) hn HL.out (HR.out.below (belowDrewN _ nq))).mono ?_
    rintro e w2 ⟨ch, rfl, HCH, hb2⟩
    have HB2 := Lib.hid (bt (bt HAL.out (belowDrewN _ nq)) hb2)
    clear hb2
    go_wp2_with fail
    refine ⟨rfl, ?_⟩
    rw [HRZ.out]
    exact ⟨by rw [HCH.out], gBelow HB2.out b⟩
  · rw [if_neg hd, hw] at hRz
    have HRZ : Hid (Rz = .error (k, c)) := hRz
    have hwt := fun W (hb : Below (w.alloc (.cells #[.int .i64 0, .int .i64 0, .int .i64 0, .slice none 0 0, .slice none 0 0, .bool false, .int .i64 0, .slice none 0 0] 47)).heap.size (w.alloc (.cells #[.int .i64 0, .int .i64 0, .int .i64 0, .slice none 0 0, .slice none 0 0, .bool false, .int .i64 0, .slice none 0 0] 47)) W) => word_tok b 1 tstTab 11 (.slice G all.length cap) F all l W hn ⟨p, hl0, hr.below hb⟩ ((hTab.down (Nat.le_of_lt h.lt) (bt hal hb)).t) hTab.low.1 rfl (by decide)
    rw [hw] at hwt
    have HWT := Lib.hid hwt
    have hways : (decide (6 < dI) = false) ∨ (decide (6 < dI) = true ∧ decide (p < all.length) = false) := by
      by_cases h6 : 6 < dI
      · refine .inr ⟨decide_eq_true h6, decide_eq_false ?_⟩
        have : l = [] := by
          by_cases e : l = []
          · exact e
          · exact absurd ⟨by omega, e⟩ hd
        rw [this] at hlen; simp at hlen; omega
      · exact .inl (decide_eq_false h6)
    clear hRz hal h hl0 hr hf hlen hd hdI hw hwt
    rcases hways with q1 | ⟨q1, q2⟩
    all_goals
      go_enter Tryd.func56, Tryd.ntmps56
      go_wp2_with fail
      go_quiet (fail)
      go_wp2_with fail
      refine (HWT.out _ (belowDrewN _ nq)).mono ?_
      intro e w2 hp
      obtain ⟨ch, rfl, HCH, g2⟩ := hp.err
      have G2 := Lib.hid (Go.Lib.grownBy_trans (gBelow (bt HAL.out (belowDrewN _ nq)) b) g2)
      clear g2 hp
      go_wp2_with fail
      refine ⟨rfl, ?_⟩
      rw [HRZ.out]
      exact ⟨by rw [HCH.out], G2.out⟩
end Go.Proofs.YtlgbmnmoobpkkaaDoor.Sc
namespace Go.Proofs.YtlgbmnmoobpkkaaDoor.Sc
open Go.RowKit
open Tk (Tok)

theorem has_same' {w w' : World} {b : Nat} {vs : List Value} (h : Has w b vs) (hk : w'.heap[b]? = w.heap[b]?) (hz : b < w'.heap.size) : Has w' b vs :=
  ⟨fun i v hv => (World.cell?_of_block (w := w) (a := ⟨b, i, none⟩) hk).trans (h.1 i v hv), fun i hi => (World.frozen?_of_block (w := w) (a := ⟨b, i, none⟩) hk).trans (h.2.1 i hi), hz⟩
theorem sat_set {α : Type} {c : Cod α} {w : World} {T i H : Nat} {v : Value} {xs : List α} (h : SAt c w (fun x => H ≤ x) v xs) (hT : T < H) (u : Value) : SAt c (w.setCell ⟨T, i, none⟩ u) (fun x => H ≤ x) v xs :=
  h.stable (fun x hx _ => Below.heap_setCell _ _ _ _ (by show x ≠ T; have : H ≤ x := hx; omega)) (by simp [World.setCell])
theorem sat_new {α : Type} {c : Cod α} {w : World} {H0 N H : Nat} {v : Value} {xs : List α} (h : SAt c w (fun x => H ≤ x) v xs) (hN : N < H) (h0 : H0 ≤ N) : SAt c w (fun x => H0 ≤ x ∧ x ≠ N) v xs := h.mono (fun x hx => ⟨by omega, by omega⟩)
theorem RB.TW {w0 w : World} {b T N : Nat} {v : Value} {F : Dom} {all l : List Tok} {cs : List Value} (h : RB w0 w b T N v F all l cs) : T < w.heap.size := h.t.2.2
theorem RB.tags {w0 w w' : World} {b T N : Nat} {v : Value} {F : Dom} {all l l' : List Tok} {cs cs' : List Value} (h : RB w0 w b T N v F all l cs) (hr : RL w' b v F all l') (ht : Has w' T cs') (g : Gr2 w w' b T) : RB w0 w' b T N v F all l' cs' :=
  ⟨hr, ht, has_same' h.res (g.keep N h.res.2.2 (by have := h.bN; omega) (by have := h.NT; omega)) (Nat.lt_of_lt_of_le h.res.2.2 g.size), g.out h.gr (by have := h.NT; have := h.N0; omega), h.bN, h.NT, h.N0⟩

set_option maxHeartbeats 8000000 in
set_option maxRecDepth 20000 in
theorem test_bare_p (n : Nat) (dI : Int) (d m b k : Nat) (v : Value) (F : Dom) (all l r : List Tok) (w : World) (hdI : dI = d) (hm : d + m = 8) (hn : all.length ≤ 100000) (h : RL w b v F all l) (hTab : Tabs w b) 
    (hg : ¬ (6 < d ∧ l ≠ [])) (hw : wordP tstTab l = .ok (k, r)) (hk : k = 1 ∨ k = 2) :
    Calls Tryd.prog 56 #[.pointer (some ⟨b, 0, none⟩), .int .i64 dI] w (Ans (TstR m w.heap.size) b v F all w (testP (n + 1) d l)) := by
  obtain ⟨Rz, hRz⟩ : ∃ Rz, Rz = testP (n + 1) d l := ⟨_, rfl⟩
  rw [← hRz]
  rw [testP, if_neg hg, hw] at hRz
  have HRZ : Hid (Rz = testK (testP n (d + 1)) k r) := hRz
  have hl0 : l ≠ [] := by rintro rfl; cases hw
  have hd6 : d ≤ 6 := by
    by_cases e : 6 < d
    · exact absurd ⟨e, hl0⟩ hg
    · omega
  obtain ⟨m', rfl⟩ : ∃ m', m = m' + 1 := ⟨m - 1, by omega⟩
  have hal := ba (Below.refl w.heap.size w) (.cells #[.int .i64 0, .int .i64 0, .int .i64 0, .slice none 0 0, .slice none 0 0, .bool false, .int .i64 0, .slice none 0 0] 47)
  have HAL := Lib.hid hal
  have hbl := h.lt
  have hres := Has.alloc w [.int .i64 0, .int .i64 0, .int .i64 0, .slice none 0 0, .slice none 0 0, .bool false, .int .i64 0, .slice none 0 0] 47
  have HRS := Lib.hid hres
  have h1 := h.below hal
  have hrln := h1.len
  have hTab1 := hTab.down (Nat.le_of_lt hbl) hal
  obtain ⟨p, hl1, hr1⟩ := h1
  obtain ⟨G, cap, rfl, hlen, -⟩ := hr1.facts hl1
  have c0 := hr1.c0
  have c1 := hr1.c1
  have hpos : (0 : Int) ≤ p := by omega
  have hwt := fun W (hb : Below (w.alloc (.cells #[.int .i64 0, .int .i64 0, .int .i64 0, .slice none 0 0, .slice none 0 0, .bool false, .int .i64 0, .slice none 0 0] 47)).heap.size (w.alloc (.cells #[.int .i64 0, .int .i64 0, .int .i64 0, .slice none 0 0, .slice none 0 0, .bool false, .int .i64 0, .slice none 0 0] 47)) W) => word_tok b 1 tstTab 11 (.slice G all.length cap) F all l W hn ⟨p, hl1, hr1.below hb⟩ ((hTab1.down (Nat.le_of_lt hr1.lt) hb).t) hTab.low.1 rfl (by decide)
  have hls := less_word tstTab l
  rw [hw] at hwt hls
  have hrl : r.length + 1 ≤ l.length := hls
  have HWT := Lib.hid hwt
  have HTAB := Lib.hid hTab
  have q1 : decide (6 < dI) = false := decide_eq_false (by omega)
  have HDI := Lib.hid hdI
  clear hRz hal h hl1 hr1 hlen hg hw hwt hls hres hTab hTab1 hl0 hdI
  rcases hk with rfl | rfl
  · go_enter Tryd.func56, Tryd.ntmps56
    go_wp2_with fail
    go_quiet (fail)
    go_wp2_with fail
    refine (HWT.out _ (belowDrewN _ nq)).mono ?_
    intro e w2 hp
    obtain ⟨he, hr2, g2⟩ := hp
    have he' : e = .returned (.int .i64 1) := he
    subst he'
    have H0 : Hid (RB w (w2.alloc (.cells #[.int .i64 1, .int .i64 0, .int .i64 0, .slice none 0 0, .slice none 0 0, .bool false, .int .i64 0, .slice none 0 0] 47)) b w2.heap.size w.heap.size (.slice G all.length cap) F all r [.int .i64 1, .int .i64 0, .int .i64 0, .slice none 0 0, .slice none 0 0, .bool false, .int .i64 0, .slice none 0 0]) := by
      have hb2 := ba (Below.refl w2.heap.size w2) (.cells #[.int .i64 1, .int .i64 0, .int .i64 0, .slice none 0 0, .slice none 0 0, .bool false, .int .i64 0, .slice none 0 0] 47)
      have g3 := Go.Lib.grownBy_trans (gBelow (bt HAL.out (belowDrewN _ nq)) b) g2
      have hs2 := g2.size
      have hr9 : Has w2 w.heap.size res8 := (HRS.out.down (belowDrewN _ nq)).kept g2 (fun e => by have := Option.some.inj e; omega)
      exact ⟨hr2.below hb2, Has.alloc w2 _ _, hr9.down hb2, Go.Lib.grownBy_below g3 hb2, hbl, hr9.2.2, Nat.le_refl _⟩
    clear he hr2 g2 HWT HAL HRS c0 c1
    go_upto_region 4 with fail
    refine wp_at (R := fun W => RB w W b w2.heap.size w.heap.size (.slice G all.length cap) F all r [.int .i64 1, .int .i64 0, .int .i64 0, .slice none 0 0, .slice none 0 0, .bool false, .int .i64 0, .slice none 0 0]) H0.out (fun W hW => ?_)
    clear H0
    generalize w2.heap.size = T at hW ⊢
    obtain ⟨N, hN⟩ : ∃ N, N = w.heap.size := ⟨_, rfl⟩
    rw [← hN] at hW ⊢
    have HN := Lib.hid hN
    clear hN
    obtain ⟨e0, e1, e2, e3, e4, e5, e6, e7⟩ := has_oct' hW.t
    have HW := Lib.hid hW
    clear hW
    have HE : Hid (Rz = .ok (⟨1, 0, 0, [], [], false, 0, []⟩, r)) := HRZ.out
    have HREP : Hid ((cTst (m' + 1)).rep W (fun x => w.heap.size ≤ x ∧ x ≠ N) ⟨1, 0, 0, [], [], false, 0, []⟩ [.int .i64 1, .int .i64 0, .int .i64 0, .slice none 0 0, .slice none 0 0, .bool false, .int .i64 0, .slice none 0 0]) := ⟨_, _, _, rfl, SAt.nil _ _ _, SAt.nil _ _ _, SAt.nil _ _ _⟩
    clear HRZ e0 e1 e2 e3 e4 e5 e6 e7
    obtain ⟨e0, e1, e2, e3, e4, e5, e6, e7⟩ := has_oct' HW.out.t
    obtain ⟨r0, r1, r2, r3, r4, r5, r6, r7⟩ := has_oct' HW.out.res
    have f0 := HW.out.res.2.1 0 (by simp [res8]); have f1 := HW.out.res.2.1 1 (by simp [res8]); have f2 := HW.out.res.2.1 2 (by simp [res8]); have f3 := HW.out.res.2.1 3 (by simp [res8])
    have f4 := HW.out.res.2.1 4 (by simp [res8]); have f5 := HW.out.res.2.1 5 (by simp [res8]); have f6 := HW.out.res.2.1 6 (by simp [res8]); have f7 := HW.out.res.2.1 7 (by simp [res8])
    have hfin := agg_put8 HW.out HREP.out
    obtain ⟨x0, x1, x2, x3, x4, x5, x6, x7⟩ := has_oct' hfin.1
    have HANS := Lib.hid hfin.2
    unfold put8 at x0 x1 x2 x3 x4 x5 x6 x7 HANS
    clear hfin
    go_wp2_with fail
    refine bodyPost_ret (v := .agg #[.int .i64 1, .int .i64 0, .int .i64 0, .slice none 0 0, .slice none 0 0, .bool false, .int .i64 0, .slice none 0 0]) ?_ rfl ?_
    · simp [results, Tryd.results56, go_sem, x0, x1, x2, x3, x4, x5, x6, x7]
    · rw [HE.out]; exact HANS.out
  · go_enter Tryd.func56, Tryd.ntmps56
    go_wp2_with fail
    go_quiet (fail)
    go_wp2_with fail
    refine (HWT.out _ (belowDrewN _ nq)).mono ?_
    intro e w2 hp
    obtain ⟨he, hr2, g2⟩ := hp
    have he' : e = .returned (.int .i64 2) := he
    subst he'
    have H0 : Hid (RB w (w2.alloc (.cells #[.int .i64 2, .int .i64 0, .int .i64 0, .slice none 0 0, .slice none 0 0, .bool false, .int .i64 0, .slice none 0 0] 47)) b w2.heap.size w.heap.size (.slice G all.length cap) F all r [.int .i64 2, .int .i64 0, .int .i64 0, .slice none 0 0, .slice none 0 0, .bool false, .int .i64 0, .slice none 0 0]) := by
      have hb2 := ba (Below.refl w2.heap.size w2) (.cells #[.int .i64 2, .int .i64 0, .int .i64 0, .slice none 0 0, .slice none 0 0, .bool false, .int .i64 0, .slice none 0 0] 47)
      have g3 := Go.Lib.grownBy_trans (gBelow (bt HAL.out (belowDrewN _ nq)) b) g2
      have hs2 := g2.size
      have hr9 : Has w2 w.heap.size res8 := (HRS.out.down (belowDrewN _ nq)).kept g2 (fun e => by have := Option.some.inj e; omega)
      exact ⟨hr2.below hb2, Has.alloc w2 _ _, hr9.down hb2, Go.Lib.grownBy_below g3 hb2, hbl, hr9.2.2, Nat.le_refl _⟩
    clear he hr2 g2 HWT HAL HRS c0 c1
    go_upto_region 4 with fail
    refine wp_at (R := fun W => RB w W b w2.heap.size w.heap.size (.slice G all.length cap) F all r [.int .i64 2, .int .i64 0, .int .i64 0, .slice none 0 0, .slice none 0 0, .bool false, .int .i64 0, .slice none 0 0]) H0.out (fun W hW => ?_)
    clear H0
    generalize w2.heap.size = T at hW ⊢
    obtain ⟨N, hN⟩ : ∃ N, N = w.heap.size := ⟨_, rfl⟩
    rw [← hN] at hW ⊢
    have HN := Lib.hid hN
    clear hN
    obtain ⟨e0, e1, e2, e3, e4, e5, e6, e7⟩ := has_oct' hW.t
    have HW := Lib.hid hW
    clear hW
    have HE : Hid (Rz = .ok (⟨2, 0, 0, [], [], false, 0, []⟩, r)) := HRZ.out
    have HREP : Hid ((cTst (m' + 1)).rep W (fun x => w.heap.size ≤ x ∧ x ≠ N) ⟨2, 0, 0, [], [], false, 0, []⟩ [.int .i64 2, .int .i64 0, .int .i64 0, .slice none 0 0, .slice none 0 0, .bool false, .int .i64 0, .slice none 0 0]) := ⟨_, _, _, rfl, SAt.nil _ _ _, SAt.nil _ _ _, SAt.nil _ _ _⟩
    clear HRZ e0 e1 e2 e3 e4 e5 e6 e7
    obtain ⟨e0, e1, e2, e3, e4, e5, e6, e7⟩ := has_oct' HW.out.t
    obtain ⟨r0, r1, r2, r3, r4, r5, r6, r7⟩ := has_oct' HW.out.res
    have f0 := HW.out.res.2.1 0 (by simp [res8]); have f1 := HW.out.res.2.1 1 (by simp [res8]); have f2 := HW.out.res.2.1 2 (by simp [res8]); have f3 := HW.out.res.2.1 3 (by simp [res8])
    have f4 := HW.out.res.2.1 4 (by simp [res8]); have f5 := HW.out.res.2.1 5 (by simp [res8]); have f6 := HW.out.res.2.1 6 (by simp [res8]); have f7 := HW.out.res.2.1 7 (by simp [res8])
    have hfin := agg_put8 HW.out HREP.out
    obtain ⟨x0, x1, x2, x3, x4, x5, x6, x7⟩ := has_oct' hfin.1
    have HANS := Lib.hid hfin.2
    unfold put8 at x0 x1 x2 x3 x4 x5 x6 x7 HANS
    clear hfin
    go_wp2_with fail
    refine bodyPost_ret (v := .agg #[.int .i64 2, .int .i64 0, .int .i64 0, .slice none 0 0, .slice none 0 0, .bool false, .int .i64 0, .slice none 0 0]) ?_ rfl ?_
    · simp [results, Tryd.results56, go_sem, x0, x1, x2, x3, x4, x5, x6, x7]
    · rw [HE.out]; exact HANS.out

set_option maxHeartbeats 8000000 in
set_option maxRecDepth 20000 in
theorem test_exists_p (n : Nat) (dI : Int) (d m b k : Nat) (v : Value) (F : Dom) (all l r : List Tok) (w : World) (hdI : dI = d) (hm : d + m = 8) (hn : all.length ≤ 100000) (h : RL w b v F all l) (hTab : Tabs w b) 
    (hg : ¬ (6 < d ∧ l ≠ [])) (hw : wordP tstTab l = .ok (k, r)) (hk : k = 9) :
    Calls Tryd.prog 56 #[.pointer (some ⟨b, 0, none⟩), .int .i64 dI] w (Ans (TstR m w.heap.size) b v F all w (testP (n + 1) d l)) := by
  obtain ⟨Rz, hRz⟩ : ∃ Rz, Rz = testP (n + 1) d l := ⟨_, rfl⟩
  rw [← hRz]
  rw [testP, if_neg hg, hw] at hRz
  have HRZ : Hid (Rz = testK (testP n (d + 1)) k r) := hRz
  have hl0 : l ≠ [] := by rintro rfl; cases hw
  have hd6 : d ≤ 6 := by
    by_cases e : 6 < d
    · exact absurd ⟨e, hl0⟩ hg
    · omega
  obtain ⟨m', rfl⟩ : ∃ m', m = m' + 1 := ⟨m - 1, by omega⟩
  have hal := ba (Below.refl w.heap.size w) (.cells #[.int .i64 0, .int .i64 0, .int .i64 0, .slice none 0 0, .slice none 0 0, .bool false, .int .i64 0, .slice none 0 0] 47)
  have HAL := Lib.hid hal
  have hbl := h.lt
  have hres := Has.alloc w [.int .i64 0, .int .i64 0, .int .i64 0, .slice none 0 0, .slice none 0 0, .bool false, .int .i64 0, .slice none 0 0] 47
  have HRS := Lib.hid hres
  have h1 := h.below hal
  have hrln := h1.len
  have hTab1 := hTab.down (Nat.le_of_lt hbl) hal
  obtain ⟨p, hl1, hr1⟩ := h1
  obtain ⟨G, cap, rfl, hlen, -⟩ := hr1.facts hl1
  have c0 := hr1.c0
  have c1 := hr1.c1
  have hpos : (0 : Int) ≤ p := by omega
  have hwt := fun W (hb : Below (w.alloc (.cells #[.int .i64 0, .int .i64 0, .int .i64 0, .slice none 0 0, .slice none 0 0, .bool false, .int .i64 0, .slice none 0 0] 47)).heap.size (w.alloc (.cells #[.int .i64 0, .int .i64 0, .int .i64 0, .slice none 0 0, .slice none 0 0, .bool false, .int .i64 0, .slice none 0 0] 47)) W) => word_tok b 1 tstTab 11 (.slice G all.length cap) F all l W hn ⟨p, hl1, hr1.below hb⟩ ((hTab1.down (Nat.le_of_lt hr1.lt) hb).t) hTab.low.1 rfl (by decide)
  have hls := less_word tstTab l
  rw [hw] at hwt hls
  have hrl : r.length + 1 ≤ l.length := hls
  have HWT := Lib.hid hwt
  have HTAB := Lib.hid hTab
  have q1 : decide (6 < dI) = false := decide_eq_false (by omega)
  have HDI := Lib.hid hdI
  clear hRz hal h hl1 hr1 hlen hg hw hwt hls hres hTab hTab1 hl0 hdI
  subst hk
  go_enter Tryd.func56, Tryd.ntmps56
  go_wp2_with fail
  go_quiet (fail)
  go_wp2_with fail
  refine (HWT.out _ (belowDrewN _ nq)).mono ?_
  intro e w2 hp
  obtain ⟨he, hr2, g2⟩ := hp
  have he' : e = .returned (.int .i64 9) := he
  subst he'
  have H0 : Hid (RB w (w2.alloc (.cells #[.int .i64 9, .int .i64 0, .int .i64 0, .slice none 0 0, .slice none 0 0, .bool false, .int .i64 0, .slice none 0 0] 47)) b w2.heap.size w.heap.size (.slice G all.length cap) F all r [.int .i64 9, .int .i64 0, .int .i64 0, .slice none 0 0, .slice none 0 0, .bool false, .int .i64 0, .slice none 0 0]) := by
    have hb2 := ba (Below.refl w2.heap.size w2) (.cells #[.int .i64 9, .int .i64 0, .int .i64 0, .slice none 0 0, .slice none 0 0, .bool false, .int .i64 0, .slice none 0 0] 47)
    have g3 := Go.Lib.grownBy_trans (gBelow (bt HAL.out (belowDrewN _ nq)) b) g2
    have hs2 := g2.size
    have hr9 : Has w2 w.heap.size res8 := (HRS.out.down (belowDrewN _ nq)).kept g2 (fun e => by have := Option.some.inj e; omega)
    exact ⟨hr2.below hb2, Has.alloc w2 _ _, hr9.down hb2, Go.Lib.grownBy_below g3 hb2, hbl, hr9.2.2, Nat.le_refl _⟩
  clear he hr2 g2 HWT HAL HRS c0 c1
  go_upto_region 4 with fail
  refine wp_at (R := fun W => RB w W b w2.heap.size w.heap.size (.slice G all.length cap) F all r [.int .i64 9, .int .i64 0, .int .i64 0, .slice none 0 0, .slice none 0 0, .bool false, .int .i64 0, .slice none 0 0]) H0.out (fun W hW => ?_)
  clear H0
  generalize w2.heap.size = T at hW ⊢
  obtain ⟨N, hN⟩ : ∃ N, N = w.heap.size := ⟨_, rfl⟩
  rw [← hN] at hW ⊢
  have HN := Lib.hid hN
  clear hN
  obtain ⟨e0, e1, e2, e3, e4, e5, e6, e7⟩ := has_oct' hW.t
  have HW := Lib.hid hW
  clear hW
  have HL := Lib.hid (list_tok b (.slice G all.length cap) F all r W hn HW.out.rd)
  have HZ : Hid (Rz = bnd (listP r) fun ns r => .ok (⟨9, 0, 0, ns, [], false, 0, []⟩, r)) := HRZ.out
  clear HRZ
  cases hx : listP r with
  | error p =>
    obtain ⟨kk, c⟩ := p
    rw [hx] at HL HZ
    clear hx
    go_wp2_with fail
    refine HL.out.mono ?_
    intro e w9 hp
    obtain ⟨ch, rfl, HCH, g9⟩ := hp.err
    have G9 := Lib.hid (Go.Lib.grownBy_trans HW.out.gr g9)
    clear g9 hp
    go_wp2_with fail
    refine ⟨rfl, ?_⟩
    rw [HZ.out]
    exact ⟨by rw [HCH.out], G9.out⟩
  | ok p =>
    obtain ⟨ns, r5⟩ := p
    rw [hx] at HL HZ
    clear hx
    go_wp2_with fail
    refine HL.out.mono ?_
    intro e w4 hp
    obtain ⟨⟨v4, rfl, hs4⟩, hr4, g4⟩ := hp
    obtain ⟨Gn, cn, rfl, -⟩ := hs4.form
    have hw4 := HW.out.next hr4 g4
    have e3' := hw4.t.1 3 _ rfl
    have f3' := hw4.t.2.1 3 (by simp)
    have hTW := HW.out.TW
    have HW5 := Lib.hid (hw4.set (i := 3) (.slice Gn ns.length cn) (by simp))
    have HREP : Hid ((cTst (m' + 1)).rep (w4.setCell ⟨T, 3, none⟩ (.slice Gn ns.length cn)) (fun x => w.heap.size ≤ x ∧ x ≠ N) ⟨9, 0, 0, ns, [], false, 0, []⟩ [.int .i64 9, .int .i64 0, .int .i64 0, .slice Gn ns.length cn, .slice none 0 0, .bool false, .int .i64 0, .slice none 0 0]) := ⟨_, _, _, rfl, sat_new (sat_set hs4 hTW _) (by have := HW.out.NT; omega) HW.out.N0, SAt.nil _ _ _, SAt.nil _ _ _⟩
    clear hs4 hr4 g4 hw4 HL hTW e0 e1 e2 e3 e4 e5 e6 e7
    go_upto_region 28 with fail
    clear e3' f3'
    obtain ⟨e0, e1, e2, e3, e4, e5, e6, e7⟩ := has_oct' HW5.out.t
    obtain ⟨r0, r1, r2, r3, r4, r5, r6, r7⟩ := has_oct' HW5.out.res
    have f0 := HW5.out.res.2.1 0 (by simp [res8]); have f1 := HW5.out.res.2.1 1 (by simp [res8]); have f2 := HW5.out.res.2.1 2 (by simp [res8]); have f3 := HW5.out.res.2.1 3 (by simp [res8])
    have f4 := HW5.out.res.2.1 4 (by simp [res8]); have f5 := HW5.out.res.2.1 5 (by simp [res8]); have f6 := HW5.out.res.2.1 6 (by simp [res8]); have f7 := HW5.out.res.2.1 7 (by simp [res8])
    have hfin := agg_put8 HW5.out HREP.out
    obtain ⟨x0, x1, x2, x3, x4, x5, x6, x7⟩ := has_oct' hfin.1
    have HANS := Lib.hid hfin.2
    unfold put8 at x0 x1 x2 x3 x4 x5 x6 x7 HANS
    clear hfin
    go_wp2_with fail
    refine bodyPost_ret (v := .agg #[.int .i64 9, .int .i64 0, .int .i64 0, .slice Gn ns.length cn, .slice none 0 0, .bool false, .int .i64 0, .slice none 0 0]) ?_ rfl ?_
    · simp [results, Tryd.results56, go_sem, x0, x1, x2, x3, x4, x5, x6, x7]
    · rw [HZ.out]; exact HANS.out

theorem tags_six : ∀ (n m : Nat) (l : List Tok) (mp : Nat × Nat) (r : List Tok), tagsP n 6 m 0 l = .ok (mp, r) → mp.2 = 0
  | 0, m, l, mp, r, h => by
    have h' : (.ok ((m, 0), l) : PR (Nat × Nat)) = .ok (mp, r) := h
    cases h'; rfl
  | n + 1, m, [], mp, r, h => by
    have h' : (.ok ((m, 0), []) : PR (Nat × Nat)) = .ok (mp, r) := h
    cases h'; rfl
  | n + 1, m, t :: q, mp, r, h => by
    by_cases hk : t.kind = 2
    · rw [tags_tag hk] at h
      split at h
      · exact tags_six n _ q mp r h
      · rw [if_neg (by omega)] at h
        cases h
    · rw [tags_else hk] at h
      cases h; rfl

set_option maxHeartbeats 8000000 in
set_option maxRecDepth 20000 in
theorem test_header_p (n : Nat) (dI : Int) (d m b k : Nat) (v : Value) (F : Dom) (all l r : List Tok) (w : World) (hdI : dI = d) (hm : d + m = 8) (hn : all.length ≤ 100000) (h : RL w b v F all l) (hTab : Tabs w b) 
    (hg : ¬ (6 < d ∧ l ≠ [])) (hw : wordP tstTab l = .ok (k, r)) (hk : k = 6 ∨ k = 7 ∨ k = 8) :
    Calls Tryd.prog 56 #[.pointer (some ⟨b, 0, none⟩), .int .i64 dI] w (Ans (TstR m w.heap.size) b v F all w (testP (n + 1) d l)) := by
  obtain ⟨Rz, hRz⟩ : ∃ Rz, Rz = testP (n + 1) d l := ⟨_, rfl⟩
  rw [← hRz]
  rw [testP, if_neg hg, hw] at hRz
  have HRZ : Hid (Rz = testK (testP n (d + 1)) k r) := hRz
  have hl0 : l ≠ [] := by rintro rfl; cases hw
  have hd6 : d ≤ 6 := by
    by_cases e : 6 < d
    · exact absurd ⟨e, hl0⟩ hg
    · omega
  obtain ⟨m', rfl⟩ : ∃ m', m = m' + 1 := ⟨m - 1, by omega⟩
  have hal := ba (Below.refl w.heap.size w) (.cells #[.int .i64 0, .int .i64 0, .int .i64 0, .slice none 0 0, .slice none 0 0, .bool false, .int .i64 0, .slice none 0 0] 47)
  have HAL := Lib.hid hal
  have hbl := h.lt
  have hres := Has.alloc w [.int .i64 0, .int .i64 0, .int .i64 0, .slice none 0 0, .slice none 0 0, .bool false, .int .i64 0, .slice none 0 0] 47
  have HRS := Lib.hid hres
  have h1 := h.below hal
  have hrln := h1.len
  have hTab1 := hTab.down (Nat.le_of_lt hbl) hal
  obtain ⟨p, hl1, hr1⟩ := h1
  obtain ⟨G, cap, rfl, hlen, -⟩ := hr1.facts hl1
  have c0 := hr1.c0
  have c1 := hr1.c1
  have hpos : (0 : Int) ≤ p := by omega
  have hwt := fun W (hb : Below (w.alloc (.cells #[.int .i64 0, .int .i64 0, .int .i64 0, .slice none 0 0, .slice none 0 0, .bool false, .int .i64 0, .slice none 0 0] 47)).heap.size (w.alloc (.cells #[.int .i64 0, .int .i64 0, .int .i64 0, .slice none 0 0, .slice none 0 0, .bool false, .int .i64 0, .slice none 0 0] 47)) W) => word_tok b 1 tstTab 11 (.slice G all.length cap) F all l W hn ⟨p, hl1, hr1.below hb⟩ ((hTab1.down (Nat.le_of_lt hr1.lt) hb).t) hTab.low.1 rfl (by decide)
  have hls := less_word tstTab l
  rw [hw] at hwt hls
  have hrl : r.length + 1 ≤ l.length := hls
  have HWT := Lib.hid hwt
  have HTAB := Lib.hid hTab
  have q1 : decide (6 < dI) = false := decide_eq_false (by omega)
  have HDI := Lib.hid hdI
  clear hRz hal h hl1 hr1 hlen hg hw hwt hls hres hTab hTab1 hl0 hdI
  rcases hk with rfl | rfl | rfl
  · go_enter Tryd.func56, Tryd.ntmps56
    go_wp2_with fail
    go_quiet (fail)
    go_wp2_with fail
    refine (HWT.out _ (belowDrewN _ nq)).mono ?_
    intro e w2 hp
    obtain ⟨he, hr2, g2⟩ := hp
    have he' : e = .returned (.int .i64 6) := he
    subst he'
    have H0 : Hid (RB w (w2.alloc (.cells #[.int .i64 6, .int .i64 0, .int .i64 0, .slice none 0 0, .slice none 0 0, .bool false, .int .i64 0, .slice none 0 0] 47)) b w2.heap.size w.heap.size (.slice G all.length cap) F all r [.int .i64 6, .int .i64 0, .int .i64 0, .slice none 0 0, .slice none 0 0, .bool false, .int .i64 0, .slice none 0 0]) := by
      have hb2 := ba (Below.refl w2.heap.size w2) (.cells #[.int .i64 6, .int .i64 0, .int .i64 0, .slice none 0 0, .slice none 0 0, .bool false, .int .i64 0, .slice none 0 0] 47)
      have g3 := Go.Lib.grownBy_trans (gBelow (bt HAL.out (belowDrewN _ nq)) b) g2
      have hs2 := g2.size
      have hr9 : Has w2 w.heap.size res8 := (HRS.out.down (belowDrewN _ nq)).kept g2 (fun e => by have := Option.some.inj e; omega)
      exact ⟨hr2.below hb2, Has.alloc w2 _ _, hr9.down hb2, Go.Lib.grownBy_below g3 hb2, hbl, hr9.2.2, Nat.le_refl _⟩
    clear he hr2 g2 HWT HAL HRS c0 c1
    go_upto_region 4 with fail
    refine wp_at (R := fun W => RB w W b w2.heap.size w.heap.size (.slice G all.length cap) F all r [.int .i64 6, .int .i64 0, .int .i64 0, .slice none 0 0, .slice none 0 0, .bool false, .int .i64 0, .slice none 0 0]) H0.out (fun W hW => ?_)
    clear H0
    generalize w2.heap.size = T at hW ⊢
    obtain ⟨N, hN⟩ : ∃ N, N = w.heap.size := ⟨_, rfl⟩
    rw [← hN] at hW ⊢
    have HN := Lib.hid hN
    clear hN
    obtain ⟨e0, e1, e2, e3, e4, e5, e6, e7⟩ := has_oct' hW.t
    have HW := Lib.hid hW
    clear hW
    have HTG := Lib.hid (tags_any 6 6 b T (.slice G all.length cap) F all r W rfl hn HW.out.rd HW.out.t (by have := HW.out.bN; have := HW.out.NT; omega) (HTAB.out.below (grown_low HW.out.gr (Nat.le_of_lt hbl))))
    have HZ : Hid (Rz = bnd (tagsP r.length 6 0 0 r) fun mp r => bnd (listP r) fun ns r => bnd (listP r) fun ks r => .ok (⟨6, dfl mp.1, if (6 : Nat) = 6 then 0 else dfl mp.2, ns, ks, false, 0, []⟩, r)) := HRZ.out
    clear HRZ
    cases hx : tagsP r.length 6 0 0 r with
    | error p =>
      obtain ⟨kk, c⟩ := p
      rw [hx] at HTG HZ
      clear hx
      go_wp2_with fail
      refine HTG.out.mono ?_
      intro e w9 hp
      obtain ⟨ch, rfl, HCH, g9⟩ := hp
      have G9 := Lib.hid (g9.out HW.out.gr (by have := HW.out.NT; have := HW.out.N0; omega))
      clear g9
      go_wp2_with fail
      refine ⟨rfl, ?_⟩
      rw [HZ.out]
      exact ⟨by rw [HCH.out], G9.out⟩
    | ok p =>
      obtain ⟨mp, r5⟩ := p
      have h6 := tags_six _ _ _ _ _ hx
      rw [hx] at HTG HZ
      obtain ⟨M, hM⟩ : ∃ M : Int, M = ((dfl mp.1 : Nat) : Int) := ⟨_, rfl⟩
      obtain ⟨P, hP⟩ : ∃ P : Int, P = (((if (6 : Nat) = 6 then mp.2 else dfl mp.2) : Nat) : Int) := ⟨_, rfl⟩
      have HZ2 : Hid (Rz = bnd (listP r5) fun ns r => bnd (listP r) fun ks r => .ok (⟨6, M, P, ns, ks, false, 0, []⟩, r)) := by
        unfold Hid
        rw [HZ.out]
        show (bnd (listP r5) fun ns r => bnd (listP r) fun ks r => (.ok ((⟨6, ((dfl mp.1 : Nat) : Int), (if (6 : Nat) = 6 then (0 : Int) else ((dfl mp.2 : Nat) : Int)), ns, ks, false, 0, []⟩ : Tst), r) : PR Tst)) = _
        have e1 : (if (6 : Nat) = 6 then mp.2 else dfl mp.2) = 0 := by rw [if_pos rfl, h6]
        rw [hM, hP]
        rw [e1]; rfl
      have HM := Lib.hid hM; have HP := Lib.hid hP
      clear hx h6 hM hP HZ
      go_wp2_with fail
      refine HTG.out.mono ?_
      intro e w5 hp
      obtain ⟨rfl, hr5, ht5, g5⟩ := hp
      have ht5' : Has w5 T [.int .i64 6, .int .i64 M, .int .i64 P, .slice none 0 0, .slice none 0 0, .bool false, .int .i64 0, .slice none 0 0] := by rw [HM.out, HP.out]; exact ht5
      have HW5 := Lib.hid (HW.out.tags hr5 ht5' g5)
      have HL := Lib.hid (list_tok b (.slice G all.length cap) F all r5 w5 hn hr5)
      clear hr5 ht5 ht5' g5 HTG HM HP e0 e1 e2 e3 e4 e5 e6 e7
      cases hx : listP r5 with
      | error p =>
        obtain ⟨kk, c⟩ := p
        rw [hx] at HL HZ2
        clear hx
        go_wp2_with fail
        refine HL.out.mono ?_
        intro e w9 hp
        obtain ⟨ch, rfl, HCH, g9⟩ := hp.err
        have G9 := Lib.hid (Go.Lib.grownBy_trans HW5.out.gr g9)
        clear g9 hp
        go_wp2_with fail
        refine ⟨rfl, ?_⟩
        rw [HZ2.out]
        exact ⟨by rw [HCH.out], G9.out⟩
      | ok p =>
        obtain ⟨ns, r6⟩ := p
        rw [hx] at HL HZ2
        clear hx
        go_wp2_with fail
        refine HL.out.mono ?_
        intro e w6 hp
        obtain ⟨⟨v6, rfl, hs6⟩, hr6, g6⟩ := hp
        obtain ⟨Gn, cn, rfl, -⟩ := hs6.form
        have hw6 := HW5.out.next hr6 g6
        have e3' := hw6.t.1 3 _ rfl
        have f3' := hw6.t.2.1 3 (by simp)
        have hTW := HW5.out.TW
        have HW7 := Lib.hid (hw6.set (i := 3) (.slice Gn ns.length cn) (by simp))
        have HS7 := Lib.hid (sat_set (i := 3) hs6 hTW (.slice Gn ns.length cn))
        have HLL := Lib.hid (list_tok b (.slice G all.length cap) F all r6 _ hn HW7.out.rd)
        have HZ3 : Hid (Rz = bnd (listP r6) fun ks r => .ok (⟨6, M, P, ns, ks, false, 0, []⟩, r)) := HZ2.out
        clear hs6 hr6 g6 hw6 HL HZ2
        cases hx : listP r6 with
        | error p =>
          obtain ⟨kk, c⟩ := p
          rw [hx] at HLL HZ3
          clear hx
          go_wp2_with fail
          refine HLL.out.mono ?_
          intro e w9 hp
          obtain ⟨ch, rfl, HCH, g9⟩ := hp.err
          have G9 := Lib.hid (Go.Lib.grownBy_trans HW7.out.gr g9)
          clear g9 hp
          go_wp2_with fail
          refine ⟨rfl, ?_⟩
          rw [HZ3.out]
          exact ⟨by rw [HCH.out], G9.out⟩
        | ok p =>
          obtain ⟨ks, r8⟩ := p
          rw [hx] at HLL HZ3
          clear hx
          go_wp2_with fail
          refine HLL.out.mono ?_
          intro e w8 hp
          obtain ⟨⟨v8, rfl, hs8⟩, hr8, g8⟩ := hp
          obtain ⟨Gk, ck, rfl, -⟩ := hs8.form
          have hw8 := HW7.out.next hr8 g8
          have e4' := hw8.t.1 4 _ rfl
          have f4' := hw8.t.2.1 4 (by simp)
          have hTW8 := HW7.out.TW
          have HW9 := Lib.hid (hw8.set (i := 4) (.slice Gk ks.length ck) (by simp))
          have hs7' := sat_set (i := 4) (sat_read HS7.out g8 (by have := HW5.out.bN; have := HW5.out.NT; omega)) hTW (.slice Gk ks.length ck)
          have HREP : Hid ((cTst (m' + 1)).rep (w8.setCell ⟨T, 4, none⟩ (.slice Gk ks.length ck)) (fun x => w.heap.size ≤ x ∧ x ≠ N) ⟨6, M, P, ns, ks, false, 0, []⟩ [.int .i64 6, .int .i64 M, .int .i64 P, .slice Gn ns.length cn, .slice Gk ks.length ck, .bool false, .int .i64 0, .slice none 0 0]) := ⟨_, _, _, rfl, sat_new hs7' (by have := HW5.out.NT; omega) HW5.out.N0, sat_new (sat_set hs8 hTW8 _) (by have := HW5.out.NT; omega) HW5.out.N0, SAt.nil _ _ _⟩
          clear hs8 hr8 g8 hw8 HLL hTW hTW8 hs7' e3' f3'
          go_upto_region 28 with fail
          clear e4' f4'
          obtain ⟨e0, e1, e2, e3, e4, e5, e6, e7⟩ := has_oct' HW9.out.t
          obtain ⟨r0, r1, r2, r3, r4, r5, r6, r7⟩ := has_oct' HW9.out.res
          have f0 := HW9.out.res.2.1 0 (by simp [res8]); have f1 := HW9.out.res.2.1 1 (by simp [res8]); have f2 := HW9.out.res.2.1 2 (by simp [res8]); have f3 := HW9.out.res.2.1 3 (by simp [res8])
          have f4 := HW9.out.res.2.1 4 (by simp [res8]); have f5 := HW9.out.res.2.1 5 (by simp [res8]); have f6 := HW9.out.res.2.1 6 (by simp [res8]); have f7 := HW9.out.res.2.1 7 (by simp [res8])
          have hfin := agg_put8 HW9.out HREP.out
          obtain ⟨x0, x1, x2, x3, x4, x5, x6, x7⟩ := has_oct' hfin.1
          have HANS := Lib.hid hfin.2
          unfold put8 at x0 x1 x2 x3 x4 x5 x6 x7 HANS
          clear hfin
          go_wp2_with fail
          refine bodyPost_ret (v := .agg #[.int .i64 6, .int .i64 M, .int .i64 P, .slice Gn ns.length cn, .slice Gk ks.length ck, .bool false, .int .i64 0, .slice none 0 0]) ?_ rfl ?_
          · simp [results, Tryd.results56, go_sem, x0, x1, x2, x3, x4, x5, x6, x7]
          · rw [HZ3.out]; exact HANS.out
  · go_enter Tryd.func56, Tryd.ntmps56
    go_wp2_with fail
    go_quiet (fail)
    go_wp2_with fail
    refine (HWT.out _ (belowDrewN _ nq)).mono ?_
    intro e w2 hp
    obtain ⟨he, hr2, g2⟩ := hp
    have he' : e = .returned (.int .i64 7) := he
    subst he'
    have H0 : Hid (RB w (w2.alloc (.cells #[.int .i64 7, .int .i64 0, .int .i64 0, .slice none 0 0, .slice none 0 0, .bool false, .int .i64 0, .slice none 0 0] 47)) b w2.heap.size w.heap.size (.slice G all.length cap) F all r [.int .i64 7, .int .i64 0, .int .i64 0, .slice none 0 0, .slice none 0 0, .bool false, .int .i64 0, .slice none 0 0]) := by
      have hb2 := ba (Below.refl w2.heap.size w2) (.cells #[.int .i64 7, .int .i64 0, .int .i64 0, .slice none 0 0, .slice none 0 0, .bool false, .int .i64 0, .slice none 0 0] 47)
      have g3 := Go.Lib.grownBy_trans (gBelow (bt HAL.out (belowDrewN _ nq)) b) g2
      have hs2 := g2.size
      have hr9 : Has w2 w.heap.size res8 := (HRS.out.down (belowDrewN _ nq)).kept g2 (fun e => by have := Option.some.inj e; omega)
      exact ⟨hr2.below hb2, Has.alloc w2 _ _, hr9.down hb2, Go.Lib.grownBy_below g3 hb2, hbl, hr9.2.2, Nat.le_refl _⟩
    clear he hr2 g2 HWT HAL HRS c0 c1
    go_upto_region 4 with fail
    refine wp_at (R := fun W => RB w W b w2.heap.size w.heap.size (.slice G all.length cap) F all r [.int .i64 7, .int .i64 0, .int .i64 0, .slice none 0 0, .slice none 0 0, .bool false, .int .i64 0, .slice none 0 0]) H0.out (fun W hW => ?_)
    clear H0
    generalize w2.heap.size = T at hW ⊢
    obtain ⟨N, hN⟩ : ∃ N, N = w.heap.size := ⟨_, rfl⟩
    rw [← hN] at hW ⊢
    have HN := Lib.hid hN
    clear hN
    obtain ⟨e0, e1, e2, e3, e4, e5, e6, e7⟩ := has_oct' hW.t
    have HW := Lib.hid hW
    clear hW
    have HTG := Lib.hid (tags_any 7 7 b T (.slice G all.length cap) F all r W rfl hn HW.out.rd HW.out.t (by have := HW.out.bN; have := HW.out.NT; omega) (HTAB.out.below (grown_low HW.out.gr (Nat.le_of_lt hbl))))
    have HZ : Hid (Rz = bnd (tagsP r.length 7 0 0 r) fun mp r => bnd (listP r) fun ns r => bnd (listP r) fun ks r => .ok (⟨7, dfl mp.1, if (7 : Nat) = 6 then 0 else dfl mp.2, ns, ks, false, 0, []⟩, r)) := HRZ.out
    clear HRZ
    cases hx : tagsP r.length 7 0 0 r with
    | error p =>
      obtain ⟨kk, c⟩ := p
      rw [hx] at HTG HZ
      clear hx
      go_wp2_with fail
      refine HTG.out.mono ?_
      intro e w9 hp
      obtain ⟨ch, rfl, HCH, g9⟩ := hp
      have G9 := Lib.hid (g9.out HW.out.gr (by have := HW.out.NT; have := HW.out.N0; omega))
      clear g9
      go_wp2_with fail
      refine ⟨rfl, ?_⟩
      rw [HZ.out]
      exact ⟨by rw [HCH.out], G9.out⟩
    | ok p =>
      obtain ⟨mp, r5⟩ := p
      have h6 := trivial
      rw [hx] at HTG HZ
      obtain ⟨M, hM⟩ : ∃ M : Int, M = ((dfl mp.1 : Nat) : Int) := ⟨_, rfl⟩
      obtain ⟨P, hP⟩ : ∃ P : Int, P = (((if (7 : Nat) = 6 then mp.2 else dfl mp.2) : Nat) : Int) := ⟨_, rfl⟩
      have HZ2 : Hid (Rz = bnd (listP r5) fun ns r => bnd (listP r) fun ks r => .ok (⟨7, M, P, ns, ks, false, 0, []⟩, r)) := by
        unfold Hid
        rw [HZ.out]
        show (bnd (listP r5) fun ns r => bnd (listP r) fun ks r => (.ok ((⟨7, ((dfl mp.1 : Nat) : Int), (if (7 : Nat) = 6 then (0 : Int) else ((dfl mp.2 : Nat) : Int)), ns, ks, false, 0, []⟩ : Tst), r) : PR Tst)) = _
        have e1 := trivial
        rw [hM, hP]
        rfl
      have HM := Lib.hid hM; have HP := Lib.hid hP
      clear hx h6 hM hP HZ
      go_wp2_with fail
      refine HTG.out.mono ?_
      intro e w5 hp
      obtain ⟨rfl, hr5, ht5, g5⟩ := hp
      have ht5' : Has w5 T [.int .i64 7, .int .i64 M, .int .i64 P, .slice none 0 0, .slice none 0 0, .bool false, .int .i64 0, .slice none 0 0] := by rw [HM.out, HP.out]; exact ht5
      have HW5 := Lib.hid (HW.out.tags hr5 ht5' g5)
      have HL := Lib.hid (list_tok b (.slice G all.length cap) F all r5 w5 hn hr5)
      clear hr5 ht5 ht5' g5 HTG HM HP e0 e1 e2 e3 e4 e5 e6 e7
      cases hx : listP r5 with
      | error p =>
        obtain ⟨kk, c⟩ := p
        rw [hx] at HL HZ2
        clear hx
        go_wp2_with fail
        refine HL.out.mono ?_
        intro e w9 hp
        obtain ⟨ch, rfl, HCH, g9⟩ := hp.err
        have G9 := Lib.hid (Go.Lib.grownBy_trans HW5.out.gr g9)
        clear g9 hp
        go_wp2_with fail
        refine ⟨rfl, ?_⟩
        rw [HZ2.out]
        exact ⟨by rw [HCH.out], G9.out⟩
      | ok p =>
        obtain ⟨ns, r6⟩ := p
        rw [hx] at HL HZ2
        clear hx
        go_wp2_with fail
        refine HL.out.mono ?_
        intro e w6 hp
        obtain ⟨⟨v6, rfl, hs6⟩, hr6, g6⟩ := hp
        obtain ⟨Gn, cn, rfl, -⟩ := hs6.form
        have hw6 := HW5.out.next hr6 g6
        have e3' := hw6.t.1 3 _ rfl
        have f3' := hw6.t.2.1 3 (by simp)
        have hTW := HW5.out.TW
        have HW7 := Lib.hid (hw6.set (i := 3) (.slice Gn ns.length cn) (by simp))
        have HS7 := Lib.hid (sat_set (i := 3) hs6 hTW (.slice Gn ns.length cn))
        have HLL := Lib.hid (list_tok b (.slice G all.length cap) F all r6 _ hn HW7.out.rd)
        have HZ3 : Hid (Rz = bnd (listP r6) fun ks r => .ok (⟨7, M, P, ns, ks, false, 0, []⟩, r)) := HZ2.out
        clear hs6 hr6 g6 hw6 HL HZ2
        cases hx : listP r6 with
        | error p =>
          obtain ⟨kk, c⟩ := p
          rw [hx] at HLL HZ3
          clear hx
          go_wp2_with fail
          refine HLL.out.mono ?_
          intro e w9 hp
          obtain ⟨ch, rfl, HCH, g9⟩ := hp.err
          have G9 := Lib.hid (Go.Lib.grownBy_trans HW7.out.gr g9)
          clear g9 hp
          go_wp2_with fail
          refine ⟨rfl, ?_⟩
          rw [HZ3.out]
          exact ⟨by rw [HCH.out], G9.out⟩
        | ok p =>
          obtain ⟨ks, r8⟩ := p
          rw [hx] at HLL HZ3
          clear hx
          go_wp2_with fail
          refine HLL.out.mono ?_
          intro e w8 hp
          obtain ⟨⟨v8, rfl, hs8⟩, hr8, g8⟩ := hp
          obtain ⟨Gk, ck, rfl, -⟩ := hs8.form
          have hw8 := HW7.out.next hr8 g8
          have e4' := hw8.t.1 4 _ rfl
          have f4' := hw8.t.2.1 4 (by simp)
          have hTW8 := HW7.out.TW
          have HW9 := Lib.hid (hw8.set (i := 4) (.slice Gk ks.length ck) (by simp))
          have hs7' := sat_set (i := 4) (sat_read HS7.out g8 (by have := HW5.out.bN; have := HW5.out.NT; omega)) hTW (.slice Gk ks.length ck)
          have HREP : Hid ((cTst (m' + 1)).rep (w8.setCell ⟨T, 4, none⟩ (.slice Gk ks.length ck)) (fun x => w.heap.size ≤ x ∧ x ≠ N) ⟨7, M, P, ns, ks, false, 0, []⟩ [.int .i64 7, .int .i64 M, .int .i64 P, .slice Gn ns.length cn, .slice Gk ks.length ck, .bool false, .int .i64 0, .slice none 0 0]) := ⟨_, _, _, rfl, sat_new hs7' (by have := HW5.out.NT; omega) HW5.out.N0, sat_new (sat_set hs8 hTW8 _) (by have := HW5.out.NT; omega) HW5.out.N0, SAt.nil _ _ _⟩
          clear hs8 hr8 g8 hw8 HLL hTW hTW8 hs7' e3' f3'
          go_upto_region 28 with fail
          clear e4' f4'
          obtain ⟨e0, e1, e2, e3, e4, e5, e6, e7⟩ := has_oct' HW9.out.t
          obtain ⟨r0, r1, r2, r3, r4, r5, r6, r7⟩ := has_oct' HW9.out.res
          have f0 := HW9.out.res.2.1 0 (by simp [res8]); have f1 := HW9.out.res.2.1 1 (by simp [res8]); have f2 := HW9.out.res.2.1 2 (by simp [res8]); have f3 := HW9.out.res.2.1 3 (by simp [res8])
          have f4 := HW9.out.res.2.1 4 (by simp [res8]); have f5 := HW9.out.res.2.1 5 (by simp [res8]); have f6 := HW9.out.res.2.1 6 (by simp [res8]); have f7 := HW9.out.res.2.1 7 (by simp [res8])
          have hfin := agg_put8 HW9.out HREP.out
          obtain ⟨x0, x1, x2, x3, x4, x5, x6, x7⟩ := has_oct' hfin.1
          have HANS := Lib.hid hfin.2
          unfold put8 at x0 x1 x2 x3 x4 x5 x6 x7 HANS
          clear hfin
          go_wp2_with fail
          refine bodyPost_ret (v := .agg #[.int .i64 7, .int .i64 M, .int .i64 P, .slice Gn ns.length cn, .slice Gk ks.length ck, .bool false, .int .i64 0, .slice none 0 0]) ?_ rfl ?_
          · simp [results, Tryd.results56, go_sem, x0, x1, x2, x3, x4, x5, x6, x7]
          · rw [HZ3.out]; exact HANS.out
  · go_enter Tryd.func56, Tryd.ntmps56
    go_wp2_with fail
    go_quiet (fail)
    go_wp2_with fail
    refine (HWT.out _ (belowDrewN _ nq)).mono ?_
    intro e w2 hp
    obtain ⟨he, hr2, g2⟩ := hp
    have he' : e = .returned (.int .i64 8) := he
    subst he'
    have H0 : Hid (RB w (w2.alloc (.cells #[.int .i64 8, .int .i64 0, .int .i64 0, .slice none 0 0, .slice none 0 0, .bool false, .int .i64 0, .slice none 0 0] 47)) b w2.heap.size w.heap.size (.slice G all.length cap) F all r [.int .i64 8, .int .i64 0, .int .i64 0, .slice none 0 0, .slice none 0 0, .bool false, .int .i64 0, .slice none 0 0]) := by
      have hb2 := ba (Below.refl w2.heap.size w2) (.cells #[.int .i64 8, .int .i64 0, .int .i64 0, .slice none 0 0, .slice none 0 0, .bool false, .int .i64 0, .slice none 0 0] 47)
      have g3 := Go.Lib.grownBy_trans (gBelow (bt HAL.out (belowDrewN _ nq)) b) g2
      have hs2 := g2.size
      have hr9 : Has w2 w.heap.size res8 := (HRS.out.down (belowDrewN _ nq)).kept g2 (fun e => by have := Option.some.inj e; omega)
      exact ⟨hr2.below hb2, Has.alloc w2 _ _, hr9.down hb2, Go.Lib.grownBy_below g3 hb2, hbl, hr9.2.2, Nat.le_refl _⟩
    clear he hr2 g2 HWT HAL HRS c0 c1
    go_upto_region 4 with fail
    refine wp_at (R := fun W => RB w W b w2.heap.size w.heap.size (.slice G all.length cap) F all r [.int .i64 8, .int .i64 0, .int .i64 0, .slice none 0 0, .slice none 0 0, .bool false, .int .i64 0, .slice none 0 0]) H0.out (fun W hW => ?_)
    clear H0
    generalize w2.heap.size = T at hW ⊢
    obtain ⟨N, hN⟩ : ∃ N, N = w.heap.size := ⟨_, rfl⟩
    rw [← hN] at hW ⊢
    have HN := Lib.hid hN
    clear hN
    obtain ⟨e0, e1, e2, e3, e4, e5, e6, e7⟩ := has_oct' hW.t
    have HW := Lib.hid hW
    clear hW
    have HTG := Lib.hid (tags_any 8 8 b T (.slice G all.length cap) F all r W rfl hn HW.out.rd HW.out.t (by have := HW.out.bN; have := HW.out.NT; omega) (HTAB.out.below (grown_low HW.out.gr (Nat.le_of_lt hbl))))
    have HZ : Hid (Rz = bnd (tagsP r.length 8 0 0 r) fun mp r => bnd (listP r) fun ns r => bnd (listP r) fun ks r => .ok (⟨8, dfl mp.1, if (8 : Nat) = 6 then 0 else dfl mp.2, ns, ks, false, 0, []⟩, r)) := HRZ.out
    clear HRZ
    cases hx : tagsP r.length 8 0 0 r with
    | error p =>
      obtain ⟨kk, c⟩ := p
      rw [hx] at HTG HZ
      clear hx
      go_wp2_with fail
      refine HTG.out.mono ?_
      intro e w9 hp
      obtain ⟨ch, rfl, HCH, g9⟩ := hp
      have G9 := Lib.hid (g9.out HW.out.gr (by have := HW.out.NT; have := HW.out.N0; omega))
      clear g9
      go_wp2_with fail
      refine ⟨rfl, ?_⟩
      rw [HZ.out]
      exact ⟨by rw [HCH.out], G9.out⟩
    | ok p =>
      obtain ⟨mp, r5⟩ := p
      have h6 := trivial
      rw [hx] at HTG HZ
      obtain ⟨M, hM⟩ : ∃ M : Int, M = ((dfl mp.1 : Nat) : Int) := ⟨_, rfl⟩
      obtain ⟨P, hP⟩ : ∃ P : Int, P = (((if (8 : Nat) = 6 then mp.2 else dfl mp.2) : Nat) : Int) := ⟨_, rfl⟩
      have HZ2 : Hid (Rz = bnd (listP r5) fun ns r => bnd (listP r) fun ks r => .ok (⟨8, M, P, ns, ks, false, 0, []⟩, r)) := by
        unfold Hid
        rw [HZ.out]
        show (bnd (listP r5) fun ns r => bnd (listP r) fun ks r => (.ok ((⟨8, ((dfl mp.1 : Nat) : Int), (if (8 : Nat) = 6 then (0 : Int) else ((dfl mp.2 : Nat) : Int)), ns, ks, false, 0, []⟩ : Tst), r) : PR Tst)) = _
        have e1 := trivial
        rw [hM, hP]
        rfl
      have HM := Lib.hid hM; have HP := Lib.hid hP
      clear hx h6 hM hP HZ
      go_wp2_with fail
      refine HTG.out.mono ?_
      intro e w5 hp
      obtain ⟨rfl, hr5, ht5, g5⟩ := hp
      have ht5' : Has w5 T [.int .i64 8, .int .i64 M, .int .i64 P, .slice none 0 0, .slice none 0 0, .bool false, .int .i64 0, .slice none 0 0] := by rw [HM.out, HP.out]; exact ht5
      have HW5 := Lib.hid (HW.out.tags hr5 ht5' g5)
      have HL := Lib.hid (list_tok b (.slice G all.length cap) F all r5 w5 hn hr5)
      clear hr5 ht5 ht5' g5 HTG HM HP e0 e1 e2 e3 e4 e5 e6 e7
      cases hx : listP r5 with
      | error p =>
        obtain ⟨kk, c⟩ := p
        rw [hx] at HL HZ2
        clear hx
        go_wp2_with fail
        refine HL.out.mono ?_
        intro e w9 hp
        obtain ⟨ch, rfl, HCH, g9⟩ := hp.err
        have G9 := Lib.hid (Go.Lib.grownBy_trans HW5.out.gr g9)
        clear g9 hp
        go_wp2_with fail
        refine ⟨rfl, ?_⟩
        rw [HZ2.out]
        exact ⟨by rw [HCH.out], G9.out⟩
      | ok p =>
        obtain ⟨ns, r6⟩ := p
        rw [hx] at HL HZ2
        clear hx
        go_wp2_with fail
        refine HL.out.mono ?_
        intro e w6 hp
        obtain ⟨⟨v6, rfl, hs6⟩, hr6, g6⟩ := hp
        obtain ⟨Gn, cn, rfl, -⟩ := hs6.form
        have hw6 := HW5.out.next hr6 g6
        have e3' := hw6.t.1 3 _ rfl
        have f3' := hw6.t.2.1 3 (by simp)
        have hTW := HW5.out.TW
        have HW7 := Lib.hid (hw6.set (i := 3) (.slice Gn ns.length cn) (by simp))
        have HS7 := Lib.hid (sat_set (i := 3) hs6 hTW (.slice Gn ns.length cn))
        have HLL := Lib.hid (list_tok b (.slice G all.length cap) F all r6 _ hn HW7.out.rd)
        have HZ3 : Hid (Rz = bnd (listP r6) fun ks r => .ok (⟨8, M, P, ns, ks, false, 0, []⟩, r)) := HZ2.out
        clear hs6 hr6 g6 hw6 HL HZ2
        cases hx : listP r6 with
        | error p =>
          obtain ⟨kk, c⟩ := p
          rw [hx] at HLL HZ3
          clear hx
          go_wp2_with fail
          refine HLL.out.mono ?_
          intro e w9 hp
          obtain ⟨ch, rfl, HCH, g9⟩ := hp.err
          have G9 := Lib.hid (Go.Lib.grownBy_trans HW7.out.gr g9)
          clear g9 hp
          go_wp2_with fail
          refine ⟨rfl, ?_⟩
          rw [HZ3.out]
          exact ⟨by rw [HCH.out], G9.out⟩
        | ok p =>
          obtain ⟨ks, r8⟩ := p
          rw [hx] at HLL HZ3
          clear hx
          go_wp2_with fail
          refine HLL.out.mono ?_
          intro e w8 hp
          obtain ⟨⟨v8, rfl, hs8⟩, hr8, g8⟩ := hp
          obtain ⟨Gk, ck, rfl, -⟩ := hs8.form
          have hw8 := HW7.out.next hr8 g8
          have e4' := hw8.t.1 4 _ rfl
          have f4' := hw8.t.2.1 4 (by simp)
          have hTW8 := HW7.out.TW
          have HW9 := Lib.hid (hw8.set (i := 4) (.slice Gk ks.length ck) (by simp))
          have hs7' := sat_set (i := 4) (sat_read HS7.out g8 (by have := HW5.out.bN; have := HW5.out.NT; omega)) hTW (.slice Gk ks.length ck)
          have HREP : Hid ((cTst (m' + 1)).rep (w8.setCell ⟨T, 4, none⟩ (.slice Gk ks.length ck)) (fun x => w.heap.size ≤ x ∧ x ≠ N) ⟨8, M, P, ns, ks, false, 0, []⟩ [.int .i64 8, .int .i64 M, .int .i64 P, .slice Gn ns.length cn, .slice Gk ks.length ck, .bool false, .int .i64 0, .slice none 0 0]) := ⟨_, _, _, rfl, sat_new hs7' (by have := HW5.out.NT; omega) HW5.out.N0, sat_new (sat_set hs8 hTW8 _) (by have := HW5.out.NT; omega) HW5.out.N0, SAt.nil _ _ _⟩
          clear hs8 hr8 g8 hw8 HLL hTW hTW8 hs7' e3' f3'
          go_upto_region 28 with fail
          clear e4' f4'
          obtain ⟨e0, e1, e2, e3, e4, e5, e6, e7⟩ := has_oct' HW9.out.t
          obtain ⟨r0, r1, r2, r3, r4, r5, r6, r7⟩ := has_oct' HW9.out.res
          have f0 := HW9.out.res.2.1 0 (by simp [res8]); have f1 := HW9.out.res.2.1 1 (by simp [res8]); have f2 := HW9.out.res.2.1 2 (by simp [res8]); have f3 := HW9.out.res.2.1 3 (by simp [res8])
          have f4 := HW9.out.res.2.1 4 (by simp [res8]); have f5 := HW9.out.res.2.1 5 (by simp [res8]); have f6 := HW9.out.res.2.1 6 (by simp [res8]); have f7 := HW9.out.res.2.1 7 (by simp [res8])
          have hfin := agg_put8 HW9.out HREP.out
          obtain ⟨x0, x1, x2, x3, x4, x5, x6, x7⟩ := has_oct' hfin.1
          have HANS := Lib.hid hfin.2
          unfold put8 at x0 x1 x2 x3 x4 x5 x6 x7 HANS
          clear hfin
          go_wp2_with fail
          refine bodyPost_ret (v := .agg #[.int .i64 8, .int .i64 M, .int .i64 P, .slice Gn ns.length cn, .slice Gk ks.length ck, .bool false, .int .i64 0, .slice none 0 0]) ?_ rfl ?_
          · simp [results, Tryd.results56, go_sem, x0, x1, x2, x3, x4, x5, x6, x7]
          · rw [HZ3.out]; exact HANS.out
end Go.Proofs.YtlgbmnmoobpkkaaDoor.Sc
namespace Go.Proofs.YtlgbmnmoobpkkaaDoor.Sc
open Go.RowKit
open Tk (Tok)

set_option maxHeartbeats 8000000 in
set_option maxRecDepth 20000 in
theorem test_size_p (n : Nat) (dI : Int) (d m b k : Nat) (v : Value) (F : Dom) (all l r : List Tok) (w : World) (hdI : dI = d) (hm : d + m = 8) (hn : all.length ≤ 100000) (h : RL w b v F all l) (hTab : Tabs w b) 
    (hg : ¬ (6 < d ∧ l ≠ [])) (hw : wordP tstTab l = .ok (k, r)) (hk : k = 10) :
    Calls Tryd.prog 56 #[.pointer (some ⟨b, 0, none⟩), .int .i64 dI] w (Ans (TstR m w.heap.size) b v F all w (testP (n + 1) d l)) := by
  obtain ⟨Rz, hRz⟩ : ∃ Rz, Rz = testP (n + 1) d l := ⟨_, rfl⟩
  rw [← hRz]
  rw [testP, if_neg hg, hw] at hRz
  have HRZ : Hid (Rz = testK (testP n (d + 1)) k r) := hRz
  have hl0 : l ≠ [] := by rintro rfl; cases hw
  have hd6 : d ≤ 6 := by
    by_cases e : 6 < d
    · exact absurd ⟨e, hl0⟩ hg
    · omega
  obtain ⟨m', rfl⟩ : ∃ m', m = m' + 1 := ⟨m - 1, by omega⟩
  have hal := ba (Below.refl w.heap.size w) (.cells #[.int .i64 0, .int .i64 0, .int .i64 0, .slice none 0 0, .slice none 0 0, .bool false, .int .i64 0, .slice none 0 0] 47)
  have HAL := Lib.hid hal
  have hbl := h.lt
  have hres := Has.alloc w [.int .i64 0, .int .i64 0, .int .i64 0, .slice none 0 0, .slice none 0 0, .bool false, .int .i64 0, .slice none 0 0] 47
  have HRS := Lib.hid hres
  have h1 := h.below hal
  have hrln := h1.len
  have hTab1 := hTab.down (Nat.le_of_lt hbl) hal
  obtain ⟨p, hl1, hr1⟩ := h1
  obtain ⟨G, cap, rfl, hlen, -⟩ := hr1.facts hl1
  have c0 := hr1.c0
  have c1 := hr1.c1
  have hpos : (0 : Int) ≤ p := by omega
  have hwt := fun W (hb : Below (w.alloc (.cells #[.int .i64 0, .int .i64 0, .int .i64 0, .slice none 0 0, .slice none 0 0, .bool false, .int .i64 0, .slice none 0 0] 47)).heap.size (w.alloc (.cells #[.int .i64 0, .int .i64 0, .int .i64 0, .slice none 0 0, .slice none 0 0, .bool false, .int .i64 0, .slice none 0 0] 47)) W) => word_tok b 1 tstTab 11 (.slice G all.length cap) F all l W hn ⟨p, hl1, hr1.below hb⟩ ((hTab1.down (Nat.le_of_lt hr1.lt) hb).t) hTab.low.1 rfl (by decide)
  have hls := less_word tstTab l
  rw [hw] at hwt hls
  have hrl : r.length + 1 ≤ l.length := hls
  have HWT := Lib.hid hwt
  have HTAB := Lib.hid hTab
  have q1 : decide (6 < dI) = false := decide_eq_false (by omega)
  have HDI := Lib.hid hdI
  clear hRz hal h hl1 hr1 hlen hg hw hwt hls hres hTab hTab1 hl0 hdI
  subst hk
  go_enter Tryd.func56, Tryd.ntmps56
  go_wp2_with fail
  go_quiet (fail)
  go_wp2_with fail
  refine (HWT.out _ (belowDrewN _ nq)).mono ?_
  intro e w2 hp
  obtain ⟨he, hr2, g2⟩ := hp
  have he' : e = .returned (.int .i64 10) := he
  subst he'
  have H0 : Hid (RB w (w2.alloc (.cells #[.int .i64 10, .int .i64 0, .int .i64 0, .slice none 0 0, .slice none 0 0, .bool false, .int .i64 0, .slice none 0 0] 47)) b w2.heap.size w.heap.size (.slice G all.length cap) F all r [.int .i64 10, .int .i64 0, .int .i64 0, .slice none 0 0, .slice none 0 0, .bool false, .int .i64 0, .slice none 0 0]) := by
    have hb2 := ba (Below.refl w2.heap.size w2) (.cells #[.int .i64 10, .int .i64 0, .int .i64 0, .slice none 0 0, .slice none 0 0, .bool false, .int .i64 0, .slice none 0 0] 47)
    have g3 := Go.Lib.grownBy_trans (gBelow (bt HAL.out (belowDrewN _ nq)) b) g2
    have hs2 := g2.size
    have hr9 : Has w2 w.heap.size res8 := (HRS.out.down (belowDrewN _ nq)).kept g2 (fun e => by have := Option.some.inj e; omega)
    exact ⟨hr2.below hb2, Has.alloc w2 _ _, hr9.down hb2, Go.Lib.grownBy_below g3 hb2, hbl, hr9.2.2, Nat.le_refl _⟩
  clear he hr2 g2 HWT HAL HRS c0 c1
  go_upto_region 4 with fail
  refine wp_at (R := fun W => RB w W b w2.heap.size w.heap.size (.slice G all.length cap) F all r [.int .i64 10, .int .i64 0, .int .i64 0, .slice none 0 0, .slice none 0 0, .bool false, .int .i64 0, .slice none 0 0]) H0.out (fun W hW => ?_)
  clear H0
  generalize w2.heap.size = T at hW ⊢
  obtain ⟨N, hN⟩ : ∃ N, N = w.heap.size := ⟨_, rfl⟩
  rw [← hN] at hW ⊢
  have HN := Lib.hid hN
  clear hN
  obtain ⟨e0, e1, e2, e3, e4, e5, e6, e7⟩ := has_oct' hW.t
  have HW := Lib.hid hW
  clear hW
  obtain ⟨p1, hl1, hr1⟩ := HW.out.rd
  have HI1 : Hid (Calls Tryd.prog 58 #[.pointer (some ⟨b, 0, none⟩), .int .i64 2, .string ⟨#[111, 118, 101, 114]⟩] W fun e w' => e = .returned (.bool (isP 2 overW r)) ∧ Below W.heap.size W w') := is_any b p1 _ F all r 2 overW W hn hl1 hr1
  have HI2 : Hid (∀ V, RT V b (.slice G all.length cap) F all p1 → Calls Tryd.prog 58 #[.pointer (some ⟨b, 0, none⟩), .int .i64 2, .string ⟨#[117, 110, 100, 101, 114]⟩] V fun e w' => e = .returned (.bool (isP 2 underW r)) ∧ Below V.heap.size V w') := fun V hV => is_any b p1 _ F all r 2 underW V hn hl1 hV
  have HZ : Hid (Rz = if isP 2 overW r = true ∨ isP 2 underW r = true then bnd (nextP 3 r.tail) fun t r' => .ok (⟨10, 0, 0, [], [], isP 2 overW r, t.num, []⟩, r') else giveP r 3) := HRZ.out
  have HL1 := Lib.hid hl1; have HR1 := Lib.hid hr1
  have hp1 : p1 ≤ 100000 := by have := hl1.1; omega
  have HCO := Lib.hid (isP_cons (k := 2) (s := overW) (l := r)); have HCU := Lib.hid (isP_cons (k := 2) (s := underW) (l := r))
  obtain ⟨o, ho⟩ : ∃ o, o = isP 2 overW r := ⟨_, rfl⟩
  obtain ⟨u, hu⟩ : ∃ u, u = isP 2 underW r := ⟨_, rfl⟩
  rw [← ho] at HI1 HZ HCO
  rw [← hu] at HI2 HZ HCU
  clear hl1 hr1 HRZ ho hu
  cases o with
  | true =>
    obtain ⟨t, q, rfl, -, -⟩ := HCO.out rfl
    have HZ2 : Hid (Rz = bnd (nextP 3 q) fun t r' => .ok (⟨10, 0, 0, [], [], true, t.num, []⟩, r')) := by unfold Hid; rw [HZ.out, if_pos (.inl rfl)]; rfl
    clear HZ
    
    go_wp2_with fail
    refine HI1.out.mono ?_
    rintro e w4 ⟨rfl, hb4⟩
    have hw4 := HW.out.down hb4
    have e5' := hw4.t.1 5 _ rfl
    have f5' := hw4.t.2.1 5 (by simp)
    have hw5 := hw4.set (i := 5) (.bool true) (by simp)
    have hr5 := (HR1.out.below hb4).far (N := T) (i := 5) (by have := HW.out.bN; have := HW.out.NT; omega) (.bool true)
    have c1' := hr5.c1
    have f1' := hr5.f1
    have HV := Lib.hid (hw5.step HL1.out)
    have HNX := Lib.hid (next_tok b (.slice G all.length cap) F all q 3 _ hn HV.out.rd)
    clear hb4 hw4 hw5 hr5 HI1 e0 e1 e2 e3 e4 e5 e6 e7
    cases hx : nextP 3 q with
    | error p =>
      obtain ⟨kk, c⟩ := p
      rw [hx] at HNX HZ2
      clear hx
      go_wp2_with fail
      refine HNX.out.mono ?_
      intro e w9 hp
      obtain ⟨ch, rfl, HCH, g9⟩ := hp.err
      have G9 := Lib.hid (Go.Lib.grownBy_trans HV.out.gr g9)
      clear g9 hp
      go_wp2_with fail
      refine ⟨rfl, ?_⟩
      rw [HZ2.out]
      exact ⟨by rw [HCH.out], G9.out⟩
    | ok p =>
      obtain ⟨⟨kt, st, nt⟩, r5⟩ := p
      rw [hx] at HNX HZ2
      have hfld := fun w => tok_num kt nt ⟨st.toArray⟩ w
      have HZ3 : Hid (Rz = .ok (⟨10, 0, 0, [], [], true, nt, []⟩, r5)) := HZ2.out
      clear hx HZ2
      go_wp2_with fail
      refine HNX.out.mono ?_
      intro e w5 hp
      obtain ⟨rfl, hr5, g5⟩ := hp
      have hw5 := HV.out.next hr5 g5
      have e6' := hw5.t.1 6 _ rfl
      have f6' := hw5.t.2.1 6 (by simp)
      have HW9 := Lib.hid (hw5.set (i := 6) (.int .i64 nt) (by simp))
      have HREP : Hid ((cTst (m' + 1)).rep (w5.setCell ⟨T, 6, none⟩ (.int .i64 nt)) (fun x => w.heap.size ≤ x ∧ x ≠ N) ⟨10, 0, 0, [], [], true, nt, []⟩ [.int .i64 10, .int .i64 0, .int .i64 0, .slice none 0 0, .slice none 0 0, .bool true, .int .i64 nt, .slice none 0 0]) := ⟨_, _, _, rfl, SAt.nil _ _ _, SAt.nil _ _ _, SAt.nil _ _ _⟩
      clear hr5 g5 hw5 HNX
      go_upto_region 28 with fail
      clear e6' f6' hfld
      obtain ⟨e0, e1, e2, e3, e4, e5, e6, e7⟩ := has_oct' HW9.out.t
      obtain ⟨r0, r1, r2, r3, r4, r5, r6, r7⟩ := has_oct' HW9.out.res
      have f0 := HW9.out.res.2.1 0 (by simp [res8]); have f1 := HW9.out.res.2.1 1 (by simp [res8]); have f2 := HW9.out.res.2.1 2 (by simp [res8]); have f3 := HW9.out.res.2.1 3 (by simp [res8])
      have f4 := HW9.out.res.2.1 4 (by simp [res8]); have f5 := HW9.out.res.2.1 5 (by simp [res8]); have f6 := HW9.out.res.2.1 6 (by simp [res8]); have f7 := HW9.out.res.2.1 7 (by simp [res8])
      have hfin := agg_put8 HW9.out HREP.out
      obtain ⟨x0, x1, x2, x3, x4, x5, x6, x7⟩ := has_oct' hfin.1
      have HANS := Lib.hid hfin.2
      unfold put8 at x0 x1 x2 x3 x4 x5 x6 x7 HANS
      clear hfin
      go_wp2_with fail
      refine bodyPost_ret (v := .agg #[.int .i64 10, .int .i64 0, .int .i64 0, .slice none 0 0, .slice none 0 0, .bool true, .int .i64 nt, .slice none 0 0]) ?_ rfl ?_
      · simp [results, Tryd.results56, go_sem, x0, x1, x2, x3, x4, x5, x6, x7]
      · rw [HZ3.out]; exact HANS.out
    
  | false =>
    cases u with
    | true =>
      obtain ⟨t, q, rfl, -, -⟩ := HCU.out rfl
      have HZ2 : Hid (Rz = bnd (nextP 3 q) fun t r' => .ok (⟨10, 0, 0, [], [], false, t.num, []⟩, r')) := by unfold Hid; rw [HZ.out, if_pos (.inr rfl)]; rfl
      clear HZ
      
      go_wp2_with fail
      refine HI1.out.mono ?_
      rintro e w4 ⟨rfl, hb4⟩
      have hw4 := HW.out.down hb4
      have e5' := hw4.t.1 5 _ rfl
      have f5' := hw4.t.2.1 5 (by simp)
      have HW5 := Lib.hid (hw4.set (i := 5) (.bool false) (by simp))
      have hr5 := (HR1.out.below hb4).far (N := T) (i := 5) (by have := HW.out.bN; have := HW.out.NT; omega) (.bool false)
      have HR5 := Lib.hid hr5
      have HI3 := Lib.hid (HI2.out _ hr5)
      clear hb4 hw4 hr5 HI1 HI2 e0 e1 e2 e3 e4 e5 e6 e7
      go_wp2_with fail
      refine HI3.out.mono ?_
      rintro e w6 ⟨rfl, hb6⟩
      have hr6 := HR5.out.below hb6
      have c1' := hr6.c1
      have f1' := hr6.f1
      have HV := Lib.hid ((HW5.out.down hb6).step HL1.out)
      have HNX := Lib.hid (next_tok b (.slice G all.length cap) F all q 3 _ hn HV.out.rd)
      clear hb6 hr6 HI3 e5' f5'
      cases hx : nextP 3 q with
      | error p =>
        obtain ⟨kk, c⟩ := p
        rw [hx] at HNX HZ2
        clear hx
        go_wp2_with fail
        refine HNX.out.mono ?_
        intro e w9 hp
        obtain ⟨ch, rfl, HCH, g9⟩ := hp.err
        have G9 := Lib.hid (Go.Lib.grownBy_trans HV.out.gr g9)
        clear g9 hp
        go_wp2_with fail
        refine ⟨rfl, ?_⟩
        rw [HZ2.out]
        exact ⟨by rw [HCH.out], G9.out⟩
      | ok p =>
        obtain ⟨⟨kt, st, nt⟩, r5⟩ := p
        rw [hx] at HNX HZ2
        have hfld := fun w => tok_num kt nt ⟨st.toArray⟩ w
        have HZ3 : Hid (Rz = .ok (⟨10, 0, 0, [], [], false, nt, []⟩, r5)) := HZ2.out
        clear hx HZ2
        go_wp2_with fail
        refine HNX.out.mono ?_
        intro e w5 hp
        obtain ⟨rfl, hr5, g5⟩ := hp
        have hw5 := HV.out.next hr5 g5
        have e6' := hw5.t.1 6 _ rfl
        have f6' := hw5.t.2.1 6 (by simp)
        have HW9 := Lib.hid (hw5.set (i := 6) (.int .i64 nt) (by simp))
        have HREP : Hid ((cTst (m' + 1)).rep (w5.setCell ⟨T, 6, none⟩ (.int .i64 nt)) (fun x => w.heap.size ≤ x ∧ x ≠ N) ⟨10, 0, 0, [], [], false, nt, []⟩ [.int .i64 10, .int .i64 0, .int .i64 0, .slice none 0 0, .slice none 0 0, .bool false, .int .i64 nt, .slice none 0 0]) := ⟨_, _, _, rfl, SAt.nil _ _ _, SAt.nil _ _ _, SAt.nil _ _ _⟩
        clear hr5 g5 hw5 HNX
        go_upto_region 28 with fail
        clear e6' f6' hfld
        obtain ⟨e0, e1, e2, e3, e4, e5, e6, e7⟩ := has_oct' HW9.out.t
        obtain ⟨r0, r1, r2, r3, r4, r5, r6, r7⟩ := has_oct' HW9.out.res
        have f0 := HW9.out.res.2.1 0 (by simp [res8]); have f1 := HW9.out.res.2.1 1 (by simp [res8]); have f2 := HW9.out.res.2.1 2 (by simp [res8]); have f3 := HW9.out.res.2.1 3 (by simp [res8])
        have f4 := HW9.out.res.2.1 4 (by simp [res8]); have f5 := HW9.out.res.2.1 5 (by simp [res8]); have f6 := HW9.out.res.2.1 6 (by simp [res8]); have f7 := HW9.out.res.2.1 7 (by simp [res8])
        have hfin := agg_put8 HW9.out HREP.out
        obtain ⟨x0, x1, x2, x3, x4, x5, x6, x7⟩ := has_oct' hfin.1
        have HANS := Lib.hid hfin.2
        unfold put8 at x0 x1 x2 x3 x4 x5 x6 x7 HANS
        clear hfin
        go_wp2_with fail
        refine bodyPost_ret (v := .agg #[.int .i64 10, .int .i64 0, .int .i64 0, .slice none 0 0, .slice none 0 0, .bool false, .int .i64 nt, .slice none 0 0]) ?_ rfl ?_
        · simp [results, Tryd.results56, go_sem, x0, x1, x2, x3, x4, x5, x6, x7]
        · rw [HZ3.out]; exact HANS.out
      
    | false =>
      have HZ2 : Hid (Rz = .error (r.length, if r.length = 0 then 4 else 3)) := by unfold Hid; rw [HZ.out, if_neg (by decide)]; rfl
      go_wp2_with fail
      refine HI1.out.mono ?_
      rintro e w4 ⟨rfl, hb4⟩
      have hw4 := HW.out.down hb4
      have e5' := hw4.t.1 5 _ rfl
      have f5' := hw4.t.2.1 5 (by simp)
      have HW5 := Lib.hid (hw4.set (i := 5) (.bool false) (by simp))
      have hr5 := (HR1.out.below hb4).far (N := T) (i := 5) (by have := HW.out.bN; have := HW.out.NT; omega) (.bool false)
      have HR5 := Lib.hid hr5
      have HI3 := Lib.hid (HI2.out _ hr5)
      clear hb4 hw4 hr5 HI1 HI2 e0 e1 e2 e3 e4 e5 e6 e7
      go_wp2_with fail
      refine HI3.out.mono ?_
      rintro e w6 ⟨rfl, hb6⟩
      have HW6 := Lib.hid (HW5.out.down hb6)
      have HGV := Lib.hid (give_any b p1 _ F all r 3 w6 (by decide) hn HL1.out (HR5.out.below hb6))
      clear hb6 HI3 e5' f5'
      go_wp2_with fail
      refine HGV.out.mono ?_
      rintro e w7 ⟨ch, rfl, HCH, hb7⟩
      have G7 := Lib.hid ((HW6.out.down hb7).gr)
      clear hb7
      go_wp2_with fail
      refine ⟨rfl, ?_⟩
      rw [HZ2.out]
      exact ⟨by rw [HCH.out], G7.out⟩

set_option maxHeartbeats 8000000 in
set_option maxRecDepth 20000 in
theorem test_not_p (n : Nat) (dI : Int) (d m b k : Nat) (v : Value) (F : Dom) (all l r : List Tok) (w : World) (hdI : dI = d) (hm : d + m = 8) (hn : all.length ≤ 100000) (h : RL w b v F all l) (hTab : Tabs w b) (IH : TestN n) (hln : l.length < n + 1)
    (hg : ¬ (6 < d ∧ l ≠ [])) (hw : wordP tstTab l = .ok (k, r)) (hk : k = 3) :
    Calls Tryd.prog 56 #[.pointer (some ⟨b, 0, none⟩), .int .i64 dI] w (Ans (TstR m w.heap.size) b v F all w (testP (n + 1) d l)) := by
  obtain ⟨Rz, hRz⟩ : ∃ Rz, Rz = testP (n + 1) d l := ⟨_, rfl⟩
  rw [← hRz]
  rw [testP, if_neg hg, hw] at hRz
  have HRZ : Hid (Rz = testK (testP n (d + 1)) k r) := hRz
  have hl0 : l ≠ [] := by rintro rfl; cases hw
  have hd6 : d ≤ 6 := by
    by_cases e : 6 < d
    · exact absurd ⟨e, hl0⟩ hg
    · omega
  obtain ⟨m', rfl⟩ : ∃ m', m = m' + 1 := ⟨m - 1, by omega⟩
  have hal := ba (Below.refl w.heap.size w) (.cells #[.int .i64 0, .int .i64 0, .int .i64 0, .slice none 0 0, .slice none 0 0, .bool false, .int .i64 0, .slice none 0 0] 47)
  have HAL := Lib.hid hal
  have hbl := h.lt
  have hres := Has.alloc w [.int .i64 0, .int .i64 0, .int .i64 0, .slice none 0 0, .slice none 0 0, .bool false, .int .i64 0, .slice none 0 0] 47
  have HRS := Lib.hid hres
  have h1 := h.below hal
  have hrln := h1.len
  have hTab1 := hTab.down (Nat.le_of_lt hbl) hal
  obtain ⟨p, hl1, hr1⟩ := h1
  obtain ⟨G, cap, rfl, hlen, -⟩ := hr1.facts hl1
  have c0 := hr1.c0
  have c1 := hr1.c1
  have hpos : (0 : Int) ≤ p := by omega
  have hwt := fun W (hb : Below (w.alloc (.cells #[.int .i64 0, .int .i64 0, .int .i64 0, .slice none 0 0, .slice none 0 0, .bool false, .int .i64 0, .slice none 0 0] 47)).heap.size (w.alloc (.cells #[.int .i64 0, .int .i64 0, .int .i64 0, .slice none 0 0, .slice none 0 0, .bool false, .int .i64 0, .slice none 0 0] 47)) W) => word_tok b 1 tstTab 11 (.slice G all.length cap) F all l W hn ⟨p, hl1, hr1.below hb⟩ ((hTab1.down (Nat.le_of_lt hr1.lt) hb).t) hTab.low.1 rfl (by decide)
  have hls := less_word tstTab l
  rw [hw] at hwt hls
  have hrl : r.length + 1 ≤ l.length := hls
  have HWT := Lib.hid hwt
  have HTAB := Lib.hid hTab
  have q1 : decide (6 < dI) = false := decide_eq_false (by omega)
  have HDI := Lib.hid hdI
  clear hRz hal h hl1 hr1 hlen hg hw hwt hls hres hTab hTab1 hl0 hdI
  have HIH := Lib.hid (IH (dI + 1) (d + 1) m' b (.slice G all.length cap) F all r)
  have hdr : r.length < n := by omega
  clear IH
  subst hk
  go_enter Tryd.func56, Tryd.ntmps56
  go_wp2_with fail
  go_quiet (fail)
  go_wp2_with fail
  refine (HWT.out _ (belowDrewN _ nq)).mono ?_
  intro e w2 hp
  obtain ⟨he, hr2, g2⟩ := hp
  have he' : e = .returned (.int .i64 3) := he
  subst he'
  have H0 : Hid (RB w (w2.alloc (.cells #[.int .i64 3, .int .i64 0, .int .i64 0, .slice none 0 0, .slice none 0 0, .bool false, .int .i64 0, .slice none 0 0] 47)) b w2.heap.size w.heap.size (.slice G all.length cap) F all r [.int .i64 3, .int .i64 0, .int .i64 0, .slice none 0 0, .slice none 0 0, .bool false, .int .i64 0, .slice none 0 0]) := by
    have hb2 := ba (Below.refl w2.heap.size w2) (.cells #[.int .i64 3, .int .i64 0, .int .i64 0, .slice none 0 0, .slice none 0 0, .bool false, .int .i64 0, .slice none 0 0] 47)
    have g3 := Go.Lib.grownBy_trans (gBelow (bt HAL.out (belowDrewN _ nq)) b) g2
    have hs2 := g2.size
    have hr9 : Has w2 w.heap.size res8 := (HRS.out.down (belowDrewN _ nq)).kept g2 (fun e => by have := Option.some.inj e; omega)
    exact ⟨hr2.below hb2, Has.alloc w2 _ _, hr9.down hb2, Go.Lib.grownBy_below g3 hb2, hbl, hr9.2.2, Nat.le_refl _⟩
  clear he hr2 g2 HWT HAL HRS c0 c1
  go_upto_region 4 with fail
  refine wp_at (R := fun W => RB w W b w2.heap.size w.heap.size (.slice G all.length cap) F all r [.int .i64 3, .int .i64 0, .int .i64 0, .slice none 0 0, .slice none 0 0, .bool false, .int .i64 0, .slice none 0 0]) H0.out (fun W hW => ?_)
  clear H0
  generalize w2.heap.size = T at hW ⊢
  obtain ⟨N, hN⟩ : ∃ N, N = w.heap.size := ⟨_, rfl⟩
  rw [← hN] at hW ⊢
  have HN := Lib.hid hN
  clear hN
  obtain ⟨e0, e1, e2, e3, e4, e5, e6, e7⟩ := has_oct' hW.t
  have HW := Lib.hid hW
  clear hW
  have HC := Lib.hid (HIH.out W (by have := HDI.out; omega) (by omega) hn HW.out.rd (HTAB.out.below (grown_low HW.out.gr (Nat.le_of_lt hbl))) hdr)
  have HZ : Hid (Rz = bnd (testP n (d + 1) r) fun t r => .ok (⟨3, 0, 0, [], [], false, 0, [t]⟩, r)) := HRZ.out
  have hdw : IntKind.i64.wrap (dI + 1) = dI + 1 := IntWalk.i64_in _ (by have := HDI.out; omega)
  have hd0 : 0 ≤ dI := by have := HDI.out; omega
  have hd9 : dI ≤ 6 := by have := HDI.out; omega
  clear HRZ HIH
  cases hx : testP n (d + 1) r with
  | error p =>
    obtain ⟨kk, c⟩ := p
    rw [hx] at HC HZ
    clear hx
    go_wp2_with fail
    refine HC.out.mono ?_
    intro e w9 hp
    obtain ⟨ch, rfl, HCH, g9⟩ := hp.err
    have G9 := Lib.hid (Go.Lib.grownBy_trans HW.out.gr g9)
    clear g9 hp
    go_wp2_with fail
    refine ⟨rfl, ?_⟩
    rw [HZ.out]
    exact ⟨by rw [HCH.out], G9.out⟩
  | ok p =>
    obtain ⟨t, r5⟩ := p
    rw [hx] at HC HZ
    have HZ3 : Hid (Rz = .ok (⟨3, 0, 0, [], [], false, 0, [t]⟩, r5)) := HZ.out
    clear hx HZ
    go_wp2_with fail
    refine HC.out.mono ?_
    intro e w5 hp
    obtain ⟨⟨vs, rfl, hrep⟩, hr5, g5⟩ := hp
    obtain ⟨k1, m1, p1, G1, n1, c1', G2, n2, c2', o1, l1, G3, n3, c3', rfl⟩ := oct_form hrep
    have hal5 := ba (Below.refl w5.heap.size w5) (.cells #[.int .i64 k1, .int .i64 m1, .int .i64 p1, .slice G1 n1 c1', .slice G2 n2 c2', .bool o1, .int .i64 l1, .slice G3 n3 c3'] 47)
    have hw5 := (HW.out.next hr5 g5).down hal5
    have e7' := hw5.t.1 7 _ rfl
    have f7' := hw5.t.2.1 7 (by simp)
    have hTW := HW.out.TW
    have hTW5 : W.heap.size ≤ w5.heap.size := g5.size
    have hsa : SAt (cTst m') (w5.alloc (.cells #[.int .i64 k1, .int .i64 m1, .int .i64 p1, .slice G1 n1 c1', .slice G2 n2 c2', .bool o1, .int .i64 l1, .slice G3 n3 c3'] 47)) (fun x => W.heap.size ≤ x) (.slice (some ⟨w5.heap.size, 0, none⟩) 1 1) [t] :=
      (sat_one_tst (ty := 47) (tst_bd m' hrep)).mono (fun x hx => by rcases hx with hx | hx <;> omega)
    have HW9 := Lib.hid (hw5.set (i := 7) (.slice (some ⟨w5.heap.size, 0, none⟩) 1 1) (by simp))
    have HREP : Hid ((cTst (m' + 1)).rep ((w5.alloc (.cells #[.int .i64 k1, .int .i64 m1, .int .i64 p1, .slice G1 n1 c1', .slice G2 n2 c2', .bool o1, .int .i64 l1, .slice G3 n3 c3'] 47)).setCell ⟨T, 7, none⟩ (.slice (some ⟨w5.heap.size, 0, none⟩) 1 1)) (fun x => w.heap.size ≤ x ∧ x ≠ N) ⟨3, 0, 0, [], [], false, 0, [t]⟩ [.int .i64 3, .int .i64 0, .int .i64 0, .slice none 0 0, .slice none 0 0, .bool false, .int .i64 0, .slice (some ⟨w5.heap.size, 0, none⟩) 1 1]) := ⟨_, _, _, rfl, SAt.nil _ _ _, SAt.nil _ _ _, sat_new (sat_set hsa hTW _) (by have := HW.out.NT; omega) HW.out.N0⟩
    clear hrep hr5 g5 hal5 hw5 hsa hTW HC e0 e1 e2 e3 e4 e5 e6 e7
    go_upto_region 28 with fail
    generalize w5.heap.size = X at HW9 HREP ⊢
    clear e7' f7'
    obtain ⟨e0, e1, e2, e3, e4, e5, e6, e7⟩ := has_oct' HW9.out.t
    obtain ⟨r0, r1, r2, r3, r4, r5, r6, r7⟩ := has_oct' HW9.out.res
    have f0 := HW9.out.res.2.1 0 (by simp [res8]); have f1 := HW9.out.res.2.1 1 (by simp [res8]); have f2 := HW9.out.res.2.1 2 (by simp [res8]); have f3 := HW9.out.res.2.1 3 (by simp [res8])
    have f4 := HW9.out.res.2.1 4 (by simp [res8]); have f5 := HW9.out.res.2.1 5 (by simp [res8]); have f6 := HW9.out.res.2.1 6 (by simp [res8]); have f7 := HW9.out.res.2.1 7 (by simp [res8])
    have hfin := agg_put8 HW9.out HREP.out
    obtain ⟨x0, x1, x2, x3, x4, x5, x6, x7⟩ := has_oct' hfin.1
    have HANS := Lib.hid hfin.2
    unfold put8 at x0 x1 x2 x3 x4 x5 x6 x7 HANS
    clear hfin
    go_wp2_with fail
    refine bodyPost_ret (v := .agg #[.int .i64 3, .int .i64 0, .int .i64 0, .slice none 0 0, .slice none 0 0, .bool false, .int .i64 0, .slice (some ⟨X, 0, none⟩) 1 1]) ?_ rfl ?_
    · simp [results, Tryd.results56, go_sem, x0, x1, x2, x3, x4, x5, x6, x7]
    · rw [HZ3.out]; exact HANS.out
end Go.Proofs.YtlgbmnmoobpkkaaDoor.Sc
namespace Go.Proofs.YtlgbmnmoobpkkaaDoor.Sc
open Go.RowKit
open Tk (Tok)

/-- Q, but at a panic a statement of one's own, that does not hang on the frame -/
def PanicOr (Qp : List PanicEntry → World → Prop) (Q : Exit → Act → World → Prop) : Exit → Act → World → Prop
  | .panic c, a, w => a.defers = [] ∧ Qp c w
  | e, a, w => Q e a w
theorem PanicOr.normal {Qp : List PanicEntry → World → Prop} {Q : Exit → Act → World → Prop} {a : Act} {w : World} (h : Q .normal a w) : PanicOr Qp Q .normal a w := h
theorem wp_region_panic {P : Program} {id : Nat} {ops : Array Oper} {b : Bool} {Q : Exit → Act → World → Prop} {a : Act} {w : World} (Qp : List PanicEntry → World → Prop) (hQ : ∀ c a w, a.defers = [] → Qp c w → Q (.panic c) a w) (h : (Code.region id ops b).wp P (PanicOr Qp Q) a w) : (Code.region id ops b).wp P Q a w :=
  Code.wp_mono (fun e a w h => by
    cases e <;> first | exact h | exact hQ _ a w h.1 h.2) h
/-- go on from whatever world is so -/
theorem any_at {P : Program} {md : Region.Mode} {ops : Array Oper} {Q : Exit → Act → World → Prop} {fuel : Nat} {listed : Array Bool} {a : Act} {w : World} (R : World → Prop) (hR : R w) (h : ∀ V, R V → wpAny P md ops Q fuel listed a V) : wpAny P md ops Q fuel listed a w := h w hR
/-- the first half of 't.Tests = append(t.Tests, r.test(..))' -/
structure P1 (w W V : World) (b T N m : Nat) (v : Value) (F : Dom) (all r : List Tok) (cs : List Value) (vt : Value) (ps : Held Tst) : Prop where
  rb : RB w V b T N v F all r cs
  row : ORow (cTst m) 47 V (T + 1) (DmB (T + 1) W vt) vt ps
  sz : W.heap.size ≤ V.heap.size
theorem DmB_off {B b : Nat} {W : World} {v : Value} (hb : b < B) : ¬ DmB B W v b := fun h => by have := h.1; omega
theorem P1.next {w W V V' : World} {b T N m : Nat} {v : Value} {F : Dom} {all r r' : List Tok} {cs : List Value} {vt : Value} {ps : Held Tst} (h : P1 w W V b T N m v F all r cs vt ps) (hr : RL V' b v F all r') (g : V.grownBy V' (some b)) : P1 w W V' b T N m v F all r' cs vt ps :=
  have h1 := h.rb.bN
  have h2 := h.rb.NT
  ⟨h.rb.next hr g, h.row.kept g (by
    by_cases e : vt.ownBlock = none
    · exact .inl e
    · refine .inr fun e2 => ?_
      have := (h.row.1.lt b e2).1
      omega) (fun x e => by obtain rfl : b = x := Option.some.inj e; exact DmB_off (by omega)), Nat.le_trans h.sz g.size⟩
theorem P1.down {w W V V' : World} {b T N m : Nat} {v : Value} {F : Dom} {all r : List Tok} {cs : List Value} {vt : Value} {ps : Held Tst} (h : P1 w W V b T N m v F all r cs vt ps) (g : Below V.heap.size V V') : P1 w W V' b T N m v F all r cs vt ps := h.next (h.rb.rd.below g) (gBelow g b)
/-- the element, before it is stored -/
def ElAt (W V : World) (m : Nat) (t : Tst) (vs : List Value) : Prop := (cTst m).rep V (fun x => W.heap.size ≤ x ∧ x < V.heap.size) t vs
theorem ElAt.next {W V V' : World} {m b : Nat} {t : Tst} {vs : List Value} (h : ElAt W V m t vs) (g : V.grownBy V' (some b)) (hb : b < W.heap.size) : ElAt W V' m t vs :=
  (cTst m).mono ((cTst m).stable h (Same.of_grown g (fun x e hF => by obtain rfl : b = x := Option.some.inj e; have := hF.1; omega)) g.size) (fun x hx => ⟨hx.1, Nat.lt_of_lt_of_le hx.2 g.size⟩)
theorem ElAt.down {W V V' : World} {m : Nat} {t : Tst} {vs : List Value} (h : ElAt W V m t vs) (g : Below V.heap.size V V') (hW : 0 < W.heap.size) : ElAt W V' m t vs := h.next (b := 0) (gBelow g 0) hW
theorem RB.offset {w0 w : World} {b T N g i : Nat} {v : Value} {F : Dom} {all l : List Tok} {cs : List Value} (h : RB w0 w b T N v F all l cs) (hg : T < g) (u : Value) : RB w0 (w.setCell ⟨g, i, none⟩ u) b T N v F all l cs :=
  have h1 := h.bN
  have h2 := h.NT
  have h3 := h.N0
  ⟨rl_far h.rd (by omega) u, h.t.else' (by omega) u, h.res.else' (by omega) u, grown_far h.gr (by omega) u, h.bN, h.NT, h.N0⟩
theorem RB.row {w0 w w' : World} {b T N : Nat} {v : Value} {F : Dom} {all l : List Tok} {cs : List Value} {o : Option Nat} (h : RB w0 w b T N v F all l cs) (g : w.grownBy w' o) (ho : ∀ x, o = some x → T < x) : RB w0 w' b T N v F all l cs :=
  have h1 := h.bN
  have h2 := h.NT
  have h3 := h.N0
  ⟨h.rd.grown g (fun x e => ⟨by have := ho x e; omega, fun hF => by have := ho x e; have := h.rd.low x hF; omega⟩), h.t.kept g (fun e => by have := ho T e.symm; omega), h.res.kept g (fun e => by have := ho N e.symm; omega),
    grown_row h.gr (Below.refl _ _) g (fun x e => by have := ho x e; omega), h.bN, h.NT, h.N0⟩
/-- the second half: the row has one more; its last element may be there, the variable may know it -/
structure S2 (w V1 V : World) (b T N : Nat) (v : Value) (F : Dom) (all r : List Tok) (cs : List Value) (vt : Value) (g n cap : Nat) (xs : List Value) : Prop where
  rb : RB w V b T N v F all r cs
  own : V.ownsRow (T + 1) 47 8 (.slice (some ⟨g, 0, none⟩) (n + 1) cap) (n + 1) xs
  same : ∀ x, T < x → x < V1.heap.size → vt.ownBlock ≠ some x → V.heap[x]? = V1.heap[x]?
  sz : V1.heap.size ≤ V.heap.size
theorem S2.gT {w V1 V : World} {b T N g n cap : Nat} {v : Value} {F : Dom} {all r : List Tok} {cs xs : List Value} {vt : Value} (h : S2 w V1 V b T N v F all r cs vt g n cap xs) : T < g := (h.own.lt g rfl).1
theorem S2.start {w V w6 : World} {b T N g n cap : Nat} {v : Value} {F : Dom} {all r : List Tok} {cs xs : List Value} {vt : Value} (hr : RB w V b T N v F all r cs) (_hT : T + 1 ≤ V.heap.size) (hlo : ∀ x, vt.ownBlock = some x → T + 1 ≤ x) (hown : w6.ownsRow (T + 1) 47 8 (.slice (some ⟨g, 0, none⟩) (n + 1) cap) (n + 1) xs) (hg : V.grownBy w6 vt.ownBlock) (_hat : vt.ownBlock = some g ∨ g = V.heap.size) : S2 w V w6 b T N v F all r cs vt g n cap xs :=
  ⟨hr.row hg hlo, hown, fun x _ h2 h3 => hg.block x h2 (fun e => h3 e.symm), hg.size⟩
theorem S2.setT {w V1 V : World} {b T N g n cap i : Nat} {v : Value} {F : Dom} {all r : List Tok} {cs xs : List Value} {vt : Value} (h : S2 w V1 V b T N v F all r cs vt g n cap xs) (u : Value) (hi : i < cs.length) : S2 w V1 (V.setCell ⟨T, i, none⟩ u) b T N v F all r (cs.set i u) vt g n cap xs :=
  ⟨h.rb.set u hi, ownsRow_setCell_below h.own (show T < T + 1 by omega) u, fun x h1 h2 h3 => (Below.heap_setCell _ _ _ _ (by show x ≠ T; omega)).trans (h.same x h1 h2 h3), by have := h.sz; simpa [World.setCell] using this⟩
theorem S2.one {w V1 V : World} {b T N g n cap : Nat} {v : Value} {F : Dom} {all r : List Tok} {cs xs : List Value} {vt : Value} (h : S2 w V1 V b T N v F all r cs vt g n cap xs) (hat : vt.ownBlock = some g ∨ g = V1.heap.size) (j : Nat) (u : Value) : S2 w V1 (V.setCell ⟨g, j, none⟩ u) b T N v F all r cs vt g n cap (xs.set j u) :=
  ⟨h.rb.offset h.gT u, (h.own.stored j u).1, fun x h1 h2 h3 => (Below.heap_setCell _ _ _ _ (by
    show x ≠ g
    rintro rfl
    rcases hat with e | e
    · exact h3 e
    · omega)).trans (h.same x h1 h2 h3), by have := h.sz; simpa [World.setCell] using this⟩
theorem set_app {xs : List Value} {z0 z1 z2 z3 z4 z5 z6 z7 a0 a1 a2 a3 a4 a5 a6 a7 : Value} {k : Nat} (h : xs.length = k) : ((((((((xs ++ [z0, z1, z2, z3, z4, z5, z6, z7]).set k a0).set (k + 1) a1).set (k + 2) a2).set (k + 3) a3).set (k + 4) a4).set (k + 5) a5).set (k + 6) a6).set (k + 7) a7 = xs ++ [a0, a1, a2, a3, a4, a5, a6, a7] := by
  subst h
  rw [List.set_append_right _ _ (Nat.le_refl _), List.set_append_right _ _ (by omega), List.set_append_right _ _ (by omega), List.set_append_right _ _ (by omega), List.set_append_right _ _ (by omega), List.set_append_right _ _ (by omega), List.set_append_right _ _ (by omega), List.set_append_right _ _ (by omega)]
  simp
theorem S2.st8 {w V1 V : World} {b T N g n cap : Nat} {v : Value} {F : Dom} {all r : List Tok} {cs ys : List Value} {vt z0 z1 z2 z3 z4 z5 z6 z7 : Value} (h : S2 w V1 V b T N v F all r cs vt g n cap (ys ++ [z0, z1, z2, z3, z4, z5, z6, z7])) (hy : ys.length = n * 8) (hat : vt.ownBlock = some g ∨ g = V1.heap.size) (a0 a1 a2 a3 a4 a5 a6 a7 : Value) :
    S2 w V1 ((((((((V.setCell ⟨g, n * 8, none⟩ a0).setCell ⟨g, n * 8 + 1, none⟩ a1).setCell ⟨g, n * 8 + 2, none⟩ a2).setCell ⟨g, n * 8 + 3, none⟩ a3).setCell ⟨g, n * 8 + 4, none⟩ a4).setCell ⟨g, n * 8 + 5, none⟩ a5).setCell ⟨g, n * 8 + 6, none⟩ a6).setCell ⟨g, n * 8 + 7, none⟩ a7) b T N v F all r cs vt g n cap (ys ++ [a0, a1, a2, a3, a4, a5, a6, a7]) := by
  have h8 := (((((((h.one hat (n * 8) a0).one hat (n * 8 + 1) a1).one hat (n * 8 + 2) a2).one hat (n * 8 + 3) a3).one hat (n * 8 + 4) a4).one hat (n * 8 + 5) a5).one hat (n * 8 + 6) a6).one hat (n * 8 + 7) a7
  rwa [set_app hy] at h8
theorem S2.cells8 {w V1 V : World} {b T N g n cap : Nat} {v : Value} {F : Dom} {all r : List Tok} {cs ys : List Value} {vt z0 z1 z2 z3 z4 z5 z6 z7 : Value} (h : S2 w V1 V b T N v F all r cs vt g n cap (ys ++ [z0, z1, z2, z3, z4, z5, z6, z7])) (hy : ys.length = n * 8) :
    V.cell? ⟨g, n * 8, none⟩ = some z0 ∧ V.cell? ⟨g, n * 8 + 1, none⟩ = some z1 ∧ V.cell? ⟨g, n * 8 + 2, none⟩ = some z2 ∧ V.cell? ⟨g, n * 8 + 3, none⟩ = some z3 ∧ V.cell? ⟨g, n * 8 + 4, none⟩ = some z4 ∧ V.cell? ⟨g, n * 8 + 5, none⟩ = some z5 ∧ V.cell? ⟨g, n * 8 + 6, none⟩ = some z6 ∧ V.cell? ⟨g, n * 8 + 7, none⟩ = some z7 ∧
    V.frozen? ⟨g, n * 8, none⟩ = false ∧ V.frozen? ⟨g, n * 8 + 1, none⟩ = false ∧ V.frozen? ⟨g, n * 8 + 2, none⟩ = false ∧ V.frozen? ⟨g, n * 8 + 3, none⟩ = false ∧ V.frozen? ⟨g, n * 8 + 4, none⟩ = false ∧ V.frozen? ⟨g, n * 8 + 5, none⟩ = false ∧ V.frozen? ⟨g, n * 8 + 6, none⟩ = false ∧ V.frozen? ⟨g, n * 8 + 7, none⟩ = false := by
  have key : ∀ j u, ([z0, z1, z2, z3, z4, z5, z6, z7] : List Value)[j]? = some u → V.cell? ⟨g, n * 8 + j, none⟩ = some u := fun j u hu => by
    have hj : j < 8 := (List.getElem?_eq_some_iff.1 hu).1
    rw [h.own.cellAt (n * 8 + j) (by omega), List.getElem?_append_right (by omega), hy, Nat.add_sub_cancel_left]
    exact hu
  have fr := fun j => h.own.frozenAt j
  exact ⟨key 0 _ rfl, key 1 _ rfl, key 2 _ rfl, key 3 _ rfl, key 4 _ rfl, key 5 _ rfl, key 6 _ rfl, key 7 _ rfl, fr _, fr _, fr _, fr _, fr _, fr _, fr _, fr _⟩
theorem row_fin {c : Cod Tst} {ty : TypeId} {W V w' : World} {T g cap : Nat} {vt : Value} {ps : Held Tst} {t : Tst} {vs : List Value} (hrow : ORow c ty V (T + 1) (DmB (T + 1) W vt) vt ps) (hW : W.heap.size ≤ V.heap.size) (hel : c.rep V (fun x => W.heap.size ≤ x ∧ x < V.heap.size) t vs) (hv : ∀ x, vt.ownBlock = some x → x < W.heap.size) (hT : T + 1 ≤ W.heap.size)
    (hown : w'.ownsRow (T + 1) ty c.size (.slice (some ⟨g, 0, none⟩) (ps.length + 1) cap) (ps.length + 1) (hcells ps ++ vs)) (hat : vt.ownBlock = some g ∨ g = V.heap.size) (hsame : ∀ x, T < x → x < V.heap.size → vt.ownBlock ≠ some x → w'.heap[x]? = V.heap[x]?) (hsz : V.heap.size ≤ w'.heap.size) :
    ORow c ty w' (T + 1) (DmB (T + 1) w' (.slice (some ⟨g, 0, none⟩) (ps.length + 1) cap)) (.slice (some ⟨g, 0, none⟩) (ps.length + 1) cap) (ps ++ [(t, vs)]) := by
  have hg : ∀ x, x < V.heap.size → vt.ownBlock ≠ some x → (Value.slice (some ⟨g, 0, none⟩) (ps.length + 1) cap).ownBlock ≠ some x := fun x h1 h2 e => by
    have e' : g = x := Option.some.inj e
    rcases hat with h | h
    · exact h2 (e' ▸ h)
    · omega
  refine ⟨?_, fun p hp => ?_, fun x hx hh => hh.2.2 hx⟩
  · rw [hcells_snoc, List.length_append]; exact hown
  · rcases List.mem_append.1 hp with hp | hp
    · refine c.mono (c.stable (hrow.2.1 p hp) (fun x hx _ => hsame x (by have := hx.1; omega) (by have := hx.2.1; omega) hx.2.2) hsz) (fun x hx => ⟨hx.1, by have := hx.2.1; omega, hg x (by have := hx.2.1; omega) hx.2.2⟩)
    · obtain rfl := List.mem_singleton.1 hp
      have hvx : ∀ x, W.heap.size ≤ x → vt.ownBlock ≠ some x := fun x h1 e => by have := hv x e; omega
      refine c.mono (c.stable hel (fun x hx _ => hsame x (by have := hx.1; omega) hx.2 (hvx x hx.1)) hsz) (fun x hx => ⟨by have := hx.1; omega, by have := hx.2; omega, hg x hx.2 (hvx x hx.1)⟩)
/-! the operation at an index, in short -/
theorem ix0 {α : Type} {a0 : α} {l : List α} : (List.toArray (a0 :: l))[0]? = some a0 := rfl
theorem ix1 {α : Type} {a0 a1 : α} {l : List α} : (List.toArray (a0 :: a1 :: l))[1]? = some a1 := rfl
theorem ix2 {α : Type} {a0 a1 a2 : α} {l : List α} : (List.toArray (a0 :: a1 :: a2 :: l))[2]? = some a2 := rfl
theorem ix3 {α : Type} {a0 a1 a2 a3 : α} {l : List α} : (List.toArray (a0 :: a1 :: a2 :: a3 :: l))[3]? = some a3 := rfl
theorem ix4 {α : Type} {a0 a1 a2 a3 a4 : α} {l : List α} : (List.toArray (a0 :: a1 :: a2 :: a3 :: a4 :: l))[4]? = some a4 := rfl
theorem ix5 {α : Type} {a0 a1 a2 a3 a4 a5 : α} {l : List α} : (List.toArray (a0 :: a1 :: a2 :: a3 :: a4 :: a5 :: l))[5]? = some a5 := rfl
theorem ix6 {α : Type} {a0 a1 a2 a3 a4 a5 a6 : α} {l : List α} : (List.toArray (a0 :: a1 :: a2 :: a3 :: a4 :: a5 :: a6 :: l))[6]? = some a6 := rfl
theorem ix7 {α : Type} {a0 a1 a2 a3 a4 a5 a6 a7 : α} {l : List α} : (List.toArray (a0 :: a1 :: a2 :: a3 :: a4 :: a5 :: a6 :: a7 :: l))[7]? = some a7 := rfl
theorem ix8 {α : Type} {a0 a1 a2 a3 a4 a5 a6 a7 a8 : α} {l : List α} : (List.toArray (a0 :: a1 :: a2 :: a3 :: a4 :: a5 :: a6 :: a7 :: a8 :: l))[8]? = some a8 := rfl
theorem ix9 {α : Type} {a0 a1 a2 a3 a4 a5 a6 a7 a8 a9 : α} {l : List α} : (List.toArray (a0 :: a1 :: a2 :: a3 :: a4 :: a5 :: a6 :: a7 :: a8 :: a9 :: l))[9]? = some a9 := rfl
theorem ix10 {α : Type} {a0 a1 a2 a3 a4 a5 a6 a7 a8 a9 a10 : α} {l : List α} : (List.toArray (a0 :: a1 :: a2 :: a3 :: a4 :: a5 :: a6 :: a7 :: a8 :: a9 :: a10 :: l))[10]? = some a10 := rfl
theorem ix11 {α : Type} {a0 a1 a2 a3 a4 a5 a6 a7 a8 a9 a10 a11 : α} {l : List α} : (List.toArray (a0 :: a1 :: a2 :: a3 :: a4 :: a5 :: a6 :: a7 :: a8 :: a9 :: a10 :: a11 :: l))[11]? = some a11 := rfl
theorem ix12 {α : Type} {a0 a1 a2 a3 a4 a5 a6 a7 a8 a9 a10 a11 a12 : α} {l : List α} : (List.toArray (a0 :: a1 :: a2 :: a3 :: a4 :: a5 :: a6 :: a7 :: a8 :: a9 :: a10 :: a11 :: a12 :: l))[12]? = some a12 := rfl
theorem bnd_more {f : List Tok → PR Tst} {m : Nat} {r r4 : List Tok} (h : eatP 44 r = some r4) {β : Type} (g : List Tst → List Tok → PR β) : bnd (moreT f (m + 1) r) g = bnd (f r4) fun t q => bnd (moreT f m q) fun ts q2 => g (t :: ts) q2 := by
  rw [moreT, h]
  show bnd (bnd (f r4) _) g = _
  rw [bnd_assoc]
  cases f r4 with
  | error p => rfl
  | ok p =>
    show bnd (bnd (moreT f m p.2) _) g = bnd (moreT f m p.2) _
    rw [bnd_assoc]; rfl
theorem moreT_none {f : List Tok → PR Tst} {m : Nat} {r : List Tok} (h : eatP 44 r = none) : moreT f m r = .ok ([], r) := by
  cases m with
  | zero => rfl
  | succ m => rw [moreT, h]
end Go.Proofs.YtlgbmnmoobpkkaaDoor.Sc
