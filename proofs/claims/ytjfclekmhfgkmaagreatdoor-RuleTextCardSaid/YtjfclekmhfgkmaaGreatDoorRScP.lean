/- On the way. -/
import Derived.Test.YtjfclekmhfgkmaaGreatDoorRScTree
set_option linter.unusedVariables false
set_option linter.unusedSimpArgs false
namespace Go.Proofs.YtjfclekmhfgkmaaGreatDoor.Sc
open Tk (Tok)
abbrev PR (α : Type) := Except (Nat × Int) (α × List Tok)
def bnd {α β : Type} (x : PR α) (f : α → List Tok → PR β) : PR β := match x with
 | .ok (a, r) => f a r
 | .error e => .error e
theorem bnd_ok {α β : Type} (a : α) (r : List Tok) (f : α → List Tok → PR β) : bnd (.ok (a, r)) f = f a r := rfl
def giveP {α : Type} (l : List Tok) (e : Int) : PR α := .error (l.length, if l.length = 0 then 4 else e)
def isP (k : Int) (s : Str) : List Tok → Bool
 | t :: _ => t.kind == k && t.text == s
 | [] => false
def eatP (c : UInt8) (l : List Tok) : Option (List Tok) := if isP 5 [c] l = true then some l.tail else none
def mustP (c : UInt8) (l : List Tok) : PR Unit := match eatP c l with
 | some r => .ok ((), r)
 | none => giveP l 3
def nextP (k : Int) (l : List Tok) : PR Tok := match l with
 | t :: r => if t.kind = k then .ok (t, r) else giveP (t :: r) 3
 | [] => giveP [] 3
def moreS : Nat → List Tok → PR (List Str)
 | 0, l => .ok ([], l)
 | n + 1, l => match eatP 44 l with
  | none => .ok ([], l)
  | some r => bnd (nextP 4 r) fun t r => bnd (moreS n r) fun ts r => .ok (t.text :: ts, r)
def listP (l : List Tok) : PR (List Str) := match eatP 91 l with
 | none => bnd (nextP 4 l) fun t r => .ok ([t.text], r)
 | some r => bnd (nextP 4 r) fun t r => bnd (moreS r.length r) fun ts r => bnd (mustP 93 r) fun _ r => .ok (t.text :: ts, r)
def idxW (tab : List Str) (s : Str) : Nat := if tab.idxOf s < tab.length then tab.idxOf s else 0
def wordP (tab : List Str) (l : List Tok) : PR Nat := match l with
 | t :: r => if t.kind = 1 ∧ 0 < idxW tab t.text then .ok (idxW tab t.text, r) else giveP (t :: r) 3
 | [] => giveP [] 3
def tagsP : Nat → Nat → Nat → Nat → List Tok → PR (Nat × Nat)
 | 0, _, m, p, l => .ok ((m, p), l)
 | n + 1, k, m, p, l => match l with
  | t :: r =>
   if t.kind = 2 then
    if 0 < idxW matTab t.text ∧ m = 0 then tagsP n k (idxW matTab t.text) p r
    else if 0 < idxW parTab t.text ∧ p = 0 ∧ k ≠ 6 then tagsP n k m (idxW parTab t.text) r
    else giveP (t :: r) 3
   else .ok ((m, p), t :: r)
  | [] => .ok ((m, p), [])
def dfl (n : Nat) : Nat := if n = 0 then 1 else n
def moreT (f : List Tok → PR Tst) : Nat → List Tok → PR (List Tst)
 | 0, l => .ok ([], l)
 | n + 1, l => match eatP 44 l with
  | none => .ok ([], l)
  | some r => bnd (f r) fun t r => bnd (moreT f n r) fun ts r => .ok (t :: ts, r)
def testK (f : List Tok → PR Tst) (k : Nat) (r : List Tok) : PR Tst :=
 if k = 3 then bnd (f r) fun t r => .ok (⟨3, 0, 0, [], [], false, 0, [t]⟩, r)
 else if k = 4 ∨ k = 5 then bnd (mustP 40 r) fun _ r => bnd (f r) fun t r => bnd (moreT f r.length r) fun ts r => bnd (mustP 41 r) fun _ r => .ok (⟨k, 0, 0, [], [], false, 0, t :: ts⟩, r)
 else if k = 6 ∨ k = 7 ∨ k = 8 then bnd (tagsP r.length k 0 0 r) fun mp r => bnd (listP r) fun ns r => bnd (listP r) fun ks r => .ok (⟨k, dfl mp.1, if k = 6 then 0 else dfl mp.2, ns, ks, false, 0, []⟩, r)
 else if k = 9 then bnd (listP r) fun ns r => .ok (⟨9, 0, 0, ns, [], false, 0, []⟩, r)
 else if k = 10 then (if isP 2 overW r = true ∨ isP 2 underW r = true then bnd (nextP 3 r.tail) fun t r' => .ok (⟨10, 0, 0, [], [], isP 2 overW r, t.num, []⟩, r') else giveP r 3)
 else .ok (⟨k, 0, 0, [], [], false, 0, []⟩, r)
def testP : Nat → Nat → List Tok → PR Tst
 | 0, _, l => .error (l.length, 4)
 | n + 1, d, l => if 6 < d ∧ l ≠ [] then .error (l.length, 1) else bnd (wordP tstTab l) (testK (testP n (d + 1)))
def cmdsP (f : List Tok → PR Cmd) : Nat → List Tok → PR (List Cmd)
 | 0, l => .error (l.length, 4)
 | n + 1, l => match eatP 125 l with
  | some r => .ok ([], r)
  | none => bnd (f l) fun c r => bnd (cmdsP f n r) fun cs r => .ok (c :: cs, r)
def blockP (f : List Tok → PR Cmd) (l : List Tok) : PR (List Cmd) := bnd (mustP 123 l) fun _ r => cmdsP f (r.length + 1) r
def cmdK (b : List Tok → PR Cmd) (k : Nat) (r : List Tok) : PR Cmd :=
 if k = 2 then b r
 else if k = 1 ∨ k = 8 ∨ k = 9 then bnd (listP r) fun ts r => bnd (mustP 59 r) fun _ r => .ok (⟨k, ts, T0, [], []⟩, r)
 else if k = 5 ∨ k = 6 ∨ k = 7 then bnd (nextP 4 r) fun t r => bnd (mustP 59 r) fun _ r => .ok (⟨k, [t.text], T0, [], []⟩, r)
 else bnd (mustP 59 r) fun _ r => .ok (⟨k, [], T0, [], []⟩, r)
def elseK (f b : List Tok → PR Cmd) (t : Tst) (th : List Cmd) (r : List Tok) : PR Cmd :=
 if isP 1 elsifW r = true then bnd (b r.tail) fun c r => .ok (⟨2, [], t, th, [c]⟩, r)
 else if isP 1 elseW r = true then bnd (blockP f r.tail) fun el r => .ok (⟨2, [], t, th, el⟩, r)
 else .ok (⟨2, [], t, th, []⟩, r)
mutual
def commandP : Nat → Nat → List Tok → PR Cmd
 | 0, _, l => .error (l.length, 4)
 | n + 1, d, l => if 6 < d ∧ l ≠ [] then .error (l.length, 1) else bnd (wordP cmdTab l) (cmdK (branchP n d))
def branchP : Nat → Nat → List Tok → PR Cmd
 | 0, _, l => .error (l.length, 4)
 | n + 1, d, l => bnd (testP (l.length + 1) 1 l) fun t r => bnd (blockP (commandP n (d + 1)) r) (elseK (commandP n (d + 1)) (branchP n d) t)
end
def allP : Nat → List Tok → PR (List Cmd)
 | 0, l => .error (l.length, 4)
 | n + 1, l => if l = [] then .ok ([], []) else bnd (commandP (l.length + 1) 0 l) fun c r => bnd (allP n r) fun cs r => .ok (c :: cs, r)
def parseE (n : Nat) : PR (List Cmd) → List Cmd × Nat × Int
 | .ok (cs, _) => (cs, 0, 0)
 | .error (k, e) => ([], n - k, e)
def parseS (l : List Tok) : List Cmd × Nat × Int := parseE l.length (allP (l.length + 1) l)
def Less {α : Type} (d n : Nat) : PR α → Prop
 | .ok (_, r) => r.length + d ≤ n
 | .error (k, e) => k ≤ n ∧ e ≠ 0
theorem Less.mono {α : Type} {d d' n n' : Nat} {x : PR α} (h : Less d n x) (hn : n ≤ n') (hd : n + d' ≤ n' + d) : Less d' n' x := by
 cases x with
 | error e => exact ⟨Nat.le_trans h.1 hn, h.2⟩
 | ok p => have h' : p.2.length + d ≤ n := h; show p.2.length + d' ≤ n'; omega
theorem Less.give {α : Type} (l : List Tok) (e : Int) (d : Nat) (he : e ≠ 0 := by decide) : Less d l.length (giveP l e : PR α) := ⟨Nat.le_refl _, by show (if l.length = 0 then (4 : Int) else e) ≠ 0; by_cases h : l.length = 0 <;> simp [h, he]⟩
theorem Less.bnd {α β : Type} {d e n : Nat} {x : PR α} {f : α → List Tok → PR β} (h : Less d n x) (hf : ∀ a r, r.length + d ≤ n → Less e r.length (f a r)) : Less (d + e) n (bnd x f) := by
 cases x with
 | error e => exact h
 | ok p =>
  obtain ⟨a, r⟩ := p
  have h' : r.length + d ≤ n := h
  exact (hf a r h').mono (by omega) (by omega)
theorem isP_cons {k : Int} {s : Str} {l : List Tok} (h : isP k s l = true) : ∃ t r, l = t :: r ∧ t.kind = k ∧ t.text = s := by
 cases l with
 | nil => cases h
 | cons t r =>
  have h' : (t.kind == k && t.text == s) = true := h
  rw [Bool.and_eq_true, beq_iff_eq, beq_iff_eq] at h'
  exact ⟨t, r, rfl, h'.1, h'.2⟩
theorem eat_lt {c : UInt8} {l r : List Tok} (h : eatP c l = some r) : r.length + 1 = l.length := by
 unfold eatP at h
 split at h
 ·rename_i hi
  obtain ⟨t, q, rfl, -, -⟩ := isP_cons hi
  obtain rfl := Option.some.inj h
  rfl
 ·cases h
theorem less_must (c : UInt8) (l : List Tok) : Less 1 l.length (mustP c l) := by
 unfold mustP
 cases h : eatP c l with
 | none => exact Less.give l 3 1
 | some r => have := eat_lt h; show r.length + 1 ≤ l.length; omega
theorem less_next (k : Int) (l : List Tok) : Less 1 l.length (nextP k l) := by
 unfold nextP
 cases l with
 | nil => exact Less.give [] 3 1
 | cons t r =>
  show Less 1 _ (if t.kind = k then _ else _)
  split
  ·exact Nat.le_refl _
  ·exact Less.give (t :: r) 3 1
theorem less_ok {α : Type} (a : α) (r : List Tok) : Less 0 r.length (.ok (a, r) : PR α) := Nat.le_refl _
theorem less_moreS : ∀ (n : Nat) (l : List Tok), Less 0 l.length (moreS n l)
 | 0, l => less_ok _ l
 | n + 1, l => by
  rw [moreS]
  cases h : eatP 44 l with
  | none => exact less_ok _ l
  | some r =>
   have h1 := eat_lt h
   exact ((less_next 4 r).bnd (e := 0) fun t r2 h2 => (less_moreS n r2).bnd (e := 0) fun ts r3 h3 => less_ok _ r3).mono (by omega) (by omega)
theorem less_list (l : List Tok) : Less 1 l.length (listP l) := by
 unfold listP
 cases h : eatP 91 l with
 | none => exact (less_next 4 l).bnd (e := 0) fun t r _ => less_ok _ r
 | some r =>
  have h1 := eat_lt h
  exact ((less_next 4 r).bnd (e := 0) fun t r2 h2 => (less_moreS r2.length r2).bnd (e := 0) fun ts r3 h3 => ((less_must 93 r3).bnd (e := 0) fun _ r4 _ => less_ok _ r4).mono (Nat.le_refl _) (by omega)).mono (by omega) (by omega)
theorem less_word (tab : List Str) (l : List Tok) : Less 1 l.length (wordP tab l) := by
 unfold wordP
 cases l with
 | nil => exact Less.give [] 3 1
 | cons t r =>
  show Less 1 _ (if _ then _ else _)
  split
  ·exact Nat.le_refl _
  ·exact Less.give (t :: r) 3 1
theorem less_tags : ∀ (n k m p : Nat) (l : List Tok), Less 0 l.length (tagsP n k m p l)
 | 0, _, _, _, l => less_ok _ l
 | n + 1, k, m, p, [] => less_ok _ []
 | n + 1, k, m, p, t :: r => by
  show Less 0 _ (if _ then (if _ then _ else if _ then _ else _) else _)
  split
  ·split
   ·exact (less_tags n k _ p r).mono (by simp) (by simp)
   ·split
    ·exact (less_tags n k m _ r).mono (by simp) (by simp)
    ·exact Less.give (t :: r) 3 0
  ·exact less_ok _ _
theorem less_moreT {f : List Tok → PR Tst} (hf : ∀ l, Less 1 l.length (f l)) : ∀ (n : Nat) (l : List Tok), Less 0 l.length (moreT f n l)
 | 0, l => less_ok _ l
 | n + 1, l => by
  rw [moreT]
  cases h : eatP 44 l with
  | none => exact less_ok _ l
  | some r =>
   have h1 := eat_lt h
   exact ((hf r).bnd (e := 0) fun t r2 h2 => (less_moreT hf n r2).bnd (e := 0) fun ts r3 h3 => less_ok _ r3).mono (by omega) (by omega)
theorem less_testK {f : List Tok → PR Tst} (ih : ∀ l, Less 1 l.length (f l)) (k : Nat) (r : List Tok) : Less 0 r.length (testK f k r) := by
 unfold testK
 split
 ·exact ((ih r).bnd (e := 0) fun t r2 h2 => less_ok _ r2).mono (Nat.le_refl _) (by omega)
 ·split
  ·exact ((less_must 40 r).bnd (e := 0) fun _ r2 h2 => ((ih r2).bnd (e := 0) fun t r3 h3 => ((less_moreT ih r3.length r3).bnd (e := 0) fun ts r4 h4 => ((less_must 41 r4).bnd (e := 0) fun _ r5 _ => less_ok _ r5).mono (Nat.le_refl _) (by omega)).mono (Nat.le_refl _) (by omega)).mono (Nat.le_refl _) (by omega)).mono (Nat.le_refl _) (by omega)
  ·split
   ·exact ((less_tags r.length k 0 0 r).bnd (e := 0) fun mp r2 h2 => ((less_list r2).bnd (e := 0) fun ns r3 h3 => ((less_list r3).bnd (e := 0) fun ks r4 h4 => less_ok _ r4).mono (Nat.le_refl _) (by omega)).mono (Nat.le_refl _) (by omega)).mono (Nat.le_refl _) (by omega)
   ·split
    ·exact ((less_list r).bnd (e := 0) fun ns r3 h3 => less_ok _ r3).mono (Nat.le_refl _) (by omega)
    ·split
     ·split
      ·rename_i hi
       obtain ⟨t, q, rfl⟩ : ∃ t q, r = t :: q := by
        rcases hi with hi | hi <;> (obtain ⟨t, q, h, -, -⟩ := isP_cons hi; exact ⟨t, q, h⟩)
       exact ((less_next 3 q).bnd (e := 0) fun t r2 h2 => less_ok _ r2).mono (by simp) (by simp; omega)
      ·exact Less.give r 3 0
     ·exact less_ok _ r
theorem less_test : ∀ (n d : Nat) (l : List Tok), Less 1 l.length (testP n d l)
 | 0, d, l => ⟨Nat.le_refl _, by show (4 : Int) ≠ 0; decide⟩
 | n + 1, d, l => by
  rw [testP]
  split
  ·exact ⟨Nat.le_refl _, by show (1 : Int) ≠ 0; decide⟩
  ·exact (less_word tstTab l).bnd (e := 0) fun k r _ => less_testK (less_test n (d + 1)) k r
theorem less_cmds {f : List Tok → PR Cmd} (hf : ∀ l, Less 1 l.length (f l)) : ∀ (n : Nat) (l : List Tok), Less 1 l.length (cmdsP f n l)
 | 0, l => ⟨Nat.le_refl _, by show (4 : Int) ≠ 0; decide⟩
 | n + 1, l => by
  rw [cmdsP]
  cases h : eatP 125 l with
  | some r => have h1 := eat_lt h; show r.length + 1 ≤ l.length; omega
  | none => exact ((hf l).bnd (e := 1) fun c r2 h2 => (less_cmds hf n r2).bnd (e := 0) fun ts r3 h3 => less_ok _ r3).mono (Nat.le_refl _) (by omega)
theorem less_block {f : List Tok → PR Cmd} (hf : ∀ l, Less 1 l.length (f l)) (l : List Tok) : Less 2 l.length (blockP f l) :=
 (less_must 123 l).bnd (e := 1) fun _ r _ => less_cmds hf (r.length + 1) r
theorem less_cmdK {b : List Tok → PR Cmd} (hb : ∀ l, Less 1 l.length (b l)) (k : Nat) (r : List Tok) : Less 0 r.length (cmdK b k r) := by
 unfold cmdK
 split
 ·exact (hb r).mono (Nat.le_refl _) (by omega)
 ·split
  ·exact ((less_list r).bnd (e := 1) fun ts r2 h2 => (less_must 59 r2).bnd (e := 0) fun _ r3 h3 => less_ok _ r3).mono (Nat.le_refl _) (by omega)
  ·split
   ·exact ((less_next 4 r).bnd (e := 1) fun ts r2 h2 => (less_must 59 r2).bnd (e := 0) fun _ r3 h3 => less_ok _ r3).mono (Nat.le_refl _) (by omega)
   ·exact ((less_must 59 r).bnd (e := 0) fun _ r3 h3 => less_ok _ r3).mono (Nat.le_refl _) (by omega)
theorem less_elseK {f b : List Tok → PR Cmd} (hf : ∀ l, Less 1 l.length (f l)) (hb : ∀ l, Less 1 l.length (b l)) (t : Tst) (th : List Cmd) (r : List Tok) : Less 0 r.length (elseK f b t th r) := by
 unfold elseK
 split
 ·rename_i hi
  obtain ⟨t, q, rfl, -, -⟩ := isP_cons hi
  exact ((hb q).bnd (e := 0) fun c r3 _ => less_ok _ r3).mono (by simp) (by simp; omega)
 ·split
  ·rename_i hi
   obtain ⟨t, q, rfl, -, -⟩ := isP_cons hi
   exact ((less_block hf q).bnd (e := 0) fun c r3 _ => less_ok _ r3).mono (by simp) (by simp; omega)
  ·exact less_ok _ r
theorem less_both : ∀ (n d : Nat) (l : List Tok), Less 1 l.length (commandP n d l) ∧ Less 1 l.length (branchP n d l)
 | 0, d, l => ⟨⟨Nat.le_refl _, by show (4 : Int) ≠ 0; decide⟩, ⟨Nat.le_refl _, by show (4 : Int) ≠ 0; decide⟩⟩
 | n + 1, d, l => by
  have ihc := fun d l => (less_both n d l).1
  have ihb := fun d l => (less_both n d l).2
  refine ⟨?_, ?_⟩
  ·rw [commandP]
   split
   ·exact ⟨Nat.le_refl _, by show (1 : Int) ≠ 0; decide⟩
   ·exact (less_word cmdTab l).bnd (e := 0) fun k r _ => less_cmdK (ihb d) k r
  ·rw [branchP]
   exact (less_test (l.length + 1) 1 l).bnd (e := 0) fun t r _ => ((less_block (ihc (d + 1)) r).bnd (e := 0) fun th r2 _ => less_elseK (ihc (d + 1)) (ihb d) t th r2).mono (Nat.le_refl _) (by omega)
theorem less_command (n d : Nat) (l : List Tok) : Less 1 l.length (commandP n d l) := (less_both n d l).1
structure Rd {α : Type} (n : Nat) (f : List Tok → PR α) (x : List Tok) (v : α) (C : List Tok → Prop) : Prop where
 back : ∀ r, C r → (x ++ r).length < n → f (x ++ r) = .ok (v, r)
 torn : ∀ k, k < x.length → k < n → f (x.take k) = .error (0, 4)
def TornOr {α : Type} (x : PR α) : Prop := x = .error (0, 4) ∨ ∃ v, x = .ok (v, [])
structure Lo {α : Type} (n : Nat) (f : List Tok → PR α) (x : List Tok) (v : α) (C : List Tok → Prop) : Prop where
 back : ∀ r, C r → (x ++ r).length < n → f (x ++ r) = .ok (v, r)
 torn : ∀ k, k < x.length → k < n → TornOr (f (x.take k))
def Any : List Tok → Prop := fun _ => True
theorem Rd.lo {α : Type} {n : Nat} {f : List Tok → PR α} {x : List Tok} {v : α} {C : List Tok → Prop} (h : Rd n f x v C) : Lo n f x v C := ⟨h.back, fun k h1 h2 => .inl (h.torn k h1 h2)⟩
theorem Lo.comb {α β : Type} {n n' : Nat} {f : List Tok → PR α} {g : α → List Tok → PR β} {x y : List Tok} {v : α} {u : β} {C C' : List Tok → Prop} (h : Lo n f x v C) (hg : Rd n' (g v) y u C') (hn : n ≤ n' + x.length) (h0 : ∀ a, g a [] = .error (0, 4)) (hC : ∀ r, C' r → C (y ++ r)) (hC2 : ∀ j, j < y.length → C (y.take j)) :
    Rd n (fun l => bnd (f l) g) (x ++ y) u C' := by
 refine ⟨fun r hr hl => ?_, fun k hk hkn => ?_⟩
 ·show bnd (f (x ++ y ++ r)) g = _
  have hl' : x.length + (y.length + r.length) < n := by simpa [Nat.add_assoc] using hl
  rw [List.append_assoc, h.back (y ++ r) (hC r hr) (by simp; omega), bnd_ok]
  exact hg.back r hr (by simp; omega)
 ·show bnd (f ((x ++ y).take k)) g = _
  rw [List.length_append] at hk
  rw [List.take_append]
  by_cases hkx : k < x.length
  ·rw [show k - x.length = 0 by omega, List.take_zero, List.append_nil]
   rcases h.torn k hkx hkn with e | ⟨a, e⟩
   ·rw [e]; rfl
   ·rw [e, bnd_ok]; exact h0 a
  ·rw [List.take_of_length_le (by omega : x.length ≤ k), h.back _ (hC2 _ (by omega)) (by rw [List.length_append, List.length_take]; omega), bnd_ok]
   exact hg.torn _ (by omega) (by omega)
theorem Rd.comb {α β : Type} {n n' : Nat} {f : List Tok → PR α} {g : α → List Tok → PR β} {x y : List Tok} {v : α} {u : β} {C C' : List Tok → Prop} (h : Rd n f x v C) (hg : Rd n' (g v) y u C') (hn : n ≤ n' + x.length) (hC : ∀ r, C' r → C (y ++ r)) (hC2 : ∀ j, j < y.length → C (y.take j)) :
    Rd n (fun l => bnd (f l) g) (x ++ y) u C' := by
 refine ⟨fun r hr hl => ?_, fun k hk hkn => ?_⟩
 ·show bnd (f (x ++ y ++ r)) g = _
  have hl' : x.length + (y.length + r.length) < n := by simpa [Nat.add_assoc] using hl
  rw [List.append_assoc, h.back (y ++ r) (hC r hr) (by simp; omega), bnd_ok]
  exact hg.back r hr (by simp; omega)
 ·show bnd (f ((x ++ y).take k)) g = _
  rw [List.length_append] at hk
  rw [List.take_append]
  by_cases hkx : k < x.length
  ·rw [show k - x.length = 0 by omega, List.take_zero, List.append_nil, h.torn k hkx hkn]; rfl
  ·rw [List.take_of_length_le (by omega : x.length ≤ k), h.back _ (hC2 _ (by omega)) (by rw [List.length_append, List.length_take]; omega), bnd_ok]
   exact hg.torn _ (by omega) (by omega)
theorem Rd.then {α β : Type} {n n' : Nat} {f : List Tok → PR α} {g : α → List Tok → PR β} {x y : List Tok} {v : α} {u : β} {C' : List Tok → Prop} (h : Rd n f x v Any) (hg : Rd n' (g v) y u C') (hn : n ≤ n' + x.length) : Rd n (fun l => bnd (f l) g) (x ++ y) u C' :=
 h.comb hg hn (fun _ _ => trivial) (fun _ _ => trivial)
theorem Rd.done {α : Type} (n : Nat) (v : α) (C : List Tok → Prop) : Rd n (fun r => .ok (v, r)) [] v C := ⟨fun _ _ _ => rfl, fun k h _ => absurd h (Nat.not_lt_zero k)⟩
theorem Rd.fin {α β : Type} {n : Nat} {f : List Tok → PR α} {x : List Tok} {v : α} {C : List Tok → Prop} (h : Rd n f x v C) (u : α → β) : Rd n (fun l => bnd (f l) fun a r => .ok (u a, r)) x (u v) C := by
 have := h.comb (g := fun a r => .ok (u a, r)) (Rd.done (n := n) (u v) C) (by omega) (fun r hr => hr) (fun j hj => absurd hj (Nat.not_lt_zero j))
 rwa [List.append_nil] at this
theorem must_rd (c : UInt8) (n : Nat) : Rd n (mustP c) [M c] () Any := by
 refine ⟨fun r _ _ => ?_, fun k hk _ => ?_⟩
 ·have h : eatP c ([M c] ++ r) = some r := by unfold eatP; rw [if_pos]; rfl; simp [isP, M]
  unfold mustP; rw [h]
 ·obtain rfl : k = 0 := by simp at hk; omega
  rfl
theorem next_S (s : Str) (r : List Tok) : nextP 4 (S s :: r) = .ok (S s, r) := by unfold nextP; exact if_pos rfl
theorem next_N (l : Int) (r : List Tok) : nextP 3 (N l :: r) = .ok (N l, r) := by unfold nextP; exact if_pos rfl
theorem next_rd (t : Tok) (n : Nat) : Rd n (nextP t.kind) [t] t Any := by
 refine ⟨fun r _ _ => if_pos rfl, fun k hk _ => ?_⟩
 obtain rfl : k = 0 := by simp at hk; omega
 rfl
theorem word_rd (tab : List Str) (s : Str) (n : Nat) (h : 0 < idxW tab s) : Rd n (wordP tab) [W s] (idxW tab s) Any := by
 refine ⟨fun r _ _ => if_pos ⟨rfl, h⟩, fun k hk _ => ?_⟩
 obtain rfl : k = 0 := by simp at hk; omega
 rfl
def cms (l : List Str) : List Tok := l.flatMap fun x => [M 44, S x]
theorem eat_other {c d : UInt8} (r : List Tok) (h : d ≠ c) : eatP c (M d :: r) = none := by
 unfold eatP; rw [if_neg]; simp [isP, M, h]
theorem eat_same (c : UInt8) (r : List Tok) : eatP c (M c :: r) = some r := by
 unfold eatP; rw [if_pos]; rfl; simp [isP, M]
theorem moreS_back : ∀ (l : List Str) (m : Nat) (r : List Tok), l.length ≤ m → eatP 44 r = none → moreS m (cms l ++ r) = .ok (l, r)
 | [], 0, r, _, _ => rfl
 | [], m + 1, r, _, h => by rw [show cms [] ++ r = r from rfl, moreS, h]
 | s :: l, 0, r, h, _ => by simp at h
 | s :: l, m + 1, r, h, h2 => by
  rw [show cms (s :: l) ++ r = M 44 :: S s :: (cms l ++ r) from rfl, moreS, eat_same]
  show bnd (nextP 4 (S s :: (cms l ++ r))) _ = _
  rw [next_S, bnd_ok, moreS_back l m r (by simpa using h) h2]
  rfl
theorem moreS_torn : ∀ (l : List Str) (m k : Nat), k ≤ (cms l).length → k ≤ m → TornOr (moreS m ((cms l).take k))
 | l, 0, k, _, h => by obtain rfl : k = 0 := by omega
                       exact .inr ⟨[], rfl⟩
 | [], m + 1, k, _, _ => .inr ⟨[], by rw [show cms [] = [] from rfl, List.take_nil, moreS]; rfl⟩
 | s :: l, m + 1, 0, _, _ => .inr ⟨[], by rw [List.take_zero, moreS]; rfl⟩
 | s :: l, m + 1, 1, _, _ => .inl (by rw [show (cms (s :: l)).take 1 = M 44 :: [] from rfl, moreS, eat_same]; rfl)
 | s :: l, m + 1, k + 2, h, h2 => by
  rw [show (cms (s :: l)).take (k + 2) = M 44 :: S s :: (cms l).take k from rfl, moreS, eat_same]
  have hk : k ≤ (cms l).length := by have : (cms (s :: l)).length = (cms l).length + 2 := rfl; omega
  have h3 : bnd (nextP 4 (S s :: (cms l).take k)) (fun t r => bnd (moreS m r) fun ts r => .ok (t.text :: ts, r)) = bnd (moreS m ((cms l).take k)) fun ts r => .ok (s :: ts, r) := by
   rw [next_S]; rfl
  show TornOr (bnd (nextP 4 (S s :: (cms l).take k)) _)
  rw [h3]
  rcases moreS_torn l m k hk (by omega) with e | ⟨v, e⟩
  ·rw [e]; exact .inl rfl
  ·rw [e]; exact .inr ⟨_, rfl⟩
theorem cms_len (l : List Str) : l.length ≤ (cms l).length := by
 induction l with
 | nil => exact Nat.le_refl _
 | cons s l ih => show l.length + 1 ≤ (cms l).length + 2; omega
theorem moreS_lo (l : List Str) (n : Nat) : Lo n (fun r => moreS r.length r) (cms l) l (fun r => eatP 44 r = none) :=
 ⟨fun r hr _ => moreS_back l _ r (by have := cms_len l; simp; omega) hr, fun k hk _ => moreS_torn l _ k (by omega) (by rw [List.length_take]; omega)⟩
theorem close_any (c : UInt8) (h : c ≠ 44) (r : List Tok) : eatP 44 (M c :: r) = none := eat_other r h
theorem close_take (c : UInt8) (h : c ≠ 44) (y : List Tok) (j : Nat) : eatP 44 ((M c :: y).take j) = none := by
 cases j with
 | zero => rfl
 | succ j => exact eat_other _ h
theorem list_rd (ns : List Str) (h : 0 < ns.length) (n : Nat) : Rd n listP (listT ns) ns Any := by
 match ns, h with
 | [s], _ =>
  refine ⟨fun r _ _ => ?_, fun k hk _ => ?_⟩
  ·have h1 : eatP 91 ([S s] ++ r) = none := rfl
   show listP ([S s] ++ r) = _
   unfold listP; rw [h1]
   show bnd (nextP 4 (S s :: r)) _ = _
   rw [next_S]; rfl
  ·obtain rfl : k = 0 := by have : k < 1 := hk; omega
   rfl
 | s :: s2 :: l, _ =>
  have h1 : Rd n (fun r => bnd (nextP 4 r) fun t r => bnd (moreS r.length r) fun ts r => bnd (mustP 93 r) fun _ r => .ok (t.text :: ts, r)) ([S s] ++ (cms (s2 :: l) ++ [M 93])) (s :: s2 :: l) Any := by
   refine (next_rd (S s) n).then (n' := n) (g := fun t r => bnd (moreS r.length r) fun ts r => bnd (mustP 93 r) fun _ r => .ok (t.text :: ts, r)) ?_ (by omega)
   exact (moreS_lo (s2 :: l) n).comb (n' := n) (g := fun ts r => bnd (mustP 93 r) fun _ r => .ok (s :: ts, r)) ((must_rd 93 n).fin fun _ => s :: s2 :: l) (by omega) (fun _ => rfl) (fun r _ => close_any 93 (by decide) r) (fun j _ => close_take 93 (by decide) [] j)
  refine ⟨fun r hr hl => ?_, fun k hk hkn => ?_⟩
  ·have e : listT (s :: s2 :: l) ++ r = M 91 :: (([S s] ++ (cms (s2 :: l) ++ [M 93])) ++ r) := by simp [listT, cms]
   rw [e] at hl ⊢
   unfold listP; rw [eat_same]
   exact h1.back r hr (by simp at hl ⊢; omega)
  ·have e : listT (s :: s2 :: l) = M 91 :: ([S s] ++ (cms (s2 :: l) ++ [M 93])) := by simp [listT, cms]
   rw [e] at hk ⊢
   cases k with
   | zero => rfl
   | succ k =>
    rw [List.take_succ_cons]
    unfold listP; rw [eat_same]
    exact h1.torn k (by simpa using hk) (by omega)
theorem mat_idx {m : Int} (h : 1 ≤ m ∧ m ≤ 3) : idxW matTab (wd matTab m) = m.toNat ∧ idxW parTab (wd matTab m) = 0 := by
 have : m = 1 ∨ m = 2 ∨ m = 3 := by omega
 rcases this with rfl | rfl | rfl <;> exact ⟨by decide, by decide⟩
theorem par_idx {p : Int} (h : 1 ≤ p ∧ p ≤ 3) : idxW parTab (wd parTab p) = p.toNat ∧ idxW matTab (wd parTab p) = 0 := by
 have : p = 1 ∨ p = 2 ∨ p = 3 := by omega
 rcases this with rfl | rfl | rfl <;> exact ⟨by decide, by decide⟩
def NoTag : List Tok → Prop
 | t :: _ => t.kind ≠ 2
 | [] => True
theorem tags_none {k m p : Nat} {r : List Tok} (h : NoTag r) : ∀ n, tagsP n k m p r = .ok ((m, p), r)
 | 0 => rfl
 | n + 1 => by
  cases r with
  | nil => rfl
  | cons t r => rw [tagsP]; exact if_neg h
theorem tags_mat {n k p : Nat} {m : Int} (r : List Tok) (h : 1 ≤ m ∧ m ≤ 3) : tagsP (n + 1) k 0 p (G (wd matTab m) :: r) = tagsP n k m.toNat p r := by
 rw [tagsP, if_pos (show (G (wd matTab m)).kind = 2 from rfl)]
 have := (mat_idx h).1
 rw [if_pos ⟨by show 0 < idxW matTab (wd matTab m); omega, rfl⟩]
 show tagsP n k (idxW matTab (wd matTab m)) p r = _
 rw [this]
theorem tags_par {n k m : Nat} {p : Int} (r : List Tok) (h : 1 ≤ p ∧ p ≤ 3) (hk : k ≠ 6) : tagsP (n + 1) k m 0 (G (wd parTab p) :: r) = tagsP n k m p.toNat r := by
 rw [tagsP, if_pos (show (G (wd parTab p)).kind = 2 from rfl)]
 have h1 := (par_idx h).1; have h2 := (par_idx h).2
 rw [if_neg (by rintro ⟨h3, -⟩; rw [show (G (wd parTab p)).text = wd parTab p from rfl] at h3; omega), if_pos ⟨by show 0 < idxW parTab (wd parTab p); omega, rfl, hk⟩]
 show tagsP n k m (idxW parTab (wd parTab p)) r = _
 rw [h1]
theorem dfl_of {m : Int} (h : 1 ≤ m ∧ m ≤ 3) : ((dfl m.toNat : Nat) : Int) = m := by unfold dfl; split <;> omega
theorem tags_lo1 {m : Int} (h : 1 ≤ m ∧ m ≤ 3) (n : Nat) : Lo n (fun r => tagsP r.length 6 0 0 r) [G (wd matTab m)] (m.toNat, 0) NoTag := by
 refine ⟨fun r hr _ => ?_, fun k hk _ => ?_⟩
 ·show tagsP (r.length + 1) 6 0 0 (G (wd matTab m) :: r) = _
  rw [tags_mat r h, tags_none hr]
 ·obtain rfl : k = 0 := by simp at hk; omega
  exact .inr ⟨_, rfl⟩
theorem tags_lo2 {m p : Int} (h : 1 ≤ m ∧ m ≤ 3) (hp : 1 ≤ p ∧ p ≤ 3) {k : Nat} (hk6 : k ≠ 6) (n : Nat) : Lo n (fun r => tagsP r.length k 0 0 r) [G (wd parTab p), G (wd matTab m)] (m.toNat, p.toNat) NoTag := by
 refine ⟨fun r hr _ => ?_, fun j hj _ => ?_⟩
 ·show tagsP (r.length + 1 + 1) k 0 0 (G (wd parTab p) :: G (wd matTab m) :: r) = _
  rw [tags_par _ hp hk6, tags_mat r h, tags_none hr]
 ·have : j = 0 ∨ j = 1 := by simp at hj; omega
  rcases this with rfl | rfl
  ·exact .inr ⟨_, rfl⟩
  ·refine .inr ⟨(0, p.toNat), ?_⟩
   show tagsP 1 k 0 0 (G (wd parTab p) :: []) = _
   rw [tags_par _ hp hk6]; rfl
theorem listT_noTag (ns : List Str) (r : List Tok) : NoTag (listT ns ++ r) := by
 match ns with
 | [] => show (5 : Int) ≠ 2; decide
 | [s] => show (4 : Int) ≠ 2; decide
 | s :: s2 :: l => show (5 : Int) ≠ 2; decide
theorem noTag_take {x : List Tok} (h : NoTag x) (j : Nat) : NoTag (x.take j) := by
 cases x with
 | nil => rw [List.take_nil]; trivial
 | cons t x => cases j with
  | zero => trivial
  | succ j => exact h
def ctms (l : List (List Tok)) : List Tok := l.flatMap fun y => M 44 :: y
theorem moreT_back {f : List Tok → PR Tst} {n : Nat} : ∀ (l : List Tst) (m : Nat) (r : List Tok), (∀ t ∈ l, Rd n f (wT t) t Any) → l.length ≤ m → eatP 44 r = none → (ctms (l.map wT) ++ r).length ≤ n → moreT f m (ctms (l.map wT) ++ r) = .ok (l, r)
 | [], 0, r, _, _, _, _ => rfl
 | [], m + 1, r, _, _, h, _ => by rw [show ctms (([] : List Tst).map wT) ++ r = r from rfl, moreT, h]
 | t :: l, 0, r, _, h, _, _ => by simp at h
 | t :: l, m + 1, r, hf, h, h2, hn => by
  have e : ctms ((t :: l).map wT) ++ r = M 44 :: (wT t ++ (ctms (l.map wT) ++ r)) := by simp [ctms]
  rw [e] at hn ⊢
  rw [moreT, eat_same]
  show bnd (f (wT t ++ (ctms (l.map wT) ++ r))) _ = _
  rw [(hf t (List.mem_cons_self ..)).back _ trivial (by simp at hn ⊢; omega), bnd_ok, moreT_back l m r (fun t ht => hf t (List.mem_cons_of_mem _ ht)) (by simpa using h) h2 (by simp at hn ⊢; omega)]
  rfl
theorem moreT_torn {f : List Tok → PR Tst} {n : Nat} : ∀ (l : List Tst) (m k : Nat), (∀ t ∈ l, Rd n f (wT t) t Any) → k ≤ (ctms (l.map wT)).length → k ≤ m → k ≤ n → TornOr (moreT f m ((ctms (l.map wT)).take k))
 | l, 0, k, _, _, h, _ => by obtain rfl : k = 0 := by omega
                             exact .inr ⟨[], rfl⟩
 | [], m + 1, k, _, _, _, _ => .inr ⟨[], by rw [show ctms (([] : List Tst).map wT) = [] from rfl, List.take_nil, moreT]; rfl⟩
 | t :: l, m + 1, 0, _, _, _, _ => .inr ⟨[], by rw [List.take_zero, moreT]; rfl⟩
 | t :: l, m + 1, k + 1, hf, h, h2, hn => by
  have e : ctms ((t :: l).map wT) = M 44 :: (wT t ++ ctms (l.map wT)) := by simp [ctms]
  rw [e] at h ⊢
  rw [List.take_succ_cons, moreT, eat_same]
  show TornOr (bnd (f ((wT t ++ ctms (l.map wT)).take k)) _)
  have hf0 := hf t (List.mem_cons_self ..)
  rw [List.take_append]
  by_cases hk : k < (wT t).length
  ·rw [show k - (wT t).length = 0 by omega, List.take_zero, List.append_nil, hf0.torn k hk (by omega)]
   exact .inl rfl
  ·rw [List.take_of_length_le (by omega : (wT t).length ≤ k), hf0.back _ trivial (by rw [List.length_append, List.length_take]; omega), bnd_ok]
   rcases moreT_torn l m (k - (wT t).length) (fun t ht => hf t (List.mem_cons_of_mem _ ht)) (by simp at h; omega) (by omega) (by omega) with e | ⟨v, e⟩
   ·rw [e]; exact .inl rfl
   ·rw [e]; exact .inr ⟨_, rfl⟩
theorem ctms_len (l : List Tst) : l.length ≤ (ctms (l.map wT)).length := by
 induction l with
 | nil => exact Nat.le_refl _
 | cons s l ih =>
  have e : ctms ((s :: l).map wT) = M 44 :: (wT s ++ ctms (l.map wT)) := by simp [ctms]
  rw [e]; simp; omega
theorem moreT_lo {f : List Tok → PR Tst} {n : Nat} (l : List Tst) (hf : ∀ t ∈ l, Rd n f (wT t) t Any) : Lo n (fun r => moreT f r.length r) (ctms (l.map wT)) l (fun r => eatP 44 r = none) :=
 ⟨fun r hr hl => moreT_back l _ r hf (by have := ctms_len l; simp; omega) hr (by omega), fun k hk hn => moreT_torn l _ k hf (by omega) (by rw [List.length_take]; omega) (by omega)⟩
theorem tst_idx {k : Int} (h : 1 ≤ k ∧ k ≤ 10) : idxW tstTab (wd tstTab k) = k.toNat := by
 have : k = 1 ∨ k = 2 ∨ k = 3 ∨ k = 4 ∨ k = 5 ∨ k = 6 ∨ k = 7 ∨ k = 8 ∨ k = 9 ∨ k = 10 := by omega
 rcases this with rfl | rfl | rfl | rfl | rfl | rfl | rfl | rfl | rfl | rfl <;> decide
theorem cmd_idx {k : Int} (h : 1 ≤ k ∧ k ≤ 10) : idxW cmdTab (wd cmdTab k) = k.toNat := by
 have : k = 1 ∨ k = 2 ∨ k = 3 ∨ k = 4 ∨ k = 5 ∨ k = 6 ∨ k = 7 ∨ k = 8 ∨ k = 9 ∨ k = 10 := by omega
 rcases this with rfl | rfl | rfl | rfl | rfl | rfl | rfl | rfl | rfl | rfl <;> decide
theorem len0 {α : Type} {l : List α} (h : l.length = 0) : l = [] := List.eq_nil_of_length_eq_zero h
theorem testK_rd {f : List Tok → PR Tst} {n : Nat} {t : Tst} (hF : FormT t) (hf : ∀ s ∈ t.tests, Rd n f (wT s) s Any) : Rd n (testK f t.kind.toNat) (bodyT t.kind t.mat t.part t.names t.keys t.over t.limit (t.tests.map wT)) t Any := by
 have h1 := hF.one
 obtain ⟨k, m, p, ns, ks, o, l, ts⟩ := t
 simp only at h1 hf ⊢
 rcases h1 with ⟨hk, rfl, rfl, h4, h5, rfl, rfl, h8⟩ | ⟨rfl, rfl, rfl, h4, h5, rfl, rfl, h8⟩ | ⟨hk, rfl, rfl, h4, h5, rfl, rfl, h8⟩ | ⟨rfl, hm, rfl, h4, h5, rfl, rfl, h8⟩ | ⟨hk, hm, hp, h4, h5, rfl, rfl, h8⟩ | ⟨rfl, rfl, rfl, h4, h5, rfl, rfl, h8⟩ | ⟨rfl, rfl, rfl, h4, h5, hl, h8⟩
 ·obtain rfl := len0 h4; obtain rfl := len0 h5; obtain rfl := len0 h8
  rcases hk with rfl | rfl <;> exact Rd.done n _ Any
 ·obtain rfl := len0 h4; obtain rfl := len0 h5
  obtain ⟨s, rfl⟩ := List.length_eq_one_iff.1 h8
  have h := (hf s (List.mem_singleton_self _)).fin fun t => (⟨3, 0, 0, [], [], false, 0, [t]⟩ : Tst)
  have e : bodyT 3 0 0 [] [] false 0 ([s].map wT) = wT s := by simp [bodyT]
  rw [e]; exact h
 ·obtain rfl := len0 h4; obtain rfl := len0 h5
  cases ts with
  | nil => simp at h8
  | cons s ts =>
   have e : bodyT k 0 0 [] [] false 0 ((s :: ts).map wT) = [M 40] ++ (wT s ++ (ctms (ts.map wT) ++ [M 41])) := by
    unfold bodyT; rw [if_neg (by omega), if_pos hk]; simp [seqT, ctms]
   rw [e]
   have hkk : ((k.toNat : Nat) : Int) = k := by omega
   have h := (must_rd 40 n).then (n' := n) (g := fun _ r => bnd (f r) fun t r => bnd (moreT f r.length r) fun ts r => bnd (mustP 41 r) fun _ r => .ok ((⟨k.toNat, 0, 0, [], [], false, 0, t :: ts⟩ : Tst), r))
    ((hf s (List.mem_cons_self ..)).then (n' := n) (g := fun t r => bnd (moreT f r.length r) fun ts r => bnd (mustP 41 r) fun _ r => .ok ((⟨k.toNat, 0, 0, [], [], false, 0, t :: ts⟩ : Tst), r))
     ((moreT_lo ts (fun t ht => hf t (List.mem_cons_of_mem _ ht))).comb (n' := n) (g := fun ts r => bnd (mustP 41 r) fun _ r => .ok ((⟨k.toNat, 0, 0, [], [], false, 0, s :: ts⟩ : Tst), r)) ((must_rd 41 n).fin fun _ => (⟨k.toNat, 0, 0, [], [], false, 0, s :: ts⟩ : Tst)) (by omega) (fun _ => rfl) (fun r _ => close_any 41 (by decide) r) (fun j _ => close_take 41 (by decide) [] j)) (by omega)) (by omega)
   rw [hkk] at h
   have e2 : testK f k.toNat = fun r => bnd (mustP 40 r) fun _ r => bnd (f r) fun t r => bnd (moreT f r.length r) fun ts r => bnd (mustP 41 r) fun _ r => .ok ((⟨k, 0, 0, [], [], false, 0, t :: ts⟩ : Tst), r) := by
    funext r; unfold testK; rw [if_neg (by omega), if_pos (by omega), hkk]
   rw [e2]; exact h
 ·obtain rfl := len0 h8
  have h := (tags_lo1 hm n).comb (n' := n) (g := fun mp r => bnd (listP r) fun ns r => bnd (listP r) fun ks r => .ok ((⟨6, dfl mp.1, 0, ns, ks, false, 0, []⟩ : Tst), r)) ((list_rd ns h4 n).then (n' := n) (g := fun ns r => bnd (listP r) fun ks r => .ok ((⟨6, dfl m.toNat, 0, ns, ks, false, 0, []⟩ : Tst), r)) ((list_rd ks h5 n).fin fun ks => (⟨6, dfl m.toNat, 0, ns, ks, false, 0, []⟩ : Tst)) (by omega)) (by omega) (fun _ => rfl) (fun r _ => by rw [List.append_assoc]; exact listT_noTag _ _) (fun j _ => noTag_take (listT_noTag _ _) j)
  rw [dfl_of hm] at h
  exact h
 ·obtain rfl := len0 h8
  have hkk : ((k.toNat : Nat) : Int) = k := by omega
  have h := (tags_lo2 hm hp (k := k.toNat) (by omega) n).comb (n' := n) (g := fun mp r => bnd (listP r) fun ns r => bnd (listP r) fun ks r => .ok ((⟨k.toNat, dfl mp.1, dfl mp.2, ns, ks, false, 0, []⟩ : Tst), r)) ((list_rd ns h4 n).then (n' := n) (g := fun ns r => bnd (listP r) fun ks r => .ok ((⟨k.toNat, dfl m.toNat, dfl p.toNat, ns, ks, false, 0, []⟩ : Tst), r)) ((list_rd ks h5 n).fin fun ks => (⟨k.toNat, dfl m.toNat, dfl p.toNat, ns, ks, false, 0, []⟩ : Tst)) (by omega)) (by omega) (fun _ => rfl) (fun r _ => by rw [List.append_assoc]; exact listT_noTag _ _) (fun j _ => noTag_take (listT_noTag _ _) j)
  rw [dfl_of hm, dfl_of hp, hkk] at h
  have e : bodyT k m p ns ks false 0 (([] : List Tst).map wT) = [G (wd parTab p), G (wd matTab m)] ++ (listT ns ++ listT ks) := by
   unfold bodyT; rw [if_neg (by omega), if_neg (by omega), if_neg (by omega), if_pos hk]; rfl
  have e2 : testK f k.toNat = fun r => bnd (tagsP r.length k.toNat 0 0 r) fun mp r => bnd (listP r) fun ns r => bnd (listP r) fun ks r => .ok ((⟨k, dfl mp.1, dfl mp.2, ns, ks, false, 0, []⟩ : Tst), r) := by
   funext r; unfold testK; rw [if_neg (by omega), if_neg (by omega), if_pos (by omega)]
   simp only [if_neg (by omega : ¬ k.toNat = 6), hkk]
  rw [e, e2]; exact h
 ·obtain rfl := len0 h5; obtain rfl := len0 h8
  exact (list_rd ns h4 n).fin fun ns => (⟨9, 0, 0, ns, [], false, 0, []⟩ : Tst)
 ·obtain rfl := len0 h4; obtain rfl := len0 h5; obtain rfl := len0 h8
  show Rd n (testK f 10) [G (if o = true then overW else underW), N l] _ Any
  have e2 : testK f 10 = fun r => (if isP 2 overW r = true ∨ isP 2 underW r = true then bnd (nextP 3 r.tail) fun t r' => .ok ((⟨10, 0, 0, [], [], isP 2 overW r, t.num, []⟩ : Tst), r') else giveP r 3) := rfl
  rw [e2]
  have hi : ∀ r, isP 2 overW (G (if o = true then overW else underW) :: r) = o ∧ (isP 2 overW (G (if o = true then overW else underW) :: r) = true ∨ isP 2 underW (G (if o = true then overW else underW) :: r) = true) := by
   intro r
   cases o <;> exact ⟨rfl, by simp [isP, G, overW, underW]⟩
  refine ⟨fun r _ _ => ?_, fun j hj _ => ?_⟩
  ·show (if isP 2 overW (G (if o = true then overW else underW) :: (N l :: r)) = true ∨ isP 2 underW (G (if o = true then overW else underW) :: (N l :: r)) = true then _ else _) = _
   rw [if_pos (hi _).2]
   show bnd (nextP 3 (N l :: r)) _ = _
   rw [next_N, bnd_ok, show isP 2 overW ([G (if o = true then overW else underW), N l] ++ r) = o from (hi _).1]
   rfl
  ·have : j = 0 ∨ j = 1 := by simp at hj; omega
   rcases this with rfl | rfl
   ·rfl
   ·show (if isP 2 overW (G (if o = true then overW else underW) :: []) = true ∨ isP 2 underW (G (if o = true then overW else underW) :: []) = true then _ else _) = _
    rw [if_pos (hi _).2]; rfl
theorem test_rd : ∀ (n d : Nat) (t : Tst), FormT t → fitT d t = true → Rd n (testP n d) (wT t) t Any
 | 0, d, t, _, _ => ⟨fun r _ h => absurd h (Nat.not_lt_zero _), fun k _ h => absurd h (Nat.not_lt_zero _)⟩
 | n + 1, d, t, hF, hd => by
  rw [fitT_eq, Bool.and_eq_true, decide_eq_true_eq, List.all_eq_true] at hd
  have e : testP (n + 1) d = fun l => bnd (wordP tstTab l) (testK (testP n (d + 1))) := by
   funext l; rw [testP, if_neg (by omega)]
  have hk := hF.one.kind
  have hi := tst_idx hk
  rw [e, wT_eq]
  have hw := word_rd tstTab (wd tstTab t.kind) (n + 1) (by omega)
  rw [hi] at hw
  exact hw.then (n' := n) (testK_rd hF fun s hs => test_rd n (d + 1) s (hF.all s hs) (hd.2 s hs)) (by simp)
def NoElse (r : List Tok) : Prop := isP 1 elsifW r = false ∧ isP 1 elseW r = false
theorem noElse_nil : NoElse [] := ⟨rfl, rfl⟩
theorem noElse_M (c : UInt8) (r : List Tok) : NoElse (M c :: r) := ⟨rfl, rfl⟩
theorem noElse_wC {c : Cmd} (h : FormC c) (r : List Tok) : NoElse (wC c ++ r) := by
 have hk := h.kind
 have key : ∀ x, NoElse (W (wd cmdTab c.kind) :: x) := by
  intro x
  have h1 : wd cmdTab c.kind ≠ elsifW ∧ wd cmdTab c.kind ≠ elseW := by
   generalize c.kind = k at hk
   have : k = 1 ∨ k = 2 ∨ k = 3 ∨ k = 4 ∨ k = 5 ∨ k = 6 ∨ k = 7 ∨ k = 8 ∨ k = 9 ∨ k = 10 := by omega
   rcases this with rfl | rfl | rfl | rfl | rfl | rfl | rfl | rfl | rfl | rfl <;> decide
  exact ⟨by simp [isP, W, h1.1], by simp [isP, W, h1.2]⟩
 by_cases h2 : c.kind = 2
 ·rw [wC_if h2]; rw [← h2]; exact key _
 ·rw [wC_else h2]; exact key _
theorem noElse_take {x : List Tok} (h : NoElse x) (j : Nat) : NoElse (x.take j) := by
 cases x with
 | nil => rw [List.take_nil]; exact noElse_nil
 | cons t x => cases j with
  | zero => exact noElse_nil
  | succ j => exact h
theorem wC_pos (c : Cmd) : 0 < (wC c).length := by
 obtain ⟨k, tx, t, th, el⟩ := c; rw [wC]; simp
theorem app_ne (c : Cmd) (r : List Tok) : wC c ++ r ≠ [] := by
 intro h; have h1 := congrArg List.length h; have := wC_pos c; rw [List.length_append, List.length_nil] at h1; omega
theorem flat_noElse {cs : List Cmd} (hF : ∀ c ∈ cs, FormC c) {r : List Tok} (hr : NoElse r) : NoElse (cs.flatMap wC ++ r) := by
 cases cs with
 | nil => exact hr
 | cons c cs => rw [List.flatMap_cons, List.append_assoc]; exact noElse_wC (hF c (List.mem_cons_self ..)) _
theorem flat_take {cs : List Cmd} (hF : ∀ c ∈ cs, FormC c) (j : Nat) : NoElse ((cs.flatMap wC).take j) := by
 have := flat_noElse hF noElse_nil
 rw [List.append_nil] at this
 exact noElse_take this j
theorem command_nil (n d : Nat) : commandP n d [] = .error (0, 4) := by
 cases n with
 | zero => rfl
 | succ n => rw [commandP, if_neg (by simp)]; rfl
theorem cmds_back {f : List Tok → PR Cmd} {n : Nat} (r : List Tok) : ∀ (cs : List Cmd) (m : Nat), (∀ c ∈ cs, FormC c) → (∀ c ∈ cs, Lo n f (wC c) c NoElse) → cs.length < m → (cs.flatMap wC ++ M 125 :: r).length < n → cmdsP f m (cs.flatMap wC ++ M 125 :: r) = .ok (cs, r)
 | [], 0, _, _, h, _ => by simp at h
 | [], m + 1, _, _, _, _ => by rw [show ([] : List Cmd).flatMap wC ++ M 125 :: r = M 125 :: r from rfl, cmdsP, eat_same]
 | c :: cs, 0, _, _, h, _ => by simp at h
 | c :: cs, m + 1, hF, hf, h, hn => by
  have e : (c :: cs).flatMap wC ++ M 125 :: r = wC c ++ (cs.flatMap wC ++ M 125 :: r) := by simp
  have hne : eatP 125 (wC c ++ (cs.flatMap wC ++ M 125 :: r)) = none := by
   by_cases h2 : c.kind = 2
   ·rw [wC_if h2]; rfl
   ·rw [wC_else h2]; rfl
  rw [e] at hn ⊢
  rw [cmdsP, hne]
  show bnd (f (wC c ++ _)) _ = _
  rw [(hf c (List.mem_cons_self ..)).back _ (flat_noElse (fun c hc => hF c (List.mem_cons_of_mem _ hc)) (noElse_M 125 r)) hn, bnd_ok,
   cmds_back r cs m (fun c hc => hF c (List.mem_cons_of_mem _ hc)) (fun c hc => hf c (List.mem_cons_of_mem _ hc)) (by simpa using h) (by have := wC_pos c; simp at hn ⊢; omega)]
  rfl
theorem cmds_torn {f : List Tok → PR Cmd} {n : Nat} (h0 : f [] = .error (0, 4)) : ∀ (cs : List Cmd) (m k : Nat), (∀ c ∈ cs, FormC c) → (∀ c ∈ cs, Lo n f (wC c) c NoElse) → k ≤ (cs.flatMap wC).length → k < m → k < n → cmdsP f m ((cs.flatMap wC).take k) = .error (0, 4)
 | cs, 0, k, _, _, _, h, _ => by omega
 | [], m + 1, k, _, _, _, _, _ => by rw [show ([] : List Cmd).flatMap wC = [] from rfl, List.take_nil, cmdsP]; show bnd (f []) _ = _; rw [h0]; rfl
 | c :: cs, m + 1, 0, _, _, _, _, _ => by rw [List.take_zero, cmdsP]; show bnd (f []) _ = _; rw [h0]; rfl
 | c :: cs, m + 1, k + 1, hF, hf, h, h2, hn => by
  have hp := wC_pos c
  rw [List.flatMap_cons] at h ⊢
  have hlo := hf c (List.mem_cons_self ..)
  have hF' : ∀ c ∈ cs, FormC c := fun c hc => hF c (List.mem_cons_of_mem _ hc)
  have hne : eatP 125 ((wC c ++ cs.flatMap wC).take (k + 1)) = none := by
   by_cases h2 : c.kind = 2
   ·rw [wC_if h2]; rfl
   ·rw [wC_else h2]; rfl
  rw [cmdsP, hne]
  show bnd (f ((wC c ++ cs.flatMap wC).take (k + 1))) _ = _
  have h1 : cmdsP f m [] = .error (0, 4) := by
   cases m with
   | zero => rfl
   | succ m => rw [cmdsP]; show bnd (f []) _ = _; rw [h0]; rfl
  rw [List.take_append]
  by_cases hk : k + 1 < (wC c).length
  ·rw [show k + 1 - (wC c).length = 0 by omega, List.take_zero, List.append_nil]
   rcases hlo.torn (k + 1) hk hn with e | ⟨v, e⟩
   ·rw [e]; rfl
   ·rw [e, bnd_ok, h1]; rfl
  ·rw [List.take_of_length_le (by omega : (wC c).length ≤ k + 1), hlo.back _ (flat_take hF' _) (by rw [List.length_append, List.length_take]; omega), bnd_ok,
    cmds_torn h0 cs m (k + 1 - (wC c).length) hF' (fun c hc => hf c (List.mem_cons_of_mem _ hc)) (by rw [List.length_append] at h; omega) (by omega) (by omega)]
   rfl
theorem flat_len (cs : List Cmd) : cs.length ≤ (cs.flatMap wC).length := by
 induction cs with
 | nil => exact Nat.le_refl _
 | cons c cs ih => have := wC_pos c; rw [List.flatMap_cons, List.length_append, List.length_cons]; omega
theorem block_rd {f : List Tok → PR Cmd} {n : Nat} (h0 : f [] = .error (0, 4)) (cs : List Cmd) (hF : ∀ c ∈ cs, FormC c) (hf : ∀ c ∈ cs, Lo n f (wC c) c NoElse) : Rd n (blockP f) (blkT (cs.flatMap wC)) cs Any := by
 have h1 : Rd n (fun r => cmdsP f (r.length + 1) r) (cs.flatMap wC ++ [M 125]) cs Any := by
  refine ⟨fun r _ hl => ?_, fun k hk hn => ?_⟩
  ·have e : cs.flatMap wC ++ [M 125] ++ r = cs.flatMap wC ++ M 125 :: r := by simp
   rw [e] at hl ⊢
   exact cmds_back r cs _ hF hf (by have := flat_len cs; rw [List.length_append, List.length_cons]; omega) hl
  ·have hk' : k ≤ (cs.flatMap wC).length := by rw [List.length_append] at hk; have : [M 125].length = 1 := rfl; omega
   rw [List.take_append, show k - (cs.flatMap wC).length = 0 by omega, List.take_zero, List.append_nil]
   exact cmds_torn h0 cs _ k hF hf hk' (by rw [List.length_take]; omega) hn
 exact (must_rd 123 n).then (n' := n) (g := fun _ r => cmdsP f (r.length + 1) r) h1 (by omega)
theorem Rd.combL {α β : Type} {n n' : Nat} {f : List Tok → PR α} {g : α → List Tok → PR β} {x y : List Tok} {v : α} {u : β} {C' : List Tok → Prop} (h : Rd n f x v Any) (hg : Lo n' (g v) y u C') (hn : n ≤ n' + x.length) :
    Lo n (fun l => bnd (f l) g) (x ++ y) u C' := by
 refine ⟨fun r hr hl => ?_, fun k hk hkn => ?_⟩
 ·show bnd (f (x ++ y ++ r)) g = _
  have hl' : x.length + (y.length + r.length) < n := by simpa [Nat.add_assoc] using hl
  rw [List.append_assoc, h.back (y ++ r) trivial (by simp; omega), bnd_ok]
  exact hg.back r hr (by simp; omega)
 ·show TornOr (bnd (f ((x ++ y).take k)) g)
  rw [List.length_append] at hk
  rw [List.take_append]
  by_cases hkx : k < x.length
  ·rw [show k - x.length = 0 by omega, List.take_zero, List.append_nil, h.torn k hkx hkn]; exact .inl rfl
  ·rw [List.take_of_length_le (by omega : x.length ≤ k), h.back _ trivial (by rw [List.length_append, List.length_take]; omega), bnd_ok]
   exact hg.torn _ (by omega) (by omega)
theorem TornOr.bnd {α β : Type} {x : PR α} (h : TornOr x) (u : α → β) : TornOr (bnd x fun a r => .ok (u a, r)) := by
 rcases h with e | ⟨v, e⟩
 ·rw [e]; exact .inl rfl
 ·rw [e]; exact .inr ⟨_, rfl⟩
theorem isElsif_cons {el : List Cmd} (h : isElsif el = true) : ∃ c, el = [c] ∧ c.kind = 2 := by
 match el, h with
 | [c], h => exact ⟨c, rfl, by simpa [isElsif] using h⟩
theorem else_lo {f b : List Tok → PR Cmd} {n : Nat} {t : Tst} {th el : List Cmd} (h0 : f [] = .error (0, 4)) (hF : ∀ c ∈ el, FormC c) (hf : isElsif el = false → ∀ c ∈ el, Lo n f (wC c) c NoElse) (hb : isElsif el = true → ∀ c ∈ el, Lo n b (wBr c) c NoElse) :
    Lo n (elseK f b t th) (elseT el (el.flatMap wC) (el.map wBr)) ⟨2, [], t, th, el⟩ NoElse := by
 unfold elseT
 by_cases he : isElsif el = true
 ·rw [if_pos he]
  obtain ⟨c, rfl, hc⟩ := isElsif_cons he
  have hlo := hb he c (List.mem_singleton_self _)
  have e1 : ([c].map wBr).flatten = wBr c := by simp
  rw [e1]
  refine ⟨fun r hr hl => ?_, fun k hk hkn => ?_⟩
  ·show elseK f b t th (W elsifW :: (wBr c ++ r)) = _
   unfold elseK
   rw [if_pos (show isP 1 elsifW (W elsifW :: (wBr c ++ r)) = true from rfl)]
   show bnd (b (wBr c ++ r)) _ = _
   rw [hlo.back r hr (by simp at hl ⊢; omega)]; rfl
  ·cases k with
   | zero => exact .inr ⟨_, rfl⟩
   | succ k =>
    rw [List.take_succ_cons]
    unfold elseK
    rw [if_pos (show isP 1 elsifW (W elsifW :: (wBr c).take k) = true from rfl)]
    show TornOr (bnd (b ((wBr c).take k)) _)
    exact (hlo.torn k (by simpa using hk) (by omega)).bnd fun c => (⟨2, [], t, th, [c]⟩ : Cmd)
 ·rw [if_neg he]
  have he' : isElsif el = false := by simpa using he
  by_cases h1 : el = []
  ·subst h1
   rw [if_pos rfl]
   refine ⟨fun r hr _ => ?_, fun k hk _ => absurd hk (Nat.not_lt_zero k)⟩
   show elseK f b t th r = _
   unfold elseK
   rw [if_neg (by rw [hr.1]; simp), if_neg (by rw [hr.2]; simp)]
  ·rw [if_neg h1]
   have hbl := block_rd h0 el hF (hf he')
   refine ⟨fun r hr hl => ?_, fun k hk hkn => ?_⟩
   ·show elseK f b t th (W elseW :: (blkT (el.flatMap wC) ++ r)) = _
    unfold elseK
    rw [if_neg (show ¬ isP 1 elsifW (W elseW :: _) = true from by simp [isP, W, elsifW, elseW]), if_pos (show isP 1 elseW (W elseW :: _) = true from rfl)]
    show bnd (blockP f (blkT (el.flatMap wC) ++ r)) _ = _
    rw [hbl.back r trivial (by simp at hl ⊢; omega)]; rfl
   ·cases k with
    | zero => exact .inr ⟨_, rfl⟩
    | succ k =>
     rw [List.take_succ_cons]
     unfold elseK
     rw [if_neg (show ¬ isP 1 elsifW (W elseW :: _) = true from by simp [isP, W, elsifW, elseW]), if_pos (show isP 1 elseW (W elseW :: _) = true from rfl)]
     show TornOr (bnd (blockP f ((blkT (el.flatMap wC)).take k)) _)
     rw [hbl.torn k (by simpa using hk) (by omega)]
     exact .inl rfl
theorem test_any_rd (t : Tst) (hF : FormT t) (hd : fitT 1 t = true) (n : Nat) : Rd n (fun l => testP (l.length + 1) 1 l) (wT t) t Any :=
 ⟨fun r _ _ => (test_rd _ 1 t hF hd).back r trivial (by omega), fun k hk _ => (test_rd _ 1 t hF hd).torn k hk (by rw [List.length_take]; omega)⟩
theorem wT_pos (t : Tst) : 0 < (wT t).length := by rw [wT_eq]; simp
theorem branch_rd_of {n d : Nat} {c : Cmd} (hF : FormC c) (h2 : c.kind = 2) (hd : fitC d c = true)
    (hc : ∀ x, FormC x → fitC (d + 1) x = true → Lo n (commandP n (d + 1)) (wC x) x NoElse) (hb : ∀ x, FormC x → x.kind = 2 → fitC d x = true → Lo n (branchP n d) (wBr x) x NoElse) : Lo (n + 1) (branchP (n + 1) d) (wBr c) c NoElse := by
 obtain ⟨h3, h4⟩ := (FormC.iff c).1 hF
 rcases h4 with ⟨-, hT, hth, hel⟩ | ⟨h, -⟩
 ·rw [fitC_eq, if_pos h2, Bool.and_eq_true, Bool.and_eq_true, Bool.and_eq_true, decide_eq_true_eq] at hd
  obtain ⟨hd6, ⟨hdt, hdth⟩, hdel⟩ := hd
  rw [List.all_eq_true] at hdth
  have e : branchP (n + 1) d = fun l => bnd (testP (l.length + 1) 1 l) fun t r => bnd (blockP (commandP n (d + 1)) r) (elseK (commandP n (d + 1)) (branchP n d) t) := by
   funext l; rw [branchP]
  obtain ⟨k, tx, t, th, el⟩ := c
  obtain rfl : k = 2 := h2
  have h3' : Form2 2 tx.length := h3
  have htx : tx = [] := by unfold Form2 at h3'; exact len0 (by omega)
  subst htx
  rw [e, wBr_eq]
  have h0 := command_nil n (d + 1)
  have hblk := block_rd h0 th hth fun c hcm => hc c (hth c hcm) (hdth c hcm)
  have hel' := else_lo (t := t) (th := th) (el := el) (b := branchP n d) h0 hel (fun he c hcm => by
      rw [if_neg (by rw [he]; simp), List.all_eq_true] at hdel; exact hc c (hel c hcm) (hdel c hcm)) (fun he c hcm => by
      rw [if_pos he, List.all_eq_true] at hdel
      obtain ⟨c', rfl, hk⟩ := isElsif_cons he
      obtain rfl := List.mem_singleton.1 hcm
      exact hb _ (hel _ hcm) hk (hdel _ hcm))
  have hpos := wT_pos t
  exact (test_any_rd t hT hdt (n + 1)).combL (n' := n) (g := fun t r => bnd (blockP (commandP n (d + 1)) r) (elseK (commandP n (d + 1)) (branchP n d) t)) (hblk.combL (n' := n) hel' (by omega)) (by show n + 1 ≤ n + (wT t).length; omega)
 ·exact absurd h2 h
theorem both_lo : ∀ (n d : Nat) (c : Cmd), FormC c → fitC d c = true → Lo n (commandP n d) (wC c) c NoElse ∧ (c.kind = 2 → Lo n (branchP n d) (wBr c) c NoElse)
 | 0, d, c, _, _ => ⟨⟨fun r _ h => absurd h (Nat.not_lt_zero _), fun k _ h => absurd h (Nat.not_lt_zero _)⟩, fun _ => ⟨fun r _ h => absurd h (Nat.not_lt_zero _), fun k _ h => absurd h (Nat.not_lt_zero _)⟩⟩
 | n + 1, d, c, hF, hd => by
  have hbr : c.kind = 2 → ∀ d, fitC d c = true → Lo (n + 1) (branchP (n + 1) d) (wBr c) c NoElse := fun h2 d hd =>
   branch_rd_of hF h2 hd (fun x hx hdx => (both_lo n (d + 1) x hx hdx).1) (fun x hx h2x hdx => (both_lo n d x hx hdx).2 h2x)
  refine ⟨?_, fun h2 => hbr h2 d hd⟩
  have hd6 : d ≤ 6 := by rw [fitC_eq, Bool.and_eq_true, decide_eq_true_eq] at hd; exact hd.1
  have e : commandP (n + 1) d = fun l => bnd (wordP cmdTab l) (cmdK (branchP n d)) := by
   funext l; rw [commandP, if_neg (by omega)]
  have hk := hF.kind
  have hi := cmd_idx hk
  have hw := word_rd cmdTab (wd cmdTab c.kind) (n + 1) (by omega)
  rw [hi] at hw
  rw [e]
  by_cases h2 : c.kind = 2
  ·rw [wC_if h2, ← h2]
   refine hw.combL (n' := n) ?_ (by simp)
   have e2 : cmdK (branchP n d) c.kind.toNat = branchP n d := by funext r; unfold cmdK; rw [if_pos (by omega)]
   rw [e2]
   exact (both_lo n d c hF hd).2 h2
  ·rw [wC_else h2]
   refine hw.combL (n' := n) (Rd.lo ?_) (by simp)
   obtain ⟨h3, h4⟩ := (FormC.iff c).1 hF
   rcases h4 with ⟨h, -⟩ | ⟨-, ht, hth, hel⟩
   ·exact absurd h h2
   ·obtain ⟨k, tx, t, th, el⟩ := c
    simp only at *
    subst ht hth hel
    have hkk : ((k.toNat : Nat) : Int) = k := by omega
    rcases h3 with ⟨hk1, hn⟩ | ⟨hk1, hn⟩ | ⟨hk1, hn⟩
    ·have e2 : cmdK (branchP n d) k.toNat = fun r => bnd (listP r) fun ts r => bnd (mustP 59 r) fun _ r => .ok ((⟨k, ts, T0, [], []⟩ : Cmd), r) := by
      funext r; unfold cmdK; rw [if_neg (by omega), if_pos (by omega), hkk]
     have hne : tx ≠ [] := by intro e; subst e; simp at hn
     rw [e2, if_neg hne]
     exact ((list_rd tx hn n).then (n' := n) (g := fun ts r => bnd (mustP 59 r) fun _ r => .ok ((⟨k, ts, T0, [], []⟩ : Cmd), r)) ((must_rd 59 n).fin fun _ => (⟨k, tx, T0, [], []⟩ : Cmd)) (by omega)).comb (g := fun v r => .ok (v, r)) (Rd.done (n := n) _ NoElse) (by omega) (fun _ _ => trivial) (fun _ _ => trivial) |> (fun h => by
      have e3 : (fun l => bnd (bnd (listP l) fun ts r => bnd (mustP 59 r) fun _ r => .ok ((⟨k, ts, T0, [], []⟩ : Cmd), r)) fun v r => .ok (v, r)) = fun l => bnd (listP l) fun ts r => bnd (mustP 59 r) fun _ r => .ok ((⟨k, ts, T0, [], []⟩ : Cmd), r) := by
       funext l
       cases bnd (listP l) fun ts r => bnd (mustP 59 r) fun _ r => .ok ((⟨k, ts, T0, [], []⟩ : Cmd), r) <;> rfl
      rw [e3, List.append_nil] at h
      exact h)
    ·obtain ⟨s, rfl⟩ := List.length_eq_one_iff.1 hn
     have e2 : cmdK (branchP n d) k.toNat = fun r => bnd (nextP 4 r) fun t r => bnd (mustP 59 r) fun _ r => .ok ((⟨k, [t.text], T0, [], []⟩ : Cmd), r) := by
      funext r; unfold cmdK; rw [if_neg (by omega), if_neg (by omega), if_pos (by omega), hkk]
     rw [e2, if_neg (by simp)]
     refine ⟨fun r _ hl => ?_, fun j hj hjn => ?_⟩
     ·exact ((next_rd (S s) n).then (n' := n) (g := fun t r => bnd (mustP 59 r) fun _ r => .ok ((⟨k, [t.text], T0, [], []⟩ : Cmd), r)) ((must_rd 59 n).fin fun _ => (⟨k, [s], T0, [], []⟩ : Cmd)) (by omega)).back r trivial hl
     ·exact ((next_rd (S s) n).then (n' := n) (g := fun t r => bnd (mustP 59 r) fun _ r => .ok ((⟨k, [t.text], T0, [], []⟩ : Cmd), r)) ((must_rd 59 n).fin fun _ => (⟨k, [s], T0, [], []⟩ : Cmd)) (by omega)).torn j hj hjn
    ·obtain rfl := len0 hn
     have e2 : cmdK (branchP n d) k.toNat = fun r => bnd (mustP 59 r) fun _ r => .ok ((⟨k, [], T0, [], []⟩ : Cmd), r) := by
      funext r; unfold cmdK; rw [if_neg (by omega), if_neg (by omega), if_neg (by omega), hkk]
     rw [e2, if_pos rfl]
     refine ⟨fun r _ hl => ?_, fun j hj hjn => ?_⟩
     ·exact ((must_rd 59 n).fin fun _ => (⟨k, [], T0, [], []⟩ : Cmd)).back r trivial hl
     ·exact ((must_rd 59 n).fin fun _ => (⟨k, [], T0, [], []⟩ : Cmd)).torn j hj hjn
theorem command_lo (n d : Nat) {c : Cmd} (hF : FormC c) (hd : fitC d c = true) : Lo n (commandP n d) (wC c) c NoElse := (both_lo n d c hF hd).1
theorem all_app (r : List Tok) (hr : NoElse r) : ∀ (cs : List Cmd) (m : Nat), (∀ c ∈ cs, FormC c) → (∀ c ∈ cs, fitC 0 c = true) → cs.length ≤ m → allP m (cs.flatMap wC ++ r) = bnd (allP (m - cs.length) r) fun ds q => .ok (cs ++ ds, q)
 | [], m, _, _, _ => by
  show allP m r = bnd (allP m r) _
  cases allP m r <;> rfl
 | c :: cs, 0, _, _, h => by simp at h
 | c :: cs, m + 1, hF, hd, h => by
  have hF' : ∀ c ∈ cs, FormC c := fun c hc => hF c (List.mem_cons_of_mem _ hc)
  have e : (c :: cs).flatMap wC ++ r = wC c ++ (cs.flatMap wC ++ r) := by simp
  have hp := wC_pos c
  rw [e, allP, if_neg (app_ne _ _), (command_lo _ 0 (hF c (List.mem_cons_self ..)) (hd c (List.mem_cons_self ..))).back _ (flat_noElse hF' hr) (by omega), bnd_ok,
   all_app r hr cs m hF' (fun c hc => hd c (List.mem_cons_of_mem _ hc)) (by simpa using h), show m + 1 - (c :: cs).length = m - cs.length by simp]
  cases allP (m - cs.length) r <;> rfl
theorem parse_back {cs : List Cmd} (hF : ∀ c ∈ cs, FormC c) (hd : cs.all (fitC 0) = true) : parseS (cs.flatMap wC) = (cs, 0, 0) := by
 rw [List.all_eq_true] at hd
 unfold parseS
 have h := all_app [] noElse_nil cs ((cs.flatMap wC).length + 1) hF hd (by have := flat_len cs; omega)
 rw [List.append_nil] at h
 rw [h]
 have := flat_len cs
 obtain ⟨j, hj⟩ : ∃ j, (cs.flatMap wC).length + 1 - cs.length = j + 1 := ⟨(cs.flatMap wC).length - cs.length, by omega⟩
 rw [hj]
 show parseE _ (.ok (cs ++ [], [])) = _
 rw [List.append_nil]; rfl
theorem parse_brace {cs : List Cmd} (hF : ∀ c ∈ cs, FormC c) (hd : cs.all (fitC 0) = true) : (parseS (cs.flatMap wC ++ [M 125])).2.2 = 3 := by
 rw [List.all_eq_true] at hd
 unfold parseS
 rw [all_app [M 125] (noElse_M 125 []) cs _ hF hd (by have := flat_len cs; rw [List.length_append]; omega)]
 have := flat_len cs
 obtain ⟨j, hj⟩ : ∃ j, (cs.flatMap wC ++ [M 125]).length + 1 - cs.length = j + 1 := ⟨(cs.flatMap wC ++ [M 125]).length - cs.length, by rw [List.length_append]; omega⟩
 rw [hj]
 rfl
end Go.Proofs.YtjfclekmhfgkmaaGreatDoor.Sc
