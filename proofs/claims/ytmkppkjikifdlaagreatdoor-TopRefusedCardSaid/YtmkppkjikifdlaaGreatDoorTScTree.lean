/- On the way. -/
import Derived.Test.YtmkppkjikifdlaaGreatDoorTTokL
set_option linter.unusedVariables false
set_option linter.unusedSimpArgs false
namespace Go.Proofs.YtmkppkjikifdlaaGreatDoor.Sc
open Tk (Tok)
abbrev Str := List UInt8
structure Tst where
 (kind mat part : Int) (names keys : List Str) (over : Bool) (limit : Int) (tests : List Tst)
structure Cmd where
 (kind : Int) (texts : List Str) (test : Tst) (thn els : List Cmd)
def T0 : Tst := ⟨0, 0, 0, [], [], false, 0, []⟩
def Form1 (k m p : Int) (nn nk : Nat) (o : Bool) (l : Int) (nt : Nat) : Prop :=
 ((k = 1 ∨ k = 2) ∧ m = 0 ∧ p = 0 ∧ nn = 0 ∧ nk = 0 ∧ o = false ∧ l = 0 ∧ nt = 0) ∨
 (k = 3 ∧ m = 0 ∧ p = 0 ∧ nn = 0 ∧ nk = 0 ∧ o = false ∧ l = 0 ∧ nt = 1) ∨
 ((k = 4 ∨ k = 5) ∧ m = 0 ∧ p = 0 ∧ nn = 0 ∧ nk = 0 ∧ o = false ∧ l = 0 ∧ 0 < nt) ∨
 (k = 6 ∧ (1 ≤ m ∧ m ≤ 3) ∧ p = 0 ∧ 0 < nn ∧ 0 < nk ∧ o = false ∧ l = 0 ∧ nt = 0) ∨
 ((k = 7 ∨ k = 8) ∧ (1 ≤ m ∧ m ≤ 3) ∧ (1 ≤ p ∧ p ≤ 3) ∧ 0 < nn ∧ 0 < nk ∧ o = false ∧ l = 0 ∧ nt = 0) ∨
 (k = 9 ∧ m = 0 ∧ p = 0 ∧ 0 < nn ∧ nk = 0 ∧ o = false ∧ l = 0 ∧ nt = 0) ∨
 (k = 10 ∧ m = 0 ∧ p = 0 ∧ nn = 0 ∧ nk = 0 ∧ (0 ≤ l ∧ l ≤ 2147483647) ∧ nt = 0)
theorem Form1.kind {k m p : Int} {nn nk nt : Nat} {o : Bool} {l : Int} (h : Form1 k m p nn nk o l nt) : 1 ≤ k ∧ k ≤ 10 := by
 unfold Form1 at h; omega
mutual
def FormT : Tst → Prop
 | ⟨k, m, p, ns, ks, o, l, ts⟩ => Form1 k m p ns.length ks.length o l ts.length ∧ FormTs ts
def FormTs : List Tst → Prop
 | [] => True
 | t :: l => FormT t ∧ FormTs l
end
theorem FormTs_iff : ∀ l : List Tst, FormTs l ↔ ∀ t ∈ l, FormT t
 | [] => by simp [FormTs]
 | t :: l => by rw [FormTs, FormTs_iff l]; simp
theorem FormT.one {t : Tst} (h : FormT t) : Form1 t.kind t.mat t.part t.names.length t.keys.length t.over t.limit t.tests.length := by
 obtain ⟨k, m, p, ns, ks, o, l, ts⟩ := t; rw [FormT] at h; exact h.1
theorem FormT.all {t : Tst} (h : FormT t) : ∀ s ∈ t.tests, FormT s := by
 obtain ⟨k, m, p, ns, ks, o, l, ts⟩ := t; rw [FormT] at h; exact (FormTs_iff _).1 h.2
theorem FormT.mk' {t : Tst} (h1 : Form1 t.kind t.mat t.part t.names.length t.keys.length t.over t.limit t.tests.length) (h2 : ∀ s ∈ t.tests, FormT s) : FormT t := by
 obtain ⟨k, m, p, ns, ks, o, l, ts⟩ := t; rw [FormT]; exact ⟨h1, (FormTs_iff _).2 h2⟩
def Form2 (k : Int) (nt : Nat) : Prop := ((k = 1 ∨ k = 8 ∨ k = 9) ∧ 0 < nt) ∨ ((k = 5 ∨ k = 6 ∨ k = 7) ∧ nt = 1) ∨ ((k = 2 ∨ k = 3 ∨ k = 4 ∨ k = 10) ∧ nt = 0)
mutual
def FormC : Cmd → Prop
 | ⟨k, tx, t, th, el⟩ => Form2 k tx.length ∧ ((k = 2 ∧ FormT t ∧ FormCs th ∧ FormCs el) ∨ (k ≠ 2 ∧ t = T0 ∧ th = [] ∧ el = []))
def FormCs : List Cmd → Prop
 | [] => True
 | c :: l => FormC c ∧ FormCs l
end
theorem FormCs_iff : ∀ l : List Cmd, FormCs l ↔ ∀ c ∈ l, FormC c
 | [] => by simp [FormCs]
 | c :: l => by rw [FormCs, FormCs_iff l]; simp
theorem FormC.iff (c : Cmd) : FormC c ↔ Form2 c.kind c.texts.length ∧ ((c.kind = 2 ∧ FormT c.test ∧ (∀ x ∈ c.thn, FormC x) ∧ (∀ x ∈ c.els, FormC x)) ∨ (c.kind ≠ 2 ∧ c.test = T0 ∧ c.thn = [] ∧ c.els = [])) := by
 obtain ⟨k, tx, t, th, el⟩ := c
 rw [FormC, FormCs_iff, FormCs_iff]
theorem FormC.kind {c : Cmd} (h : FormC c) : 1 ≤ c.kind ∧ c.kind ≤ 10 := by
 have := ((FormC.iff c).1 h).1; unfold Form2 at this; omega
mutual
def fitT : Nat → Tst → Bool
 | d, ⟨_, _, _, _, _, _, _, ts⟩ => decide (d ≤ 6) && fitTs (d + 1) ts
def fitTs : Nat → List Tst → Bool
 | _, [] => true
 | d, t :: l => fitT d t && fitTs d l
end
theorem fitTs_all (d : Nat) : ∀ l : List Tst, fitTs d l = l.all (fitT d)
 | [] => rfl
 | t :: l => by rw [fitTs, fitTs_all d l]; rfl
theorem fitT_eq (d : Nat) (t : Tst) : fitT d t = (decide (d ≤ 6) && t.tests.all (fitT (d + 1))) := by
 obtain ⟨k, m, p, ns, ks, o, l, ts⟩ := t; rw [fitT, fitTs_all]
def isElsif : List Cmd → Bool
 | [c] => c.kind == 2
 | _ => false
mutual
def fitC : Nat → Cmd → Bool
 | d, ⟨k, _, t, th, el⟩ => decide (d ≤ 6) && (if k = 2 then fitT 1 t && fitCs (d + 1) th && (if isElsif el = true then fitCs d el else fitCs (d + 1) el) else true)
def fitCs : Nat → List Cmd → Bool
 | _, [] => true
 | d, c :: l => fitC d c && fitCs d l
end
theorem fitCs_all (d : Nat) : ∀ l : List Cmd, fitCs d l = l.all (fitC d)
 | [] => rfl
 | c :: l => by rw [fitCs, fitCs_all d l]; rfl
theorem fitC_eq (d : Nat) (c : Cmd) : fitC d c = (decide (d ≤ 6) && (if c.kind = 2 then fitT 1 c.test && c.thn.all (fitC (d + 1)) && (if isElsif c.els = true then c.els.all (fitC d) else c.els.all (fitC (d + 1))) else true)) := by
 obtain ⟨k, tx, t, th, el⟩ := c; rw [fitC, fitCs_all, fitCs_all, fitCs_all]
def W (s : Str) : Tok := ⟨1, s, 0⟩
def G (s : Str) : Tok := ⟨2, s, 0⟩
def N (n : Int) : Tok := ⟨3, [], n⟩
def S (s : Str) : Tok := ⟨4, s, 0⟩
def M (c : UInt8) : Tok := ⟨5, [c], 0⟩
def cmdTab : List Str := [[], [114, 101, 113, 117, 105, 114, 101], [105, 102], [107, 101, 101, 112], [100, 105, 115, 99, 97, 114, 100], [102, 105, 108, 101, 105, 110, 116, 111], [114, 101, 100, 105, 114, 101, 99, 116], [114, 101, 106, 101, 99, 116], [115, 101, 116, 102, 108, 97, 103], [97, 100, 100, 102, 108, 97, 103], [115, 116, 111, 112]]
def tstTab : List Str := [[], [116, 114, 117, 101], [102, 97, 108, 115, 101], [110, 111, 116], [97, 108, 108, 111, 102], [97, 110, 121, 111, 102], [104, 101, 97, 100, 101, 114], [97, 100, 100, 114, 101, 115, 115], [101, 110, 118, 101, 108, 111, 112, 101], [101, 120, 105, 115, 116, 115], [115, 105, 122, 101]]
def matTab : List Str := [[], [105, 115], [99, 111, 110, 116, 97, 105, 110, 115], [109, 97, 116, 99, 104, 101, 115]]
def parTab : List Str := [[], [97, 108, 108], [108, 111, 99, 97, 108, 112, 97, 114, 116], [100, 111, 109, 97, 105, 110]]
def elsifW : Str := [101, 108, 115, 105, 102]
def elseW : Str := [101, 108, 115, 101]
def overW : Str := [111, 118, 101, 114]
def underW : Str := [117, 110, 100, 101, 114]
def wd (tab : List Str) (k : Int) : Str := tab.getD k.toNat []
def listT : List Str → List Tok
 | [] => [M 93]
 | [s] => [S s]
 | s :: l => M 91 :: S s :: (l.flatMap fun x => [M 44, S x]) ++ [M 93]
def seqT : List (List Tok) → List Tok
 | [] => []
 | x :: l => M 40 :: x ++ l.flatMap fun y => M 44 :: y
def bodyT (k m p : Int) (ns ks : List Str) (o : Bool) (l : Int) (sub : List (List Tok)) : List Tok :=
 if k = 3 then sub.flatten
 else if k = 4 ∨ k = 5 then seqT sub ++ [M 41]
 else if k = 6 then G (wd matTab m) :: (listT ns ++ listT ks)
 else if k = 7 ∨ k = 8 then G (wd parTab p) :: G (wd matTab m) :: (listT ns ++ listT ks)
 else if k = 9 then listT ns
 else if k = 10 then [G (if o = true then overW else underW), N l]
 else []
mutual
def wT : Tst → List Tok
 | ⟨k, m, p, ns, ks, o, l, ts⟩ => W (wd tstTab k) :: bodyT k m p ns ks o l (wTs ts)
def wTs : List Tst → List (List Tok)
 | [] => []
 | t :: l => wT t :: wTs l
end
theorem wTs_map : ∀ l : List Tst, wTs l = l.map wT
 | [] => rfl
 | t :: l => by rw [wTs, wTs_map l]; rfl
theorem wT_eq (t : Tst) : wT t = W (wd tstTab t.kind) :: bodyT t.kind t.mat t.part t.names t.keys t.over t.limit (t.tests.map wT) := by
 obtain ⟨k, m, p, ns, ks, o, l, ts⟩ := t; rw [wT, wTs_map]
def blkT (x : List Tok) : List Tok := M 123 :: (x ++ [M 125])
def elseT (el : List Cmd) (all : List Tok) (brs : List (List Tok)) : List Tok :=
 if isElsif el = true then W elsifW :: brs.flatten else if el = [] then [] else W elseW :: blkT all
mutual
def wC : Cmd → List Tok
 | ⟨k, tx, t, th, el⟩ => W (wd cmdTab k) :: (if k = 2 then wT t ++ (blkT (wCs th) ++ elseT el (wCs el) (wBs el)) else (if tx = [] then [] else listT tx) ++ [M 59])
def wCs : List Cmd → List Tok
 | [] => []
 | c :: l => wC c ++ wCs l
def wBr : Cmd → List Tok
 | ⟨_, _, t, th, el⟩ => wT t ++ (blkT (wCs th) ++ elseT el (wCs el) (wBs el))
def wBs : List Cmd → List (List Tok)
 | [] => []
 | c :: l => wBr c :: wBs l
end
theorem wCs_flat : ∀ l : List Cmd, wCs l = l.flatMap wC
 | [] => rfl
 | c :: l => by rw [wCs, wCs_flat l]; rfl
theorem wBs_map : ∀ l : List Cmd, wBs l = l.map wBr
 | [] => rfl
 | c :: l => by rw [wBs, wBs_map l]; rfl
theorem wBr_eq (c : Cmd) : wBr c = wT c.test ++ (blkT (c.thn.flatMap wC) ++ elseT c.els (c.els.flatMap wC) (c.els.map wBr)) := by
 obtain ⟨k, tx, t, th, el⟩ := c; rw [wBr, wCs_flat, wCs_flat, wBs_map]
theorem wC_if {c : Cmd} (h : c.kind = 2) : wC c = W (wd cmdTab 2) :: wBr c := by
 obtain ⟨k, tx, t, th, el⟩ := c; obtain rfl : k = 2 := h; rw [wC, if_pos rfl, wBr]
theorem wC_else {c : Cmd} (h : c.kind ≠ 2) : wC c = W (wd cmdTab c.kind) :: ((if c.texts = [] then [] else listT c.texts) ++ [M 59]) := by
 obtain ⟨k, tx, t, th, el⟩ := c; rw [wC, if_neg h]
def checkS (cs : List Cmd) : Int := if cs.all (fitC 0) = true then (if 400 < (cs.flatMap wC).length then 5 else 0) else 1
theorem listT_len : ∀ l : List Str, l.length ≤ (listT l).length
 | [] => Nat.zero_le _
 | [s] => Nat.le_refl _
 | s :: s2 :: l => by
  have : ∀ l : List Str, l.length ≤ (l.flatMap fun x => [M 44, S x]).length := fun l => by
   induction l with
   | nil => exact Nat.le_refl _
   | cons a l ih => show l.length + 1 ≤ (l.flatMap fun x => [M 44, S x]).length + 2; omega
  have h := this (s2 :: l)
  show l.length + 1 + 1 ≤ (M 91 :: S s :: ((s2 :: l).flatMap fun x => [M 44, S x]) ++ [M 93]).length
  rw [List.length_append, List.length_cons, List.length_cons]
  have h' : l.length + 1 ≤ ((s2 :: l).flatMap fun x => [M 44, S x]).length := h
  omega
theorem wT_pos' (t : Tst) : 0 < (wT t).length := by rw [wT_eq]; simp
theorem wC_pos' (c : Cmd) : 0 < (wC c).length := by
 obtain ⟨k, tx, t, th, el⟩ := c; rw [wC]; simp
theorem seqT_len (l : List (List Tok)) (h : ∀ x ∈ l, 0 < x.length) : l.length ≤ (seqT l).length ∧ ∀ x ∈ l, x.length ≤ (seqT l).length := by
 have key : ∀ l : List (List Tok), (∀ x ∈ l, 0 < x.length) → l.length ≤ (l.flatMap fun y => M 44 :: y).length ∧ ∀ x ∈ l, x.length ≤ (l.flatMap fun y => M 44 :: y).length := by
  intro l
  induction l with
  | nil => exact fun _ => ⟨Nat.le_refl _, fun x hx => by cases hx⟩
  | cons a l ih =>
   intro h
   obtain ⟨h1, h2⟩ := ih fun x hx => h x (List.mem_cons_of_mem _ hx)
   rw [List.flatMap_cons, List.length_append, List.length_cons, List.length_cons]
   refine ⟨by omega, fun x hx => ?_⟩
   rcases List.mem_cons.1 hx with rfl | hx
   ·omega
   ·have := h2 x hx; omega
 cases l with
 | nil => exact ⟨Nat.le_refl _, fun x hx => by cases hx⟩
 | cons a l =>
  obtain ⟨h1, h2⟩ := key l fun x hx => h x (List.mem_cons_of_mem _ hx)
  show l.length + 1 ≤ (M 40 :: a ++ l.flatMap fun y => M 44 :: y).length ∧ _
  have e : (seqT (a :: l)).length = a.length + (l.flatMap fun y => M 44 :: y).length + 1 := by
   show (M 40 :: a ++ l.flatMap fun y => M 44 :: y).length = _
   rw [List.length_append, List.length_cons]; omega
  rw [e, List.length_append, List.length_cons]
  refine ⟨by omega, fun x hx => ?_⟩
  rcases List.mem_cons.1 hx with rfl | hx
  ·omega
  ·have := h2 x hx; omega
theorem wT_subs {t : Tst} (h : FormT t) : t.tests.length ≤ (wT t).length ∧ t.names.length ≤ (wT t).length ∧ t.keys.length ≤ (wT t).length ∧ ∀ s ∈ t.tests, (wT s).length < (wT t).length := by
 have h1 := h.one
 have hn := listT_len t.names; have hk := listT_len t.keys
 have hp : ∀ x ∈ t.tests.map wT, 0 < x.length := fun x hx => by obtain ⟨s, -, rfl⟩ := List.mem_map.1 hx; exact wT_pos' s
 have hs := seqT_len (t.tests.map wT) hp
 rw [List.length_map] at hs
 obtain ⟨k, m, p, ns, ks, o, l, ts⟩ := t
 rw [wT_eq]
 simp only at h1 hn hk hs ⊢
 rcases h1 with ⟨e1, -, -, e4, e5, -, -, e8⟩ | ⟨rfl, -, -, e4, e5, -, -, e8⟩ | ⟨e1, -, -, e4, e5, -, -, e8⟩ | ⟨rfl, -, -, -, -, -, -, e8⟩ | ⟨e1, -, -, -, -, -, -, e8⟩ | ⟨rfl, -, -, -, e5, -, -, e8⟩ | ⟨rfl, -, -, e4, e5, -, e8⟩
 ·obtain rfl := List.eq_nil_of_length_eq_zero e8
  exact ⟨Nat.zero_le _, by omega, by omega, fun s hs => by cases hs⟩
 ·obtain ⟨s, rfl⟩ := List.length_eq_one_iff.1 e8
  have e : bodyT 3 m p ns ks o l ([s].map wT) = wT s := by simp [bodyT]
  have e2 : (W (wd tstTab 3) :: wT s).length = (wT s).length + 1 := rfl
  rw [e, e2]
  refine ⟨by show 1 ≤ _; omega, by omega, by omega, fun x hx => ?_⟩
  obtain rfl := List.mem_singleton.1 hx; omega
 ·have e : bodyT k m p ns ks o l (ts.map wT) = seqT (ts.map wT) ++ [M 41] := by unfold bodyT; rw [if_neg (by omega), if_pos e1]
  rw [e, List.length_cons, List.length_append]
  refine ⟨by omega, by omega, by omega, fun x hx => ?_⟩
  have := hs.2 (wT x) (List.mem_map_of_mem hx)
  omega
 ·obtain rfl := List.eq_nil_of_length_eq_zero e8
  have e : bodyT 6 m p ns ks o l (([] : List Tst).map wT) = G (wd matTab m) :: (listT ns ++ listT ks) := rfl
  rw [e, List.length_cons, List.length_cons, List.length_append]
  exact ⟨Nat.zero_le _, by omega, by omega, fun s hs => by cases hs⟩
 ·obtain rfl := List.eq_nil_of_length_eq_zero e8
  have e : bodyT k m p ns ks o l (([] : List Tst).map wT) = G (wd parTab p) :: G (wd matTab m) :: (listT ns ++ listT ks) := by unfold bodyT; rw [if_neg (by omega), if_neg (by omega), if_neg (by omega), if_pos e1]
  rw [e, List.length_cons, List.length_cons, List.length_cons, List.length_append]
  exact ⟨Nat.zero_le _, by omega, by omega, fun s hs => by cases hs⟩
 ·obtain rfl := List.eq_nil_of_length_eq_zero e8
  have e : bodyT 9 m p ns ks o l (([] : List Tst).map wT) = listT ns := rfl
  rw [e, List.length_cons]
  exact ⟨Nat.zero_le _, by omega, by omega, fun s hs => by cases hs⟩
 ·obtain rfl := List.eq_nil_of_length_eq_zero e8
  exact ⟨Nat.zero_le _, by omega, by omega, fun s hs => by cases hs⟩
theorem flatC_len (l : List Cmd) : l.length ≤ (l.flatMap wC).length ∧ ∀ c ∈ l, (wC c).length ≤ (l.flatMap wC).length := by
 induction l with
 | nil => exact ⟨Nat.le_refl _, fun x hx => by cases hx⟩
 | cons a l ih =>
  have := wC_pos' a
  rw [List.flatMap_cons, List.length_append, List.length_cons]
  refine ⟨by omega, fun x hx => ?_⟩
  rcases List.mem_cons.1 hx with rfl | hx
  ·omega
  ·have := ih.2 x hx; omega
theorem elseT_len (el : List Cmd) : (el.flatMap wC).length ≤ (elseT el (el.flatMap wC) (el.map wBr)).length := by
 unfold elseT
 split
 ·rename_i h
  match el, h with
  | [c], h =>
   have hc : c.kind = 2 := by simpa [isElsif] using h
   have e1 : [c].flatMap wC = wC c := by simp
   have e2 : ([c].map wBr).flatten = wBr c := by simp
   rw [e1, e2, wC_if hc]; exact Nat.le_refl _
 ·split
  ·rename_i h; subst h; exact Nat.le_refl _
  ·unfold blkT; rw [List.length_cons, List.length_cons, List.length_append]; omega
theorem wC_subs {c : Cmd} (h : FormC c) : c.texts.length ≤ (wC c).length ∧ (c.kind = 2 → (wT c.test).length < (wC c).length ∧ (c.thn.flatMap wC).length < (wC c).length ∧ (c.els.flatMap wC).length < (wC c).length) := by
 obtain ⟨h1, h2⟩ := (FormC.iff c).1 h
 by_cases hk : c.kind = 2
 ·have ht : c.texts.length = 0 := by unfold Form2 at h1; omega
  have he := elseT_len c.els
  rw [wC_if hk, wBr_eq, List.length_cons, List.length_append, List.length_append]
  have hb : (blkT (c.thn.flatMap wC)).length = (c.thn.flatMap wC).length + 2 := by unfold blkT; rw [List.length_cons, List.length_append]; rfl
  exact ⟨by omega, fun _ => ⟨by omega, by omega, by omega⟩⟩
 ·refine ⟨?_, fun h => absurd h hk⟩
  rw [wC_else hk, List.length_cons, List.length_append]
  split
  ·rename_i e; rw [e]; exact Nat.zero_le _
  ·have := listT_len c.texts; omega
end Go.Proofs.YtmkppkjikifdlaaGreatDoor.Sc
