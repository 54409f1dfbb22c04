/- On the way. -/
import Derived.Test.YtmkppkjikifdlaaGreatDoorTRuRead
import Derived.Test.YtmkppkjikifdlaaGreatDoorTJgB
set_option linter.unusedVariables false
set_option linter.unusedSimpArgs false
set_option maxRecDepth 100000
namespace Go.Proofs.YtmkppkjikifdlaaGreatDoor.Tp
open Sc (Str Cmd Tst T0 FormC FormT Form1 Form2 GoodC Good1 LenTs LenT LenTl wholeS readE wC ruleS flagL)
def AllOk (c : Cmd) : Prop := FormC c ∧ GoodC c ∧ ∀ s ∈ c.texts, s.length ≤ 1000000
def ReadOk (s : Str) : Prop := s.length ≤ 2000 ∧ (∀ t ∈ (Tk.cutL s).1, t.kind = 1 ∨ t.kind = 2 → t.text.length ≤ 4611686018427387904) ∧
 ((Tk.cutL s).2.2 = 0 → (wholeS (Tk.cutL s).1).2.2 = 0 → (∀ c ∈ (wholeS (Tk.cutL s).1).1, AllOk c) ∧ ((wholeS (Tk.cutL s).1).1.flatMap wC).length ≤ 1000000)
theorem ok_plain {k : Int} {tx : List Str} (h : Form2 k tx.length) (h2 : k ≠ 2) (hk : 1 ≤ k ∧ k ≤ 10) (ht : ∀ s ∈ tx, s.length ≤ 2000) (h8 : k = 8 ∨ k = 9 → ∃ j, j < 5 ∧ tx = [flagL.getD j []]) : AllOk ⟨k, tx, T0, [], []⟩ := by
 have one : k = 5 ∨ k = 6 → ∃ s, tx = [s] ∧ s.length ≤ 2000 := fun e => by
  have hl : tx.length = 1 := by clear h8 ht hk; unfold Form2 at h; omega
  obtain ⟨s, rfl⟩ := List.length_eq_one_iff.1 hl
  exact ⟨s, rfl, ht s (List.mem_singleton_self _)⟩
 refine ⟨(FormC.iff _).2 ⟨h, .inr ⟨h2, rfl, rfl, rfl⟩⟩, (GoodC.iff _).2 ⟨⟨fun e => ?_, fun e => one (.inr e), h8, hk, Nat.zero_le _, Nat.zero_le _⟩, Sc.T0_len, Sc.nilCmd, Sc.nilCmd⟩, fun s hs => Nat.le_trans (ht s hs) (by decide)⟩
 obtain ⟨s, e1, e2⟩ := one (.inl e)
 exact ⟨s, e1, by omega⟩
theorem ok_if {t : Tst} {th el : List Cmd} (hT : FormT t) (hL : LenTs t) (h1 : ∀ c ∈ th, AllOk c) (h2 : ∀ c ∈ el, AllOk c) (l1 : th.length ≤ 1000000) (l2 : el.length ≤ 1000000) : AllOk ⟨2, [], t, th, el⟩ :=
 ⟨(FormC.iff _).2 ⟨.inr (.inr ⟨.inl rfl, rfl⟩), .inl ⟨rfl, hT, fun x hx => (h1 x hx).1, fun x hx => (h2 x hx).1⟩⟩,
  (GoodC.iff _).2 ⟨⟨fun h => absurd h (by show (2 : Int) ≠ 5; decide), fun h => absurd h (by show (2 : Int) ≠ 6; decide), fun h => absurd h (by show ¬ ((2 : Int) = 8 ∨ (2 : Int) = 9); decide), by show (1 : Int) ≤ 2 ∧ (2 : Int) ≤ 10; decide, l1, l2⟩, hL, fun x hx => (h1 x hx).2.1, fun x hx => (h2 x hx).2.1⟩, fun _ h => by cases h⟩
theorem ok_nil : ∀ c ∈ ([] : List Cmd), AllOk c := fun _ h => by cases h
theorem ok_cons {c : Cmd} {l : List Cmd} (h : AllOk c) (hl : ∀ d ∈ l, AllOk d) : ∀ d ∈ c :: l, AllOk d := fun d hd => by
 rcases List.mem_cons.1 hd with rfl | hd
 ·exact h
 ·exact hl d hd
theorem leaf_form {k m p : Int} {ns ks : List Str} {o : Bool} {l : Int} (h : Form1 k m p ns.length ks.length o l 0) : FormT ⟨k, m, p, ns, ks, o, l, []⟩ := FormT.mk' h (fun _ h => by cases h)
theorem leaf_len {k m p : Int} {ns ks : List Str} {o : Bool} {l : Int} (h : (∀ s ∈ ns, s.length ≤ 1000000) ∧ (∀ s ∈ ks, s.length ≤ 1000000) ∧ ns.length ≤ 1000000 ∧ ks.length ≤ 1000000) : LenTs ⟨k, m, p, ns, ks, o, l, []⟩ := by
 rw [LenTs, LenTl]; exact ⟨⟨h.1, h.2.1, h.2.2.1, h.2.2.2, Nat.zero_le _⟩, trivial⟩
theorem ReadOk.of {s : Str} {cs : List Cmd} (hs : s.length ≤ 2000) (h1 : (Tk.cutL s).1.all (fun t => decide (t.text.length ≤ 1000)) = true) (h2 : (Tk.cutL s).2.2 = 0) (h3 : wholeS (Tk.cutL s).1 = (cs, 0, 0)) (hc : ∀ c ∈ cs, AllOk c) (hl : (cs.flatMap wC).length ≤ 1000000) : ReadOk s ∧ readE (Tk.cutL s) = ruleS cs := by
 refine ⟨⟨hs, fun t ht _ => ?_, fun _ _ => by rw [h3]; exact ⟨hc, hl⟩⟩, ?_⟩
 ·have := of_decide_eq_true (List.all_eq_true.1 h1 t ht); omega
 ·unfold readE; rw [h2, if_neg (by simp), h3, if_neg (by simp)]
def bobT : Str := [114, 101, 113, 117, 105, 114, 101, 32, 91, 34, 102, 105, 108, 101, 105, 110, 116, 111, 34, 44, 32, 34, 105, 109, 97, 112, 52, 102, 108, 97, 103, 115, 34, 93, 59, 32, 105, 102, 32, 104, 101, 97, 100, 101, 114, 32, 58, 99, 111, 110, 116, 97, 105, 110, 115, 32, 34, 115, 117, 98, 106, 101, 99, 116, 34, 32, 34, 119, 111, 114, 107, 34, 32, 123, 32, 115, 101, 116, 102, 108, 97, 103, 32, 34, 92, 92, 83, 101, 101, 110, 34, 59, 32, 102, 105, 108, 101, 105, 110, 116, 111, 32, 34, 119, 111, 114, 107, 34, 59, 32, 125, 32, 101, 108, 115, 105, 102, 32, 115, 105, 122, 101, 32, 58, 111, 118, 101, 114, 32, 51, 48, 48, 32, 123, 32, 100, 105, 115, 99, 97, 114, 100, 59, 32, 125]
def catT : Str := [114, 101, 113, 117, 105, 114, 101, 32, 91, 34, 114, 101, 106, 101, 99, 116, 34, 44, 32, 34, 101, 110, 118, 101, 108, 111, 112, 101, 34, 93, 59, 32, 105, 102, 32, 101, 110, 118, 101, 108, 111, 112, 101, 32, 58, 108, 111, 99, 97, 108, 112, 97, 114, 116, 32, 34, 102, 114, 111, 109, 34, 32, 34, 115, 112, 97, 109, 34, 32, 123, 32, 114, 101, 106, 101, 99, 116, 32, 34, 110, 111, 34, 59, 32, 125, 32, 101, 108, 115, 105, 102, 32, 101, 120, 105, 115, 116, 115, 32, 34, 108, 105, 115, 116, 34, 32, 123, 32, 114, 101, 100, 105, 114, 101, 99, 116, 32, 34, 97, 110, 110, 64, 120, 46, 121, 34, 59, 32, 107, 101, 101, 112, 59, 32, 125]
def filT : Str := [102, 105, 108, 101, 105, 110, 116, 111, 32, 34, 97, 34, 59]
def keepT : Str := [107, 101, 101, 112]
def bobC : List Cmd := [⟨1, [[102, 105, 108, 101, 105, 110, 116, 111], [105, 109, 97, 112, 52, 102, 108, 97, 103, 115]], T0, [], []⟩, ⟨2, [], ⟨6, 2, 0, [[115, 117, 98, 106, 101, 99, 116]], [[119, 111, 114, 107]], false, 0, []⟩, [⟨8, [[92, 83, 101, 101, 110]], T0, [], []⟩, ⟨5, [[119, 111, 114, 107]], T0, [], []⟩], [⟨2, [], ⟨10, 0, 0, [], [], true, 300, []⟩, [⟨4, [], T0, [], []⟩], []⟩]⟩]
def catC : List Cmd := [⟨1, [[114, 101, 106, 101, 99, 116], [101, 110, 118, 101, 108, 111, 112, 101]], T0, [], []⟩, ⟨2, [], ⟨8, 1, 2, [[102, 114, 111, 109]], [[115, 112, 97, 109]], false, 0, []⟩, [⟨7, [[110, 111]], T0, [], []⟩], [⟨2, [], ⟨9, 0, 0, [[108, 105, 115, 116]], [], false, 0, []⟩, [⟨6, [[97, 110, 110, 64, 120, 46, 121]], T0, [], []⟩, ⟨3, [], T0, [], []⟩], []⟩]⟩]
theorem bob_read : ReadOk bobT ∧ readE (Tk.cutL bobT) = 0 := by
 obtain ⟨h1, h2⟩ := ReadOk.of (s := bobT) (cs := bobC) (by decide +kernel) (by decide +kernel) (by decide +kernel) (by kernel_rfl)
  (ok_cons (ok_plain (by unfold Form2; decide) (by decide) (by decide) (by decide) (fun h => absurd h (by decide)))
   (ok_cons (ok_if (leaf_form (by unfold Form1; decide)) (leaf_len (by decide))
    (ok_cons (ok_plain (by unfold Form2; decide) (by decide) (by decide) (by decide) (fun _ => ⟨0, by decide, by decide⟩)) (ok_cons (ok_plain (by unfold Form2; decide) (by decide) (by decide) (by decide) (fun h => absurd h (by decide))) ok_nil))
    (ok_cons (ok_if (leaf_form (by unfold Form1; decide)) (leaf_len (by decide)) (ok_cons (ok_plain (by unfold Form2; decide) (by decide) (by decide) (by decide) (fun h => absurd h (by decide))) ok_nil) ok_nil (by decide) (by decide)) ok_nil) (by decide) (by decide)) ok_nil)) (by decide +kernel)
 exact ⟨h1, h2.trans (by decide +kernel)⟩
theorem cat_read : ReadOk catT ∧ readE (Tk.cutL catT) = 0 := by
 obtain ⟨h1, h2⟩ := ReadOk.of (s := catT) (cs := catC) (by decide +kernel) (by decide +kernel) (by decide +kernel) (by kernel_rfl)
  (ok_cons (ok_plain (by unfold Form2; decide) (by decide) (by decide) (by decide) (fun h => absurd h (by decide)))
   (ok_cons (ok_if (leaf_form (by unfold Form1; decide)) (leaf_len (by decide))
    (ok_cons (ok_plain (by unfold Form2; decide) (by decide) (by decide) (by decide) (fun h => absurd h (by decide))) ok_nil)
    (ok_cons (ok_if (leaf_form (by unfold Form1; decide)) (leaf_len (by decide)) (ok_cons (ok_plain (by unfold Form2; decide) (by decide) (by decide) (by decide) (fun h => absurd h (by decide))) (ok_cons (ok_plain (by unfold Form2; decide) (by decide) (by decide) (by decide) (fun h => absurd h (by decide))) ok_nil)) ok_nil (by decide) (by decide)) ok_nil) (by decide) (by decide)) ok_nil)) (by decide +kernel)
 exact ⟨h1, h2.trans (by decide +kernel)⟩
theorem fil_read : ReadOk filT ∧ readE (Tk.cutL filT) = 8 := by
 obtain ⟨h1, h2⟩ := ReadOk.of (s := filT) (cs := [⟨5, [[97]], T0, [], []⟩]) (by decide +kernel) (by decide +kernel) (by decide +kernel) (by kernel_rfl)
  (ok_cons (ok_plain (by unfold Form2; decide) (by decide) (by decide) (by decide) (fun h => absurd h (by decide))) ok_nil) (by decide +kernel)
 exact ⟨h1, h2.trans (by decide +kernel)⟩
theorem nil_read : ReadOk [] ∧ readE (Tk.cutL []) = 0 := by
 obtain ⟨h1, h2⟩ := ReadOk.of (s := []) (cs := []) (by decide) (by decide +kernel) (by decide +kernel) (by kernel_rfl) ok_nil (by decide)
 exact ⟨h1, h2.trans (by decide +kernel)⟩
theorem keep_read : ReadOk keepT ∧ readE (Tk.cutL keepT) = 4 := by
 have e : (wholeS (Tk.cutL keepT).1).2.2 = 4 := by decide +kernel
 have h1 : (Tk.cutL keepT).1.all (fun t => decide (t.text.length ≤ 1000)) = true := by decide +kernel
 refine ⟨⟨by decide, fun t ht _ => ?_, fun _ h => absurd (e.symm.trans h) (by decide)⟩, by decide +kernel⟩
 have := of_decide_eq_true (List.all_eq_true.1 h1 t ht); omega
structure Us where
 (loc scr : Str)
def usC (u : Us) : List Value := [.string ⟨u.loc.toArray⟩, .string ⟨u.scr.toArray⟩]
def goE (known : List Str) : List Us → Int
 | [] => 0
 | u :: l => if chk u.loc [120] ≠ 0 then 3 else if u.loc ∈ known then 10 else if readE (Tk.cutL u.scr) ≠ 0 then readE (Tk.cutL u.scr) else goE (known ++ [u.loc]) l
def openE (us : List Us) : Int := if us.length < 1 ∨ 3 < us.length then 1 else goE [] us
def annL : Str := [97, 110, 110]
def bobL : Str := [98, 111, 98]
def catL : Str := [99, 97, 116]
def users0 : List Us := [⟨annL, []⟩, ⟨bobL, bobT⟩, ⟨catL, catT⟩]
def caseU (i : Nat) : List Us :=
 if i = 0 then [] else if i = 1 then users0 ++ [⟨[100, 97, 110], []⟩] else if i = 2 then [⟨annL, []⟩, ⟨annL, bobT⟩, ⟨catL, catT⟩]
 else if i = 3 then [⟨annL, []⟩, ⟨bobL, bobT⟩, ⟨[97, 32, 98], catT⟩] else if i = 4 then [⟨annL, filT⟩, ⟨bobL, bobT⟩, ⟨catL, catT⟩] else [⟨annL, keepT⟩, ⟨bobL, bobT⟩, ⟨catL, catT⟩]
def caseE (i : Nat) : Int := if i = 0 then 1 else if i = 1 then 1 else if i = 2 then 10 else if i = 3 then 3 else if i = 4 then 8 else 4
theorem goE_form {known : List Str} {u : Us} {l : List Us} (h : chk u.loc [120] ≠ 0) : goE known (u :: l) = 3 := by rw [goE, if_pos h]
theorem goE_twice {known : List Str} {u : Us} {l : List Us} (h : chk u.loc [120] = 0) (h2 : u.loc ∈ known) : goE known (u :: l) = 10 := by rw [goE, if_neg (by omega), if_pos h2]
theorem goE_read {known : List Str} {u : Us} {l : List Us} (h : chk u.loc [120] = 0) (h2 : u.loc ∉ known) (h3 : readE (Tk.cutL u.scr) ≠ 0) : goE known (u :: l) = readE (Tk.cutL u.scr) := by rw [goE, if_neg (by omega), if_neg h2, if_pos h3]
theorem goE_next {known : List Str} {u : Us} {l : List Us} (h : chk u.loc [120] = 0) (h2 : u.loc ∉ known) (h3 : readE (Tk.cutL u.scr) = 0) : goE known (u :: l) = goE (known ++ [u.loc]) l := by rw [goE, if_neg (by omega), if_neg h2, if_neg (by omega)]
theorem ann_ok : chk annL [120] = 0 := by decide +kernel
theorem bob_ok : chk bobL [120] = 0 := by decide +kernel
theorem case_open (i : Nat) (h : i < 6) : openE (caseU i) = caseE i := by
 have : i = 0 ∨ i = 1 ∨ i = 2 ∨ i = 3 ∨ i = 4 ∨ i = 5 := by omega
 rcases this with rfl | rfl | rfl | rfl | rfl | rfl
 ·rfl
 ·rfl
 ·show goE [] [⟨annL, []⟩, ⟨annL, bobT⟩, ⟨catL, catT⟩] = 10
  rw [goE_next ann_ok (by decide) nil_read.2, goE_twice ann_ok (by decide)]
 ·show goE [] [⟨annL, []⟩, ⟨bobL, bobT⟩, ⟨[97, 32, 98], catT⟩] = 3
  rw [goE_next ann_ok (by decide) nil_read.2, goE_next bob_ok (by decide) bob_read.2, goE_form (by decide +kernel)]
 ·show goE [] [⟨annL, filT⟩, ⟨bobL, bobT⟩, ⟨catL, catT⟩] = 8
  rw [goE_read ann_ok (by decide) (by rw [fil_read.2]; decide), fil_read.2]
 ·show goE [] [⟨annL, keepT⟩, ⟨bobL, bobT⟩, ⟨catL, catT⟩] = 4
  rw [goE_read ann_ok (by decide) (by rw [keep_read.2]; decide), keep_read.2]
theorem case_read (i : Nat) : ∀ u ∈ caseU i, ReadOk u.scr ∧ u.loc.length ≤ 100 := by
 have hb := bob_read.1; have hn := nil_read.1; have hf := fil_read.1; have hk := keep_read.1; have hc := cat_read.1
 unfold caseU users0
 intro u hu
 repeat' split at hu
 all_goals
  simp only [List.cons_append, List.nil_append, List.mem_cons, List.not_mem_nil, or_false] at hu <;> first
   | (rcases hu with rfl | rfl | rfl | rfl <;> exact ⟨by assumption, by decide⟩)
   | (rcases hu with rfl | rfl | rfl <;> exact ⟨by assumption, by decide⟩)
   | exact hu.elim
end Go.Proofs.YtmkppkjikifdlaaGreatDoor.Tp
