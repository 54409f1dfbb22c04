/-
  DERIVED. States of boxes: the plain side, no program in sight.
-/
import Derived.Test.YtaeejmggmgejcaaDoorForm
namespace Go.Proofs.YtaeejmggmgejcaaDoor

structure Mail where
  (uid flags : Nat) (text : List UInt8)
structure Bx where
  name : List UInt8
  next : Nat
  mails : List Mail
structure St where
  boxes : List Bx
  spool : List Ent
/-- mails behind the Uid 'last', ahead of 'next' -/
def MailsOK (next : Nat) : Nat → List Mail → Prop
  | _, [] => True
  | last, m :: l => last < m.uid ∧ m.uid < next ∧ m.flags ≤ 31 ∧ m.text.length ≤ 2000 ∧ MailsOK next m.uid l
def BoxOK (b : Bx) : Prop := nameCode b.name = 0 ∧ 1 ≤ b.next ∧ b.next ≤ 1048577 ∧ b.mails.length ≤ 30 ∧ MailsOK b.next 0 b.mails
def sumM (l : List Mail) : Nat := (l.map fun m => m.text.length).sum
def sumB (l : List Bx) : Nat := (l.map fun b => sumM b.mails).sum
/-- a state that may be -/
structure GoodS (s : St) : Prop where
  boxes : s.boxes.length ≤ 5
  spool : s.spool.length ≤ 20
  ok : ∀ b ∈ s.boxes, BoxOK b
  names : s.boxes.Pairwise fun a b => a.name ≠ b.name
  out : ∀ x ∈ s.spool, x.kind = 6 ∧ formV x = 0
  room : sumB s.boxes ≤ 6000
/-- the place of a box -/
def findB (l : List Bx) (name : List UInt8) : Option Nat := l.findIdx? fun b => b.name == name
def idx : Option Nat → Int
  | none => -1
  | some i => i
theorem findB_some {l : List Bx} {name : List UInt8} {i : Nat} (h : findB l name = some i) : ∃ hi : i < l.length, l[i].name = name := by
  unfold findB at h
  rw [List.findIdx?_eq_some_iff_getElem] at h
  obtain ⟨hi, h1, _⟩ := h
  exact ⟨hi, by simpa using h1⟩
theorem findB_none {l : List Bx} {name : List UInt8} (h : findB l name = none) : ∀ b ∈ l, b.name ≠ name := by
  unfold findB at h
  rw [List.findIdx?_eq_none_iff] at h
  intro b hb
  simpa using h b hb
theorem findB_lt {l : List Bx} {name : List UInt8} : idx (findB l name) < (l.length : Int) ∧ -1 ≤ idx (findB l name) := by
  cases h : findB l name with
  | none => exact ⟨by show (-1 : Int) < _; omega, Int.le_refl _⟩
  | some i => obtain ⟨hi, _⟩ := findB_some h; exact ⟨by show (i : Int) < _; omega, by show (-1 : Int) ≤ (i : Int); omega⟩
/-- one more mail at the end of box i -/
def addS (s : St) (i : Nat) (flags : Nat) (text : List UInt8) : Option St :=
  match s.boxes[i]? with
  | none => none
  | some b => if b.mails.length = 30 ∨ 1048576 < b.next ∨ 6000 < sumB s.boxes + text.length then none
    else some ⟨s.boxes.set i ⟨b.name, b.next + 1, b.mails ++ [⟨b.next, flags, text⟩]⟩, s.spool⟩
/-- an entry done: the state, or what is wrong -/
def applyS (s : St) (x : Ent) : St × Int :=
  if x.kind = 6 then (if s.spool.length = 20 then (s, 5) else (⟨s.boxes, s.spool ++ [x]⟩, 0))
  else match findB s.boxes x.box with
    | none => if x.kind = 1 then (if s.boxes.length = 5 then (s, 5) else (⟨s.boxes ++ [⟨x.box, 1, []⟩], s.spool⟩, 0)) else (s, 7)
    | some i =>
      if x.kind = 1 then (s, 10)
      else if x.kind = 2 then (match addS s i x.flags x.text with | some t => (t, 0) | none => (s, 5))
      else match s.boxes[i]? with
        | none => (s, 7)
        | some b =>
          if x.kind = 4 then (⟨s.boxes.set i ⟨b.name, b.next, b.mails.filter fun m => m.flags &&& 8 == 0⟩, s.spool⟩, 0)
          else match b.mails.findIdx? fun m => m.uid == x.uid with
            | none => (s, 7)
            | some k => match b.mails[k]? with
              | none => (s, 7)
              | some m =>
                if x.kind = 3 then (⟨s.boxes.set i ⟨b.name, b.next, b.mails.set k ⟨m.uid, x.flags, m.text⟩⟩, s.spool⟩, 0)
                else match findB s.boxes x.to with
                  | none => (s, 7)
                  | some j => match addS s j m.flags m.text with | some t => (t, 0) | none => (s, 5)
/-- entries in a row, whole or not at all -/
def allS : St → List Ent → St × Int
  | s, [] => (s, 0)
  | s, x :: l => if formV x ≠ 0 then (s, formV x) else if (applyS s x).2 ≠ 0 then (s, (applyS s x).2) else allS (applyS s x).1 l
end Go.Proofs.YtaeejmggmgejcaaDoor
