/-
  DERIVED. What one entry does to a state that may be, kind by kind. No program in sight.
-/
import Derived.Test.YthllhakgcnfmcaaDoorBoxGood
import Derived.Test.YthllhakgcnfmcaaDoorEnts
namespace Go.Proofs.YthllhakgcnfmcaaDoor

theorem one_eq (s : St) (x : Ent) (hx : formV x = 0) : allS s [x] = if (applyS s x).2 ≠ 0 then (s, (applyS s x).2) else ((applyS s x).1, 0) := by
  show (if formV x ≠ 0 then _ else if (applyS s x).2 ≠ 0 then _ else _) = _
  rw [if_neg (by rw [hx]; decide)]; rfl
theorem one_ok {s t : St} {x : Ent} (hx : formV x = 0) (h : applyS s x = (t, 0)) : allS s [x] = (t, 0) := by
  rw [one_eq s x hx, h, if_neg (by simp)]
theorem one_err {s t : St} {x : Ent} {e : Int} (hx : formV x = 0) (h : applyS s x = (t, e)) (he : e ≠ 0) : allS s [x] = (s, e) := by
  rw [one_eq s x hx, h, if_pos (by simpa using he)]
theorem one_good {s : St} {x : Ent} (hg : GoodS s) (hx : formV x = 0) : GoodS (allS s [x]).1 := by
  rw [one_eq s x hx]
  split
  · exact hg
  · exact applyS_good hg hx
/-- Spool -/
theorem spool_full {s : St} {x : Ent} (hk : x.kind = 6) (hx : formV x = 0) (h : s.spool.length = 20) : allS s [x] = (s, 5) :=
  one_err hx (t := s) (by unfold applyS; rw [if_pos hk, if_pos h]) (by decide)
theorem spool_ok {s : St} {x : Ent} (hk : x.kind = 6) (hx : formV x = 0) (h : s.spool.length ≠ 20) : allS s [x] = (⟨s.boxes, s.spool ++ [x]⟩, 0) :=
  one_ok hx (by unfold applyS; rw [if_pos hk, if_neg h])
/-- Create -/
theorem create_twice {s : St} {x : Ent} {i : Nat} (hk : x.kind = 1) (hx : formV x = 0) (h : findB s.boxes x.box = some i) : allS s [x] = (s, 10) :=
  one_err hx (t := s) (by unfold applyS; rw [if_neg (by omega), h]; simp only; rw [if_pos hk]) (by decide)
theorem create_full {s : St} {x : Ent} (hk : x.kind = 1) (hx : formV x = 0) (h : findB s.boxes x.box = none) (hl : s.boxes.length = 5) : allS s [x] = (s, 5) :=
  one_err hx (t := s) (by unfold applyS; rw [if_neg (by omega), h]; simp only; rw [if_pos hk, if_pos hl]) (by decide)
theorem create_ok {s : St} {x : Ent} (hk : x.kind = 1) (hx : formV x = 0) (h : findB s.boxes x.box = none) (hl : s.boxes.length ≠ 5) : allS s [x] = (⟨s.boxes ++ [⟨x.box, 1, []⟩], s.spool⟩, 0) :=
  one_ok hx (by unfold applyS; rw [if_neg (by omega), h]; simp only; rw [if_pos hk, if_neg hl])
theorem findB_snoc {l : List Bx} {name : List UInt8} (h : findB l name = none) (n : Nat) (ms : List Mail) : findB (l ++ [⟨name, n, ms⟩]) name = some l.length := by
  unfold findB at h ⊢
  rw [List.findIdx?_append, h]
  simp [List.findIdx?_cons]
/-- no such box -/
theorem none_box {s : St} {x : Ent} (hk : x.kind ≠ 6) (hk1 : x.kind ≠ 1) (hx : formV x = 0) (h : findB s.boxes x.box = none) : allS s [x] = (s, 7) :=
  one_err hx (t := s) (by unfold applyS; rw [if_neg hk, h]; simp only; rw [if_neg hk1]) (by decide)
theorem addS_full {s : St} {i fl : Nat} {tx : List UInt8} {b : Bx} (hb : s.boxes[i]? = some b) (h : b.mails.length = 30 ∨ 1048576 < b.next ∨ 6000 < sumB s.boxes + tx.length) : addS s i fl tx = none := by
  unfold addS; rw [hb]; simp only; rw [if_pos h]
theorem addS_ok {s : St} {i fl : Nat} {tx : List UInt8} {b : Bx} (hb : s.boxes[i]? = some b) (h : ¬ (b.mails.length = 30 ∨ 1048576 < b.next ∨ 6000 < sumB s.boxes + tx.length)) : addS s i fl tx = some ⟨s.boxes.set i ⟨b.name, b.next + 1, b.mails ++ [⟨b.next, fl, tx⟩]⟩, s.spool⟩ := by
  unfold addS; rw [hb]; simp only; rw [if_neg h]
/-- Append -/
theorem append_eq {s : St} {x : Ent} {i : Nat} (hk : x.kind = 2) (h : findB s.boxes x.box = some i) : applyS s x = match addS s i x.flags x.text with | some t => (t, 0) | none => (s, 5) := by
  unfold applyS; rw [if_neg (by omega), h]; simp only; rw [if_neg (by omega), if_pos hk]; rfl
theorem append_full {s : St} {x : Ent} {i : Nat} {b : Bx} (hk : x.kind = 2) (hx : formV x = 0) (h : findB s.boxes x.box = some i) (hb : s.boxes[i]? = some b) (hf : b.mails.length = 30 ∨ 1048576 < b.next ∨ 6000 < sumB s.boxes + x.text.length) : allS s [x] = (s, 5) :=
  one_err hx (t := s) (by rw [append_eq hk h, addS_full hb hf]) (by decide)
theorem append_ok {s : St} {x : Ent} {i : Nat} {b : Bx} (hk : x.kind = 2) (hx : formV x = 0) (h : findB s.boxes x.box = some i) (hb : s.boxes[i]? = some b) (hf : ¬ (b.mails.length = 30 ∨ 1048576 < b.next ∨ 6000 < sumB s.boxes + x.text.length)) :
    allS s [x] = (⟨s.boxes.set i ⟨b.name, b.next + 1, b.mails ++ [⟨b.next, x.flags, x.text⟩]⟩, s.spool⟩, 0) :=
  one_ok hx (by rw [append_eq hk h, addS_ok hb hf])
/-- Expunge -/
theorem expunge_ok {s : St} {x : Ent} {i : Nat} {b : Bx} (hk : x.kind = 4) (hx : formV x = 0) (h : findB s.boxes x.box = some i) (hb : s.boxes[i]? = some b) :
    allS s [x] = (⟨s.boxes.set i ⟨b.name, b.next, b.mails.filter fun m => m.flags &&& 8 == 0⟩, s.spool⟩, 0) :=
  one_ok hx (by unfold applyS; rw [if_neg (by omega), h]; simp only; rw [if_neg (by omega), if_neg (by omega), hb]; simp only; rw [if_pos hk])
/-- a box whose name stays is found where it was -/
theorem findB_set {l : List Bx} {i : Nat} {b b' : Bx} (name : List UInt8) (hb : l[i]? = some b) (hn : b'.name = b.name) : findB (l.set i b') name = findB l name := by
  unfold findB
  have key : ∀ (l : List Bx) (i : Nat), l[i]? = some b → (l.set i b').findIdx? (fun b => b.name == name) = l.findIdx? (fun b => b.name == name) := by
    intro l
    induction l with
    | nil => intro i h; simp at h
    | cons a l ih =>
      intro i h
      cases i with
      | zero =>
        obtain rfl : a = b := by simpa using h
        rw [List.set_cons_zero, List.findIdx?_cons, List.findIdx?_cons, hn]
      | succ i => rw [List.set_cons_succ, List.findIdx?_cons, List.findIdx?_cons, ih i (by simpa using h)]
  exact key l i hb
theorem set_get {l : List Bx} {i : Nat} {b b' : Bx} (hb : l[i]? = some b) : (l.set i b')[i]? = some b' := by
  obtain ⟨h, _⟩ := List.getElem?_eq_some_iff.1 hb
  rw [List.getElem?_set, if_pos rfl, if_pos h]
theorem set_back {l : List Bx} {i : Nat} {b b' : Bx} (hb : l[i]? = some b) : (l.set i b').set i b = l := by
  rw [List.set_set]
  obtain ⟨h, rfl⟩ := List.getElem?_eq_some_iff.1 hb
  exact List.set_getElem_self h
theorem expunge_again {s : St} {x : Ent} {i : Nat} {b : Bx} (hk : x.kind = 4) (hx : formV x = 0) (h : findB s.boxes x.box = some i) (hb : s.boxes[i]? = some b) :
    allS ⟨s.boxes.set i ⟨b.name, b.next, b.mails.filter fun m => m.flags &&& 8 == 0⟩, s.spool⟩ [x] = (⟨s.boxes.set i ⟨b.name, b.next, b.mails.filter fun m => m.flags &&& 8 == 0⟩, s.spool⟩, 0) := by
  have := expunge_ok (s := ⟨s.boxes.set i ⟨b.name, b.next, b.mails.filter fun m => m.flags &&& 8 == 0⟩, s.spool⟩) (b := ⟨b.name, b.next, b.mails.filter fun m => m.flags &&& 8 == 0⟩) hk hx (by rw [← h]; exact findB_set _ hb rfl) (set_get hb)
  rw [this]
  simp only [List.set_set, List.filter_filter, Bool.and_self]
/-- mails are told by their Uids -/
theorem uid_one {n : Nat} : ∀ {l : List Mail} {last : Nat}, MailsOK n last l → ∀ {i j : Nat} {a b : Mail}, l[i]? = some a → l[j]? = some b → a.uid = b.uid → i = j := by
  have low : ∀ {l : List Mail} {last : Nat}, MailsOK n last l → ∀ {i : Nat} {a : Mail}, l[i]? = some a → last < a.uid := by
    intro l
    induction l with
    | nil => intro last _ i a h; simp at h
    | cons x l ih =>
      intro last ⟨h1, h2, h3, h4, h5⟩ i a h
      cases i with
      | zero => obtain rfl : x = a := by simpa using h
                exact h1
      | succ i => exact Nat.lt_trans h1 (ih h5 (by simpa using h))
  intro l
  induction l with
  | nil => intro last _ i j a b h; simp at h
  | cons x l ih =>
    intro last hm i j a b hi hj hu
    obtain ⟨h1, h2, h3, h4, h5⟩ := hm
    cases i with
    | zero =>
      obtain rfl : x = a := by simpa using hi
      cases j with
      | zero => rfl
      | succ j => have := low h5 (by simpa using hj : l[j]? = some b); omega
    | succ i =>
      cases j with
      | zero =>
        obtain rfl : x = b := by simpa using hj
        have := low h5 (by simpa using hi : l[i]? = some a); omega
      | succ j => exact congrArg (· + 1) (ih h5 (i := i) (j := j) (by simpa using hi) (by simpa using hj) hu)
def uidIdx (l : List Mail) (u : Nat) : Option Nat := l.findIdx? fun m => m.uid == u
theorem uidIdx_some {l : List Mail} {u k : Nat} (h : uidIdx l u = some k) : ∃ m, l[k]? = some m ∧ m.uid = u := by
  unfold uidIdx at h
  obtain ⟨hk, h1, _⟩ := List.findIdx?_eq_some_iff_getElem.1 h
  exact ⟨l[k], List.getElem?_eq_getElem hk, by simpa using h1⟩
theorem uidIdx_none {l : List Mail} {u : Nat} (h : uidIdx l u = none) : ∀ m ∈ l, m.uid ≠ u := by
  unfold uidIdx at h
  rw [List.findIdx?_eq_none_iff] at h
  intro m hm
  simpa using h m hm
theorem uidIdx_of {n last : Nat} {l : List Mail} {k : Nat} {m : Mail} (hok : MailsOK n last l) (h : l[k]? = some m) : uidIdx l m.uid = some k := by
  cases hu : uidIdx l m.uid with
  | none => exact absurd rfl (uidIdx_none hu m (List.mem_of_getElem? h))
  | some j =>
    obtain ⟨m', hm', hq⟩ := uidIdx_some hu
    rw [uid_one hok h hm' hq.symm]
/-- Flag -/
theorem flag_eq {s : St} {x : Ent} {i k : Nat} {b : Bx} {m : Mail} (hk : x.kind = 3) (h : findB s.boxes x.box = some i) (hb : s.boxes[i]? = some b) (hu : uidIdx b.mails x.uid = some k) (hm : b.mails[k]? = some m) :
    applyS s x = (⟨s.boxes.set i ⟨b.name, b.next, b.mails.set k ⟨m.uid, x.flags, m.text⟩⟩, s.spool⟩, 0) := by
  unfold applyS; rw [if_neg (by omega), h]; simp only; rw [if_neg (by omega), if_neg (by omega), hb]; simp only; rw [if_neg (by omega)]
  unfold uidIdx at hu
  rw [hu]; simp only; rw [hm]; simp only; rw [if_pos hk]
theorem none_mail {s : St} {x : Ent} {i : Nat} {b : Bx} (hk : x.kind = 3 ∨ x.kind = 5) (hx : formV x = 0) (h : findB s.boxes x.box = some i) (hb : s.boxes[i]? = some b) (hu : uidIdx b.mails x.uid = none) : allS s [x] = (s, 7) := by
  refine one_err hx (t := s) ?_ (by decide)
  unfold applyS; rw [if_neg (by omega), h]; simp only; rw [if_neg (by omega), if_neg (by omega), hb]; simp only; rw [if_neg (by omega)]
  unfold uidIdx at hu
  rw [hu]
theorem flag_ok {s : St} {x : Ent} {i k : Nat} {b : Bx} {m : Mail} (hk : x.kind = 3) (hx : formV x = 0) (h : findB s.boxes x.box = some i) (hb : s.boxes[i]? = some b) (hu : uidIdx b.mails x.uid = some k) (hm : b.mails[k]? = some m) :
    allS s [x] = (⟨s.boxes.set i ⟨b.name, b.next, b.mails.set k ⟨m.uid, x.flags, m.text⟩⟩, s.spool⟩, 0) := one_ok hx (flag_eq hk h hb hu hm)
theorem mail_set_get {l : List Mail} {i : Nat} {b b' : Mail} (hb : l[i]? = some b) : (l.set i b')[i]? = some b' := by
  obtain ⟨h, _⟩ := List.getElem?_eq_some_iff.1 hb
  rw [List.getElem?_set, if_pos rfl, if_pos h]
theorem uidIdx_set {l : List Mail} {k fl : Nat} {m : Mail} (u : Nat) (hm : l[k]? = some m) : uidIdx (l.set k ⟨m.uid, fl, m.text⟩) u = uidIdx l u := by
  unfold uidIdx
  have key : ∀ (l : List Mail) (k : Nat), l[k]? = some m → (l.set k ⟨m.uid, fl, m.text⟩).findIdx? (fun m => m.uid == u) = l.findIdx? (fun m => m.uid == u) := by
    intro l
    induction l with
    | nil => intro i h; simp at h
    | cons a l ih =>
      intro i h
      cases i with
      | zero =>
        obtain rfl : a = m := by simpa using h
        rw [List.set_cons_zero, List.findIdx?_cons, List.findIdx?_cons]
      | succ i => rw [List.set_cons_succ, List.findIdx?_cons, List.findIdx?_cons, ih i (by simpa using h)]
  exact key l k hm
theorem flag_back {s : St} {x : Ent} {i k : Nat} {b : Bx} {m : Mail} (y : Ent) (hy : formV y = 0) (hyk : y.kind = 3) (hyb : y.box = x.box) (hyu : y.uid = x.uid) (hyf : y.flags = m.flags) (h : findB s.boxes x.box = some i) (hb : s.boxes[i]? = some b) (hu : uidIdx b.mails x.uid = some k) (hm : b.mails[k]? = some m) :
    allS ⟨s.boxes.set i ⟨b.name, b.next, b.mails.set k ⟨m.uid, x.flags, m.text⟩⟩, s.spool⟩ [y] = (s, 0) := by
  have := flag_ok (s := ⟨s.boxes.set i ⟨b.name, b.next, b.mails.set k ⟨m.uid, x.flags, m.text⟩⟩, s.spool⟩) (x := y) (b := ⟨b.name, b.next, b.mails.set k ⟨m.uid, x.flags, m.text⟩⟩) (m := ⟨m.uid, x.flags, m.text⟩) hyk hy
    (by rw [hyb, ← h]; exact findB_set _ hb rfl) (set_get hb) (by rw [hyu, ← hu]; exact uidIdx_set _ hm) (mail_set_get hm)
  rw [this]
  simp only [List.set_set, hyf]
  obtain ⟨hlk, hmk⟩ := List.getElem?_eq_some_iff.1 hm
  have e1 : b.mails.set k ⟨m.uid, m.flags, m.text⟩ = b.mails := by
    rw [show (⟨m.uid, m.flags, m.text⟩ : Mail) = b.mails[k] by rw [hmk]]
    exact List.set_getElem_self hlk
  rw [e1]
  obtain ⟨hli, hbi⟩ := List.getElem?_eq_some_iff.1 hb
  have e2 : s.boxes.set i ⟨b.name, b.next, b.mails⟩ = s.boxes := by
    rw [show (⟨b.name, b.next, b.mails⟩ : Bx) = s.boxes[i] by rw [hbi]]
    exact List.set_getElem_self hli
  rw [e2]
/-- Copy -/
theorem copy_eq {s : St} {x : Ent} {i k j : Nat} {b : Bx} {m : Mail} (hk : x.kind = 5) (h : findB s.boxes x.box = some i) (hb : s.boxes[i]? = some b) (hu : uidIdx b.mails x.uid = some k) (hm : b.mails[k]? = some m) (hj : findB s.boxes x.to = some j) :
    applyS s x = match addS s j m.flags m.text with | some t => (t, 0) | none => (s, 5) := by
  unfold applyS; rw [if_neg (by omega), h]; simp only; rw [if_neg (by omega), if_neg (by omega), hb]; simp only; rw [if_neg (by omega)]
  unfold uidIdx at hu
  rw [hu]; simp only; rw [hm]; simp only; rw [if_neg (by omega), hj]; rfl
theorem copy_none {s : St} {x : Ent} {i k : Nat} {b : Bx} {m : Mail} (hk : x.kind = 5) (hx : formV x = 0) (h : findB s.boxes x.box = some i) (hb : s.boxes[i]? = some b) (hu : uidIdx b.mails x.uid = some k) (hm : b.mails[k]? = some m) (hj : findB s.boxes x.to = none) :
    allS s [x] = (s, 7) := by
  refine one_err hx (t := s) ?_ (by decide)
  unfold applyS; rw [if_neg (by omega), h]; simp only; rw [if_neg (by omega), if_neg (by omega), hb]; simp only; rw [if_neg (by omega)]
  unfold uidIdx at hu
  rw [hu]; simp only; rw [hm]; simp only; rw [if_neg (by omega), hj]
/-- a copy is an Append of the mail's flags and text -/
theorem copy_append {s : St} {x y : Ent} {i k j : Nat} {b : Bx} {m : Mail} (hk : x.kind = 5) (hx : formV x = 0) (h : findB s.boxes x.box = some i) (hb : s.boxes[i]? = some b) (hu : uidIdx b.mails x.uid = some k) (hm : b.mails[k]? = some m) (hj : findB s.boxes x.to = some j)
    (hy : formV y = 0) (hyk : y.kind = 2) (hyb : y.box = x.to) (hyf : y.flags = m.flags) (hyt : y.text = m.text) : allS s [x] = allS s [y] := by
  rw [one_eq s x hx, one_eq s y hy, copy_eq hk h hb hu hm hj, append_eq hyk (by rw [hyb]; exact hj), hyf, hyt]
end Go.Proofs.YthllhakgcnfmcaaDoor
