/- On the way. -/
import Derived.Test.YtmkppkjikifdlaaGreatDoorTScTree
import Derived.Test.YtmkppkjikifdlaaGreatDoorTCod
import Derived.Test.YtmkppkjikifdlaaGreatDoorTKtA
set_option linter.unusedVariables false
set_option linter.unusedSimpArgs false
namespace Go.Proofs.YtmkppkjikifdlaaGreatDoor.Sc
open Go.RowKit
open Tk (Tok)
structure RepK (k : Nat) (α : Type) where
 rep : World → Dom → α → List Value → Prop
 len : ∀ {w F x vs}, rep w F x vs → vs.length = k
 stable : ∀ {w w' F x vs}, rep w F x vs → Same F w w' → w.heap.size ≤ w'.heap.size → rep w' F x vs
 mono : ∀ {w F F' x vs}, rep w F x vs → (∀ b, F b → F' b) → rep w F' x vs
def RepK.cod {k : Nat} {α : Type} (r : RepK k α) : Cod α := { size := k, rep := r.rep, len := r.len, stable := r.stable, mono := r.mono }
def strC (s : Str) : List Value := [.string ⟨s.toArray⟩]
def cStr : Cod Str := Cod.flat 1 strC (fun _ => rfl)
def tokC (t : Tok) : List Value := [.int .i64 t.kind, .string ⟨t.text.toArray⟩, .int .i64 t.num]
def cTok : Cod Tok := Cod.flat 3 tokC (fun _ => rfl)
def tstC (t : Tst) (vn vk vt : Value) : List Value := [.int .i64 t.kind, .int .i64 t.mat, .int .i64 t.part, vn, vk, .bool t.over, .int .i64 t.limit, vt]
def RepK.none (k : Nat) (α : Type) : RepK k α := { rep := fun _ _ _ _ => False, len := fun h => h.elim, stable := fun h _ _ => h.elim, mono := fun h _ => h.elim }
def stepT (r : RepK 8 Tst) : RepK 8 Tst where
 rep := fun w F t vs => ∃ vn vk vt, vs = tstC t vn vk vt ∧ SAt cStr w F vn t.names ∧ SAt cStr w F vk t.keys ∧ SAt r.cod w F vt t.tests
 len := fun ⟨_, _, _, h, _⟩ => by rw [h]; rfl
 stable := fun ⟨vn, vk, vt, h, h1, h2, h3⟩ hs hz => ⟨vn, vk, vt, h, h1.stable hs hz, h2.stable hs hz, h3.stable hs hz⟩
 mono := fun ⟨vn, vk, vt, h, h1, h2, h3⟩ hF => ⟨vn, vk, vt, h, h1.mono hF, h2.mono hF, h3.mono hF⟩
def rTst : Nat → RepK 8 Tst
 | 0 => RepK.none 8 Tst
 | n + 1 => stepT (rTst n)
def cTst (n : Nat) : Cod Tst := (rTst n).cod
def cmdC (c : Cmd) (vx : Value) (ts : List Value) (vh ve : Value) : List Value := .int .i64 c.kind :: vx :: (ts ++ [vh, ve])
def stepC (t : Cod Tst) (r : RepK 12 Cmd) (ht : t.size = 8) : RepK 12 Cmd where
 rep := fun w F c vs => ∃ vx ts vh ve, vs = cmdC c vx ts vh ve ∧ SAt cStr w F vx c.texts ∧ t.rep w F c.test ts ∧ SAt r.cod w F vh c.thn ∧ SAt r.cod w F ve c.els
 len := fun ⟨_, ts, _, _, h, _, h2, _⟩ => by have := t.len h2; rw [h]; show (ts ++ _).length + 1 + 1 = 12; rw [List.length_append, this, ht]; rfl
 stable := fun ⟨vx, ts, vh, ve, h, h1, h2, h3, h4⟩ hs hz => ⟨vx, ts, vh, ve, h, h1.stable hs hz, t.stable h2 hs hz, h3.stable hs hz, h4.stable hs hz⟩
 mono := fun ⟨vx, ts, vh, ve, h, h1, h2, h3, h4⟩ hF => ⟨vx, ts, vh, ve, h, h1.mono hF, t.mono h2 hF, h3.mono hF, h4.mono hF⟩
def rCmd : Nat → RepK 12 Cmd
 | 0 => RepK.none 12 Cmd
 | n + 1 => stepC (cTst (n + 1)) (rCmd n) rfl
def cCmd (n : Nat) : Cod Cmd := (rCmd n).cod
theorem SAt.weaker {α : Type} {c c' : Cod α} {w : World} {F : Dom} {v : Value} {xs : List α} (h : SAt c w F v xs) (hs : c.size = c'.size) (hr : ∀ x vs, c.rep w F x vs → c'.rep w F x vs) : SAt c' w F v xs := by
 obtain ⟨G, cap, hv, hc, hf⟩ := h
 refine ⟨G, cap, hv, hc, fun i x hi => ?_⟩
 obtain ⟨g, off, hG, hF, hg, vs, h1, h2⟩ := hf i x hi
 exact ⟨g, off, hG, hF, hg, vs, hr x vs h1, by rw [← hs]; exact h2⟩
theorem tst_up : ∀ (n : Nat) {w : World} {F : Dom} {t : Tst} {vs : List Value}, (cTst n).rep w F t vs → (cTst (n + 1)).rep w F t vs
 | 0, _, _, _, _, h => h.elim
 | n + 1, _, _, _, _, ⟨vn, vk, vt, h, h1, h2, h3⟩ => ⟨vn, vk, vt, h, h1, h2, SAt.weaker h3 rfl fun _ _ hr => tst_up n hr⟩
theorem tst_le {n m : Nat} (hm : n ≤ m) {w : World} {F : Dom} {t : Tst} {vs : List Value} (h : (cTst n).rep w F t vs) : (cTst m).rep w F t vs := by
 induction hm with
 | refl => exact h
 | step _ ih => exact tst_up _ ih
theorem cmd_up : ∀ (n : Nat) {w : World} {F : Dom} {c : Cmd} {vs : List Value}, (cCmd n).rep w F c vs → (cCmd (n + 1)).rep w F c vs
 | 0, _, _, _, _, h => h.elim
 | n + 1, _, _, _, _, ⟨vx, ts, vh, ve, h, h1, h2, h3, h4⟩ => ⟨vx, ts, vh, ve, h, h1, tst_up _ h2, SAt.weaker h3 rfl fun _ _ hr => cmd_up n hr, SAt.weaker h4 rfl fun _ _ hr => cmd_up n hr⟩
theorem cmd_le {n m : Nat} (hm : n ≤ m) {w : World} {F : Dom} {c : Cmd} {vs : List Value} (h : (cCmd n).rep w F c vs) : (cCmd m).rep w F c vs := by
 induction hm with
 | refl => exact h
 | step _ ih => exact cmd_up _ ih
theorem tst_open {n : Nat} {w : World} {F : Dom} {t : Tst} {vs : List Value} (h : (cTst n).rep w F t vs) : ∃ m Gn cn Gk ck Gt ct, n = m + 1 ∧ vs = tstC t (.slice Gn t.names.length cn) (.slice Gk t.keys.length ck) (.slice Gt t.tests.length ct) ∧ SAt cStr w F (.slice Gn t.names.length cn) t.names ∧ SAt cStr w F (.slice Gk t.keys.length ck) t.keys ∧ SAt (cTst m) w F (.slice Gt t.tests.length ct) t.tests := by
 cases n with
 | zero => exact h.elim
 | succ m =>
  obtain ⟨vn, vk, vt, hv, h1, h2, h3⟩ := h
  obtain ⟨Gn, cn, rfl, -⟩ := h1.form
  obtain ⟨Gk, ck, rfl, -⟩ := h2.form
  obtain ⟨Gt, ct, rfl, -⟩ := h3.form
  exact ⟨m, Gn, cn, Gk, ck, Gt, ct, rfl, hv, h1, h2, h3⟩
theorem cmd_open {n : Nat} {w : World} {F : Dom} {c : Cmd} {vs : List Value} (h : (cCmd n).rep w F c vs) : ∃ m Gx cx Gn cn Gk ck Gt ct Gh ch Ge ce, n = m + 1 ∧ vs = cmdC c (.slice Gx c.texts.length cx) (tstC c.test (.slice Gn c.test.names.length cn) (.slice Gk c.test.keys.length ck) (.slice Gt c.test.tests.length ct)) (.slice Gh c.thn.length ch) (.slice Ge c.els.length ce) ∧
    SAt cStr w F (.slice Gx c.texts.length cx) c.texts ∧ (cTst (m + 1)).rep w F c.test (tstC c.test (.slice Gn c.test.names.length cn) (.slice Gk c.test.keys.length ck) (.slice Gt c.test.tests.length ct)) ∧ SAt (cCmd m) w F (.slice Gh c.thn.length ch) c.thn ∧ SAt (cCmd m) w F (.slice Ge c.els.length ce) c.els := by
 cases n with
 | zero => exact h.elim
 | succ m =>
  obtain ⟨vx, ts, vh, ve, hv, h1, h2, h3, h4⟩ := h
  obtain ⟨_, Gn, cn, Gk, ck, Gt, ct, hm, rfl, -⟩ := tst_open h2
  obtain ⟨Gx, cx, rfl, -⟩ := h1.form
  obtain ⟨Gh, ch, rfl, -⟩ := h3.form
  obtain ⟨Ge, ce, rfl, -⟩ := h4.form
  exact ⟨m, Gx, cx, Gn, cn, Gk, ck, Gt, ct, Gh, ch, Ge, ce, rfl, hv, h1, h2, h3, h4⟩
theorem str_get {w wr : World} {F : Dom} {G : Option Addr} {n cap : Nat} {l : List Str} (h : SAt cStr w F (.slice G n cap) l) (hs : Same F w wr) (hz : w.heap.size ≤ wr.heap.size) (j : Nat) (hj : j < l.length) :
    ∃ g off, G = some ⟨g, off, none⟩ ∧ wr.cell? ⟨g, off + j, none⟩ = some (.string ⟨l[j].toArray⟩) := by
 obtain ⟨g, off, vs, hG, hF, hg, hv, hc⟩ := (h.stable hs hz).get j hj
 obtain rfl : vs = strC l[j] := hv
 have := hc 0 _ rfl
 exact ⟨g, off, hG, by rw [show off + j = off + j * (cStr).size + 0 by show off + j = off + j * 1 + 0; omega]; exact this⟩
theorem tst_get {n : Nat} {w wr : World} {F : Dom} {G : Option Addr} {len cap : Nat} {l : List Tst} (h : SAt (cTst n) w F (.slice G len cap) l) (hs : Same F w wr) (hz : w.heap.size ≤ wr.heap.size) (j : Nat) (hj : j < l.length) :
    ∃ g off Gn cn Gk ck Gt ct, G = some ⟨g, off, none⟩ ∧ (cTst n).rep wr F l[j] (tstC l[j] (.slice Gn l[j].names.length cn) (.slice Gk l[j].keys.length ck) (.slice Gt l[j].tests.length ct)) ∧
     wr.cell? ⟨g, off + j * 8, none⟩ = some (.int .i64 l[j].kind) ∧ wr.cell? ⟨g, off + j * 8 + 1, none⟩ = some (.int .i64 l[j].mat) ∧ wr.cell? ⟨g, off + j * 8 + 2, none⟩ = some (.int .i64 l[j].part) ∧ wr.cell? ⟨g, off + j * 8 + 3, none⟩ = some (.slice Gn l[j].names.length cn) ∧
     wr.cell? ⟨g, off + j * 8 + 4, none⟩ = some (.slice Gk l[j].keys.length ck) ∧ wr.cell? ⟨g, off + j * 8 + 5, none⟩ = some (.bool l[j].over) ∧ wr.cell? ⟨g, off + j * 8 + 6, none⟩ = some (.int .i64 l[j].limit) ∧ wr.cell? ⟨g, off + j * 8 + 7, none⟩ = some (.slice Gt l[j].tests.length ct) := by
 obtain ⟨g, off, vs, hG, hF, hg, hv, hc⟩ := (h.stable hs hz).get j hj
 obtain ⟨_, Gn, cn, Gk, ck, Gt, ct, -, rfl, -⟩ := tst_open hv
 exact ⟨g, off, Gn, cn, Gk, ck, Gt, ct, hG, hv, hc 0 _ rfl, hc 1 _ rfl, hc 2 _ rfl, hc 3 _ rfl, hc 4 _ rfl, hc 5 _ rfl, hc 6 _ rfl, hc 7 _ rfl⟩
theorem cmd_get {n : Nat} {w wr : World} {F : Dom} {G : Option Addr} {len cap : Nat} {l : List Cmd} (h : SAt (cCmd n) w F (.slice G len cap) l) (hs : Same F w wr) (hz : w.heap.size ≤ wr.heap.size) (j : Nat) (hj : j < l.length) :
    ∃ g off Gx cx Gn cn Gk ck Gt ct Gh ch Ge ce, G = some ⟨g, off, none⟩ ∧ (cCmd n).rep wr F l[j] (cmdC l[j] (.slice Gx l[j].texts.length cx) (tstC l[j].test (.slice Gn l[j].test.names.length cn) (.slice Gk l[j].test.keys.length ck) (.slice Gt l[j].test.tests.length ct)) (.slice Gh l[j].thn.length ch) (.slice Ge l[j].els.length ce)) ∧
     wr.cell? ⟨g, off + j * 12, none⟩ = some (.int .i64 l[j].kind) ∧ wr.cell? ⟨g, off + j * 12 + 1, none⟩ = some (.slice Gx l[j].texts.length cx) ∧
     (wr.cell? ⟨g, off + j * 12 + 2, none⟩ = some (.int .i64 l[j].test.kind) ∧ wr.cell? ⟨g, off + j * 12 + 3, none⟩ = some (.int .i64 l[j].test.mat) ∧ wr.cell? ⟨g, off + j * 12 + 4, none⟩ = some (.int .i64 l[j].test.part) ∧ wr.cell? ⟨g, off + j * 12 + 5, none⟩ = some (.slice Gn l[j].test.names.length cn) ∧
     wr.cell? ⟨g, off + j * 12 + 6, none⟩ = some (.slice Gk l[j].test.keys.length ck) ∧ wr.cell? ⟨g, off + j * 12 + 7, none⟩ = some (.bool l[j].test.over) ∧ wr.cell? ⟨g, off + j * 12 + 8, none⟩ = some (.int .i64 l[j].test.limit) ∧ wr.cell? ⟨g, off + j * 12 + 9, none⟩ = some (.slice Gt l[j].test.tests.length ct)) ∧
     wr.cell? ⟨g, off + j * 12 + 10, none⟩ = some (.slice Gh l[j].thn.length ch) ∧ wr.cell? ⟨g, off + j * 12 + 11, none⟩ = some (.slice Ge l[j].els.length ce) := by
 obtain ⟨g, off, vs, hG, hF, hg, hv, hc⟩ := (h.stable hs hz).get j hj
 obtain ⟨_, Gx, cx, Gn, cn, Gk, ck, Gt, ct, Gh, ch, Ge, ce, -, rfl, -⟩ := cmd_open hv
 exact ⟨g, off, Gx, cx, Gn, cn, Gk, ck, Gt, ct, Gh, ch, Ge, ce, hG, hv, hc 0 _ rfl, hc 1 _ rfl, ⟨hc 2 _ rfl, hc 3 _ rfl, hc 4 _ rfl, hc 5 _ rfl, hc 6 _ rfl, hc 7 _ rfl, hc 8 _ rfl, hc 9 _ rfl⟩, hc 10 _ rfl, hc 11 _ rfl⟩
end Go.Proofs.YtmkppkjikifdlaaGreatDoor.Sc
