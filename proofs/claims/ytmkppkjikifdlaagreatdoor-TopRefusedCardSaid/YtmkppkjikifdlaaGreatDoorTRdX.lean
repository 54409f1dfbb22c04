/- On the way. -/
import Derived.Test.YtmkppkjikifdlaaGreatDoorTScP
import Derived.Test.YtmkppkjikifdlaaGreatDoorTScTest
import Derived.Test.YtmkppkjikifdlaaGreatDoorTScTstH
import Derived.Test.YtmkppkjikifdlaaGreatDoorTScW
import Derived.Test.YtmkppkjikifdlaaGreatDoorTShelf
import Derived.Lib.BufferOwn
import Derived.Deep.QuietTactic
import Derived.Deep.CutBlock
import Derived.BigQuiet
import Derived.Handy
import Derived.Lib.SlicesS
set_option linter.unusedVariables false
set_option linter.unusedSimpArgs false
set_option maxHeartbeats 8000000
set_option maxRecDepth 20000
namespace Go.Proofs.YtmkppkjikifdlaaGreatDoor.Sc
open Go.RowKit
open Tk (Tok)
structure RT (w : World) (b : Nat) (v : Value) (F : Dom) (all : List Tok) (n : Nat) : Prop where
 c0 : w.cell? ⟨b, 0, none⟩ = some v
 c1 : w.cell? ⟨b, 1, none⟩ = some (.int .i64 (n : Int))
 f1 : w.frozen? ⟨b, 1, none⟩ = false
 lt : b < w.heap.size
 toks : SAt cTok w F v all
 low : ∀ x, F x → x < b
def TLeft (all : List Tok) (n : Nat) (l : List Tok) : Prop := n + l.length = all.length ∧ all.drop n = l
def RL (w : World) (b : Nat) (v : Value) (F : Dom) (all l : List Tok) : Prop := ∃ n, TLeft all n l ∧ RT w b v F all n
theorem TLeft.start (all : List Tok) : TLeft all 0 all := ⟨by simp, rfl⟩
theorem TLeft.nil {all : List Tok} {n : Nat} (h : TLeft all n []) : n = all.length := by have := h.1; simpa using this
theorem TLeft.cons {all : List Tok} {n : Nat} {c : Tok} {r : List Tok} (h : TLeft all n (c :: r)) : n < all.length ∧ all[n]? = some c ∧ TLeft all (n + 1) r := by
 have h1 := h.1
 simp only [List.length_cons] at h1
 have hlt : n < all.length := by omega
 have h2 := h.2
 rw [List.drop_eq_getElem_cons hlt] at h2
 obtain ⟨e1, e2⟩ := List.cons.inj h2
 exact ⟨hlt, by rw [List.getElem?_eq_getElem hlt, e1], by omega, e2⟩
theorem RT.grown {w w' : World} {b : Nat} {v : Value} {F : Dom} {all : List Tok} {n : Nat} {o : Option Nat} (h : RT w b v F all n) (g : w.grownBy w' o) (ho : ∀ x, o = some x → x ≠ b ∧ ¬ F x) : RT w' b v F all n := by
 have hk := g.block b h.lt (fun e => (ho b e.symm).1 rfl)
 exact ⟨(World.cell?_of_block (w := w) (a := ⟨b, 0, none⟩) hk).trans h.c0, (World.cell?_of_block (w := w) (a := ⟨b, 1, none⟩) hk).trans h.c1, (World.frozen?_of_block (w := w) (a := ⟨b, 1, none⟩) hk).trans h.f1, Nat.lt_of_lt_of_le h.lt g.size, h.toks.stable (Same.of_grown g fun x e => (ho x e).2) g.size, h.low⟩
theorem RT.below {w w' : World} {b : Nat} {v : Value} {F : Dom} {all : List Tok} {n : Nat} (h : RT w b v F all n) (hb : Below w.heap.size w w') : RT w' b v F all n :=
 h.grown (o := none) ⟨hb.os, hb.tape, hb.output, hb.size, fun k hk _ => hb.block k hk⟩ (fun x e => by cases e)
theorem belowDrewN (w : World) (k : Nat) : Below w.heap.size w (w.drewN k) := ⟨rfl, rfl, rfl, Nat.le_refl _, fun _ _ => rfl⟩
theorem RT.drewN {w : World} {b : Nat} {v : Value} {F : Dom} {all : List Tok} {n : Nat} (h : RT w b v F all n) (k : Nat) : RT (w.drewN k) b v F all n := h.below (belowDrewN w k)
theorem RT.set {w : World} {b : Nat} {v : Value} {F : Dom} {all : List Tok} {n : Nat} (h : RT w b v F all n) (n' : Nat) : RT (w.setCell ⟨b, 1, none⟩ (.int .i64 (n' : Int))) b v F all n' :=
 ⟨(World.cell?_setCell_other _ _ _ _ (by simp)).trans h.c0, World.cell?_setCell_same _ _ _ h.c1, (World.frozen?_setCell ..).trans h.f1, by have := h.lt; simpa [World.setCell] using this,
  h.toks.stable (fun x hx _ => Below.heap_setCell _ _ _ _ (by show x ≠ b; intro e; have := h.low x hx; omega)) (by simp [World.setCell]), h.low⟩
theorem RT.step {w : World} {b : Nat} {v : Value} {F : Dom} {all : List Tok} {n : Nat} (h : RT w b v F all n) : RT (w.setCell ⟨b, 1, none⟩ (.int .i64 ((n : Int) + 1))) b v F all (n + 1) := h.set (n + 1)
theorem RL.below {w w' : World} {b : Nat} {v : Value} {F : Dom} {all l : List Tok} (h : RL w b v F all l) (hb : Below w.heap.size w w') : RL w' b v F all l := by
 obtain ⟨n, h1, h2⟩ := h; exact ⟨n, h1, h2.below hb⟩
theorem RL.grown {w w' : World} {b : Nat} {v : Value} {F : Dom} {all l : List Tok} {o : Option Nat} (h : RL w b v F all l) (g : w.grownBy w' o) (ho : ∀ x, o = some x → x ≠ b ∧ ¬ F x) : RL w' b v F all l := by
 obtain ⟨n, h1, h2⟩ := h; exact ⟨n, h1, h2.grown g ho⟩
theorem RT.far {w : World} {b N i : Nat} {v : Value} {F : Dom} {all : List Tok} {n : Nat} (h : RT w b v F all n) (hN : b < N) (u : Value) : RT (w.setCell ⟨N, i, none⟩ u) b v F all n := by
 have hk : ∀ x, x ≠ N → (w.setCell ⟨N, i, none⟩ u).heap[x]? = w.heap[x]? := fun x hx => Below.heap_setCell _ _ _ _ (by show x ≠ N; exact hx)
 exact ⟨(World.cell?_of_block (w := w) (a := ⟨b, 0, none⟩) (hk b (by omega))).trans h.c0, (World.cell?_of_block (w := w) (a := ⟨b, 1, none⟩) (hk b (by omega))).trans h.c1, (World.frozen?_of_block (w := w) (a := ⟨b, 1, none⟩) (hk b (by omega))).trans h.f1, by have := h.lt; simpa [World.setCell] using this,
  h.toks.stable (fun x hx _ => hk x (by have := h.low x hx; omega)) (by simp [World.setCell]), h.low⟩
theorem grown_far {w W : World} {o : Option Nat} {N i : Nat} (g : w.grownBy W o) (hN : w.heap.size ≤ N) (u : Value) : w.grownBy (W.setCell ⟨N, i, none⟩ u) o :=
 ⟨g.os, g.tape, g.output, by have := g.size; simpa [World.setCell] using this, fun k hk he => (Below.heap_setCell _ _ _ _ (by show k ≠ N; omega)).trans (g.block k hk he)⟩
theorem RT.tok {w : World} {b : Nat} {v : Value} {F : Dom} {all : List Tok} {n : Nat} {t : Tok} (h : RT w b v F all n) (ht : all[n]? = some t) : ∃ g off cap, v = .slice (some ⟨g, off, none⟩) all.length cap ∧ w.cell? ⟨g, off + n * 3, none⟩ = some (.int .i64 t.kind) ∧ w.cell? ⟨g, off + n * 3 + 1, none⟩ = some (.string ⟨t.text.toArray⟩) ∧ w.cell? ⟨g, off + n * 3 + 2, none⟩ = some (.int .i64 t.num) := by
 obtain ⟨hlt, he⟩ := List.getElem?_eq_some_iff.1 ht
 obtain ⟨G, cap, rfl, -⟩ := h.toks.form
 obtain ⟨g, off, vs, rfl, -, -, hv, hc⟩ := h.toks.get n hlt
 rw [he] at hv
 obtain rfl : vs = tokC t := hv
 exact ⟨g, off, cap, rfl, hc 0 _ rfl, hc 1 _ rfl, hc 2 _ rfl⟩
def wrongC (all : List Tok) (k : Nat) (c : Int) : List PanicEntry := [{ v := .iface 152 (.agg #[.int .i64 ((all.length - k : Nat) : Int), .int .i64 c]), recovered := false }]
def Ans {α : Type} (R : α → World → Ending → Prop) (b : Nat) (v : Value) (F : Dom) (all : List Tok) (w : World) : PR α → Ending → World → Prop
 | .ok (a, r), e, w' => R a w' e ∧ RL w' b v F all r ∧ w.grownBy w' (some b)
 | .error (k, c), e, w' => e = .panicked (wrongC all k c) ∧ w.grownBy w' (some b)
theorem Ans.err {α : Type} {R : α → World → Ending → Prop} {b : Nat} {v : Value} {F : Dom} {all : List Tok} {w w' : World} {k : Nat} {c : Int} {e : Ending} (h : Ans R b v F all w (.error (k, c)) e w') : ∃ ch, e = .panicked ch ∧ Hid (ch = wrongC all k c) ∧ w.grownBy w' (some b) := ⟨_, h.1, rfl, h.2⟩
theorem Ans.mono {α : Type} {R R' : α → World → Ending → Prop} {b : Nat} {v : Value} {F : Dom} {all : List Tok} {w w' : World} {x : PR α} {e : Ending} (h : Ans R b v F all w x e w') (hR : ∀ a, R a w' e → R' a w' e) : Ans R' b v F all w x e w' := by
 cases x with
 | ok p => obtain ⟨a, r⟩ := p; exact ⟨hR a h.1, h.2⟩
 | error p => obtain ⟨k, c⟩ := p; exact h
theorem gBelow {w w' : World} (h : Below w.heap.size w w') (b : Nat) : w.grownBy w' (some b) := Go.Lib.grownBy_below (World.grownBy.refl w (some b)) h
def GiveP (all l : List Tok) (c : Int) (w : World) (e : Ending) (w' : World) : Prop := ∃ ch, e = .panicked ch ∧ Hid (ch = wrongC all l.length (if l.length = 0 then 4 else c)) ∧ Below w.heap.size w w'
theorem give_any (b n : Nat) (v : Value) (F : Dom) (all l : List Tok) (c : Int) (w : World) (hc : 1 ≤ c ∧ c ≤ 11) (_hn : all.length ≤ 100000) (hl : TLeft all n l) (h : RT w b v F all n) :
    Calls Tryz.prog 107 #[.pointer (some ⟨b, 0, none⟩), .int .i64 c] w (GiveP all l c w) := by
 obtain ⟨G, cap, rfl, -⟩ := h.toks.form
 have c0 := h.c0
 have c1 := h.c1
 have hat : all.length - l.length = n := by have := hl.1; omega
 have HCH : ∀ q : Int, Hid ([{ v := .iface 152 (.agg #[.int .i64 (n : Int), .int .i64 q]), recovered := false }] = wrongC all l.length q) := fun q => by unfold Hid wrongC; rw [hat]
 have hpos := hl.1
 obtain ⟨hc1, hc2⟩ := hc
 by_cases h0 : l.length = 0
 ·have HCQ := HCH 4
  have HIF : Hid ((if l.length = 0 then (4 : Int) else c) = 4) := if_pos h0
  have hd : decide (all.length ≤ n) = true := decide_eq_true (by omega)
  clear hl h hat h0 HCH
  go_enter Tryz.func107, Tryz.ntmps107
  go_wp2_with fail
  go_quiet (fail)
  go_wp2_with fail
  exact ⟨rfl, _, rfl, by unfold Hid; rw [HIF.out]; exact HCQ.out, belowDrewN w _⟩
 ·have HCQ := HCH c
  have HIF : Hid ((if l.length = 0 then (4 : Int) else c) = c) := if_neg h0
  have hd : decide (all.length ≤ n) = false := decide_eq_false (by omega)
  clear hl h hat h0 HCH
  go_enter Tryz.func107, Tryz.ntmps107
  go_wp2_with fail
  go_quiet (fail)
  go_wp2_with fail
  exact ⟨rfl, _, rfl, by unfold Hid; rw [HIF.out]; exact HCQ.out, belowDrewN w _⟩
theorem RT.facts {w : World} {b : Nat} {v : Value} {F : Dom} {all l : List Tok} {n : Nat} (h : RT w b v F all n) (hl : TLeft all n l) : ∃ G cap, v = .slice G all.length cap ∧ n + l.length = all.length ∧
    ∀ t r, l = t :: r → ∃ g off, G = some ⟨g, off, none⟩ ∧ w.cell? ⟨g, off + n * 3, none⟩ = some (.int .i64 t.kind) ∧ w.cell? ⟨g, off + n * 3 + 1, none⟩ = some (.string ⟨t.text.toArray⟩) ∧ w.cell? ⟨g, off + n * 3 + 2, none⟩ = some (.int .i64 t.num) := by
 obtain ⟨G, cap, rfl, -⟩ := h.toks.form
 refine ⟨G, cap, rfl, hl.1, ?_⟩
 rintro t r rfl
 obtain ⟨hlt, ht, -⟩ := hl.cons
 obtain ⟨g, off, cap', hv, e0, e1, e2⟩ := h.tok ht
 cases hv
 exact ⟨g, off, rfl, e0, e1, e2⟩
theorem is_any (b n : Nat) (v : Value) (F : Dom) (all l : List Tok) (k : Int) (s : Str) (w : World) (_hn : all.length ≤ 100000) (hl : TLeft all n l) (h : RT w b v F all n) :
    Calls Tryz.prog 135 #[.pointer (some ⟨b, 0, none⟩), .int .i64 k, .string ⟨s.toArray⟩] w fun e w' => e = .returned (.bool (isP k s l)) ∧ Below w.heap.size w w' := by
 obtain ⟨G, cap, rfl, hlen, hf⟩ := h.facts hl
 have c0 := h.c0
 have c1 := h.c1
 have hpos : (0 : Int) ≤ n := by omega
 cases l with
 | nil =>
  have hd : decide (n < all.length) = false := decide_eq_false (by simp at hlen; omega)
  have HE : Hid (isP k s [] = false) := rfl
  clear hl h hf hlen
  rw [HE.out]
  go_enter Tryz.func135, Tryz.ntmps135
  go_wp2_with fail
  go_quiet (fail)
  go_wp2_with fail
  go_ret
  exact ⟨rfl, belowDrewN w _⟩
 | cons t r =>
  obtain ⟨g, off, rfl, e0, e1, e2⟩ := hf t r rfl
  rw [List.length_cons] at hlen
  have hd : decide (n < all.length) = true := decide_eq_true (by omega)
  have hlt : (n : Int) < all.length := by omega
  by_cases hk : t.kind = k
  ·have HE : Hid (isP k s (t :: r) = (t.text == s)) := by unfold Hid; show (t.kind == k && t.text == s) = _; rw [beq_iff_eq.2 hk, Bool.true_and]
   have hkb : (t.kind == k) = true := beq_iff_eq.2 hk
   clear hl h hf hlen hk
   rw [HE.out]
   go_enter Tryz.func135, Tryz.ntmps135
   go_wp2_with fail
   go_quiet (fail)
   go_wp2_with fail
   go_ret
   exact ⟨rfl, belowDrewN w _⟩
  ·have HE : Hid (isP k s (t :: r) = false) := by unfold Hid; show (t.kind == k && t.text == s) = _; rw [beq_eq_false_iff_ne.2 hk, Bool.false_and]
   have hkb : (t.kind == k) = false := beq_eq_false_iff_ne.2 hk
   clear hl h hf hlen hk
   rw [HE.out]
   go_enter Tryz.func135, Tryz.ntmps135
   go_wp2_with fail
   go_quiet (fail)
   go_wp2_with fail
   go_ret
   exact ⟨rfl, belowDrewN w _⟩
theorem RT.gstep {w w1 : World} {b : Nat} {v : Value} {F : Dom} {all : List Tok} {n : Nat} (h : RT w b v F all n) (hb : Below w.heap.size w w1) : RT (w1.setCell ⟨b, 1, none⟩ (.int .i64 ((n : Int) + 1))) b v F all (n + 1) ∧ w.grownBy (w1.setCell ⟨b, 1, none⟩ (.int .i64 ((n : Int) + 1))) (some b) :=
 ⟨(h.below hb).step, Go.Lib.grownBy_setB (gBelow hb b) 1 (.int .i64 ((n : Int) + 1))⟩
def EatPost (c : UInt8) (b : Nat) (v : Value) (F : Dom) (all l : List Tok) (w : World) (e : Ending) (w' : World) : Prop :=
 (∃ r, eatP c l = some r ∧ e = .returned (.bool true) ∧ RL w' b v F all r ∧ w.grownBy w' (some b)) ∨ (eatP c l = none ∧ e = .returned (.bool false) ∧ RL w' b v F all l ∧ Below w.heap.size w w')
theorem eat_any (b : Nat) (v : Value) (F : Dom) (all l : List Tok) (c : UInt8) (w : World) (hn : all.length ≤ 100000) (h : RL w b v F all l) :
    Calls Tryz.prog 136 #[.pointer (some ⟨b, 0, none⟩), .string ⟨#[c]⟩] w (EatPost c b v F all l w) := by
 obtain ⟨n, hl, hr⟩ := h
 have hi := is_any b n v F all l 5 [c] w hn hl hr
 obtain ⟨q, hq⟩ : ∃ q, q = isP 5 [c] l := ⟨_, rfl⟩
 rw [← hq] at hi
 have HI := Lib.hid hi; have HL := Lib.hid hl; have HR := Lib.hid hr; have HQ := Lib.hid hq
 have hnl := hl.1
 clear hi hl hr hq
 cases q with
 | false =>
  go_enter Tryz.func136, Tryz.ntmps136
  go_wp2_with fail
  refine HI.out.mono ?_
  rintro e w1 ⟨rfl, hb1⟩
  have HB1 := Lib.hid hb1
  clear hb1
  go_wp2_with fail
  go_ret
  refine .inr ⟨?_, rfl, ⟨n, HL.out, HR.out.below HB1.out⟩, HB1.out⟩
  unfold eatP; rw [← HQ.out]; rfl
 | true =>
  obtain ⟨t, r, rfl, -, -⟩ := isP_cons HQ.out.symm
  rw [List.length_cons] at hnl
  have hn1 : n ≤ 100000 := by omega
  go_enter Tryz.func136, Tryz.ntmps136
  go_wp2_with fail
  refine HI.out.mono ?_
  rintro e w1 ⟨rfl, hb1⟩
  have hr1 := HR.out.below hb1
  have d1 := hr1.c1
  have g1 := hr1.f1
  have HS := Lib.hid (HR.out.gstep hb1)
  clear hb1 hr1
  go_wp2_with fail
  go_ret
  refine .inl ⟨r, ?_, rfl, ⟨n + 1, HL.out.cons.2.2, HS.out.1⟩, HS.out.2⟩
  unfold eatP; rw [← HQ.out]; rfl
def Unt (_ : Unit) (_ : World) (e : Ending) : Prop := e = .returned (.tuple #[])
theorem must_any (b : Nat) (v : Value) (F : Dom) (all l : List Tok) (c : UInt8) (w : World) (hn : all.length ≤ 100000) (h : RL w b v F all l) :
    Calls Tryz.prog 112 #[.pointer (some ⟨b, 0, none⟩), .string ⟨#[c]⟩] w (Ans Unt b v F all w (mustP c l)) := by
 have HE := Lib.hid (eat_any b v F all l c w hn h)
 clear h
 go_enter Tryz.func112, Tryz.ntmps112
 go_wp2_with fail
 refine HE.out.mono ?_
 rintro e w1 (⟨r, hr, rfl, h1, g1⟩ | ⟨hr, rfl, ⟨n, hl, h1⟩, hb1⟩)
 ·have HR : Hid (mustP c l = .ok ((), r)) := by unfold Hid mustP; rw [hr]
  have H1 := Lib.hid h1; have G1 := Lib.hid g1
  clear hr h1 g1 HE
  go_wp2_with fail
  go_returns
  rw [HR.out]
  exact ⟨rfl, H1.out, G1.out⟩
 ·have HR : Hid (mustP c l = .error (l.length, if l.length = 0 then 4 else 3)) := by unfold Hid mustP; rw [hr]; rfl
  have HG := Lib.hid (give_any b n v F all l 3 w1 (by decide) hn hl h1)
  have HB := Lib.hid hb1
  clear hr hl h1 hb1 HE
  go_wp2_with fail
  refine HG.out.mono ?_
  rintro e w2 ⟨ch, rfl, HCH, hb2⟩
  have HB2 := Lib.hid (bt HB.out hb2)
  clear hb2 HG
  go_wp2_with fail
  refine ⟨rfl, ?_⟩
  rw [HR.out]
  exact ⟨by rw [HCH.out], gBelow HB2.out b⟩
theorem RT.tokAt {w : World} {b : Nat} {v : Value} {F : Dom} {all : List Tok} {n i : Nat} {t : Tok} (h : RT w b v F all n) (ht : all[i]? = some t) : ∃ g off cap, v = .slice (some ⟨g, off, none⟩) all.length cap ∧ w.cell? ⟨g, off + i * 3, none⟩ = some (.int .i64 t.kind) ∧ w.cell? ⟨g, off + i * 3 + 1, none⟩ = some (.string ⟨t.text.toArray⟩) ∧ w.cell? ⟨g, off + i * 3 + 2, none⟩ = some (.int .i64 t.num) := by
 obtain ⟨hlt, he⟩ := List.getElem?_eq_some_iff.1 ht
 obtain ⟨G, cap, rfl, -⟩ := h.toks.form
 obtain ⟨g, off, vs, rfl, -, -, hv, hc⟩ := h.toks.get i hlt
 rw [he] at hv
 obtain rfl : vs = tokC t := hv
 exact ⟨g, off, cap, rfl, hc 0 _ rfl, hc 1 _ rfl, hc 2 _ rfl⟩
def TokR (t : Tok) (_ : World) (e : Ending) : Prop := e = .returned (.agg #[.int .i64 t.kind, .string ⟨t.text.toArray⟩, .int .i64 t.num])
theorem next_tok (b : Nat) (v : Value) (F : Dom) (all l : List Tok) (k : Int) (w : World) (hn : all.length ≤ 100000) (h : RL w b v F all l) :
    Calls Tryz.prog 111 #[.pointer (some ⟨b, 0, none⟩), .int .i64 k] w (Ans TokR b v F all w (nextP k l)) := by
 obtain ⟨n, hl, hr0⟩ := h
 have hal := ba (Below.refl w.heap.size w) (.cells #[.int .i64 0, .string ⟨#[]⟩, .int .i64 0] 147)
 have hr := hr0.below hal
 have HAL := Lib.hid hal; have HR := Lib.hid hr
 have HN := Lib.hid (Has.alloc w [.int .i64 0, .string ⟨#[]⟩, .int .i64 0] 147)
 have hbw := hr0.lt
 obtain ⟨G, cap, rfl, hlen, hf⟩ := hr.facts hl
 have c0 := hr.c0
 have c1 := hr.c1
 have hpos : (0 : Int) ≤ n := by omega
 by_cases hb : ∃ t r, l = t :: r ∧ t.kind = k
 ·obtain ⟨t, r, rfl, hk⟩ := hb
  obtain ⟨g, off, rfl, e0, e1, e2⟩ := hf t r rfl
  rw [List.length_cons] at hlen
  have hd : decide (all.length ≤ n) = false := decide_eq_false (by omega)
  have hlt : (n : Int) < all.length := by omega
  have hn1 : n ≤ 100000 := by omega
  have HE : Hid (nextP k (t :: r) = .ok (t, r)) := by unfold Hid nextP; exact if_pos hk
  have hkb : (t.kind != k) = false := by simpa using hk
  have HL := Lib.hid hl.cons.2.2
  have HT := Lib.hid hl.cons.2.1
  clear hl hr hr0 hf hlen hk hal
  rw [HE.out]
  go_enter Tryz.func111, Tryz.ntmps111
  go_wp2_with fail
  go_quiet (fail)
  have hb1 := bt HAL.out (belowDrewN (w.alloc (.cells #[.int .i64 0, .string ⟨#[]⟩, .int .i64 0] 147)) nq)
  have hr1 := HR.out.drewN nq
  have hn1' := HN.out.down (belowDrewN (w.alloc (.cells #[.int .i64 0, .string ⟨#[]⟩, .int .i64 0] 147)) nq)
  have d1 := hr1.c1
  have g1 := hr1.f1
  have HS : Hid (RT (((w.alloc (.cells #[.int .i64 0, .string ⟨#[]⟩, .int .i64 0] 147)).drewN nq).setCell ⟨b, 1, none⟩ (.int .i64 ((n : Int) + 1))) b (.slice (some ⟨g, off, none⟩) all.length cap) F all (n + 1) ∧ w.grownBy (((w.alloc (.cells #[.int .i64 0, .string ⟨#[]⟩, .int .i64 0] 147)).drewN nq).setCell ⟨b, 1, none⟩ (.int .i64 ((n : Int) + 1))) (some b) ∧ Has (((w.alloc (.cells #[.int .i64 0, .string ⟨#[]⟩, .int .i64 0] 147)).drewN nq).setCell ⟨b, 1, none⟩ (.int .i64 ((n : Int) + 1))) w.heap.size [.int .i64 0, .string ⟨#[]⟩, .int .i64 0]) :=
   ⟨hr1.step, Go.Lib.grownBy_setB (gBelow hb1 b) 1 (.int .i64 ((n : Int) + 1)), hn1'.else' (by omega) _⟩
  clear hb1 hr1 hn1'
  go_upto_region 4 with fail
  refine wp_at (R := fun W => RT W b (.slice (some ⟨g, off, none⟩) all.length cap) F all (n + 1) ∧ w.grownBy W (some b) ∧ Has W w.heap.size [.int .i64 0, .string ⟨#[]⟩, .int .i64 0]) HS.out (fun W hW => ?_)
  clear HS c0 c1 e0 e1 e2 d1 g1
  generalize hNe : w.heap.size = N at hW hbw ⊢
  have HNE : Hid (w.heap.size ≤ N) := Nat.le_of_eq hNe
  clear hNe
  obtain ⟨hrW, hgW, hN⟩ := hW
  have c0 := hrW.c0
  have c1 : W.cell? ⟨b, 1, none⟩ = some (.int .i64 ((n : Int) + 1)) := hrW.c1
  obtain ⟨g', off', cap', hv', e0, e1, e2⟩ := hrW.tokAt HT.out
  cases hv'
  have n0 := hN.1 0 _ rfl; have n1 := hN.1 1 _ rfl; have n2 := hN.1 2 _ rfl
  have m0 := hN.2.1 0 (by simp); have m1 := hN.2.1 1 (by simp); have m2 := hN.2.1 2 (by simp)
  have HRW := Lib.hid hrW; have HGW := Lib.hid hgW; have HNW := Lib.hid hN
  clear hrW hgW hN
  go_region
  all_goals
   have R3 := ((HRW.out.far (i := 0) hbw (.int .i64 t.kind)).far (i := 1) hbw (.string ⟨t.text.toArray⟩)).far (i := 2) hbw (.int .i64 t.num)
   have R4 := Lib.hid (R3.below (Below.drew (Below.refl _ _)))
   have G3 := grown_far (i := 2) (grown_far (i := 1) (grown_far (i := 0) HGW.out HNE.out (.int .i64 t.kind)) HNE.out (.string ⟨t.text.toArray⟩)) HNE.out (.int .i64 t.num)
   have G4 := Lib.hid (Go.Lib.grownBy_below G3 (Below.drew (Below.refl _ _)))
   have hr3 := (((HNW.out.set' (i := 0) (.int .i64 t.kind) (by simp)).set' (i := 1) (.string ⟨t.text.toArray⟩) (by simp)).set' (i := 2) (.int .i64 t.num) (by simp)).down (Below.drew (Below.refl _ _))
   have x0 := hr3.1 0 _ rfl; have x1 := hr3.1 1 _ rfl; have x2 := hr3.1 2 _ rfl
   clear R3 G3 hr3 n0 n1 n2 m0 m1 m2 c0 c1 e0 e1 e2
   go_wp2_with fail
   refine bodyPost_ret (v := .agg #[.int .i64 t.kind, .string ⟨t.text.toArray⟩, .int .i64 t.num]) ?_ rfl ⟨rfl, ⟨n + 1, HL.out, R4.out⟩, G4.out⟩
   simp [results, Tryz.results111, go_sem, x0, x1, x2]
 ·have hE : nextP k l = .error (l.length, if l.length = 0 then 4 else 3) := by
   unfold nextP
   cases l with
   | nil => rfl
   | cons t r => exact if_neg (fun h => hb ⟨t, r, rfl, h⟩)
  have HE := Lib.hid hE
  obtain ⟨q, hq⟩ : ∃ q, q = decide (all.length ≤ n) := ⟨_, rfl⟩
  have HL := Lib.hid hl
  have HG := Lib.hid (fun w' (hb' : Below (w.alloc (.cells #[.int .i64 0, .string ⟨#[]⟩, .int .i64 0] 147)).heap.size (w.alloc (.cells #[.int .i64 0, .string ⟨#[]⟩, .int .i64 0] 147)) w') => give_any b n (.slice G all.length cap) F all l 3 w' (by decide) hn hl (hr.below hb'))
  rw [HE.out]
  cases l with
  | nil =>
   have hd : decide (all.length ≤ n) = true := decide_eq_true (by simp at hlen; omega)
   clear hl hr hr0 hf hlen hal hE hb hq HE
   go_enter Tryz.func111, Tryz.ntmps111
   go_wp2_with fail
   go_quiet (fail)
   go_wp2_with fail
   refine (HG.out _ (belowDrewN _ _)).mono ?_
   rintro e w2 ⟨ch, rfl, HCH, hb2⟩
   have HB2 := Lib.hid (bt (bt HAL.out (belowDrewN _ _)) hb2)
   clear hb2 HG
   go_wp2_with fail
   exact ⟨rfl, by rw [HCH.out]; rfl, gBelow HB2.out b⟩
  | cons t r =>
   obtain ⟨g, off, rfl, e0, e1, e2⟩ := hf t r rfl
   rw [List.length_cons] at hlen
   have hd : decide (all.length ≤ n) = false := decide_eq_false (by omega)
   have hlt : (n : Int) < all.length := by omega
   have hkb : (t.kind != k) = true := by simpa using fun h => hb ⟨t, r, rfl, h⟩
   clear hl hr hr0 hf hlen hal hE hb hq HE
   go_enter Tryz.func111, Tryz.ntmps111
   go_wp2_with fail
   go_quiet (fail)
   go_wp2_with fail
   refine (HG.out _ (belowDrewN _ _)).mono ?_
   rintro e w2 ⟨ch, rfl, HCH, hb2⟩
   have HB2 := Lib.hid (bt (bt HAL.out (belowDrewN _ _)) hb2)
   clear hb2 HG
   go_wp2_with fail
   exact ⟨rfl, by rw [HCH.out]; rfl, gBelow HB2.out b⟩
def posT (w : World) (b : Nat) : Nat := match w.cell? ⟨b, 1, none⟩ with
 | some (.int _ n) => n.toNat
 | _ => 0
theorem RT.pos {w : World} {b : Nat} {v : Value} {F : Dom} {all : List Tok} {n : Nat} (h : RT w b v F all n) : posT w b = n := by unfold posT; rw [h.c1]; rfl
theorem RL.meas {w w' : World} {b : Nat} {v : Value} {F : Dom} {all l l' : List Tok} (h : RL w b v F all l) (h' : RL w' b v F all l') (hl : l'.length < l.length) : all.length - posT w' b < all.length - posT w b := by
 obtain ⟨n, a1, a2⟩ := h
 obtain ⟨n', b1, b2⟩ := h'
 rw [a2.pos, b2.pos]
 have := a1.1; have := b1.1
 omega
theorem RL.lt {w : World} {b : Nat} {v : Value} {F : Dom} {all l : List Tok} (h : RL w b v F all l) : b < w.heap.size := by obtain ⟨n, -, h⟩ := h; exact h.lt
theorem RL.len {w : World} {b : Nat} {v : Value} {F : Dom} {all l : List Tok} (h : RL w b v F all l) : l.length ≤ all.length := by obtain ⟨n, h, -⟩ := h; have := h.1; omega
theorem RL.low {w : World} {b : Nat} {v : Value} {F : Dom} {all l : List Tok} (h : RL w b v F all l) : ∀ x, F x → x < b := by obtain ⟨n, -, h⟩ := h; exact h.low
theorem grown_row {w wr w2 w6 : World} {b : Nat} {o : Option Nat} (g : w.grownBy wr (some b)) (hb : Below wr.heap.size wr w2) (hg : w2.grownBy w6 o) (ho : ∀ x, o = some x → w.heap.size ≤ x) : w.grownBy w6 (some b) :=
 ⟨hg.os.trans (hb.os.trans g.os), hg.tape.trans (hb.tape.trans g.tape), hg.output.trans (hb.output.trans g.output), Nat.le_trans g.size (Nat.le_trans hb.size hg.size), fun k hk he => (hg.block k (Nat.lt_of_lt_of_le hk (Nat.le_trans g.size hb.size)) (fun e => by have := ho k e.symm; omega)).trans ((hb.block k (Nat.lt_of_lt_of_le hk g.size)).trans (g.block k hk he))⟩
theorem sat_read {α : Type} {c : Cod α} {w w' : World} {b H : Nat} {v : Value} {xs : List α} (h : SAt c w (fun x => H ≤ x) v xs) (g : w.grownBy w' (some b)) (hb : b < H) : SAt c w' (fun x => H ≤ x) v xs :=
 h.stable (Same.of_grown g (fun x e hF => by obtain rfl : b = x := Option.some.inj e; have : H ≤ b := hF; omega)) g.size
def StrsR (H : Nat) (ss : List Str) (w' : World) (e : Ending) : Prop := ∃ v, e = .returned v ∧ SAt cStr w' (fun x => H ≤ x) v ss
theorem bnd_assoc {α β γ : Type} (x : PR α) (f : α → List Tok → PR β) (g : β → List Tok → PR γ) : bnd (bnd x f) g = bnd x fun a r => bnd (f a r) g := by cases x <;> rfl
theorem more_none {m : Nat} {r : List Tok} (h : eatP 44 r = none) : moreS m r = .ok ([], r) := by
 cases m with
 | zero => rfl
 | succ m => rw [moreS, h]
theorem tok_text (k nm : Int) (x : ByteArray) (w : World) : (Instr.field 147 (.agg #[.int .i64 k, .string x, .int .i64 nm]) 1).run Tryz.prog w = .ok (.string x) w := by kernel_rfl
theorem tok_num (k nm : Int) (x : ByteArray) (w : World) : (Instr.field 147 (.agg #[.int .i64 k, .string x, .int .i64 nm]) 2).run Tryz.prog w = .ok (.int .i64 nm) w := by kernel_rfl
theorem list_tok (b : Nat) (v : Value) (F : Dom) (all l : List Tok) (w : World) (hn : all.length ≤ 100000) (h : RL w b v F all l) :
    Calls Tryz.prog 110 #[.pointer (some ⟨b, 0, none⟩)] w (Ans (StrsR w.heap.size) b v F all w (listP l)) := by
 have HE := Lib.hid (eat_any b v F all l 91 w hn h)
 have hbl := h.lt
 have hll := h.len
 obtain ⟨i0, hi, hz0, hz1, hz2⟩ := info_three info_str
 have HI0 := Lib.hid hi; have HZ0 := Lib.hid hz0; have HZ1 := Lib.hid hz1; have HZ2 := Lib.hid hz2
 obtain ⟨Rz, hRz⟩ : ∃ Rz, Rz = listP l := ⟨_, rfl⟩
 rw [← hRz]
 have HRZ := Lib.hid hRz
 clear h hRz hi hz0 hz1 hz2
 go_enter Tryz.func110, Tryz.ntmps110
 go_wp2_with fail
 refine HE.out.mono ?_
 rintro e w1 (⟨r1, hr1, rfl, h1, g1⟩ | ⟨hr1, rfl, h1, hb1⟩)
 ·-- a bracket
  have hlt := eat_lt hr1
  have HX : Hid (Rz = bnd (nextP 4 r1) fun t r => bnd (moreS r.length r) fun ts r => bnd (mustP 93 r) fun _ r => .ok (t.text :: ts, r)) := by unfold Hid; rw [HRZ.out]; unfold listP; rw [hr1]
  have hnx := next_tok b v F all r1 4 w1 hn h1
  have G1 := Lib.hid g1
  clear hr1 g1 HE h1
  cases hx : nextP 4 r1 with
  | error p =>
   obtain ⟨k, c⟩ := p
   rw [hx] at hnx HX
   have HN := Lib.hid hnx
   clear hx hnx
   go_wp2_with fail
   refine HN.out.mono ?_
   intro e w2 hp
   obtain ⟨ch, rfl, HCH, g2⟩ := hp.err
   have G2 := Lib.hid (Go.Lib.grownBy_trans G1.out g2)
   clear hp g2 HN
   go_wp2_with fail
   refine ⟨rfl, ?_⟩
   rw [HX.out]
   exact ⟨by rw [HCH.out], G2.out⟩
  | ok p =>
   obtain ⟨t, r2⟩ := p
   have hls := less_next 4 r1
   rw [hx] at hnx HX hls
   have hr2l : r2.length + 1 ≤ r1.length := hls
   have HN := Lib.hid hnx
   clear hx hnx hls
   go_wp2_with fail
   refine HN.out.mono ?_
   intro e w2 hp
   obtain ⟨rfl, h2, g2⟩ := hp
   obtain ⟨k, s, nm⟩ := t
   have hal := ba (Below.refl w2.heap.size w2) (.cells #[.string ⟨s.toArray⟩] 9)
   have G2 := Lib.hid (Go.Lib.grownBy_below (Go.Lib.grownBy_trans G1.out g2) hal)
   have H2 := Lib.hid (h2.below hal)
   have hz12 : w.heap.size ≤ w2.heap.size := Nat.le_trans G1.out.size g2.size
   have hown := World.ownsRow_lit (base := w.heap.size) (e := 9) (size := 1) w2 #[.string ⟨s.toArray⟩] 1 hz12 (by decide) rfl
   have HOWN : Hid ((w2.alloc (.cells #[.string ⟨s.toArray⟩] 9)).ownsRow w.heap.size 9 1 (.slice (some ⟨w2.heap.size, 0, none⟩) 1 1) 1 (strs [s])) := hown
   have HX2 : Hid (Rz = bnd (moreS r2.length r2) fun ts q => bnd (mustP 93 q) fun _ q2 => .ok ([s] ++ ts, q2)) := HX.out
   have hfld := fun w => tok_text k nm ⟨s.toArray⟩ w
   clear h2 g2 hal hown HN HX HRZ hz12
   go_wp2_with fail
   have HA0 : Hid (([s] : List Str).length + r2.length ≤ 100001) := by unfold Hid; show 1 + r2.length ≤ _; omega
   clear hfld
   obtain ⟨W3, hW3⟩ : ∃ W3, W3 = w2.alloc (.cells #[.string ⟨s.toArray⟩] 9) := ⟨_, rfl⟩
   obtain ⟨N3, hN3⟩ : ∃ N3, N3 = w2.heap.size := ⟨_, rfl⟩
   rw [← hW3] at G2 H2 HOWN ⊢
   rw [← hN3] at HOWN ⊢
   clear hW3 hN3
   go_loopw [3] (fun vo wr => ∃ (acc : List Str) (r : List Tok) (m : Nat), RL wr b v F all r ∧ wr.ownsRow w.heap.size 9 1 vo acc.length (strs acc) ∧ 1 ≤ acc.length ∧ r.length ≤ m ∧ acc.length + r.length ≤ 100001 ∧ Hid (Rz = bnd (moreS m r) fun ts q => bnd (mustP 93 q) fun _ q2 => .ok (acc ++ ts, q2)) ∧ w.grownBy wr (some b)) (fun _ wr => all.length - posT wr b)
   case atStart => exact ⟨[s], r2, r2.length, H2.out, HOWN.out, Nat.le_refl _, Nat.le_refl _, HA0.out, HX2.out, G2.out⟩
   case round =>
    obtain ⟨acc, r, m, hr, hrow, hacc, hm, hla, HQ, hg⟩ := hrel
    obtain ⟨Gv, cv, rfl⟩ := row_slice hrow
    have HE2 := Lib.hid (eat_any b v F all r 44 wr hn hr)
    have HR := Lib.hid hr; have HROW := Lib.hid hrow; have HG := Lib.hid hg
    clear hr hrow hg
    go_wp2_with fail
    refine HE2.out.mono ?_
    rintro e w4 (⟨r4, hr4, rfl, h4, g4⟩ | ⟨hr4, rfl, h4, hb4⟩)
    ·have hlt4 := eat_lt hr4
     obtain ⟨m', rfl⟩ : ∃ m', m = m' + 1 := ⟨m - 1, by omega⟩
     have HQ2 : Hid (Rz = bnd (nextP 4 r4) fun t r => bnd (moreS m' r) fun ts q => bnd (mustP 93 q) fun _ q2 => .ok (acc ++ (t.text :: ts), q2)) := by
      unfold Hid; rw [HQ.out, moreS, hr4]
      show bnd (bnd (nextP 4 r4) _) _ = _
      rw [bnd_assoc]
      cases nextP 4 r4 with
      | error p => rfl
      | ok p =>
       show bnd (bnd (moreS m' p.2) _) _ = bnd (moreS m' p.2) _
       rw [bnd_assoc]; rfl
     have hnx := next_tok b v F all r4 4 w4 hn h4
     have hls := less_next 4 r4
     have G4 := Lib.hid (Go.Lib.grownBy_trans HG.out g4)
     have HROW4 := Lib.hid (HROW.out.kept g4 (by
      by_cases e : (Value.slice Gv acc.length cv).ownBlock = none
      ·exact .inl e
      ·refine .inr fun e2 => ?_
       have := (HROW.out.lt b e2).1
       omega))
     have HR4 := Lib.hid h4
     clear hr4 g4 HE2 h4 HQ
     cases hx : nextP 4 r4 with
     | error p =>
      obtain ⟨k, c⟩ := p
      rw [hx] at hnx HQ2
      have HN := Lib.hid hnx
      clear hx hnx hls
      go_wp2_with fail
      refine HN.out.mono ?_
      intro e w5 hp
      obtain ⟨ch, rfl, HCH, g5⟩ := hp.err
      have G5 := Lib.hid (Go.Lib.grownBy_trans G4.out g5)
      clear hp g5 HN
      go_wp2_with fail
      refine ⟨rfl, ?_⟩
      rw [HQ2.out]
      exact ⟨by rw [HCH.out], G5.out⟩
     | ok p =>
      obtain ⟨⟨kt, st, nt⟩, r5⟩ := p
      rw [hx] at hnx HQ2 hls
      have hr5l : r5.length + 1 ≤ r4.length := hls
      have HN := Lib.hid hnx
      have hfld := fun w => tok_text kt nt ⟨st.toArray⟩ w
      clear hx hnx hls
      go_wp2_with fail
      refine HN.out.mono ?_
      intro e w5 hp
      obtain ⟨rfl, h5, g5⟩ := hp
      have hal := ba (Below.refl w5.heap.size w5) (.cells #[.string ⟨st.toArray⟩] 9)
      have hrow5 := HROW4.out.kept g5 (by
       by_cases e : (Value.slice Gv acc.length cv).ownBlock = none
       ·exact .inl e
       ·refine .inr fun e2 => ?_
        have := (HROW4.out.lt b e2).1
        omega)
      have HROW5 := Lib.hid (row_down hrow5 hal)
      have HAL := Lib.hid hal
      have G5 := Lib.hid (Go.Lib.grownBy_trans G4.out g5)
      have H5 := Lib.hid h5
      clear h5 g5 hal hrow5 HN
      go_wp2_with (at_builtin; refine wpList_append_lies _ (by rfl) _ _ _ (by rfl) w.heap.size 9 i0 _ 1 16 Tryz.underlying52 HI0.out HZ0.out HZ1.out HZ2.out rfl (by omega) (.slice Gv acc.length cv) acc.length (strs acc) (by rfl) HROW5.out ⟨w5.heap.size, 0, none⟩ 1 1 [.string ⟨st.toArray⟩] (by rfl) (by rfl) (news_of w5 _ _) (by simp [Value.oneCell']) (by omega) (by unfold maxLen; omega) (by omega) (by have := G5.out.size; simp; omega) (w5.heap.size + 1) (by simp) ?_)
      intro g6 cap6 w6 hown6 hgrow6 hat6 hlt6
      have hlo : ∀ x, (Value.slice Gv acc.length cv).ownBlock = some x → w.heap.size ≤ x := fun x e => (HROW5.out.lt x e).1
      have HG6 := Lib.hid (grown_row G5.out HAL.out hgrow6 hlo)
      have HR6 := Lib.hid ((H5.out.below HAL.out).grown hgrow6 (fun x e => ⟨by have := hlo x e; omega, fun hF => by have := HR.out.low x hF; have := hlo x e; omega⟩))
      have HOWN6 : Hid (w6.ownsRow w.heap.size 9 1 (.slice (some ⟨g6, 0, none⟩) (acc.length + 1) cap6) (acc ++ [st]).length (strs (acc ++ [st]))) := by
       unfold Hid
       have e1 : (acc ++ [st]).length = acc.length + 1 := by simp
       have e2 : strs (acc ++ [st]) = strs acc ++ [.string ⟨st.toArray⟩] := by simp [strs]
       rw [e1, e2]; exact hown6
      have HQ6 : Hid (Rz = bnd (moreS m' r5) fun ts q => bnd (mustP 93 q) fun _ q2 => .ok ((acc ++ [st]) ++ ts, q2)) := by
       unfold Hid
       rw [HQ2.out]
       show bnd (moreS m' r5) _ = _
       simp only [List.append_assoc, List.singleton_append]
      have HME := Lib.hid (HR.out.meas HR6.out (by omega))
      clear hown6 hgrow6 hat6 hlt6 hlo hfld
      go_wp2_with fail
      go_roundw
      case rel => exact ⟨acc ++ [st], r5, m', HR6.out, HOWN6.out, by simp, by omega, by simp; omega, HQ6.out, HG6.out⟩
      case measure => exact HME.out
    ·have HQ2 : Hid (Rz = bnd (mustP 93 r) fun _ q2 => .ok (acc, q2)) := by
      unfold Hid; rw [HQ.out, more_none hr4]; show bnd (mustP 93 r) _ = _; rw [List.append_nil]
     have hmu := must_any b v F all r 93 w4 hn h4
     have HROW4 := Lib.hid (row_down HROW.out hb4)
     have G4 := Lib.hid (Go.Lib.grownBy_below HG.out hb4)
     clear hr4 hb4 h4 HE2 HQ
     cases hx : mustP 93 r with
     | error p =>
      obtain ⟨k, c⟩ := p
      rw [hx] at hmu HQ2
      have HN := Lib.hid hmu
      clear hx hmu
      go_wp2_with fail
      refine HN.out.mono ?_
      intro e w5 hp
      obtain ⟨ch, rfl, HCH, g5⟩ := hp.err
      have G5 := Lib.hid (Go.Lib.grownBy_trans G4.out g5)
      clear hp g5 HN
      go_wp2_with fail
      refine ⟨rfl, ?_⟩
      rw [HQ2.out]
      exact ⟨by rw [HCH.out], G5.out⟩
     | ok p =>
      obtain ⟨u, r5⟩ := p
      rw [hx] at hmu HQ2
      have HN := Lib.hid hmu
      clear hx hmu
      go_wp2_with fail
      refine HN.out.mono ?_
      intro e w5 hp
      obtain ⟨rfl, h5, g5⟩ := hp
      have hrow5 := HROW4.out.kept g5 (by
       by_cases e : (Value.slice Gv acc.length cv).ownBlock = none
       ·exact .inl e
       ·refine .inr fun e2 => ?_
        have := (HROW4.out.lt b e2).1
        omega)
      obtain ⟨g6, cap6, hgv, hg6, -⟩ := World.ownsRow.form hrow5 hacc
      cases hgv
      have HS := Lib.hid (sat_own (F := fun x => w.heap.size ≤ x) hrow5 rfl hg6)
      have G5 := Lib.hid (Go.Lib.grownBy_trans G4.out g5)
      have H5 := Lib.hid h5
      clear h5 g5 hrow5 HN
      go_wp2_with fail
      go_ret
      rw [HQ2.out]
      exact ⟨⟨_, rfl, HS.out⟩, H5.out, G5.out⟩
 ·-- one alone
  have HX : Hid (Rz = bnd (nextP 4 l) fun t r => .ok ([t.text], r)) := by unfold Hid; rw [HRZ.out]; unfold listP; rw [hr1]
  have hnx := next_tok b v F all l 4 w1 hn h1
  have HB1 := Lib.hid hb1
  clear hr1 hb1 HE h1 HRZ
  cases hx : nextP 4 l with
  | error p =>
   obtain ⟨k, c⟩ := p
   rw [hx] at hnx HX
   have HN := Lib.hid hnx
   clear hx hnx
   go_wp2_with fail
   refine HN.out.mono ?_
   intro e w2 hp
   obtain ⟨ch, rfl, HCH, g2⟩ := hp.err
   have G2 := Lib.hid (Go.Lib.grownBy_trans (gBelow HB1.out b) g2)
   clear hp g2 HN
   go_wp2_with fail
   refine ⟨rfl, ?_⟩
   rw [HX.out]
   exact ⟨by rw [HCH.out], G2.out⟩
  | ok p =>
   obtain ⟨⟨k, s, nm⟩, r2⟩ := p
   rw [hx] at hnx HX
   have HN := Lib.hid hnx
   have hfld := fun w => tok_text k nm ⟨s.toArray⟩ w
   clear hx hnx
   go_wp2_with fail
   refine HN.out.mono ?_
   intro e w2 hp
   obtain ⟨rfl, h2, g2⟩ := hp
   have hal := ba (Below.refl w2.heap.size w2) (.cells #[.string ⟨s.toArray⟩] 9)
   have G2 := Lib.hid (Go.Lib.grownBy_below (Go.Lib.grownBy_trans (gBelow HB1.out b) g2) hal)
   have H2 := Lib.hid (h2.below hal)
   have hz12 : w.heap.size ≤ w2.heap.size := Nat.le_trans HB1.out.size g2.size
   have HS := Lib.hid (sat_str (F := fun x => w.heap.size ≤ x) (Has.alloc w2 [.string ⟨s.toArray⟩] 9) hz12)
   clear h2 g2 hal HN hz12
   go_wp2_with fail
   go_ret
   rw [HX.out]
   exact ⟨⟨_, rfl, HS.out⟩, H2.out, G2.out⟩
theorem grown_low {w w' : World} {b : Nat} (g : w.grownBy w' (some b)) (hb : b ≤ w.heap.size) : Below b w w' :=
 ⟨g.os, g.tape, g.output, g.size, fun k hk => g.block k (by omega) (fun e => by have := Option.some.inj e; omega)⟩
def idxI (tab : List Str) (s : Str) : Int := if tab.idxOf s < tab.length then (tab.idxOf s : Int) else -1
theorem idxI_W (tab : List Str) (s : Str) : (0 < idxI tab s ∧ idxI tab s = idxW tab s ∧ 0 < idxW tab s) ∨ (idxI tab s ≤ 0 ∧ idxW tab s = 0) := by
 unfold idxI idxW
 split <;> omega
theorem idxFrom_map (s : Str) : ∀ (l : List Str) (i : Nat), Lib.idxFromS (l.map fun x => (⟨x.toArray⟩ : ByteArray)) ⟨s.toArray⟩ i = if l.idxOf s < l.length then ((i + l.idxOf s : Nat) : Int) else -1
 | [], i => rfl
 | x :: l, i => by
  by_cases e : x = s
  ·subst e
   simp [Lib.idxFromS]
  ·have h1 : ¬ ((⟨x.toArray⟩ : ByteArray) = ⟨s.toArray⟩) := fun h => e (by
    have := congrArg (fun b : ByteArray => b.data.toList) h
    simpa using this)
   have h2 : (x :: l).idxOf s = l.idxOf s + 1 := by rw [List.idxOf_cons, beq_eq_false_iff_ne.2 e]; rfl
   have ih := idxFrom_map s l (i + 1)
   rw [h2, List.length_cons]
   show (if _ then _ else _) = _
   rw [if_neg h1, ih]
   split
   ·rw [if_pos (by omega)]; congr 1; omega
   ·rw [if_neg (by omega)]
theorem idx_tab (g : Nat) (tab : List Str) (s : Str) (w : World) (hT : TabAt w g tab) (hl : tab.length ≤ 1000) :
    Calls Tryz.prog 43 #[.slice (some ⟨g, 0, none⟩) tab.length tab.length, .string ⟨s.toArray⟩] w fun e w' => e = .returned (.int .i64 (idxI tab s)) ∧ w' = w := by
 have h := Tryz.slices_Index_string g 0 tab.length tab.length (tab.map fun x => ⟨x.toArray⟩) ⟨s.toArray⟩ w (by rw [List.length_map]; exact Nat.le_refl _) (by omega) (fun j hj => by
  rw [List.length_map] at hj
  rw [Nat.zero_add, hT j _ (List.getElem?_eq_getElem hj), List.getD, List.getElem?_map, List.getElem?_eq_getElem hj]; rfl)
 have e : Lib.idxOfS ((tab.map fun x => (⟨x.toArray⟩ : ByteArray)).take tab.length) ⟨s.toArray⟩ = idxI tab s := by
  rw [List.take_of_length_le (by rw [List.length_map]; exact Nat.le_refl _)]
  unfold Lib.idxOfS
  rw [idxFrom_map]
  unfold idxI
  rw [Nat.zero_add]
 rw [e] at h
 exact h
def NumR (k : Nat) (_ : World) (e : Ending) : Prop := e = .returned (.int .i64 k)
theorem word_tok (b g : Nat) (tab : List Str) (m : Nat) (v : Value) (F : Dom) (all l : List Tok) (w : World) (hn : all.length ≤ 100000) (h : RL w b v F all l) (hT : TabAt w g tab) (hg : g < b) (hm : m = tab.length) (hl : tab.length ≤ 1000) :
    Calls Tryz.prog 108 #[.pointer (some ⟨b, 0, none⟩), .slice (some ⟨g, 0, none⟩) m m] w (Ans NumR b v F all w (wordP tab l)) := by
 obtain ⟨n, hl0, hr⟩ := h
 have hbl := hr.lt
 obtain ⟨G, cap, rfl, hlen, hf⟩ := hr.facts hl0
 have c0 := hr.c0
 have c1 := hr.c1
 have hpos : (0 : Int) ≤ n := by omega
 have HG := Lib.hid (fun w' (hb' : Below w.heap.size w w') => give_any b n (.slice G all.length cap) F all l 3 w' (by decide) hn hl0 (hr.below hb'))
 have HR := Lib.hid hr; have HL := Lib.hid hl0
 by_cases hk1 : ∃ t r, l = t :: r ∧ t.kind = 1
 ·obtain ⟨t, r, rfl, hk⟩ := hk1
  obtain ⟨gg, off, rfl, e0, e1, e2⟩ := hf t r rfl
  rw [List.length_cons] at hlen
  have hd : decide (n < all.length) = true := decide_eq_true (by omega)
  have hlt : (n : Int) < all.length := by omega
  have hn1 : n ≤ 100000 := by omega
  have hkb : (t.kind == 1) = true := beq_iff_eq.2 hk
  have HW : Hid (wordP tab (t :: r) = if 0 < idxW tab t.text then .ok (idxW tab t.text, r) else giveP (t :: r) 3) := by
   unfold Hid wordP
   show (if t.kind = 1 ∧ 0 < idxW tab t.text then _ else _) = _
   simp only [hk, true_and]
  have HT := Lib.hid hT
  have HI : Hid (∀ W, Below w.heap.size w W → Calls Tryz.prog 43 #[.slice (some ⟨g, 0, none⟩) m m, .string ⟨t.text.toArray⟩] W fun e w' => e = .returned (.int .i64 (idxI tab t.text)) ∧ w' = W) := fun W hb => by
   rw [hm]; exact idx_tab g tab t.text W (hT.below hb (by omega)) hl
  have key := idxI_W tab t.text
  have HTK := Lib.hid hl0.cons.2.1
  obtain ⟨q, hq⟩ : ∃ q, q = idxI tab t.text := ⟨_, rfl⟩
  rw [← hq] at HI key
  clear hl0 hr hf hlen hk hT hm hl hq
  go_enter Tryz.func108, Tryz.ntmps108
  go_wp2_with fail
  go_quiet (fail)
  have HB1 := Lib.hid (belowDrewN w nq)
  go_upto_region 2 with fail
  refine wp_at (R := fun W => Below w.heap.size w W) HB1.out (fun W hW => ?_)
  clear HB1 c0 c1 e0 e1 e2
  have hrW := HR.out.below hW
  have c0 := hrW.c0
  have c1 := hrW.c1
  have f1 := hrW.f1
  obtain ⟨g', off', cap', hv', e0, e1, e2⟩ := hrW.tokAt HTK.out
  cases hv'
  have HBW := Lib.hid hW
  clear hrW hW
  go_quiet ((go_at_call 43; exact Calls.quiet_of_same (HI.out _ (bt HBW.out (belowDrewN W _)))))
  have HB2 := Lib.hid (bt HBW.out (belowDrewN W nq))
  have hr2 := HR.out.below HB2.out
  have d1 := hr2.c1
  have f2 := hr2.f1
  have HS := Lib.hid (HR.out.gstep HB2.out)
  clear hr2 c0 c1 f1 e0 e1 e2
  rcases key with ⟨k1, k2, k3⟩ | ⟨k1, k2⟩
  ·rw [if_pos k3] at HW
   have HK2 := Lib.hid k2
   clear k3 k2
   go_wp2_with fail
   go_ret
   rw [HW.out]
   exact ⟨by unfold NumR; rw [← HK2.out]; rfl, ⟨n + 1, HL.out.cons.2.2, HS.out.1⟩, HS.out.2⟩
  ·rw [if_neg (by omega)] at HW
   have k1' : ¬ (0 < q) := by omega
   have HGV := Lib.hid (HG.out _ HB2.out)
   clear k1 k2
   go_wp2_with fail
   refine HGV.out.mono ?_
   rintro e w2 ⟨ch, rfl, HCH, hb2⟩
   have HB3 := Lib.hid (bt HB2.out hb2)
   clear hb2 HGV
   go_wp2_with fail
   refine ⟨rfl, ?_⟩
   rw [HW.out]
   exact ⟨by rw [HCH.out], gBelow HB3.out b⟩
 ·have HW : Hid (wordP tab l = giveP l 3) := by
   unfold Hid wordP
   cases l with
   | nil => rfl
   | cons t r => exact if_neg (fun h => hk1 ⟨t, r, rfl, h.1⟩)
  cases l with
  | nil =>
   have hd : decide (n < all.length) = false := decide_eq_false (by simp at hlen; omega)
   clear hl0 hr hf hlen hT hm hl hk1
   go_enter Tryz.func108, Tryz.ntmps108
   go_wp2_with fail
   go_quiet (fail)
   go_wp2_with fail
   refine (HG.out _ (belowDrewN w _)).mono ?_
   rintro e w2 ⟨ch, rfl, HCH, hb2⟩
   have HB3 := Lib.hid (bt (belowDrewN w _) hb2)
   clear hb2
   go_wp2_with fail
   refine ⟨rfl, ?_⟩
   rw [HW.out]
   exact ⟨by rw [HCH.out], gBelow HB3.out b⟩
  | cons t r =>
   obtain ⟨gg, off, rfl, e0, e1, e2⟩ := hf t r rfl
   rw [List.length_cons] at hlen
   have hd : decide (n < all.length) = true := decide_eq_true (by omega)
   have hlt : (n : Int) < all.length := by omega
   have hkb : (t.kind == 1) = false := beq_eq_false_iff_ne.2 (fun h => hk1 ⟨t, r, rfl, h⟩)
   clear hl0 hr hf hlen hT hm hl hk1
   go_enter Tryz.func108, Tryz.ntmps108
   go_wp2_with fail
   go_quiet (fail)
   go_wp2_with fail
   refine (HG.out _ (belowDrewN w _)).mono ?_
   rintro e w2 ⟨ch, rfl, HCH, hb2⟩
   have HB3 := Lib.hid (bt (belowDrewN w _) hb2)
   clear hb2
   go_wp2_with fail
   refine ⟨rfl, ?_⟩
   rw [HW.out]
   exact ⟨by rw [HCH.out], gBelow HB3.out b⟩
structure Gr2 (w w' : World) (b T : Nat) : Prop where
 os : w'.os = w.os
 tape : w'.tape = w.tape
 output : w'.output = w.output
 size : w.heap.size ≤ w'.heap.size
 keep : ∀ k, k < w.heap.size → k ≠ b → k ≠ T → w'.heap[k]? = w.heap[k]?
theorem Gr2.refl (w : World) (b T : Nat) : Gr2 w w b T := ⟨rfl, rfl, rfl, Nat.le_refl _, fun _ _ _ _ => rfl⟩
theorem Gr2.trans {w a c : World} {b T : Nat} (h : Gr2 w a b T) (k : Gr2 a c b T) : Gr2 w c b T :=
 ⟨k.os.trans h.os, k.tape.trans h.tape, k.output.trans h.output, Nat.le_trans h.size k.size, fun i hi h1 h2 => (k.keep i (Nat.lt_of_lt_of_le hi h.size) h1 h2).trans (h.keep i hi h1 h2)⟩
theorem Gr2.down {w a c : World} {b T : Nat} (h : Gr2 w a b T) (k : Below a.heap.size a c) : Gr2 w c b T := h.trans ⟨k.os, k.tape, k.output, k.size, fun i hi _ _ => k.block i hi⟩
theorem Gr2.setT {w a : World} {b T i : Nat} (h : Gr2 w a b T) (u : Value) : Gr2 w (a.setCell ⟨T, i, none⟩ u) b T :=
 h.trans ⟨rfl, rfl, rfl, by simp [World.setCell], fun k _ _ h2 => Below.heap_setCell _ _ _ _ (by show k ≠ T; exact h2)⟩
theorem Gr2.setB {w a : World} {b T i : Nat} (h : Gr2 w a b T) (u : Value) : Gr2 w (a.setCell ⟨b, i, none⟩ u) b T :=
 h.trans ⟨rfl, rfl, rfl, by simp [World.setCell], fun k _ h1 _ => Below.heap_setCell _ _ _ _ (by show k ≠ b; exact h1)⟩
theorem Gr2.low {w w' : World} {b T : Nat} (g : Gr2 w w' b T) (hb : b ≤ w.heap.size) (hT : b ≤ T) : Below b w w' :=
 ⟨g.os, g.tape, g.output, g.size, fun k hk => g.keep k (by omega) (by omega) (by omega)⟩
theorem Gr2.out {w0 w w' : World} {b T : Nat} (h : w0.grownBy w (some b)) (g : Gr2 w w' b T) (hT : w0.heap.size ≤ T) : w0.grownBy w' (some b) :=
 ⟨g.os.trans h.os, g.tape.trans h.tape, g.output.trans h.output, Nat.le_trans h.size g.size, fun k hk he => (g.keep k (Nat.lt_of_lt_of_le hk h.size) (fun e => he (congrArg some e)) (by omega)).trans (h.block k hk he)⟩
def tagC (K : Int) (m p : Nat) : List Value := [.int .i64 K, .int .i64 m, .int .i64 p, .slice none 0 0, .slice none 0 0, .bool false, .int .i64 0, .slice none 0 0]
def TagsP (K : Int) (kn b T : Nat) (v : Value) (F : Dom) (all : List Tok) (w : World) : PR (Nat × Nat) → Ending → World → Prop
 | .ok (mp, r), e, w' => e = .returned (.tuple #[]) ∧ RL w' b v F all r ∧ Has w' T (tagC K (dfl mp.1) (if kn = 6 then mp.2 else dfl mp.2)) ∧ Gr2 w w' b T
 | .error (k, c), e, w' => ∃ ch, e = .panicked ch ∧ Hid (ch = wrongC all k c) ∧ Gr2 w w' b T
theorem tags_nil (n k m p : Nat) : tagsP n k m p [] = .ok ((m, p), []) := by cases n <;> rfl
theorem tags_else {n k m p : Nat} {t : Tok} {r : List Tok} (h : t.kind ≠ 2) : tagsP n k m p (t :: r) = .ok ((m, p), t :: r) := by
 cases n with
 | zero => rfl
 | succ n => show (if t.kind = 2 then _ else _) = _; rw [if_neg h]
theorem tags_tag {n k m p : Nat} {t : Tok} {r : List Tok} (h : t.kind = 2) : tagsP (n + 1) k m p (t :: r) = if 0 < idxW matTab t.text ∧ m = 0 then tagsP n k (idxW matTab t.text) p r else if 0 < idxW parTab t.text ∧ p = 0 ∧ k ≠ 6 then tagsP n k m (idxW parTab t.text) r else giveP (t :: r) 3 := by
 show (if t.kind = 2 then _ else _) = _; rw [if_pos h]
theorem rl_far {w : World} {b N i : Nat} {v : Value} {F : Dom} {all l : List Tok} (h : RL w b v F all l) (hN : b < N) (u : Value) : RL (w.setCell ⟨N, i, none⟩ u) b v F all l := by
 obtain ⟨n, h1, h2⟩ := h; exact ⟨n, h1, h2.far hN u⟩
theorem dfl_set (x : Nat) : (x = 0 → dfl x = 1) ∧ (x ≠ 0 → dfl x = x) := by unfold dfl; exact ⟨fun h => if_pos h, fun h => if_neg h⟩
theorem tags_any (K : Int) (kn b T : Nat) (v : Value) (F : Dom) (all l : List Tok) (w : World) (hK : K = kn) (hn : all.length ≤ 100000) (h : RL w b v F all l) (hT : Has w T (tagC K 0 0)) (hTb : b < T) (hTab : Tabs w b) :
    Calls Tryz.prog 158 #[.pointer (some ⟨b, 0, none⟩), .pointer (some ⟨T, 0, none⟩)] w (TagsP K kn b T v F all w (tagsP l.length kn 0 0 l)) := by
 obtain ⟨Rz, hRz⟩ : ∃ Rz, Rz = tagsP l.length kn 0 0 l := ⟨_, rfl⟩
 rw [← hRz]
 have HRZ := Lib.hid hRz; have HT0 := Lib.hid hT; have H0 := Lib.hid h; have HTAB := Lib.hid hTab
 have hbl := h.lt
 have HBL := Lib.hid hbl
 clear h hT hRz hTab
 go_enter Tryz.func158, Tryz.ntmps158
 go_wp2_with fail
 go_loopw [5] (fun _ wr => ∃ (m p f : Nat) (r : List Tok), RL wr b v F all r ∧ Has wr T (tagC K m p) ∧ Hid (Rz = tagsP f kn m p r) ∧ r.length ≤ f ∧ m ≤ 3 ∧ p ≤ 3 ∧ Gr2 w wr b T) (fun _ wr => all.length - posT wr b)
 case atStart => exact ⟨0, 0, l.length, l, H0.out, HT0.out, HRZ.out, Nat.le_refl _, Nat.zero_le _, Nat.zero_le _, Gr2.refl _ _ _⟩
 case round =>
  obtain ⟨m, p, f, r, hr, hT, HQ, hf, hm3, hp3, hg⟩ := hrel
  have HRL := Lib.hid hr
  obtain ⟨n, hl0, hrt⟩ := hr
  obtain ⟨G, cap, rfl, hlen, hfa⟩ := hrt.facts hl0
  have c0 := hrt.c0
  have c1 := hrt.c1
  have hpos : (0 : Int) ≤ n := by omega
  have HR := Lib.hid hrt; have HL := Lib.hid hl0; have HT := Lib.hid hT; have HG := Lib.hid hg
  have HTABr := Lib.hid (HTAB.out.below (hg.low (Nat.le_of_lt HBL.out) (Nat.le_of_lt hTb)))
  by_cases hend : ∃ t q, r = t :: q ∧ t.kind = 2
  ·obtain ⟨t, q, rfl, hk⟩ := hend
   obtain ⟨f', rfl⟩ : ∃ f', f = f' + 1 := ⟨f - 1, by rw [List.length_cons] at hf; omega⟩
   have hQ := HQ.out
   rw [tags_tag hk] at hQ
   obtain ⟨g, off, rfl, e0, e1, e2⟩ := hfa t q rfl
   rw [List.length_cons] at hlen hf
   have hd : decide (n < all.length) = true := decide_eq_true (by omega)
   have hlt : (n : Int) < all.length := by omega
   have hn1 : n ≤ 100000 := by omega
   have hkb : (t.kind == 2) = true := beq_iff_eq.2 hk
   have HTK := Lib.hid hl0.cons.2.1
   have HL1 := Lib.hid hl0.cons.2.2
   have key1 := idxI_W matTab t.text
   have key2 := idxI_W parTab t.text
   have HI1 : Hid (∀ W, Below b wr W → Calls Tryz.prog 43 #[.slice (some ⟨5, 0, none⟩) 4 4, .string ⟨t.text.toArray⟩] W fun e w' => e = .returned (.int .i64 (idxI matTab t.text)) ∧ w' = W) := fun W hb =>
    idx_tab _ matTab t.text W ((HTABr.out.below hb).m) (by decide)
   have HI2 : Hid (∀ W, Below b wr W → Calls Tryz.prog 43 #[.slice (some ⟨6, 0, none⟩) 4 4, .string ⟨t.text.toArray⟩] W fun e w' => e = .returned (.int .i64 (idxI parTab t.text)) ∧ w' = W) := fun W hb =>
    idx_tab _ parTab t.text W ((HTABr.out.below hb).p) (by decide)
   have him : idxW matTab t.text ≤ 3 := by unfold idxW; have : matTab.length = 4 := rfl; split <;> omega
   have hip : idxW parTab t.text ≤ 3 := by unfold idxW; have : parTab.length = 4 := rfl; split <;> omega
   obtain ⟨q1, hq1⟩ : ∃ q1, q1 = idxI matTab t.text := ⟨_, rfl⟩
   obtain ⟨q2, hq2⟩ : ∃ q2, q2 = idxI parTab t.text := ⟨_, rfl⟩
   obtain ⟨i1, hi1⟩ : ∃ i1, i1 = idxW matTab t.text := ⟨_, rfl⟩
   obtain ⟨i2, hi2⟩ : ∃ i2, i2 = idxW parTab t.text := ⟨_, rfl⟩
   rw [← hq1] at HI1
   rw [← hq2] at HI2
   rw [← hq1, ← hi1] at key1
   rw [← hq2, ← hi2] at key2
   rw [← hi1, ← hi2] at hQ
   rw [← hi1] at him
   rw [← hi2] at hip
   have HQ' := Lib.hid hQ
   have HBR := Lib.hid (Nat.lt_of_lt_of_le HBL.out hg.size)
   clear hl0 hrt hfa hlen hT hg hk hQ HQ hq1 hq2 hi1 hi2
   go_wp2_with fail
   go_quiet (fail)
   go_upto_region 1 with fail
   refine wp_at (R := fun W => Below wr.heap.size wr W) (belowDrewN wr nq) (fun W hW => ?_)
   have hrW := HR.out.below hW
   have HW1 := Lib.hid hW
   clear c0 c1 e0 e1 e2
   have c0 := hrW.c0
   have c1 := hrW.c1
   obtain ⟨g', off', cap', hv', e0, e1, e2⟩ := hrW.tokAt HTK.out
   cases hv'
   clear hrW hW
   go_quiet (fail)
   go_upto_region 2 with fail
   refine wp_at (R := fun W => Below wr.heap.size wr W) (bt HW1.out (belowDrewN W nq)) (fun W2 hW => ?_)
   have HW2 := Lib.hid hW
   clear hW c0 c1 e0 e1 e2 HW1
   go_quiet (first
    | (go_at_call 43; (with_reducible exact Calls.quiet_of_same (HI1.out _ ((bt HW2.out (belowDrewN W2 _)).mono (Nat.le_of_lt HBR.out)))))
    | (go_at_call 43; (with_reducible exact Calls.quiet_of_same (HI2.out _ ((bt HW2.out (belowDrewN W2 _)).mono (Nat.le_of_lt HBR.out))))))
   go_upto_region 4 with fail
   refine wp_at (R := fun W => Below wr.heap.size wr W) (bt HW2.out (belowDrewN W2 nq)) (fun V hV => ?_)
   have hTV := HT.out.down hV
   have hrV := HR.out.below hV
   have d0 := hTV.1 0 _ rfl; have d1 := hTV.1 1 _ rfl; have d2 := hTV.1 2 _ rfl
   have f1 := hTV.2.1 1 (by simp [tagC]); have f2 := hTV.2.1 2 (by simp [tagC])
   have c1 := hrV.c1
   have g1 := hrV.f1
   have HTV := Lib.hid hTV; have HRV := Lib.hid hrV; have HGV := Lib.hid (HG.out.down hV)
   clear hTV hrV hV HW2
   by_cases hA : 0 < i1 ∧ m = 0
   ·have q1' : 0 < q1 := by omega
    have q1e : q1 = (i1 : Int) := by omega
    have qm : ((m : Int) == 0) = true := beq_iff_eq.2 (by omega)
    have hQ := HQ'.out
    rw [if_pos hA] at hQ
    have HQ2 := Lib.hid hQ
    have HT1 : Hid (Has (V.setCell ⟨T, 1, none⟩ (.int .i64 q1)) T (tagC K i1 p)) := by
     have h := HTV.out.set' (i := 1) (.int .i64 q1) (by simp [tagC])
     unfold Hid
     rw [q1e] at h ⊢; exact h
    have hr1 := HRV.out.far (i := 1) hTb (.int .i64 q1)
    have c1' := hr1.c1
    have g1' := hr1.f1
    have HR1 := Lib.hid hr1
    have HRE : Hid (RL ((V.setCell ⟨T, 1, none⟩ (.int .i64 q1)).setCell ⟨b, 1, none⟩ (.int .i64 ((n : Int) + 1))) b _ F all q) := ⟨n + 1, HL1.out, HR1.out.step⟩
    have HTE : Hid (Has ((V.setCell ⟨T, 1, none⟩ (.int .i64 q1)).setCell ⟨b, 1, none⟩ (.int .i64 ((n : Int) + 1))) T (tagC K i1 p)) := HT1.out.else' (by omega) _
    have HGE : Hid (Gr2 w ((V.setCell ⟨T, 1, none⟩ (.int .i64 q1)).setCell ⟨b, 1, none⟩ (.int .i64 ((n : Int) + 1))) b T) := (HGV.out.setT _).setB _
    have HME := Lib.hid (HRL.out.meas HRE.out (by simp))
    clear hr1 hQ q1e
    clear hA key1 key2
    go_wp2_with fail
    go_roundw
    case rel => exact ⟨i1, p, f', q, HRE.out, HTE.out, HQ2.out, by omega, him, hp3, HGE.out⟩
    case measure => exact HME.out
   ·have hQ := HQ'.out
    rw [if_neg hA] at hQ
    have hA2 : q1 ≤ 0 ∨ (0 < q1 ∧ ((m : Int) == 0) = false) := by
     by_cases h : q1 ≤ 0
     ·exact .inl h
     ·refine .inr ⟨by omega, beq_eq_false_iff_ne.2 (fun e => hA ⟨by omega, by omega⟩)⟩
    by_cases hB : 0 < i2 ∧ p = 0 ∧ kn ≠ 6
    ·rw [if_pos hB] at hQ
     have HQ2 := Lib.hid hQ
     have q2' : 0 < q2 := by omega
     have q2e : q2 = (i2 : Int) := by omega
     have qp : ((p : Int) == 0) = true := beq_iff_eq.2 (by omega)
     have qk : (K != 6) = true := by simp; omega
     have HT1 : Hid (Has (V.setCell ⟨T, 2, none⟩ (.int .i64 q2)) T (tagC K m i2)) := by
      have h := HTV.out.set' (i := 2) (.int .i64 q2) (by simp [tagC])
      unfold Hid
      rw [q2e] at h ⊢; exact h
     have hr1 := HRV.out.far (i := 2) hTb (.int .i64 q2)
     have c1' := hr1.c1
     have g1' := hr1.f1
     have HR1 := Lib.hid hr1
     have HRE : Hid (RL ((V.setCell ⟨T, 2, none⟩ (.int .i64 q2)).setCell ⟨b, 1, none⟩ (.int .i64 ((n : Int) + 1))) b _ F all q) := ⟨n + 1, HL1.out, HR1.out.step⟩
     have HTE : Hid (Has ((V.setCell ⟨T, 2, none⟩ (.int .i64 q2)).setCell ⟨b, 1, none⟩ (.int .i64 ((n : Int) + 1))) T (tagC K m i2)) := HT1.out.else' (by omega) _
     have HGE : Hid (Gr2 w ((V.setCell ⟨T, 2, none⟩ (.int .i64 q2)).setCell ⟨b, 1, none⟩ (.int .i64 ((n : Int) + 1))) b T) := (HGV.out.setT _).setB _
     have HME := Lib.hid (HRL.out.meas HRE.out (by simp))
     clear hr1 hQ q2e
     clear hA hB key1 key2
     rcases hA2 with hA2 | ⟨hA2, hA3⟩
     ·have hA4 : ¬ 0 < q1 := by omega
      go_wp2_with fail
      go_roundw
      case rel => exact ⟨m, i2, f', q, HRE.out, HTE.out, HQ2.out, by omega, hm3, hip, HGE.out⟩
      case measure => exact HME.out
     ·go_wp2_with fail
      go_roundw
      case rel => exact ⟨m, i2, f', q, HRE.out, HTE.out, HQ2.out, by omega, hm3, hip, HGE.out⟩
      case measure => exact HME.out
    ·rw [if_neg hB] at hQ
     have HQ2 := Lib.hid hQ
     have hB2 : q2 ≤ 0 ∨ (0 < q2 ∧ ((p : Int) == 0) = false) ∨ (0 < q2 ∧ ((p : Int) == 0) = true ∧ (K != 6) = false) := by
      by_cases h : q2 ≤ 0
      ·exact .inl h
      ·by_cases h0 : p = 0
       ·refine .inr (.inr ⟨by omega, beq_iff_eq.2 (by omega), ?_⟩)
        have : kn = 6 := by
         by_cases h6 : kn = 6
         ·exact h6
         ·exact absurd ⟨by omega, h0, h6⟩ hB
        simp; omega
       ·exact .inr (.inl ⟨by omega, beq_eq_false_iff_ne.2 (by omega)⟩)
     have HGVV := Lib.hid (fun c hc => give_any b n _ F all (t :: q) c V hc hn HL.out HRV.out)
     clear hA hB key1 key2 hQ
     rcases hA2 with hA2 | ⟨hA2, hA3⟩
     all_goals
      rcases hB2 with hB2 | ⟨hB2, hB3⟩ | ⟨hB2, hB3, hB4⟩
     all_goals
      first | (have hA4 : ¬ 0 < q1 := by omega) | skip
      first | (have hB5 : ¬ 0 < q2 := by omega) | skip
      go_wp2_with fail
      refine (HGVV.out 3 (by decide)).mono ?_
      rintro e w2 ⟨ch, rfl, HCH, hb2⟩
      have HG2 := Lib.hid (HGV.out.down hb2)
      clear hb2
      go_wp2_with fail
      refine ⟨rfl, ?_⟩
      rw [HQ2.out]
      exact ⟨_, rfl, HCH, HG2.out⟩
  ·have HQE : Hid (Rz = .ok ((m, p), r)) := by
    unfold Hid; rw [HQ.out]
    cases r with
    | nil => exact tags_nil _ _ _ _
    | cons t q => exact tags_else (fun e => hend ⟨t, q, rfl, e⟩)
   have hways : (r = []) ∨ (∃ t q, r = t :: q ∧ t.kind ≠ 2) := by
    cases r with
    | nil => exact .inl rfl
    | cons t q => exact .inr ⟨t, q, rfl, fun e => hend ⟨t, q, rfl, e⟩⟩
   have HRz := Lib.hid hrt
   clear hend HQ
   rcases hways with rfl | ⟨t, q, rfl, hk⟩
   ·have hd : decide (n < all.length) = false := decide_eq_false (by simp at hlen; omega)
    clear hl0 hrt hfa hlen hT hg
    go_wp2_with fail
    go_quiet (fail)
    go_upto_region 9 with fail
    refine wp_at (R := fun W => RL W b _ F all _ ∧ Has W T (tagC K m p) ∧ Gr2 w W b T) ⟨HRL.out.below (belowDrewN wr nq), HT.out.down (belowDrewN wr nq), HG.out.down (belowDrewN wr nq)⟩ (fun W hW => ?_)
    obtain ⟨hrW, hTW, hgW⟩ := hW
    have d0 := hTW.1 0 _ rfl; have d1 := hTW.1 1 _ rfl; have d2 := hTW.1 2 _ rfl
    have f1 := hTW.2.1 1 (by simp [tagC]); have f2 := hTW.2.1 2 (by simp [tagC])
    have HRW := Lib.hid hrW; have HTW := Lib.hid hTW; have HGW := Lib.hid hgW
    clear hrW hTW hgW c0 c1
    by_cases hm0 : m = 0
    ·have q1 : ((m : Int) == 0) = true := beq_iff_eq.2 (by omega)
     have HM : Hid (dfl m = 1) := (dfl_set m).1 hm0
     have hT1 : Has (W.setCell ⟨T, 1, none⟩ (.int .i64 1)) T (tagC K 1 p) := HTW.out.set' (i := 1) (.int .i64 1) (by simp [tagC])
     have HT1 := Lib.hid hT1
     have HR1 := Lib.hid (rl_far (i := 1) HRW.out hTb (.int .i64 1))
     have HG1 := Lib.hid (HGW.out.setT (i := 1) (.int .i64 1))
     clear hm0 hT1
     by_cases hp0 : p = 0 ∧ kn ≠ 6
     ·have q2 : ((p : Int) == 0) = true := beq_iff_eq.2 (by omega)
      have q3 : (K != 6) = true := by simp; omega
      have HP : Hid ((if kn = 6 then p else dfl p) = 1) := by unfold Hid; rw [if_neg hp0.2]; exact (dfl_set p).1 hp0.1
      have HT2 : Hid (Has ((W.setCell ⟨T, 1, none⟩ (.int .i64 1)).setCell ⟨T, 2, none⟩ (.int .i64 1)) T (tagC K 1 1)) := HT1.out.set' (i := 2) (.int .i64 1) (by simp [tagC])
      have HR2 := Lib.hid (rl_far (i := 2) HR1.out hTb (.int .i64 1))
      have HG2 := Lib.hid (HG1.out.setT (i := 2) (.int .i64 1))
      clear hp0
      go_wp2_with fail
      go_returns
      rw [HQE.out]
      exact ⟨rfl, HR2.out, by rw [HM.out, HP.out]; exact HT2.out, HG2.out⟩
     ·have HP : Hid ((if kn = 6 then p else dfl p) = p) := by
       unfold Hid
       by_cases h6 : kn = 6
       ·rw [if_pos h6]
       ·rw [if_neg h6]; exact (dfl_set p).2 (fun e => hp0 ⟨e, h6⟩)
      by_cases hp1 : p = 0
      ·have q2 : ((p : Int) == 0) = true := beq_iff_eq.2 (by omega)
       have q3 : (K != 6) = false := by simp; omega
       clear hp0 hp1
       go_wp2_with fail
       go_returns
       rw [HQE.out]
       exact ⟨rfl, HR1.out, by rw [HM.out, HP.out]; exact HT1.out, HG1.out⟩
      ·have q2 : ((p : Int) == 0) = false := beq_eq_false_iff_ne.2 (by omega)
       clear hp0 hp1
       go_wp2_with fail
       go_returns
       rw [HQE.out]
       exact ⟨rfl, HR1.out, by rw [HM.out, HP.out]; exact HT1.out, HG1.out⟩
    ·have q1 : ((m : Int) == 0) = false := beq_eq_false_iff_ne.2 (by omega)
     have HM : Hid (dfl m = m) := (dfl_set m).2 hm0
     clear hm0
     by_cases hp0 : p = 0 ∧ kn ≠ 6
     ·have q2 : ((p : Int) == 0) = true := beq_iff_eq.2 (by omega)
      have q3 : (K != 6) = true := by simp; omega
      have HP : Hid ((if kn = 6 then p else dfl p) = 1) := by unfold Hid; rw [if_neg hp0.2]; exact (dfl_set p).1 hp0.1
      have HT2 : Hid (Has (W.setCell ⟨T, 2, none⟩ (.int .i64 1)) T (tagC K m 1)) := HTW.out.set' (i := 2) (.int .i64 1) (by simp [tagC])
      have HR2 := Lib.hid (rl_far (i := 2) HRW.out hTb (.int .i64 1))
      have HG2 := Lib.hid (HGW.out.setT (i := 2) (.int .i64 1))
      clear hp0
      go_wp2_with fail
      go_returns
      rw [HQE.out]
      exact ⟨rfl, HR2.out, by rw [HM.out, HP.out]; exact HT2.out, HG2.out⟩
     ·have HP : Hid ((if kn = 6 then p else dfl p) = p) := by
       unfold Hid
       by_cases h6 : kn = 6
       ·rw [if_pos h6]
       ·rw [if_neg h6]; exact (dfl_set p).2 (fun e => hp0 ⟨e, h6⟩)
      by_cases hp1 : p = 0
      ·have q2 : ((p : Int) == 0) = true := beq_iff_eq.2 (by omega)
       have q3 : (K != 6) = false := by simp; omega
       clear hp0 hp1
       go_wp2_with fail
       go_returns
       rw [HQE.out]
       exact ⟨rfl, HRW.out, by rw [HM.out, HP.out]; exact HTW.out, HGW.out⟩
      ·have q2 : ((p : Int) == 0) = false := beq_eq_false_iff_ne.2 (by omega)
       clear hp0 hp1
       go_wp2_with fail
       go_returns
       rw [HQE.out]
       exact ⟨rfl, HRW.out, by rw [HM.out, HP.out]; exact HTW.out, HGW.out⟩
   ·obtain ⟨g, off, rfl, e0, e1, e2⟩ := hfa t q rfl
    rw [List.length_cons] at hlen
    have hd : decide (n < all.length) = true := decide_eq_true (by omega)
    have hlt : (n : Int) < all.length := by omega
    have hkb : (t.kind == 2) = false := beq_eq_false_iff_ne.2 hk
    clear hl0 hrt hfa hlen hT hg hk
    go_wp2_with fail
    go_quiet (fail)
    go_upto_region 9 with fail
    refine wp_at (R := fun W => RL W b _ F all _ ∧ Has W T (tagC K m p) ∧ Gr2 w W b T) ⟨HRL.out.below (belowDrewN wr nq), HT.out.down (belowDrewN wr nq), HG.out.down (belowDrewN wr nq)⟩ (fun W hW => ?_)
    obtain ⟨hrW, hTW, hgW⟩ := hW
    have d0 := hTW.1 0 _ rfl; have d1 := hTW.1 1 _ rfl; have d2 := hTW.1 2 _ rfl
    have f1 := hTW.2.1 1 (by simp [tagC]); have f2 := hTW.2.1 2 (by simp [tagC])
    have HRW := Lib.hid hrW; have HTW := Lib.hid hTW; have HGW := Lib.hid hgW
    clear hrW hTW hgW c0 c1 e0 e1 e2
    by_cases hm0 : m = 0
    ·have q1 : ((m : Int) == 0) = true := beq_iff_eq.2 (by omega)
     have HM : Hid (dfl m = 1) := (dfl_set m).1 hm0
     have hT1 : Has (W.setCell ⟨T, 1, none⟩ (.int .i64 1)) T (tagC K 1 p) := HTW.out.set' (i := 1) (.int .i64 1) (by simp [tagC])
     have HT1 := Lib.hid hT1
     have HR1 := Lib.hid (rl_far (i := 1) HRW.out hTb (.int .i64 1))
     have HG1 := Lib.hid (HGW.out.setT (i := 1) (.int .i64 1))
     clear hm0 hT1
     by_cases hp0 : p = 0 ∧ kn ≠ 6
     ·have q2 : ((p : Int) == 0) = true := beq_iff_eq.2 (by omega)
      have q3 : (K != 6) = true := by simp; omega
      have HP : Hid ((if kn = 6 then p else dfl p) = 1) := by unfold Hid; rw [if_neg hp0.2]; exact (dfl_set p).1 hp0.1
      have HT2 : Hid (Has ((W.setCell ⟨T, 1, none⟩ (.int .i64 1)).setCell ⟨T, 2, none⟩ (.int .i64 1)) T (tagC K 1 1)) := HT1.out.set' (i := 2) (.int .i64 1) (by simp [tagC])
      have HR2 := Lib.hid (rl_far (i := 2) HR1.out hTb (.int .i64 1))
      have HG2 := Lib.hid (HG1.out.setT (i := 2) (.int .i64 1))
      clear hp0
      go_wp2_with fail
      go_returns
      rw [HQE.out]
      exact ⟨rfl, HR2.out, by rw [HM.out, HP.out]; exact HT2.out, HG2.out⟩
     ·have HP : Hid ((if kn = 6 then p else dfl p) = p) := by
       unfold Hid
       by_cases h6 : kn = 6
       ·rw [if_pos h6]
       ·rw [if_neg h6]; exact (dfl_set p).2 (fun e => hp0 ⟨e, h6⟩)
      by_cases hp1 : p = 0
      ·have q2 : ((p : Int) == 0) = true := beq_iff_eq.2 (by omega)
       have q3 : (K != 6) = false := by simp; omega
       clear hp0 hp1
       go_wp2_with fail
       go_returns
       rw [HQE.out]
       exact ⟨rfl, HR1.out, by rw [HM.out, HP.out]; exact HT1.out, HG1.out⟩
      ·have q2 : ((p : Int) == 0) = false := beq_eq_false_iff_ne.2 (by omega)
       clear hp0 hp1
       go_wp2_with fail
       go_returns
       rw [HQE.out]
       exact ⟨rfl, HR1.out, by rw [HM.out, HP.out]; exact HT1.out, HG1.out⟩
    ·have q1 : ((m : Int) == 0) = false := beq_eq_false_iff_ne.2 (by omega)
     have HM : Hid (dfl m = m) := (dfl_set m).2 hm0
     clear hm0
     by_cases hp0 : p = 0 ∧ kn ≠ 6
     ·have q2 : ((p : Int) == 0) = true := beq_iff_eq.2 (by omega)
      have q3 : (K != 6) = true := by simp; omega
      have HP : Hid ((if kn = 6 then p else dfl p) = 1) := by unfold Hid; rw [if_neg hp0.2]; exact (dfl_set p).1 hp0.1
      have HT2 : Hid (Has (W.setCell ⟨T, 2, none⟩ (.int .i64 1)) T (tagC K m 1)) := HTW.out.set' (i := 2) (.int .i64 1) (by simp [tagC])
      have HR2 := Lib.hid (rl_far (i := 2) HRW.out hTb (.int .i64 1))
      have HG2 := Lib.hid (HGW.out.setT (i := 2) (.int .i64 1))
      clear hp0
      go_wp2_with fail
      go_returns
      rw [HQE.out]
      exact ⟨rfl, HR2.out, by rw [HM.out, HP.out]; exact HT2.out, HG2.out⟩
     ·have HP : Hid ((if kn = 6 then p else dfl p) = p) := by
       unfold Hid
       by_cases h6 : kn = 6
       ·rw [if_pos h6]
       ·rw [if_neg h6]; exact (dfl_set p).2 (fun e => hp0 ⟨e, h6⟩)
      by_cases hp1 : p = 0
      ·have q2 : ((p : Int) == 0) = true := beq_iff_eq.2 (by omega)
       have q3 : (K != 6) = false := by simp; omega
       clear hp0 hp1
       go_wp2_with fail
       go_returns
       rw [HQE.out]
       exact ⟨rfl, HRW.out, by rw [HM.out, HP.out]; exact HTW.out, HGW.out⟩
      ·have q2 : ((p : Int) == 0) = false := beq_eq_false_iff_ne.2 (by omega)
       clear hp0 hp1
       go_wp2_with fail
       go_returns
       rw [HQE.out]
       exact ⟨rfl, HRW.out, by rw [HM.out, HP.out]; exact HTW.out, HGW.out⟩
def TstR (m H : Nat) (t : Tst) (w' : World) (e : Ending) : Prop := ∃ vs : List Value, e = .returned (.agg vs.toArray) ∧ (cTst m).rep w' (fun x => H ≤ x) t vs
def TestN (n : Nat) : Prop := ∀ (dI : Int) (d m b : Nat) (v : Value) (F : Dom) (all l : List Tok) (w : World), dI = d → d + m = 8 → all.length ≤ 100000 → RL w b v F all l → Tabs w b → l.length < n →
    Calls Tryz.prog 133 #[.pointer (some ⟨b, 0, none⟩), .int .i64 dI] w (Ans (TstR m w.heap.size) b v F all w (testP n d l))
structure RB (w0 w : World) (b T N : Nat) (v : Value) (F : Dom) (all l : List Tok) (cs : List Value) : Prop where
 rd : RL w b v F all l
 t : Has w T cs
 res : Has w N res8
 gr : w0.grownBy w (some b)
 bN : b < N
 NT : N < T
 N0 : w0.heap.size ≤ N
theorem RB.next {w0 w w' : World} {b T N : Nat} {v : Value} {F : Dom} {all l l' : List Tok} {cs : List Value} (h : RB w0 w b T N v F all l cs) (hr : RL w' b v F all l') (g : w.grownBy w' (some b)) : RB w0 w' b T N v F all l' cs :=
 ⟨hr, h.t.kept g (fun e => by have := Option.some.inj e; have := h.bN; have := h.NT; omega), h.res.kept g (fun e => by have := Option.some.inj e; have := h.bN; omega), Go.Lib.grownBy_trans h.gr g, h.bN, h.NT, h.N0⟩
theorem RB.down {w0 w w' : World} {b T N : Nat} {v : Value} {F : Dom} {all l : List Tok} {cs : List Value} (h : RB w0 w b T N v F all l cs) (g : Below w.heap.size w w') : RB w0 w' b T N v F all l cs := h.next (h.rd.below g) (gBelow g b)
theorem RB.set {w0 w : World} {b T N i : Nat} {v : Value} {F : Dom} {all l : List Tok} {cs : List Value} (h : RB w0 w b T N v F all l cs) (u : Value) (hi : i < cs.length) : RB w0 (w.setCell ⟨T, i, none⟩ u) b T N v F all l (cs.set i u) :=
 ⟨rl_far h.rd (by have := h.bN; have := h.NT; omega) u, h.t.set' u hi, h.res.else' (by have := h.NT; omega) u, grown_far h.gr (by have := h.NT; have := h.N0; omega) u, h.bN, h.NT, h.N0⟩
theorem RB.step {w0 w : World} {b T N n : Nat} {v : Value} {F : Dom} {all l : List Tok} {t : Tok} {cs : List Value} (h : RB w0 w b T N v F all (t :: l) cs) (hn : TLeft all n (t :: l)) : RB w0 (w.setCell ⟨b, 1, none⟩ (.int .i64 ((n : Int) + 1))) b T N v F all l cs := by
 obtain ⟨n', a1, a2⟩ := h.rd
 obtain rfl : n' = n := by have := a1.1; have := hn.1; omega
 exact ⟨⟨n' + 1, a1.cons.2.2, a2.step⟩, h.t.else' (by have := h.bN; have := h.NT; omega) _, h.res.else' (by have := h.bN; omega) _, Go.Lib.grownBy_setB h.gr 1 (.int .i64 ((n' : Int) + 1)), h.bN, h.NT, h.N0⟩
theorem agg_put8 {w0 W : World} {b T N m : Nat} {v : Value} {F : Dom} {all l : List Tok} {t : Tst} {k mt p : Int} {Gn Gk Gt : Option Addr} {nn cn nk ck nt ct : Nat} {o : Bool} {lm : Int} (h : RB w0 W b T N v F all l [.int .i64 k, .int .i64 mt, .int .i64 p, .slice Gn nn cn, .slice Gk nk ck, .bool o, .int .i64 lm, .slice Gt nt ct]) (hr : (cTst m).rep W (fun x => w0.heap.size ≤ x ∧ x ≠ N) t [.int .i64 k, .int .i64 mt, .int .i64 p, .slice Gn nn cn, .slice Gk nk ck, .bool o, .int .i64 lm, .slice Gt nt ct]) :
    Has (put8 W N (.int .i64 k) (.int .i64 mt) (.int .i64 p) (.slice Gn nn cn) (.slice Gk nk ck) (.bool o) (.int .i64 lm) (.slice Gt nt ct)) N [.int .i64 k, .int .i64 mt, .int .i64 p, .slice Gn nn cn, .slice Gk nk ck, .bool o, .int .i64 lm, .slice Gt nt ct] ∧
    Ans (TstR m w0.heap.size) b v F all w0 (.ok (t, l)) (.returned (.agg #[.int .i64 k, .int .i64 mt, .int .i64 p, .slice Gn nn cn, .slice Gk nk ck, .bool o, .int .i64 lm, .slice Gt nt ct])) (put8 W N (.int .i64 k) (.int .i64 mt) (.int .i64 p) (.slice Gn nn cn) (.slice Gk nk ck) (.bool o) (.int .i64 lm) (.slice Gt nt ct)) := by
 have hres : Has W N res8 := h.res
 refine ⟨put8_has hres _ _ _ _ _ _ _ _, ⟨_, rfl, ?_⟩, ?_, ?_⟩
 ·exact (cTst m).mono ((cTst m).stable hr (fun x hx _ => put8_same hx.2 _ _ _ _ _ _ _ _) (put8_size _ _ _ _ _ _ _ _)) (fun x hx => hx.1)
 ·unfold put8
  have hb := h.bN
  exact rl_far (rl_far (rl_far (rl_far (rl_far (rl_far (rl_far (rl_far h.rd hb _) hb _) hb _) hb _) hb _) hb _) hb _) hb _
 ·unfold put8
  have h0 := h.N0
  exact grown_far (grown_far (grown_far (grown_far (grown_far (grown_far (grown_far (grown_far h.gr h0 _) h0 _) h0 _) h0 _) h0 _) h0 _) h0 _) h0 _
theorem test_wrong (n : Nat) (dI : Int) (d m b : Nat) (v : Value) (F : Dom) (all l : List Tok) (w : World) (hdI : dI = d) (hn : all.length ≤ 100000) (h : RL w b v F all l) (hTab : Tabs w b)
    (hbad : (6 < d ∧ l ≠ []) ∨ (¬ (6 < d ∧ l ≠ []) ∧ ∃ k c, wordP tstTab l = .error (k, c))) :
    Calls Tryz.prog 133 #[.pointer (some ⟨b, 0, none⟩), .int .i64 dI] w (Ans (TstR m w.heap.size) b v F all w (testP (n + 1) d l)) := by
 obtain ⟨Rz, hRz⟩ : ∃ Rz, Rz = testP (n + 1) d l := ⟨_, rfl⟩
 rw [← hRz]
 rw [testP] at hRz
 have hal := ba (Below.refl w.heap.size w) (.cells #[.int .i64 0, .int .i64 0, .int .i64 0, .slice none 0 0, .slice none 0 0, .bool false, .int .i64 0, .slice none 0 0] 158)
 have HAL := Lib.hid hal
 have h1 := h.below hal
 obtain ⟨p, hl0, hr⟩ := h1
 obtain ⟨G, cap, rfl, hlen, hf⟩ := hr.facts hl0
 have c0 := hr.c0
 have c1 := hr.c1
 have hpos : (0 : Int) ≤ p := by omega
 have HR := Lib.hid hr; have HL := Lib.hid hl0
 rcases hbad with ⟨hd, hl⟩ | ⟨hd, k, c, hw⟩
 ·rw [if_pos ⟨hd, hl⟩] at hRz
  have hq : decide (6 < dI) = true := decide_eq_true (by omega)
  have hlp : 0 < l.length := List.length_pos_iff.2 hl
  have hq2 : decide (p < all.length) = true := decide_eq_true (by omega)
  have HRZ : Hid (Rz = .error (l.length, if l.length = 0 then 4 else 1)) := by unfold Hid; rw [hRz, if_neg (by omega)]
  clear hRz hal h hl0 hr hf hlen hd hl hlp hdI
  go_enter Tryz.func133, Tryz.ntmps133
  go_wp2_with fail
  go_quiet (fail)
  go_wp2_with fail
  refine (give_any b p _ F all l 1 _ (by decide) hn HL.out (HR.out.below (belowDrewN _ nq))).mono ?_
  rintro e w2 ⟨ch, rfl, HCH, hb2⟩
  have HB2 := Lib.hid (bt (bt HAL.out (belowDrewN _ nq)) hb2)
  clear hb2
  go_wp2_with fail
  refine ⟨rfl, ?_⟩
  rw [HRZ.out]
  exact ⟨by rw [HCH.out], gBelow HB2.out b⟩
 ·rw [if_neg hd, hw] at hRz
  have HRZ : Hid (Rz = .error (k, c)) := hRz
  have hwt := fun W (hb : Below (w.alloc (.cells #[.int .i64 0, .int .i64 0, .int .i64 0, .slice none 0 0, .slice none 0 0, .bool false, .int .i64 0, .slice none 0 0] 158)).heap.size (w.alloc (.cells #[.int .i64 0, .int .i64 0, .int .i64 0, .slice none 0 0, .slice none 0 0, .bool false, .int .i64 0, .slice none 0 0] 158)) W) => word_tok b 3 tstTab 11 (.slice G all.length cap) F all l W hn ⟨p, hl0, hr.below hb⟩ ((hTab.down (Nat.le_of_lt h.lt) (bt hal hb)).t) hTab.low.1 rfl (by decide)
  rw [hw] at hwt
  have HWT := Lib.hid hwt
  have hways : (decide (6 < dI) = false) ∨ (decide (6 < dI) = true ∧ decide (p < all.length) = false) := by
   by_cases h6 : 6 < dI
   ·refine .inr ⟨decide_eq_true h6, decide_eq_false ?_⟩
    have : l = [] := by
     by_cases e : l = []
     ·exact e
     ·exact absurd ⟨by omega, e⟩ hd
    rw [this] at hlen; simp at hlen; omega
   ·exact .inl (decide_eq_false h6)
  clear hRz hal h hl0 hr hf hlen hd hdI hw hwt
  rcases hways with q1 | ⟨q1, q2⟩
  all_goals
   go_enter Tryz.func133, Tryz.ntmps133
   go_wp2_with fail
   go_quiet (fail)
   go_wp2_with fail
   refine (HWT.out _ (belowDrewN _ nq)).mono ?_
   intro e w2 hp
   obtain ⟨ch, rfl, HCH, g2⟩ := hp.err
   have G2 := Lib.hid (Go.Lib.grownBy_trans (gBelow (bt HAL.out (belowDrewN _ nq)) b) g2)
   clear g2 hp
   go_wp2_with fail
   refine ⟨rfl, ?_⟩
   rw [HRZ.out]
   exact ⟨by rw [HCH.out], G2.out⟩
end Go.Proofs.YtmkppkjikifdlaaGreatDoor.Sc
