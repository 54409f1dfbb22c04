/- On the way. -/
import Derived.Test.YtmkppkjikifdlaaGreatDoorTRdZ
import Derived.Test.YtmkppkjikifdlaaGreatDoorTRuAll
import Derived.Test.YtmkppkjikifdlaaGreatDoorTTkB
set_option linter.unusedVariables false
set_option linter.unusedSimpArgs false
set_option maxHeartbeats 8000000
set_option maxRecDepth 20000
namespace Go.Proofs.YtmkppkjikifdlaaGreatDoor.Sc
open Go.RowKit
open Tk (Tok)
def readE (r : List Tok × Nat × Int) : Int := if r.2.2 ≠ 0 then r.2.2 else if (wholeS r.1).2.2 ≠ 0 then (wholeS r.1).2.2 else ruleS (wholeS r.1).1
def ReadP (r : List Tok × Nat × Int) (w : World) (e : Ending) (w' : World) : Prop :=
 (∃ v, e = .returned (.tuple #[v, .int .i64 (readE r)]) ∧ (readE r = 0 → SAt (cCmd (r.1.length + 8)) w' (fun b => w.heap.size ≤ b) v (wholeS r.1).1)) ∧ Below w.heap.size w w'
theorem ReadP.bad {r : List Tok × Nat × Int} {w w' : World} {c : Int} (h : readE r = c) (h0 : c ≠ 0) (hb : Below w.heap.size w w') : ReadP r w (.returned (.tuple #[.slice none 0 0, .int .i64 c])) w' :=
 ⟨⟨_, by rw [h], fun e => absurd (h.symm.trans e) h0⟩, hb⟩
theorem read_any (s : ByteArray) (m : Int) (te : TypeId) (pe : Value) (w : World) (hs : s.size ≤ 100000) (hW : RW w m) (hev : w.cell? ⟨10, 0, none⟩ = some (.iface te pe))
    (hT : ∀ t ∈ (Tk.cutL s.data.toList).1, t.kind = 1 ∨ t.kind = 2 → t.text.length ≤ 4611686018427387904)
    (hG : (Tk.cutL s.data.toList).2.2 = 0 → (wholeS (Tk.cutL s.data.toList).1).2.2 = 0 → (∀ c ∈ (wholeS (Tk.cutL s.data.toList).1).1, FormC c ∧ GoodC c ∧ ∀ s ∈ c.texts, s.length ≤ 1000000) ∧ ((wholeS (Tk.cutL s.data.toList).1).1.flatMap wC).length ≤ 1000000) :
    Calls Tryz.prog 31 #[.string s] w (ReadP (Tk.cutL s.data.toList) w) := by
 have HRW : Hid (∀ w', Below w.heap.size w w' → RW w' m) := fun w' hb => hW.down hb
 have HCU := Lib.hid (Tk.cut_any s m te pe w hs hW.max hev)
 obtain ⟨R, hR⟩ : ∃ R, R = Tk.cutL s.data.toList := ⟨_, rfl⟩
 rw [← hR] at HCU hT hG ⊢
 obtain ⟨ts, p, c⟩ := R
 have HPA : Hid (∀ (v : Value) (F : Dom) (w' : World), SAt cTok w' F v ts → (∀ x, F x → x < w'.heap.size) → Below w.heap.size w w' → Calls Tryz.prog 45 #[v] w' (ParseP ts w')) := fun v F w' h1 h2 hb =>
  parse_any ts v F w' h1 h2 (HRW.out w' hb).tab hT
 have HG := Lib.hid hG
 have HX : Hid (readE (ts, p, c) = if c ≠ 0 then c else if (wholeS ts).2.2 ≠ 0 then (wholeS ts).2.2 else ruleS (wholeS ts).1) := rfl
 clear hs hW hev hT hG hR
 go_enter Tryz.func31, Tryz.ntmps31
 go_wp2_with fail
 refine HCU.out.mono ?_
 intro e w1 hq
 unfold Tk.CutPost at hq
 obtain ⟨⟨v1, rfl, hs1⟩, hb1⟩ := hq
 have HB1 := Lib.hid hb1
 have HP := Lib.hid (HPA.out v1 _ w1 ((SAt.bd (fun _ _ hr => hr) hs1).mono (F' := fun b => b < w1.heap.size) (fun _ h => h.2)) (fun _ h => h) hb1)
 clear hs1 hb1 HCU HPA
 by_cases hc : c = 0
 ·subst hc
  have hx0 : readE (ts, p, 0) = if (wholeS ts).2.2 ≠ 0 then (wholeS ts).2.2 else ruleS (wholeS ts).1 := by rw [HX.out, if_neg (by simp)]
  have HX0 := Lib.hid hx0
  clear hx0 HX
  go_wp2_with fail
  refine HP.out.mono ?_
  intro e w2 hq
  unfold ParseP at hq
  obtain ⟨v2, rfl, hs2, hb2⟩ := hq
  have HS2 := Lib.hid hs2; have HB2 := Lib.hid (bt HB1.out hb2); have HB12 := Lib.hid hb2
  have HGG := Lib.hid (HG.out (by first | rfl | trivial))
  clear hs2 hb2 HP HG
  obtain ⟨L, hL⟩ : ∃ L, L = wholeS ts := ⟨_, rfl⟩
  have HL := Lib.hid hL
  rw [← hL] at HS2 HX0 HGG ⊢
  clear hL
  obtain ⟨cs, q, c2⟩ := L
  by_cases hc2 : c2 = 0
  ·subst hc2
   have hgg := HGG.out rfl
   have hx1 : readE (ts, p, 0) = ruleS cs := by rw [HX0.out, if_neg (by simp)]
   have HX1 := Lib.hid hx1
   have hs2 := (SAt.bd (fun _ _ hr => cmd_bd _ hr) HS2.out).mono (F' := fun b => b < w2.heap.size) (fun _ h => h.2)
   have HC := Lib.hid (rule_any _ cs _ _ m w2 hs2 (fun d hd => (hgg.1 d hd).1) (fun d hd => (hgg.1 d hd).2.1) (fun d hd => (hgg.1 d hd).2.2) (fun _ h => h) (HRW.out _ HB2.out) hgg.2)
   clear hgg hx1 hs2 HX0 HGG
   go_wp2_with fail
   refine HC.out.mono ?_
   rintro e w3 ⟨rfl, hb3⟩
   have HB3 := Lib.hid (bt HB2.out hb3)
   have hs3 := HS2.out.stable (Same.of_below hb3) hb3.size
   have HS3 := Lib.hid (hs3.mono (F' := fun b => w.heap.size ≤ b) (fun b h => Nat.le_trans HB1.out.size h))
   clear hb3 hs3 HC HS2
   obtain ⟨r, hr⟩ : ∃ r, r = ruleS cs := ⟨_, rfl⟩
   rw [← hr] at HX1 ⊢
   clear hr
   by_cases hr0 : r = 0
   ·subst hr0
    go_wp2_with fail
    go_ret2
    refine ⟨⟨v2, by rw [HX1.out]; rfl, fun _ => ?_⟩, HB3.out⟩
    show SAt _ _ _ v2 (wholeS ts).1
    rw [← HL.out]; exact HS3.out
   ·have q1 : decide (r = 0) = false := decide_eq_false hr0
    have q2 : (r == 0) = false := by simpa using hr0
    have q3 : (r != 0) = true := by simpa using hr0
    go_wp2_with fail
    go_ret2
    exact ReadP.bad HX1.out hr0 HB3.out
  ·have q1 : decide (c2 = 0) = false := decide_eq_false hc2
   have q2 : (c2 == 0) = false := by simpa using hc2
   have q3 : (c2 != 0) = true := by simpa using hc2
   have hx1 : readE (ts, p, 0) = c2 := by rw [HX0.out, if_pos hc2]
   have HX1 := Lib.hid hx1
   clear hx1 HX0
   go_wp2_with fail
   go_ret2
   exact ReadP.bad HX1.out hc2 HB2.out
 ·have q1 : decide (c = 0) = false := decide_eq_false hc
  have q2 : (c == 0) = false := by simpa using hc
  have q3 : (c != 0) = true := by simpa using hc
  have hx1 : readE (ts, p, c) = c := by rw [HX.out, if_pos hc]
  have HX1 := Lib.hid hx1
  clear hx1 HX
  go_wp2_with fail
  go_ret2
  exact ReadP.bad HX1.out hc HB1.out
end Go.Proofs.YtmkppkjikifdlaaGreatDoor.Sc
