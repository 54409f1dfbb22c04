/- On the way. -/
import Derived.Test.YtpfbkdbblpppdaaGreatDoorEHeldBy
import Derived.Test.YtpfbkdbblpppdaaGreatDoorEBxB
import Derived.Test.YtpfbkdbblpppdaaGreatDoorEJdB
import Derived.Test.YtpfbkdbblpppdaaGreatDoorEBxC
import Derived.Test.YtpfbkdbblpppdaaGreatDoorEJdC
import Derived.Test.YtpfbkdbblpppdaaGreatDoorEJdA
import Derived.Test.YtpfbkdbblpppdaaGreatDoorEBoxFnd
import Derived.Deep.RegionLaw
import Derived.Deep.RegionHeld3
import Derived.Deep.AppendLies
set_option linter.unusedVariables false
set_option linter.unusedSimpArgs false
set_option maxHeartbeats 8000000
set_option maxRecDepth 20000
namespace Go.Proofs.YtpfbkdbblpppdaaGreatDoor.Dv
open Sc (Str)
open Jd (Ltt partL)
def inboxW : Str := [73, 78, 66, 79, 88]
def nmD (bs : List Str) (name : Str) : Str := if bs.contains name = true then name else inboxW
def hasD (nm : Str) (e : Ent) : Bool := e.kind == 2 && e.box == nm
def fileD (bs : List Str) (text : Str) (out : List Ent) (name : Str) (f : Nat) : List Ent :=
 if out.any (hasD (nmD bs name)) = true then out else out ++ [⟨2, f, 0, nmD bs name, [], text⟩]
def actD (x : Ltt) (bs : List Str) (out : List Ent) (a : Jd.Act) : List Ent :=
 if a.kind = 3 then fileD bs x.text out inboxW a.flags.toNat
 else if a.kind = 5 then fileD bs x.text out a.text a.flags.toNat
 else if a.kind = 6 then out ++ [⟨6, 0, 0, [], a.text, x.text⟩]
 else if a.kind = 7 then out ++ [⟨6, 0, 0, [], partL 1 x.fa x.fd, a.text⟩]
 else out
def planD (x : Ltt) (bs : List Str) (la : List Jd.Act) : List Ent := la.foldl (actD x bs) []
theorem fileD_len (bs : List Str) (text : Str) (out : List Ent) (name : Str) (f : Nat) : (fileD bs text out name f).length ≤ out.length + 1 := by
 unfold fileD; split
 ·omega
 ·rw [List.length_append]; exact Nat.le_refl _
theorem actD_len (x : Ltt) (bs : List Str) (out : List Ent) (a : Jd.Act) : (actD x bs out a).length ≤ out.length + 1 := by
 unfold actD
 split
 ·exact fileD_len _ _ _ _ _
 ·split
  ·exact fileD_len _ _ _ _ _
  ·split
   ·rw [List.length_append]; exact Nat.le_refl _
   ·split
    ·rw [List.length_append]; exact Nat.le_refl _
    ·omega
theorem foldD_len (x : Ltt) (bs : List Str) : ∀ (la : List Jd.Act) (out : List Ent), (la.foldl (actD x bs) out).length ≤ out.length + la.length
 | [], out => by simp
 | a :: la, out => by
  rw [List.foldl_cons, List.length_cons]
  have h1 := foldD_len x bs la (actD x bs out a)
  have h2 := actD_len x bs out a
  omega
end Go.Proofs.YtpfbkdbblpppdaaGreatDoor.Dv
namespace Go.Proofs.YtpfbkdbblpppdaaGreatDoor.Dv
open Go.RowKit
open Sc (Str cStr strC)
open Jd (Ltt partL lttC)
def idxI : Option Nat → Int
 | none => -1
 | some i => i
theorem findIdx_contains {α : Type} [BEq α] [LawfulBEq α] (l : List α) (a : α) : decide ((0 : Int) ≤ idxI (l.findIdx? (fun b => b == a))) = l.contains a := by
 cases h : l.findIdx? (fun b => b == a) with
 | none =>
  rw [List.findIdx?_eq_none_iff] at h
  have : l.contains a = false := by
   rw [Bool.eq_false_iff]
   intro hc
   have := h a (List.contains_iff_mem.1 hc)
   simp at this
  rw [this]; decide
 | some i =>
  obtain ⟨hi, h1, _⟩ := List.findIdx?_eq_some_iff_getElem.1 h
  have he : l[i] = a := by simpa using h1
  have : l.contains a = true := List.contains_iff_mem.2 (he ▸ List.getElem_mem _)
  rw [this]
  show decide ((0 : Int) ≤ (i : Int)) = true
  simp
theorem indexS_any (v : Value) (l : List (List UInt8)) (F : Dom) (a : List UInt8) (w : World) (h : SAt cStr w F v l) (hl : l.length ≤ 1000) :
    Calls Tryz.prog 96 #[v, .string ⟨a.toArray⟩] w fun e w' => e = .returned (.int .i64 (idxI (l.findIdx? (fun b => b == a)))) ∧ Below w.heap.size w w' := by
 obtain ⟨G, cap, rfl, hcap⟩ := h.form
 have H := Lib.hid h
 clear h
 go_enter Tryz.func96, Tryz.ntmps96
 go_wp2_with fail
 go_loopw [8] (fun i wr => ∃ j : Nat, j ≤ l.length ∧ i = .int .i64 j ∧ (∀ k (hk : k < l.length), k < j → (l[k] == a) = false) ∧ Below w.heap.size w wr) (fun i _ => l.length - (intOf i).toNat)
 case atStart => exact ⟨0, Nat.zero_le _, rfl, fun k _ h => absurd h (Nat.not_lt_zero k), Below.refl _ _⟩
 case round =>
  obtain ⟨j, hj, rfl, hno, hb⟩ := hrel
  have HNO := Lib.hid hno; have HB := Lib.hid hb
  clear hno
  by_cases hlt : j < l.length
  ·obtain ⟨g, off, rfl, c0⟩ := Sc.str_get H.out (Same.of_below hb) hb.size j hlt
   cases hp : (l[j] == a) with
   | true =>
    have hfi : Hid (l.findIdx? (fun b => b == a) = some j) := by
     unfold Hid
     rw [List.findIdx?_eq_some_iff_getElem]
     exact ⟨hlt, hp, fun k hk => by rw [HNO.out k (by omega) hk]; decide⟩
    have hp2 : (a == l[j]) = true := by rw [beq_iff_eq] at hp ⊢; exact hp.symm
    clear HNO hb
    generalize l[j] = b at c0 hp hp2
    go_wp2_with fail
    go_ret
    exact ⟨by rw [hfi.out]; rfl, HB.out⟩
   | false =>
    have hno2 : Hid (∀ k (hk : k < l.length), k < j + 1 → (l[k] == a) = false) := by
     intro k hk hkj
     rcases Nat.lt_succ_iff_lt_or_eq.1 hkj with h | h
     ·exact HNO.out k hk h
     ·subst h; exact hp
    have hp2 : (a == l[j]) = false := by rw [beq_eq_false_iff_ne] at hp ⊢; exact fun e => hp e.symm
    clear HNO hb
    generalize l[j] = b at c0 hp hp2
    go_wp2_with fail
    go_roundw
    case rel => exact ⟨j + 1, hlt, by go_num, hno2.out, HB.out⟩
    case measure => simp [intOf]; omega
  ·obtain rfl : j = l.length := by omega
   have hfi : Hid (l.findIdx? (fun b => b == a) = none) := by
    unfold Hid
    rw [List.findIdx?_eq_none_iff]
    intro b hb
    obtain ⟨k, hk, rfl⟩ := List.getElem_of_mem hb
    exact HNO.out k hk hk
   clear HNO hb
   go_wp2_with fail
   go_ret
   exact ⟨by rw [hfi.out]; rfl, HB.out⟩
theorem containsS_any (v : Value) (l : List (List UInt8)) (F : Dom) (a : List UInt8) (w : World) (h : SAt cStr w F v l) (hl : l.length ≤ 1000) :
    Calls Tryz.prog 56 #[v, .string ⟨a.toArray⟩] w fun e w' => e = .returned (.bool (l.contains a)) ∧ Below w.heap.size w w' := by
 have hc := indexS_any v l F a w h hl
 have HC := Lib.hid (findIdx_contains l a)
 generalize idxI (l.findIdx? (fun b => b == a)) = z at hc HC
 go_enter Tryz.func56, Tryz.ntmps56
 go_wp2_with fail
 refine hc.mono ?_
 rintro e w1 ⟨rfl, hb1⟩
 have HB := Lib.hid hb1
 clear hb1 hc
 go_wp2_with fail
 go_ret
 exact ⟨by rw [← HC.out]; rfl, HB.out⟩
def AsksE (N : FuncId) (cs : List Value) (P : Ent → Bool) (l : List Ent) (w : World) : Prop :=
 ∀ s ∈ l, ∀ w', Below w.heap.size w w' → Calls Tryz.prog N (Value.agg (entC s).toArray :: cs).toArray w' fun e w'' => e = .returned (.bool (P s)) ∧ Below w'.heap.size w' w''
theorem indexE_any (N : FuncId) (cs : List Value) (P : Ent → Bool) (v : Value) (l : List Ent) (F : Dom) (w : World) (h : SAt cEnt w F v l) (hl : l.length ≤ 1000000) (hen : Jd.Enters N) (hc : AsksE N cs P l w) :
    Calls Tryz.prog 180 #[v, .func (.func N) #[] cs.toArray] w fun e w' => e = .returned (.int .i64 (Jd.idxJ (l.findIdx? P))) ∧ Below w.heap.size w w' := by
 obtain ⟨G, cap, rfl, hcap⟩ := h.form
 have H := Lib.hid h; have HC := Lib.hid hc; have HEN := Lib.hid hen
 clear h hc hen
 go_enter Tryz.func180, Tryz.ntmps180
 go_wp2_with fail
 go_loopw [8] (fun i wr => ∃ j : Nat, j ≤ l.length ∧ i = .int .i64 j ∧ (∀ k (hk : k < l.length), k < j → P l[k] = false) ∧ Below w.heap.size w wr) (fun i _ => l.length - (intOf i).toNat)
 case atStart => exact ⟨0, Nat.zero_le _, rfl, (fun k _ h => absurd h (Nat.not_lt_zero _)), Below.refl _ _⟩
 case round =>
  obtain ⟨j, hj, rfl, hno, hb⟩ := hrel
  have HNO := Lib.hid hno
  clear hno
  by_cases hlt : j < l.length
  ·obtain ⟨g, off, rfl, -, -, c0, c1, c2, c3, c4, c5⟩ := ent_get H.out hb j hlt
   have hC := Lib.hid (HC.out l[j] (List.getElem_mem _) wr hb)
   cases hp : P l[j] with
   | true =>
    have hfi : Hid (Jd.idxJ (l.findIdx? P) = (j : Int)) := by
     have : l.findIdx? P = some j := by
      rw [List.findIdx?_eq_some_iff_getElem]
      exact ⟨hlt, hp, fun k hk => by rw [HNO.out k (by omega) hk]; decide⟩
     unfold Hid; rw [this]; rfl
    rw [hp] at hC
    clear HNO hp
    generalize l[j] = m at c0 c1 c2 c3 c4 c5 hC
    unfold entC at hC
    go_wp2_with fail
    rw [HEN.out]
    refine hC.out.mono ?_
    rintro e w1 ⟨rfl, hb1⟩
    have HB := Lib.hid (bt hb hb1)
    clear c0 c1 c2 c3 c4 c5 hb1 hb
    go_wp2_with fail
    go_ret
    exact ⟨by rw [hfi.out]; rfl, HB.out⟩
   | false =>
    have hno2 : Hid (∀ k (hk : k < l.length), k < j + 1 → P l[k] = false) := by
     intro k hk hkj
     rcases Nat.lt_succ_iff_lt_or_eq.1 hkj with h | h
     ·exact HNO.out k hk h
     ·subst h; exact hp
    rw [hp] at hC
    clear HNO hp
    generalize l[j] = m at c0 c1 c2 c3 c4 c5 hC
    unfold entC at hC
    go_wp2_with fail
    rw [HEN.out]
    refine hC.out.mono ?_
    rintro e w1 ⟨rfl, hb1⟩
    have HB := Lib.hid (bt hb hb1)
    clear c0 c1 c2 c3 c4 c5 hb1 hb
    go_wp2_with fail
    go_roundw
    case rel => exact ⟨j + 1, hlt, by go_num, hno2.out, HB.out⟩
    case measure => simp [intOf]; omega
  ·obtain rfl : j = l.length := by omega
   have hfi : Hid (Jd.idxJ (l.findIdx? P) = -1) := by
    have : l.findIdx? P = none := by
     rw [List.findIdx?_eq_none_iff]
     intro b hb
     obtain ⟨k, hk, rfl⟩ := List.getElem_of_mem hb
     exact HNO.out k hk hk
    unfold Hid; rw [this]; rfl
   clear HNO
   go_wp2_with fail
   go_ret
   exact ⟨by rw [hfi.out]; rfl, hb⟩
theorem containsE_any (N : FuncId) (cs : List Value) (P : Ent → Bool) (v : Value) (l : List Ent) (F : Dom) (w : World) (h : SAt cEnt w F v l) (hl : l.length ≤ 1000000) (hen : Jd.Enters N) (hc : AsksE N cs P l w) :
    Calls Tryz.prog 129 #[v, .func (.func N) #[] cs.toArray] w fun e w' => e = .returned (.bool (l.any P)) ∧ Below w.heap.size w w' := by
 have HI := Lib.hid (indexE_any N cs P v l F w h hl hen hc)
 have hd := Jd.idx_any P l
 obtain ⟨G, cap, rfl, -⟩ := h.form
 obtain ⟨z, hz⟩ : ∃ z, z = Jd.idxJ (l.findIdx? P) := ⟨_, rfl⟩
 rw [← hz] at HI hd
 clear h hc hz hen
 go_enter Tryz.func129, Tryz.ntmps129
 go_wp2_with fail
 refine HI.out.mono ?_
 rintro e w1 ⟨rfl, hb1⟩
 go_wp2_with fail
 go_ret
 exact ⟨rfl, hb1⟩
def plC (x : Ltt) (vb vo : Value) : List Value := [.string ⟨x.fa.toArray⟩, .string ⟨x.fd.toArray⟩, .string ⟨x.ta.toArray⟩, .string ⟨x.td.toArray⟩, .string ⟨x.text.toArray⟩, vb, vo]
structure PStep (base P : Nat) (w w' : World) : Prop where
 os : w'.os = w.os
 tape : w'.tape = w.tape
 output : w'.output = w.output
 size : w.heap.size ≤ w'.heap.size
 keep : ∀ i, i < base → i ≠ P → w'.heap[i]? = w.heap[i]?
theorem PStep.refl (base P : Nat) (w : World) : PStep base P w w := ⟨rfl, rfl, rfl, Nat.le_refl _, fun _ _ _ => rfl⟩
theorem PStep.trans {base P : Nat} {w a b : World} (h : PStep base P w a) (k : PStep base P a b) : PStep base P w b :=
 ⟨k.os.trans h.os, k.tape.trans h.tape, k.output.trans h.output, Nat.le_trans h.size k.size, fun i hi hp => (k.keep i hi hp).trans (h.keep i hi hp)⟩
theorem PStep.of_below {base P : Nat} {w a : World} (h : Below w.heap.size w a) (hz : base ≤ w.heap.size) : PStep base P w a :=
 ⟨h.os, h.tape, h.output, h.size, fun i hi _ => h.block i (Nat.lt_of_lt_of_le hi hz)⟩
theorem PStep.below {base P B : Nat} {w a : World} (h : PStep base P w a) (hB : B ≤ base) (hP : B ≤ P) : Below B w a :=
 ⟨h.os, h.tape, h.output, h.size, fun i hi => h.keep i (Nat.lt_of_lt_of_le hi hB) (by omega)⟩
theorem PStep.same {base P : Nat} {w a : World} (h : PStep base P w a) {F : Dom} (hF : ∀ b, F b → b < base ∧ b ≠ P) : Same F w a := fun b hb _ => h.keep b (hF b hb).1 (hF b hb).2
def PlD (w : World) (base P : Nat) (x : Ltt) (bs : List Str) (out : List Ent) : Prop :=
 ∃ vb vo, Has w P (plC x vb vo) ∧ P < base ∧ base ≤ w.heap.size ∧ SAt cStr w (fun b => b < base ∧ b ≠ P) vb bs ∧ w.ownsRow base 80 6 vo out.length (out.flatMap entC)
theorem PlD.down {w w' : World} {base P : Nat} {x : Ltt} {bs : List Str} {out : List Ent} (h : PlD w base P x bs out) (hb : Below w.heap.size w w') : PlD w' base P x bs out := by
 obtain ⟨vb, vo, h1, h2, h3, h4, h5⟩ := h
 exact ⟨vb, vo, h1.down hb, h2, Nat.le_trans h3 hb.size, h4.down hb, row_down h5 hb⟩
theorem PlD.sz {w : World} {base P : Nat} {x : Ltt} {bs : List Str} {out : List Ent} (h : PlD w base P x bs out) : base ≤ w.heap.size := by obtain ⟨_, _, _, _, h3, _⟩ := h; exact h3
theorem PlD.own {w : World} {base P : Nat} {x : Ltt} {bs : List Str} {out : List Ent} {vb vo : Value} (h : PlD w base P x bs out) (hp : Has w P (plC x vb vo)) : vo.ownBlock ≠ some w.heap.size := by
 obtain ⟨vb', vo', h1, h2, h3, h4, h5⟩ := h
 have e1 := h1.1 6 _ rfl
 have e2 := hp.1 6 _ rfl
 rw [e1] at e2
 obtain rfl := Option.some.inj e2
 intro e
 have := (World.ownsRow.lt h5 _ e).2
 omega
theorem ents_snoc (l : List Ent) (a : Ent) : (l ++ [a]).flatMap entC = l.flatMap entC ++ entC a := by simp
theorem pl_put {w w1 w6 : World} {base P g cap : Nat} {x : Ltt} {bs : List Str} {out : List Ent} {e : Ent} {vb vo : Value} (h1 : Has w P (plC x vb vo)) (hP : P < base) (hz : base ≤ w.heap.size) (h4 : SAt cStr w (fun b => b < base ∧ b ≠ P) vb bs) (h5 : w.ownsRow base 80 6 vo out.length (out.flatMap entC))
    (hb1 : Below w.heap.size w w1) (hown : w6.ownsRow base 80 6 (.slice (some ⟨g, 0, none⟩) (out.length + 1) cap) (out.length + 1) (out.flatMap entC ++ entC e)) (hgrow : w1.grownBy w6 vo.ownBlock) :
    Has w6 P (plC x vb vo) ∧ PlD (w6.setCell ⟨P, 6, none⟩ (.slice (some ⟨g, 0, none⟩) (out.length + 1) cap)) base P x bs (out ++ [e]) ∧ PStep base P w (w6.setCell ⟨P, 6, none⟩ (.slice (some ⟨g, 0, none⟩) (out.length + 1) cap)) := by
 have hne : ∀ i, i < base → some i ≠ vo.ownBlock := fun i hi e => by
  have := (World.ownsRow.lt h5 i e.symm).1
  omega
 have hgb : base ≤ g := (World.ownsRow.lt hown g rfl).1
 have h6 := (h1.down hb1).kept hgrow (hne P hP)
 have hnP : (Value.slice (some ⟨g, 0, none⟩) (out.length + 1) cap).ownBlock ≠ some P := fun e => by
  have e' : g = P := Option.some.inj e
  omega
 have hst : PStep base P w (w6.setCell ⟨P, 6, none⟩ (.slice (some ⟨g, 0, none⟩) (out.length + 1) cap)) := by
  refine ⟨hgrow.os.trans hb1.os, hgrow.tape.trans hb1.tape, hgrow.output.trans hb1.output, ?_, fun i hi hp => ?_⟩
  ·have := hb1.size; have := hgrow.size
   simp only [World.size_setCell]; omega
  ·rw [Below.heap_setCell _ _ _ _ hp]
   exact (hgrow.block i (Nat.lt_of_lt_of_le (Nat.lt_of_lt_of_le hi hz) hb1.size) (hne i hi)).trans (hb1.block i (Nat.lt_of_lt_of_le hi hz))
 refine ⟨h6, ⟨vb, .slice (some ⟨g, 0, none⟩) (out.length + 1) cap, h6.set' (i := 6) _ (by simp [plC]), hP, Nat.le_trans hz hst.size, h4.stable (hst.same fun _ h => h) hst.size, ?_⟩, hst⟩
 rw [List.length_append, List.length_singleton, ents_snoc]
 exact row_off hown hnP _ _
theorem file1_any (e : Ent) (nm : Str) (N : Nat) (w : World) (hN : w.cell? ⟨N, 0, none⟩ = some (.string ⟨nm.toArray⟩)) :
    Calls Tryz.prog 130 #[.agg (entC e).toArray, .pointer (some ⟨N, 0, none⟩)] w fun e' w' => e' = .returned (.bool (hasD nm e)) ∧ Below w.heap.size w w' := by
 have hNa := moved hN (ba (Below.refl w.heap.size w) (.cells (entC e).toArray 80)) (Nat.le_refl _)
 have hA := Lib.hid (ba (Below.refl w.heap.size w) (.cells (entC e).toArray 80))
 obtain ⟨k, f, u, bx, to', tx⟩ := e
 unfold entC at hNa hA ⊢
 unfold hasD
 dsimp only at hNa hA ⊢
 by_cases h : k = 2
 ·subst h
  rw [show ((2 : Nat) : Int) = 2 from rfl] at hNa hA ⊢
  go_enter Tryz.func130, Tryz.ntmps130
  go_wp2_with fail
  go_ret
  exact ⟨rfl, hA.out⟩
 ·have h1 : ((k : Int) == 2) = false := beq_eq_false_iff_ne.2 (by omega)
  have h2 : (k == 2) = false := beq_eq_false_iff_ne.2 h
  have h3 : decide ((k : Int) = 2) = false := decide_eq_false (by omega)
  have h4 : decide (k = 2) = false := decide_eq_false h
  rw [h2]
  go_enter Tryz.func130, Tryz.ntmps130
  go_wp2_with fail
  go_ret
  exact ⟨rfl, hA.out⟩
theorem ent_file : Jd.Enters 130 := fun _ _ => by kernel_rfl
def PlN (w : World) (base P N : Nat) (x : Ltt) (bs : List Str) (out : List Ent) : Prop :=
 ∃ vb vo, Has w P (plC x vb vo) ∧ P < base ∧ base ≤ w.heap.size ∧ SAt cStr w (fun b => b < base ∧ b ≠ P) vb bs ∧ w.ownsRow base 80 6 vo out.length (out.flatMap entC) ∧ vo.ownBlock ≠ some N
theorem PlN.down {w w' : World} {base P N : Nat} {x : Ltt} {bs : List Str} {out : List Ent} (h : PlN w base P N x bs out) (hb : Below w.heap.size w w') : PlN w' base P N x bs out := by
 obtain ⟨vb, vo, h1, h2, h3, h4, h5, h6⟩ := h
 exact ⟨vb, vo, h1.down hb, h2, Nat.le_trans h3 hb.size, h4.down hb, row_down h5 hb, h6⟩
theorem PlN.pl {w : World} {base P N : Nat} {x : Ltt} {bs : List Str} {out : List Ent} (h : PlN w base P N x bs out) : PlD w base P x bs out := by
 obtain ⟨vb, vo, h1, h2, h3, h4, h5, h6⟩ := h
 exact ⟨vb, vo, h1, h2, h3, h4, h5⟩
theorem PlN.of {w : World} {base P : Nat} {x : Ltt} {bs : List Str} {out : List Ent} (h : PlD w base P x bs out) : PlN w base P w.heap.size x bs out := by
 obtain ⟨vb, vo, h1, h2, h3, h4, h5⟩ := h
 exact ⟨vb, vo, h1, h2, h3, h4, h5, fun e => by have := (World.ownsRow.lt h5 _ e).2; omega⟩
def FileP (base P : Nat) (x : Ltt) (bs : List Str) (out : List Ent) (w : World) (e : Ending) (w' : World) : Prop := e = .returned (.tuple #[]) ∧ PlD w' base P x bs out ∧ PStep base P w w'
theorem file_any (base P : Nat) (x : Ltt) (bs : List Str) (out : List Ent) (name : Str) (f : Nat) (w : World) (h : PlD w base P x bs out) (hbs : bs.length ≤ 1000) (hout : out.length ≤ 100) :
    Calls Tryz.prog 86 #[.pointer (some ⟨P, 0, none⟩), .string ⟨name.toArray⟩, .int .i64 f] w (FileP base P x bs (fileD bs x.text out name f) w) := by
 have hbA := ba (Below.refl w.heap.size w) (.cells #[.string ⟨name.toArray⟩] 9)
 have hNN := Has.alloc w [.string ⟨name.toArray⟩] 9
 obtain ⟨N, hN⟩ : ∃ N, N = w.heap.size := ⟨_, rfl⟩
 have hNb : base ≤ N := by obtain ⟨_, _, _, _, h3, _⟩ := h; omega
 have hPN : P ≠ N := by obtain ⟨_, _, _, h2, _⟩ := h; omega
 have h0 : Hid (PlN (w.alloc (.cells #[.string ⟨name.toArray⟩] 9)) base P w.heap.size x bs out ∧ PStep base P w (w.alloc (.cells #[.string ⟨name.toArray⟩] 9)) ∧ Has (w.alloc (.cells #[.string ⟨name.toArray⟩] 9)) w.heap.size [.string ⟨name.toArray⟩]) :=
  ⟨(PlN.of h).down hbA, PStep.of_below hbA (by omega), hNN⟩
 obtain ⟨R, hR⟩ : ∃ R, R = fileD bs x.text out name f := ⟨_, rfl⟩
 rw [← hR]
 have HR := Lib.hid hR; have HNB := Lib.hid hNb; have HPN := Lib.hid hPN
 clear hbA hNN h hNb hPN hR
 go_enter Tryz.func86, Tryz.ntmps86
 go_upto_region 1 with fail
 refine Sc.wp_at (R := fun W => PlN W base P w.heap.size x bs out ∧ PStep base P w W ∧ Has W w.heap.size [.string ⟨name.toArray⟩]) h0.out (fun W hW => ?_)
 rw [← hN] at hW ⊢
 clear h0 hN
 obtain ⟨hP, hst, hnm⟩ := hW
 have HPL := Lib.hid hP; have HST := Lib.hid hst; have HNM := Lib.hid hnm
 clear hP hst hnm
 obtain ⟨vb, vo, h1, h2, h3, h4, h5, h6⟩ := HPL.out
 obtain ⟨Gb, cb, rfl, -⟩ := id h4.form
 obtain ⟨Go', co, rfl⟩ := Sc.row_slice h5
 have HSA : Hid (SAt cStr W (fun b => b < base ∧ b ≠ P) (.slice Gb bs.length cb) bs) := h4
 have HH : Hid (∀ V, Below W.heap.size W V → V.cell? ⟨P, 5, none⟩ = some (.slice Gb bs.length cb) ∧ V.cell? ⟨N, 0, none⟩ = some (.string ⟨name.toArray⟩)) := fun V hV => ⟨(h1.down hV).1 5 _ rfl, (HNM.out.down hV).1 0 _ rfl⟩
 have HCT : Hid (∀ V, Below W.heap.size W V → Calls Tryz.prog 56 #[.slice Gb bs.length cb, .string ⟨name.toArray⟩] V fun e w' => e = .returned (.bool (bs.contains name)) ∧ Below V.heap.size V w') := fun V hV => containsS_any _ bs _ name V (HSA.out.down hV) hbs
 obtain ⟨pc, hpc⟩ : ∃ pc, pc = bs.contains name := ⟨_, rfl⟩
 rw [← hpc] at HCT
 have HPC := Lib.hid hpc
 obtain ⟨nb, hnb⟩ : ∃ nb, nb = bs.length := ⟨_, rfl⟩
 rw [← hnb] at HH HCT
 clear h1 h2 h3 h4 h5 h6 hpc hnb HSA
 go_cut [12] (fun vq wx => vq = .bool (!pc) ∧ Below W.heap.size W wx)
 case first =>
  have hdr := Below.drew (Below.refl W.heap.size W)
  obtain ⟨c5, n0⟩ := HH.out _ hdr
  clear hdr
  refine wp_region_noPanic ?_
  go_region_held3 (fun w' => w'.cell? ⟨P, 5, none⟩ = some (.slice Gb nb cb) ∧ w'.cell? ⟨N, 0, none⟩ = some (.string ⟨name.toArray⟩)) (first | exact ⟨c5, n0⟩ | exact HH.out _ HB2.out) (first
   | (go_at_call 56; refine (HCT.out _ (Below.drew (Below.refl _ _))).mono ?_; intro e w2 hp2; obtain ⟨rfl, hb2⟩ := hp2; have HB2 := Lib.hid (bt (Below.drew (Below.refl W.heap.size W)) hb2)))
  all_goals
   refine NoPanic.normal ?_
   go_wp2_with fail
   go_meet
   case rel => exact ⟨rfl, HB2.out⟩
 case rest =>
  obtain ⟨rfl, hbc⟩ := hcut
  have HPL2 := Lib.hid (HPL.out.down hbc)
  have HST2 := Lib.hid (HST.out.trans (PStep.of_below (base := base) (P := P) hbc (by obtain ⟨_, _, _, _, h3, _⟩ := HPL.out; exact h3)))
  have HNM2 := Lib.hid (HNM.out.down hbc)
  clear hbc HH HCT HPL HST HNM
  obtain ⟨nm, hnm⟩ : ∃ nm, nm = nmD bs name := ⟨_, rfl⟩
  have HNE := Lib.hid hnm
  rcases (by cases pc <;> simp : pc = true ∨ pc = false) with rfl | rfl
  case' inl =>
   have hq : nm = name := by rw [hnm]; unfold nmD; rw [if_pos HPC.out.symm]
   subst hq
   clear hnm
   go_upto_region 3 with fail
   refine Sc.wp_at (R := fun V => Has V N [.string ⟨nm.toArray⟩] ∧ PlD V base P x bs out ∧ PStep base P w V) ⟨HNM2.out, HPL2.out.pl, HST2.out⟩ (fun V hV => ?_)
  case' inr =>
   have hq : nm = inboxW := by rw [hnm]; unfold nmD; rw [if_neg (by rw [← HPC.out]; decide)]
   have n0 := HNM2.out.1 0 _ rfl
   have f0 := HNM2.out.2.1 0 (by simp)
   have hN2 : Has (wc.setCell ⟨N, 0, none⟩ (.string ⟨inboxW.toArray⟩)) N [.string ⟨inboxW.toArray⟩] := HNM2.out.set' (i := 0) _ (by simp)
   have hP2 : PlD (wc.setCell ⟨N, 0, none⟩ (.string ⟨inboxW.toArray⟩)) base P x bs out ∧ PStep base P wc (wc.setCell ⟨N, 0, none⟩ (.string ⟨inboxW.toArray⟩)) := by
    obtain ⟨vb, vo, h1, h2, h3, h4, h5, h6⟩ := HPL2.out
    have hst : PStep base P wc (wc.setCell ⟨N, 0, none⟩ (.string ⟨inboxW.toArray⟩)) := ⟨rfl, rfl, rfl, by simp only [World.size_setCell]; exact Nat.le_refl _, fun i hi _ => Below.heap_setCell _ _ _ _ (by show i ≠ N; have := HNB.out; omega)⟩
    refine ⟨⟨vb, vo, h1.else' HPN.out _, h2, Nat.le_trans h3 hst.size, h4.stable (hst.same fun _ h => h) hst.size, row_off h5 h6 _ _⟩, hst⟩
   have HE := Lib.hid (And.intro hN2 (And.intro hP2.1 (HST2.out.trans hP2.2)))
   subst hq
   clear hnm hN2 hP2
   unfold inboxW at HE
   go_upto_region 3 with fail
   refine Sc.wp_at (R := fun V => Has V N [.string ⟨inboxW.toArray⟩] ∧ PlD V base P x bs out ∧ PStep base P w V) HE.out (fun V hV => ?_)
   clear n0 f0 HE
   generalize inboxW = nm at hV HNE
  all_goals
   obtain ⟨hN, hP, hst⟩ := hV
   have HN := Lib.hid hN; have HP := Lib.hid hP; have HST := Lib.hid hst
   clear hN hP hst HPL2 HST2 HNM2
   obtain ⟨vb, vo, h1, h2, h3, h4, h5⟩ := HP.out
   obtain ⟨Gb, cb, rfl, -⟩ := id h4.form
   obtain ⟨Go', co, rfl⟩ := Sc.row_slice h5
   have p6 := h1.1 6 _ rfl
   have HSO : Hid (SAt cEnt V (fun _ => True) (.slice Go' out.length co) out) := SAt.of_row (f := entC) (hf := fun _ => rfl) h5 (fun _ _ => trivial)
   have HC := Lib.hid (containsE_any 130 [.pointer (some ⟨N, 0, none⟩)] (hasD nm) _ out _ V HSO.out (by omega) ent_file fun e _ w' hb => file1_any e nm N w' ((HN.out.down hb).1 0 _ rfl))
   obtain ⟨pa, hpa⟩ : ∃ pa, pa = out.any (hasD nm) := ⟨_, rfl⟩
   rw [← hpa] at HC
   have HPA := Lib.hid hpa
   obtain ⟨no, hno⟩ : ∃ no, no = out.length := ⟨_, rfl⟩
   have HNO := Lib.hid hno
   rw [← hno] at p6 HC hout
   clear h1 h2 h3 h4 h5 hpa HSO hno
   go_wp2_with fail
   refine HC.out.mono ?_
   rintro e w4 ⟨rfl, hb4⟩
   have HP4 := Lib.hid (HP.out.down hb4)
   have HST4 := Lib.hid (HST.out.trans (PStep.of_below (base := base) (P := P) hb4 (by obtain ⟨_, _, _, _, h3, _⟩ := HP.out; exact h3)))
   have HN4 := Lib.hid (HN.out.down hb4)
   clear hb4 HC p6 HP HST HN
   rcases (by cases pa <;> simp : pa = true ∨ pa = false) with rfl | rfl
   ·have hr : R = out := by rw [HR.out]; unfold fileD; rw [← HNE.out, ← HPA.out, if_pos rfl]
    go_wp2_with fail
    go_returns
    exact ⟨rfl, by rw [hr]; exact HP4.out, HST4.out⟩
   ·have hr : R = out ++ [⟨2, f, 0, nm, [], x.text⟩] := by rw [HR.out]; unfold fileD; rw [← HNE.out, ← HPA.out, if_neg (by decide)]
    subst hr
    obtain ⟨vb', vo', h1, h2, h3, h4, h5⟩ := HP4.out
    obtain ⟨Go4, co4, rfl⟩ := Sc.row_slice h5
    rw [← HNO.out] at h1 h5
    have HROW := Lib.hid h5
    have H1 := Lib.hid h1
    have H45 := Lib.hid (And.intro h2 (And.intro h3 h4))
    obtain ⟨i0, hi, hz0, hz1, hz2⟩ := Sc.info_three infoEnt2
    have HI0 := Lib.hid hi; have HZ0 := Lib.hid hz0; have HZ1 := Lib.hid hz1; have HZ2 := Lib.hid hz2
    have hdr := Below.drew (Below.refl w4.heap.size w4)
    have hba := ba (Below.refl w4.heap.size w4) (.cells #[.int .i64 2, .string ⟨nm.toArray⟩, .int .i64 0, .int .i64 f, .string ⟨#[]⟩, .string ⟨x.text.toArray⟩] 80)
    have hb1 : Below w4.heap.size w4 (w4.drew.alloc (.cells #[.int .i64 2, .string ⟨nm.toArray⟩, .int .i64 0, .int .i64 f, .string ⟨#[]⟩, .string ⟨x.text.toArray⟩] 80)) := ba hdr _
    have hb2 : Below w4.heap.size w4 (w4.alloc (.cells #[.int .i64 2, .string ⟨nm.toArray⟩, .int .i64 0, .int .i64 f, .string ⟨#[]⟩, .string ⟨x.text.toArray⟩] 80)).drew := Below.drew hba
    have n0 := HN4.out.1 0 _ rfl
    have p4 := h1.1 4 _ rfl
    have p6 := h1.1 6 _ rfl
    have n0d := moved n0 hdr (Nat.le_refl _); have p4d := moved p4 hdr (Nat.le_refl _); have p6d := moved p6 hdr (Nat.le_refl _)
    have n0x := moved n0 hb1 (Nat.le_refl _); have p4x := moved p4 hb1 (Nat.le_refl _); have p6x := moved p6 hb1 (Nat.le_refl _)
    have n0u := moved n0 hba (Nat.le_refl _); have p4u := moved p4 hba (Nat.le_refl _); have p6u := moved p6 hba (Nat.le_refl _)
    have n0v := moved n0 hb2 (Nat.le_refl _); have p4v := moved p4 hb2 (Nat.le_refl _); have p6v := moved p6 hb2 (Nat.le_refl _)
    have HROW1 := Lib.hid (row_down h5 hb1)
    have HROW2 := Lib.hid (row_down h5 hb2)
    have HB1 := Lib.hid hb1; have HB2 := Lib.hid hb2
    have HZL : Hid (base ≤ w4.heap.size) := h3
    clear hi hz0 hz1 hz2 hdr hba hb1 hb2 h1 h2 h3 h4 h5
    go_upto_region 4 with fail
    go_region_law (first
     | (refine step_append_lies _ (by rfl) _ _ _ (by rfl) base 80 i0 _ 6 72 Tryz.underlying71 HI0.out HZ0.out HZ1.out HZ2.out rfl (by omega) (.slice Go4 no co4) no (out.flatMap entC) (by rfl) (by first | exact HROW1.out | exact HROW2.out)
         ⟨w4.heap.size, 0, none⟩ 1 1 [.int .i64 2, .string ⟨nm.toArray⟩, .int .i64 0, .int .i64 f, .string ⟨#[]⟩, .string ⟨x.text.toArray⟩] (by rfl) (by rfl) (World.news_of_block (cs := #[.int .i64 2, .string ⟨nm.toArray⟩, .int .i64 0, .int .i64 f, .string ⟨#[]⟩, .string ⟨x.text.toArray⟩]) (t := 80) (fr := (0, 0)) (heap_alloc_new w4 _)) (by simp [Value.oneCell'])
         (by omega) (by unfold maxLen; omega) (by omega) (by have := HZL.out; simp; omega) (w4.heap.size + 1) (by simp) ?_
        intro g5 cap5 w5 hown5 hgrow5 hat5 hlt5
        have hput := (by first
         | exact pl_put (w := w4) (e := ⟨2, f, 0, nm, [], x.text⟩) (g := g5) (cap := cap5) H1.out H45.out.1 H45.out.2.1 H45.out.2.2 (by rw [← HNO.out]; exact HROW.out) HB1.out (by rw [← HNO.out]; exact hown5) hgrow5
         | exact pl_put (w := w4) (e := ⟨2, f, 0, nm, [], x.text⟩) (g := g5) (cap := cap5) H1.out H45.out.1 H45.out.2.1 H45.out.2.2 (by rw [← HNO.out]; exact HROW.out) HB2.out (by rw [← HNO.out]; exact hown5) hgrow5)
        have HPUT := Lib.hid hput
        have y6 : w5.cell? ⟨P, 6, none⟩ = some (.slice Go4 no co4) := hput.1.1 6 _ rfl
        have z6 := hput.1.2.1 6 (by simp [plC])
        clear hput))
    all_goals
     go_wp2_with fail
     go_returns
     exact ⟨rfl, by rw [HNO.out]; exact HPUT.out.2.1, HST4.out.trans (by rw [HNO.out]; exact HPUT.out.2.2)⟩
end Go.Proofs.YtpfbkdbblpppdaaGreatDoor.Dv
namespace Go.Proofs.YtpfbkdbblpppdaaGreatDoor.Dv
open Go.RowKit
open Sc (Str cStr strC)
open Jd (Ltt partL lttC actC)
theorem act_any (base P : Nat) (x : Ltt) (bs : List Str) (out : List Ent) (a : Jd.Act) (w : World) (h : PlD w base P x bs out) (hbs : bs.length ≤ 1000) (hout : out.length ≤ 100) (hk : 3 ≤ a.kind ∧ a.kind ≤ 7) (hf : 0 ≤ a.flags) (m : Int) (hm : w.cell? ⟨6, 0, none⟩ = some (.int .i64 m)) (hlen : x.fa.length ≤ 1000000 ∧ x.fd.length ≤ 1000000) :
    Calls Tryz.prog 52 #[.pointer (some ⟨P, 0, none⟩), .agg (actC a).toArray] w (FileP base P x bs (actD x bs out a) w) := by
 have hbA := ba (Below.refl w.heap.size w) (.cells (actC a).toArray 65)
 have hAA := Has.alloc w (actC a) 65
 obtain ⟨A, hA⟩ : ∃ A, A = w.heap.size := ⟨_, rfl⟩
 have hAb : base ≤ A := by obtain ⟨_, _, _, _, h3, _⟩ := h; omega
 have h0 : Hid (PlD (w.alloc (.cells (actC a).toArray 65)) base P x bs out ∧ PStep base P w (w.alloc (.cells (actC a).toArray 65)) ∧ Has (w.alloc (.cells (actC a).toArray 65)) w.heap.size (actC a)) :=
  ⟨h.down hbA, PStep.of_below hbA (by omega), hAA⟩
 obtain ⟨kind, at', af⟩ := a
 dsimp only at hk hf
 obtain ⟨f, rfl⟩ : ∃ f : Nat, af = f := ⟨af.toNat, by omega⟩
 obtain ⟨R, hR⟩ : ∃ R, R = actD x bs out ⟨kind, at', f⟩ := ⟨_, rfl⟩
 rw [← hR]
 have HR := Lib.hid hR; have HAB := Lib.hid hAb
 have HM := Lib.hid (moved hm hbA (Nat.le_refl _))
 have HFL : Hid (∀ (nm : Str) V, PlD V base P x bs out → Calls Tryz.prog 86 #[.pointer (some ⟨P, 0, none⟩), .string ⟨nm.toArray⟩, .int .i64 f] V (FileP base P x bs (fileD bs x.text out nm f) V)) := fun nm V hV => file_any base P x bs out nm f V hV hbs hout
 have key : kind = 3 ∨ kind = 5 ∨ kind = 4 ∨ kind = 6 ∨ kind = 7 := by omega
 unfold actC at h0 HM ⊢
 clear hbA hAA h hAb hR hk hf hm
 rcases key with rfl | rfl | rfl | rfl | rfl
 ·go_enter Tryz.func52, Tryz.ntmps52
  go_upto_region 1 with fail
  refine Sc.wp_at (R := fun W => PlD W base P x bs out ∧ PStep base P w W ∧ Has W w.heap.size [.int .i64 3, .string ⟨at'.toArray⟩, .int .i64 f]) h0.out (fun W hW => ?_)
  rw [← hA] at hW ⊢
  clear h0 hA
  obtain ⟨hP, hst, ha⟩ := hW
  have HST := Lib.hid hst
  obtain ⟨a0, a1, a2⟩ := Jd.three_of ha
  have HC := Lib.hid (HFL.out inboxW W hP)
  have hr : R = fileD bs x.text out inboxW f := by rw [HR.out]; rfl
  subst hr
  unfold inboxW at HC ⊢
  clear hP hst ha HFL
  go_wp2_with fail
  refine HC.out.mono ?_
  rintro e w2 ⟨rfl, hp2, hs2⟩
  have HE := Lib.hid (And.intro hp2 (HST.out.trans hs2))
  clear hp2 hs2
  go_wp2_with fail
  go_returns
  exact ⟨rfl, HE.out.1, HE.out.2⟩
 ·go_enter Tryz.func52, Tryz.ntmps52
  go_upto_region 1 with fail
  refine Sc.wp_at (R := fun W => PlD W base P x bs out ∧ PStep base P w W ∧ Has W w.heap.size [.int .i64 5, .string ⟨at'.toArray⟩, .int .i64 f]) h0.out (fun W hW => ?_)
  rw [← hA] at hW ⊢
  clear h0 hA
  obtain ⟨hP, hst, ha⟩ := hW
  have HST := Lib.hid hst
  obtain ⟨a0, a1, a2⟩ := Jd.three_of ha
  have HC := Lib.hid (HFL.out at' W hP)
  have hr : R = fileD bs x.text out at' f := by rw [HR.out]; rfl
  subst hr
  clear hP hst ha HFL
  go_wp2_with fail
  refine HC.out.mono ?_
  rintro e w2 ⟨rfl, hp2, hs2⟩
  have HE := Lib.hid (And.intro hp2 (HST.out.trans hs2))
  clear hp2 hs2
  go_wp2_with fail
  go_returns
  exact ⟨rfl, HE.out.1, HE.out.2⟩
 ·go_enter Tryz.func52, Tryz.ntmps52
  go_upto_region 1 with fail
  refine Sc.wp_at (R := fun W => PlD W base P x bs out ∧ PStep base P w W ∧ Has W w.heap.size [.int .i64 4, .string ⟨at'.toArray⟩, .int .i64 f]) h0.out (fun W hW => ?_)
  rw [← hA] at hW ⊢
  clear h0 hA
  obtain ⟨hP, hst, ha⟩ := hW
  have HE := Lib.hid (And.intro hP hst)
  obtain ⟨a0, a1, a2⟩ := Jd.three_of ha
  have hr : R = out := by rw [HR.out]; rfl
  subst hr
  clear hP hst ha HFL
  go_wp2_with fail
  go_returns
  exact ⟨rfl, HE.out.1, HE.out.2⟩
 ·go_enter Tryz.func52, Tryz.ntmps52
  go_upto_region 1 with fail
  refine Sc.wp_at (R := fun W => PlD W base P x bs out ∧ PStep base P w W ∧ Has W w.heap.size [.int .i64 6, .string ⟨at'.toArray⟩, .int .i64 f]) h0.out (fun W hW => ?_)
  rw [← hA] at hW ⊢
  clear h0 hA HFL
  obtain ⟨hP, hst, ha⟩ := hW
  have HP := Lib.hid hP; have HST := Lib.hid hst; have HAA := Lib.hid ha
  obtain ⟨a0, a1, a2⟩ := Jd.three_of ha
  clear hP hst ha a2
  have hr : R = out ++ [⟨6, 0, 0, [], at', x.text⟩] := by rw [HR.out]; rfl
  subst hr
  have hdr0 := Below.drew (Below.refl W.heap.size W)
  obtain ⟨vb', vo', h1, h2, h3, h4, h5⟩ := HP.out
  obtain ⟨Go4, co4, rfl⟩ := Sc.row_slice h5
  obtain ⟨no, hno⟩ : ∃ no, no = out.length := ⟨_, rfl⟩
  have HNO := Lib.hid hno
  rw [← hno] at h1 h5 hout
  have HROW := Lib.hid h5; have H1 := Lib.hid h1; have H45 := Lib.hid (And.intro h2 (And.intro h3 h4))
  obtain ⟨i0, hi, hz0, hz1, hz2⟩ := Sc.info_three infoEnt2
  have HI0 := Lib.hid hi; have HZ0 := Lib.hid hz0; have HZ1 := Lib.hid hz1; have HZ2 := Lib.hid hz2
  have hdr := Below.drew (Below.refl W.heap.size W)
  have hba := ba (Below.refl W.heap.size W) (.cells #[.int .i64 6, .string ⟨#[]⟩, .int .i64 0, .int .i64 0, .string ⟨at'.toArray⟩, .string ⟨x.text.toArray⟩] 80)
  have hb1 : Below W.heap.size W (W.drew.alloc (.cells #[.int .i64 6, .string ⟨#[]⟩, .int .i64 0, .int .i64 0, .string ⟨at'.toArray⟩, .string ⟨x.text.toArray⟩] 80)) := ba hdr _
  have hb2 : Below W.heap.size W (W.alloc (.cells #[.int .i64 6, .string ⟨#[]⟩, .int .i64 0, .int .i64 0, .string ⟨at'.toArray⟩, .string ⟨x.text.toArray⟩] 80)).drew := Below.drew hba
  have q1 := HAA.out.1 1 _ rfl
  have q1d := moved q1 hdr (Nat.le_refl _); have q1x := moved q1 hb1 (Nat.le_refl _); have q1u := moved q1 hba (Nat.le_refl _); have q1v := moved q1 hb2 (Nat.le_refl _)
  have p4 := h1.1 4 _ rfl
  have p4d := moved p4 hdr (Nat.le_refl _); have p4x := moved p4 hb1 (Nat.le_refl _); have p4u := moved p4 hba (Nat.le_refl _); have p4v := moved p4 hb2 (Nat.le_refl _)
  have p6 := h1.1 6 _ rfl
  have p6d := moved p6 hdr (Nat.le_refl _); have p6x := moved p6 hb1 (Nat.le_refl _); have p6u := moved p6 hba (Nat.le_refl _); have p6v := moved p6 hb2 (Nat.le_refl _)
  have HROW1 := Lib.hid (row_down h5 hb1); have HROW2 := Lib.hid (row_down h5 hb2); have HB1 := Lib.hid hb1; have HB2 := Lib.hid hb2
  have HZL : Hid (base ≤ W.heap.size) := h3
  clear hi hz0 hz1 hz2 hdr hba hb1 hb2 h1 h2 h3 h4 h5 hno
  go_upto_region 7 with fail
  go_region_law (first
   | (refine step_append_lies _ (by rfl) _ _ _ (by rfl) base 80 i0 _ 6 72 Tryz.underlying71 HI0.out HZ0.out HZ1.out HZ2.out rfl (by omega) (.slice Go4 no co4) no (out.flatMap entC) (by rfl) (by first | exact HROW1.out | exact HROW2.out)
       ⟨W.heap.size, 0, none⟩ 1 1 [.int .i64 6, .string ⟨#[]⟩, .int .i64 0, .int .i64 0, .string ⟨at'.toArray⟩, .string ⟨x.text.toArray⟩] (by rfl) (by rfl) (World.news_of_block (cs := #[.int .i64 6, .string ⟨#[]⟩, .int .i64 0, .int .i64 0, .string ⟨at'.toArray⟩, .string ⟨x.text.toArray⟩]) (t := 80) (fr := (0, 0)) (heap_alloc_new W _)) (by simp [Value.oneCell'])
       (by omega) (by unfold maxLen; omega) (by omega) (by have := HZL.out; simp; omega) (W.heap.size + 1) (by simp) ?_
      intro g5 cap5 w5 hown5 hgrow5 hat5 hlt5
      have hput := (by first
       | exact pl_put (w := W) (e := ⟨6, 0, 0, [], at', x.text⟩) (g := g5) (cap := cap5) H1.out H45.out.1 H45.out.2.1 H45.out.2.2 (by rw [← HNO.out]; exact HROW.out) HB1.out (by rw [← HNO.out]; exact hown5) hgrow5
       | exact pl_put (w := W) (e := ⟨6, 0, 0, [], at', x.text⟩) (g := g5) (cap := cap5) H1.out H45.out.1 H45.out.2.1 H45.out.2.2 (by rw [← HNO.out]; exact HROW.out) HB2.out (by rw [← HNO.out]; exact hown5) hgrow5)
      have HPUT := Lib.hid hput
      have y6 : w5.cell? ⟨P, 6, none⟩ = some (.slice Go4 no co4) := hput.1.1 6 _ rfl
      have z6 := hput.1.2.1 6 (by simp [plC])
      clear hput))
  all_goals
   go_wp2_with fail
   go_returns
   exact ⟨rfl, by rw [HNO.out]; exact HPUT.out.2.1, HST.out.trans (by rw [HNO.out]; exact HPUT.out.2.2)⟩
 ·go_enter Tryz.func52, Tryz.ntmps52
  go_upto_region 1 with fail
  refine Sc.wp_at (R := fun W => (PlD W base P x bs out ∧ PStep base P w W ∧ Has W w.heap.size [.int .i64 7, .string ⟨at'.toArray⟩, .int .i64 f]) ∧ W.cell? ⟨6, 0, none⟩ = some (.int .i64 m)) ⟨h0.out, HM.out⟩ (fun W hW => ?_)
  rw [← hA] at hW ⊢
  clear h0 hA HFL
  obtain ⟨⟨hP, hst, ha⟩, hmW⟩ := hW
  obtain ⟨fr, hfr⟩ : ∃ fr, fr = partL 1 x.fa x.fd := ⟨_, rfl⟩
  have hr : R = out ++ [⟨6, 0, 0, [], fr, at'⟩] := by rw [HR.out, hfr]; rfl
  subst hr
  obtain ⟨z, hz⟩ : ∃ z : Int, z = (partV 1 ⟨x.fa.toArray⟩ ⟨x.fd.toArray⟩).2 := ⟨_, rfl⟩
  have HPT : Hid (Calls Tryz.prog 34 #[.int .i64 1, .agg #[.string ⟨x.fa.toArray⟩, .string ⟨x.fd.toArray⟩]] W fun e w' => e = .returned (.tuple #[.string ⟨fr.toArray⟩, .int .i64 z]) ∧ Below W.heap.size W w') := by
   have := part_any 1 ⟨x.fa.toArray⟩ ⟨x.fd.toArray⟩ m W (by have := hlen.1; simpa [ByteArray.size] using this) (by have := hlen.2; simpa [ByteArray.size] using this) hmW
   rw [Jd.part_str, ← hfr, ← hz] at this
   exact this
  obtain ⟨a0, a1, -⟩ := Jd.three_of ha
  obtain ⟨p0, p1⟩ : W.cell? ⟨P, 0, none⟩ = some (.string ⟨x.fa.toArray⟩) ∧ W.cell? ⟨P, 1, none⟩ = some (.string ⟨x.fd.toArray⟩) := by obtain ⟨_, _, h1, _⟩ := id hP; exact ⟨h1.1 0 _ rfl, h1.1 1 _ rfl⟩
  have HZB : Hid (base ≤ W.heap.size) := by obtain ⟨_, _, _, _, h3, _⟩ := id hP; exact h3
  have HP0 := Lib.hid hP; have HST0 := Lib.hid hst; have HAA0 := Lib.hid ha
  clear hfr hz hP hst ha hmW HM
  go_wp2_with fail
  refine HPT.out.mono ?_
  rintro e w2 ⟨rfl, hb2⟩
  have HP := Lib.hid (HP0.out.down hb2); have HST := Lib.hid (HST0.out.trans (PStep.of_below (base := base) (P := P) hb2 HZB.out)); have HAA := Lib.hid (HAA0.out.down hb2)
  clear hb2 p0 p1 a0 a1 HPT HP0 HST0 HAA0
  obtain ⟨vb', vo', h1, h2, h3, h4, h5⟩ := HP.out
  obtain ⟨Go4, co4, rfl⟩ := Sc.row_slice h5
  obtain ⟨no, hno⟩ : ∃ no, no = out.length := ⟨_, rfl⟩
  have HNO := Lib.hid hno
  rw [← hno] at h1 h5 hout
  have HROW := Lib.hid h5; have H1 := Lib.hid h1; have H45 := Lib.hid (And.intro h2 (And.intro h3 h4))
  obtain ⟨i0, hi, hz0, hz1, hz2⟩ := Sc.info_three infoEnt2
  have HI0 := Lib.hid hi; have HZ0 := Lib.hid hz0; have HZ1 := Lib.hid hz1; have HZ2 := Lib.hid hz2
  have hdr := Below.drew (Below.refl w2.heap.size w2)
  have hba := ba (Below.refl w2.heap.size w2) (.cells #[.int .i64 6, .string ⟨#[]⟩, .int .i64 0, .int .i64 0, .string ⟨fr.toArray⟩, .string ⟨at'.toArray⟩] 80)
  have hb1 : Below w2.heap.size w2 (w2.drew.alloc (.cells #[.int .i64 6, .string ⟨#[]⟩, .int .i64 0, .int .i64 0, .string ⟨fr.toArray⟩, .string ⟨at'.toArray⟩] 80)) := ba hdr _
  have hb2 : Below w2.heap.size w2 (w2.alloc (.cells #[.int .i64 6, .string ⟨#[]⟩, .int .i64 0, .int .i64 0, .string ⟨fr.toArray⟩, .string ⟨at'.toArray⟩] 80)).drew := Below.drew hba
  have q1 := HAA.out.1 1 _ rfl
  have q1d := moved q1 hdr (Nat.le_refl _); have q1x := moved q1 hb1 (Nat.le_refl _); have q1u := moved q1 hba (Nat.le_refl _); have q1v := moved q1 hb2 (Nat.le_refl _)
  have p6 := h1.1 6 _ rfl
  have p6d := moved p6 hdr (Nat.le_refl _); have p6x := moved p6 hb1 (Nat.le_refl _); have p6u := moved p6 hba (Nat.le_refl _); have p6v := moved p6 hb2 (Nat.le_refl _)
  have HROW1 := Lib.hid (row_down h5 hb1); have HROW2 := Lib.hid (row_down h5 hb2); have HB1 := Lib.hid hb1; have HB2 := Lib.hid hb2
  have HZL : Hid (base ≤ w2.heap.size) := h3
  clear hi hz0 hz1 hz2 hdr hba hb1 hb2 h1 h2 h3 h4 h5 hno
  go_upto_region 10 with fail
  go_region_law (first
   | (refine step_append_lies _ (by rfl) _ _ _ (by rfl) base 80 i0 _ 6 72 Tryz.underlying71 HI0.out HZ0.out HZ1.out HZ2.out rfl (by omega) (.slice Go4 no co4) no (out.flatMap entC) (by rfl) (by first | exact HROW1.out | exact HROW2.out)
       ⟨w2.heap.size, 0, none⟩ 1 1 [.int .i64 6, .string ⟨#[]⟩, .int .i64 0, .int .i64 0, .string ⟨fr.toArray⟩, .string ⟨at'.toArray⟩] (by rfl) (by rfl) (World.news_of_block (cs := #[.int .i64 6, .string ⟨#[]⟩, .int .i64 0, .int .i64 0, .string ⟨fr.toArray⟩, .string ⟨at'.toArray⟩]) (t := 80) (fr := (0, 0)) (heap_alloc_new w2 _)) (by simp [Value.oneCell'])
       (by omega) (by unfold maxLen; omega) (by omega) (by have := HZL.out; simp; omega) (w2.heap.size + 1) (by simp) ?_
      intro g5 cap5 w5 hown5 hgrow5 hat5 hlt5
      have hput := (by first
       | exact pl_put (w := w2) (e := ⟨6, 0, 0, [], fr, at'⟩) (g := g5) (cap := cap5) H1.out H45.out.1 H45.out.2.1 H45.out.2.2 (by rw [← HNO.out]; exact HROW.out) HB1.out (by rw [← HNO.out]; exact hown5) hgrow5
       | exact pl_put (w := w2) (e := ⟨6, 0, 0, [], fr, at'⟩) (g := g5) (cap := cap5) H1.out H45.out.1 H45.out.2.1 H45.out.2.2 (by rw [← HNO.out]; exact HROW.out) HB2.out (by rw [← HNO.out]; exact hown5) hgrow5)
      have HPUT := Lib.hid hput
      have y6 : w5.cell? ⟨P, 6, none⟩ = some (.slice Go4 no co4) := hput.1.1 6 _ rfl
      have z6 := hput.1.2.1 6 (by simp [plC])
      clear hput))
  all_goals
   go_wp2_with fail
   go_returns
   exact ⟨rfl, by rw [HNO.out]; exact HPUT.out.2.1, HST.out.trans (by rw [HNO.out]; exact HPUT.out.2.2)⟩
end Go.Proofs.YtpfbkdbblpppdaaGreatDoor.Dv
namespace Go.Proofs.YtpfbkdbblpppdaaGreatDoor.Dv
open Go.RowKit
open Sc (Str cStr strC)
open Jd (Ltt partL lttC actC cAct Crs endJ EndP EndS FlagOk JudgeP JudgeQ)
def DelP (out : List Ent) (r : St × Int) (w : World) (e : Ending) (w' : World) : Prop :=
 (if r.2 = 0 then ∃ G c G1 c1 G2 c2, e = .returned (.tuple #[.slice G out.length c, .agg #[.slice G1 r.1.boxes.length c1, .slice G2 r.1.spool.length c2], .int .i64 0]) ∧ SAt cEnt w' (fun b => w.heap.size ≤ b) (.slice G out.length c) out ∧ SAt cBox w' (fun b => w.heap.size ≤ b) (.slice G1 r.1.boxes.length c1) r.1.boxes ∧ SAt cEnt w' (fun b => w.heap.size ≤ b) (.slice G2 r.1.spool.length c2) r.1.spool
  else e = .returned (.tuple #[.slice none 0 0, .agg #[.slice none 0 0, .slice none 0 0], .int .i64 r.2])) ∧ Below w.heap.size w w'
theorem flat_bd {α : Type} {k : Nat} {f : α → List Value} {hf : ∀ x, (f x).length = k} {w : World} {F : Dom} {v : Value} {xs : List α} (h : SAt (Cod.flat k f hf) w F v xs) : SAt (Cod.flat k f hf) w (fun b => F b ∧ b < w.heap.size) v xs := Sc.SAt.bd (fun _ _ h => h) h
theorem box_bd {w : World} {F : Dom} {v : Value} {xs : List Bx} (h : SAt cBox w F v xs) : SAt cBox w (fun b => F b ∧ b < w.heap.size) v xs := Sc.SAt.bd (fun x vs h => by
 obtain ⟨u, e, hu⟩ := h
 exact ⟨u, e, flat_bd hu⟩) h
def AllR (r : St × Int) (w : World) (e : Ending) (w' : World) : Prop := ∃ G1 n1 c1 G2 n2 c2, e = .returned (.tuple #[.agg #[.slice G1 n1 c1, .slice G2 n2 c2], .int .i64 r.2]) ∧ (r.2 = 0 → SAt cBox w' (fun b => w.heap.size ≤ b ∧ b < w'.heap.size) (.slice G1 n1 c1) r.1.boxes ∧ SAt cEnt w' (fun b => w.heap.size ≤ b ∧ b < w'.heap.size) (.slice G2 n2 c2) r.1.spool) ∧ Below w.heap.size w w'
theorem AllPost.r {r : St × Int} {w w' : World} {e : Ending} (h : AllPost r w e w') : AllR r w e w' := by
 obtain ⟨h, hb⟩ := h
 by_cases h0 : r.2 = 0
 ·rw [if_pos h0] at h
  obtain ⟨G1, c1, G2, c2, rfl, qs, hq, hr⟩ := h
  refine ⟨G1, _, c1, G2, _, c2, by rw [h0], fun _ => ⟨?_, flat_bd (hr.spool fun _ h => h)⟩, hb⟩
  have := box_bd (hr.boxes (F := fun b => w.heap.size ≤ b) fun _ h => h)
  rw [← hq] at this
  exact this
 ·rw [if_neg h0] at h
  subst h
  exact ⟨none, 0, 0, none, 0, 0, rfl, fun e => absurd e h0, hb⟩
theorem info_str1 : (Tryz.prog.info? 9).map (fun i => (i.zero, i.size, i.bytes)) = some (some (.string ⟨#[]⟩), 1, 16) := by kernel_rfl
theorem strs_snoc (l : List Str) (a : Str) : (l ++ [a]).flatMap strC = l.flatMap strC ++ strC a := by simp
def NmR (W : World) (P : Nat) (x : Ltt) (bs : List Str) (i : Value) (wr : World) : Prop := ∃ (j : Nat) (vb : Value), j ≤ bs.length ∧ i = .int .i64 j ∧ Has wr P (plC x vb (.slice none 0 0)) ∧ wr.ownsRow (P + 1) 9 1 vb j ((bs.take j).flatMap strC) ∧ Below P W wr
theorem nm_put {W wr w1 w6 : World} {P g cap j : Nat} {x : Ltt} {bs : List Str} {vb : Value} (hj : j < bs.length) (h1 : Has wr P (plC x vb (.slice none 0 0))) (h2 : wr.ownsRow (P + 1) 9 1 vb j ((bs.take j).flatMap strC)) (h3 : Below P W wr) (hb1 : Below wr.heap.size wr w1)
    (hown : w6.ownsRow (P + 1) 9 1 (.slice (some ⟨g, 0, none⟩) (j + 1) cap) (j + 1) ((bs.take j).flatMap strC ++ strC bs[j])) (hgrow : w1.grownBy w6 vb.ownBlock) :
    Has w6 P (plC x vb (.slice none 0 0)) ∧ Has (w6.setCell ⟨P, 5, none⟩ (.slice (some ⟨g, 0, none⟩) (j + 1) cap)) P (plC x (.slice (some ⟨g, 0, none⟩) (j + 1) cap) (.slice none 0 0)) ∧ (w6.setCell ⟨P, 5, none⟩ (.slice (some ⟨g, 0, none⟩) (j + 1) cap)).ownsRow (P + 1) 9 1 (.slice (some ⟨g, 0, none⟩) (j + 1) cap) (j + 1) ((bs.take (j + 1)).flatMap strC) ∧ Below P W (w6.setCell ⟨P, 5, none⟩ (.slice (some ⟨g, 0, none⟩) (j + 1) cap)) := by
 have hne : ∀ i, i ≤ P → some i ≠ vb.ownBlock := fun i hi e => by
  have := (World.ownsRow.lt h2 i e.symm).1
  omega
 have hPz := h1.2.2
 have hgb : P + 1 ≤ g := (World.ownsRow.lt hown g rfl).1
 have h6 := (h1.down hb1).kept hgrow (hne P (Nat.le_refl _))
 have hnP : (Value.slice (some ⟨g, 0, none⟩) (j + 1) cap).ownBlock ≠ some P := fun e => by
  have e' : g = P := Option.some.inj e
  omega
 refine ⟨h6, h6.set' (i := 5) _ (by simp [plC]), ?_, ?_⟩
 ·rw [List.take_succ_eq_append_getElem hj, strs_snoc]
  exact row_off hown hnP _ _
 ·refine ⟨(hgrow.os.trans hb1.os).trans h3.os, (hgrow.tape.trans hb1.tape).trans h3.tape, (hgrow.output.trans hb1.output).trans h3.output, ?_, fun i hi => ?_⟩
  ·have := hb1.size; have := hgrow.size; have := h3.size
   simp only [World.size_setCell]; omega
  ·rw [Below.heap_setCell _ _ _ _ (by show i ≠ P; omega)]
   exact ((hgrow.block i (by have := hb1.size; omega) (hne i (by omega))).trans (hb1.block i (by omega))).trans (h3.block i hi)
theorem names_len (s : St) : (s.boxes.map Bx.name).length = s.boxes.length := List.length_map ..
def AlR (r : St × Int) (w : World) (RS P B : Nat) (x : Ltt) (bs : List Str) (out : List Ent) (vp ve : Value) (wx : World) : Prop :=
 ∃ R G1 n1 c1 G2 n2 c2, vp = .pointer (some ⟨R, 0, none⟩) ∧ ve = .int .i64 r.2 ∧ Below w.heap.size w wx ∧ PlD wx B P x bs out ∧ Has wx RS [.slice none 0 0, .slice none 0 0] ∧ Has wx R [.slice G1 n1 c1, .slice G2 n2 c2] ∧
 (r.2 = 0 → SAt cBox wx (fun b => B ≤ b) (.slice G1 n1 c1) r.1.boxes ∧ SAt cEnt wx (fun b => B ≤ b) (.slice G2 n2 c2) r.1.spool)
def put2 (V : World) (C : Nat) (a b : Value) : World := (V.setCell ⟨C, 0, none⟩ a).setCell ⟨C, 1, none⟩ b
theorem put2_has {V : World} {L C : Nat} {vs : List Value} (h : Has V L vs) (hne : L ≠ C) (a b : Value) : Has (put2 V C a b) L vs := (h.else' hne _).else' hne _
theorem put2_same {V : World} {C : Nat} {F : Dom} (h : ∀ b, F b → b ≠ C) (a b : Value) : Same F V (put2 V C a b) := fun k hk _ => by
 unfold put2
 rw [Below.heap_setCell _ _ _ _ (h k hk), Below.heap_setCell _ _ _ _ (h k hk)]
theorem put2_size (V : World) (C : Nat) (a b : Value) : V.heap.size ≤ (put2 V C a b).heap.size := by unfold put2; simp only [World.size_setCell]; exact Nat.le_refl _
theorem alr_end {r : St × Int} {w V : World} {RS P B R : Nat} {x : Ltt} {bs : List Str} {out : List Ent} {G1 G2 : Option Addr} {n1 c1 n2 c2 : Nat} {z0 z1 vb vo : Value} {D : Dom} (hB : Below w.heap.size w V) (hwR : w.heap.size ≤ R) (hPV : PlD V B P x bs out) (hpl : Has V P (plC x vb vo)) (hvo : vo.ownBlock ≠ some R) (hBR : B ≤ R) (hRS : Has V RS [.slice none 0 0, .slice none 0 0]) (hne : RS ≠ R) (hR : Has V R [z0, z1])
    (hD : ∀ b, D b → B ≤ b ∧ b ≠ R) (hv : r.2 = 0 → SAt cBox V D (.slice G1 n1 c1) r.1.boxes ∧ SAt cEnt V D (.slice G2 n2 c2) r.1.spool) :
    AlR r w RS P B x bs out (.pointer (some ⟨R, 0, none⟩)) (.int .i64 r.2) (put2 V R (.slice G1 n1 c1) (.slice G2 n2 c2)) := by
 refine ⟨R, G1, n1, c1, G2, n2, c2, rfl, rfl, Below.setCell (Below.setCell hB hwR _) hwR _, ?_, put2_has hRS hne _ _, (hR.set' (i := 0) _ (by simp)).set' (i := 1) _ (by simp), fun h0 => ?_⟩
 ·obtain ⟨vb', vo', h1, h2, h3, h4, h5⟩ := hPV
  have ho : vo' = vo := by
   have e1 := h1.1 6 _ rfl
   have e2 := hpl.1 6 _ rfl
   rw [e1] at e2
   exact Option.some.inj e2
  subst ho
  exact ⟨vb', vo', put2_has h1 (by omega) _ _, h2, Nat.le_trans h3 (put2_size ..), h4.stable (put2_same (fun b hb => by have := hb.1; omega) _ _) (put2_size ..), row_off (row_off h5 hvo _ _) hvo _ _⟩
 ·obtain ⟨k1, k2⟩ := hv h0
  exact ⟨(k1.stable (put2_same (fun b hb => (hD b hb).2) _ _) (put2_size ..)).mono fun b hb => (hD b hb).1, (k2.stable (put2_same (fun b hb => (hD b hb).2) _ _) (put2_size ..)).mono fun b hb => (hD b hb).1⟩
def AcR (w5 : World) (B P : Nat) (x : Ltt) (bs : List Str) (E : List Jd.Act) (i : Value) (wr : World) : Prop := ∃ j : Nat, j ≤ E.length ∧ i = .int .i64 j ∧ PlD wr B P x bs ((E.take j).foldl (actD x bs) []) ∧ PStep B P w5 wr
theorem deliver_any (s : St) (x : Ltt) (C : Crs) (vB vS : Value) (Gc : Option Addr) (nc cc : Nat) (m : Int) (w : World) (F : Dom) (hB : SAt cBox w F vB s.boxes) (hS : SAt cEnt w F vS s.spool) (hg : GoodS s)
    (hJ : ∀ V, Below w.heap.size w V → Calls Tryz.prog 20 #[.slice Gc nc cc, .agg (lttC x).toArray] V (JudgeP C V)) (hlenC : C.acts.length ≤ 6) (hflag : FlagOk C) (hE : ∀ a ∈ endJ C, 3 ≤ a.kind ∧ a.kind ≤ 7 ∧ 0 ≤ a.flags) (hEl : (endJ C).length ≤ 6)
    (hsm : ∀ e ∈ planD x (s.boxes.map Bx.name) (endJ C), Small e) (hlen : x.fa.length ≤ 1000000 ∧ x.fd.length ≤ 1000000) (hm : w.cell? ⟨6, 0, none⟩ = some (.int .i64 m)) :
    Calls Tryz.prog 27 #[.agg #[vB, vS], .agg (lttC x).toArray, .slice Gc nc cc] w (DelP (planD x (s.boxes.map Bx.name) (endJ C)) (allS s (planD x (s.boxes.map Bx.name) (endJ C))) w) := by
 obtain ⟨Gb, cb, rfl, hcb⟩ := hB.form
 obtain ⟨Gs, cS, rfl, hcs⟩ := hS.form
 obtain ⟨bs, hbs⟩ : ∃ bs, bs = s.boxes.map Bx.name := ⟨_, rfl⟩
 obtain ⟨E, hEe⟩ : ∃ E, E = endJ C := ⟨_, rfl⟩
 rw [← hbs, ← hEe] at hsm ⊢
 rw [← hEe] at hE hEl
 obtain ⟨out, hout⟩ : ∃ out, out = planD x bs E := ⟨_, rfl⟩
 obtain ⟨r, hr⟩ : ∃ r, r = allS s out := ⟨_, rfl⟩
 rw [← hout] at hsm ⊢
 rw [← hr]
 have hol : out.length ≤ 6 := by
  rw [hout]; unfold planD
  have := foldD_len x bs E []
  simp only [List.length_nil] at this
  omega
 have hbl : bs.length ≤ 5 := by rw [hbs, names_len]; exact hg.boxes
 have HJ := Lib.hid hJ
 have HCK : Hid (∀ V, Below w.heap.size w V → Calls Tryz.prog 51 #[.agg #[.slice Gb s.boxes.length cb, .slice Gs s.spool.length cS]] V fun e w' => e = .returned (.int .i64 0) ∧ Below V.heap.size V w') := fun V hV => checkS_any s _ _ F m V (hB.down hV) (hS.down hV) hg (moved hm hV (Nat.le_refl _))
 have HEND : Hid (∀ V F u, SAt cAct V F u C.acts → Calls Tryz.prog 24 #[.agg #[u, .int .i64 C.flags, .bool C.asked, .int .i64 C.fault]] V (EndP E V)) := fun V F u h => by rw [hEe]; exact Jd.end_any u C F V h hlenC hflag
 have HALL : Hid (∀ V v F', Below w.heap.size w V → SAt cEnt V F' v out → Calls Tryz.prog 28 #[.agg #[.slice Gb s.boxes.length cb, .slice Gs s.spool.length cS], v] V (AllR r V)) := fun V v F' hV hv => by
  rw [hr]
  refine Calls.mono ?_ fun _ _ h => AllPost.r h
  exact all_any s out _ _ v (fun _ => True) m V ((hB.down hV).mono fun _ _ => trivial) ((hS.down hV).mono fun _ _ => trivial) hg (hv.mono fun _ _ => trivial) (by omega) hsm (moved hm hV (Nat.le_refl _))
 have HBX : Hid (∀ V, Below w.heap.size w V → SAt cBox V F (.slice Gb s.boxes.length cb) s.boxes) := fun V hV => hB.down hV
 have HM : Hid (∀ V, Below w.heap.size w V → V.cell? ⟨6, 0, none⟩ = some (.int .i64 m)) := fun V hV => moved hm hV (Nat.le_refl _)
 have HBS := Lib.hid hbs; have HOUT := Lib.hid hout; have HE := Lib.hid hE; have HLN := Lib.hid hlen; have HEL := Lib.hid hEl; have HOL := Lib.hid hol; have HBL := Lib.hid hbl
 have hA1 := ba (ba (ba (Below.refl w.heap.size w) (.cells #[.slice Gb s.boxes.length cb, .slice Gs s.spool.length cS] 73)) (.cells (lttC x).toArray 33)) (.cells #[.slice none 0 0, .slice none 0 0] 73)
 have h1 := ((Has.alloc w [.slice Gb s.boxes.length cb, .slice Gs s.spool.length cS] 73).down (ba (Below.refl _ _) (.cells (lttC x).toArray 33))).down (ba (Below.refl _ _) (.cells #[.slice none 0 0, .slice none 0 0] 73))
 have h2 := (Has.alloc (w.alloc (.cells #[.slice Gb s.boxes.length cb, .slice Gs s.spool.length cS] 73)) (lttC x) 33).down (ba (Below.refl _ _) (.cells #[.slice none 0 0, .slice none 0 0] 73))
 have h3 := Has.alloc ((w.alloc (.cells #[.slice Gb s.boxes.length cb, .slice Gs s.spool.length cS] 73)).alloc (.cells (lttC x).toArray 33)) [.slice none 0 0, .slice none 0 0] 73
 rw [World.size_alloc] at h2
 rw [World.size_alloc, World.size_alloc] at h3
 have H0 := Lib.hid (And.intro h1 (And.intro h2 (And.intro h3 hA1)))
 have HNB : Hid (s.boxes.length = bs.length) := by unfold Hid; rw [hbs, names_len]
 clear hJ hB hS hbs hEe hout hr hE hm hsm hg hlenC hflag hA1 h1 h2 h3 hlen hcb hcs hEl hol hbl
 unfold lttC at H0 HJ ⊢
 go_enter Tryz.func27, Tryz.ntmps27
 go_upto_region 1 with fail
 refine Sc.wp_at (R := fun W => Has W w.heap.size [.slice Gb s.boxes.length cb, .slice Gs s.spool.length cS] ∧ Has W (w.heap.size + 1) (lttC x) ∧ Has W (w.heap.size + 1 + 1) [.slice none 0 0, .slice none 0 0] ∧ Below w.heap.size w W) H0.out (fun W hW => ?_)
 obtain ⟨hs0, hl0, hr0, hb0⟩ := hW
 obtain ⟨S0, hS0⟩ : ∃ S0, S0 = w.heap.size := ⟨_, rfl⟩
 obtain ⟨L0, hL0⟩ : ∃ L0, L0 = w.heap.size + 1 := ⟨_, rfl⟩
 obtain ⟨RS, hRS⟩ : ∃ RS, RS = w.heap.size + 1 + 1 := ⟨_, rfl⟩
 rw [← hRS] at hr0 ⊢
 rw [← hL0] at hl0 ⊢
 rw [← hS0] at hs0 ⊢
 have HWS : Hid (w.heap.size ≤ RS) := by unfold Hid; omega
 have HS0 := Lib.hid hs0; have HL0 := Lib.hid hl0; have HR0 := Lib.hid hr0; have HB0 := Lib.hid hb0
 obtain ⟨s0, s1, -, -⟩ := hs0.two
 have HC := Lib.hid (HCK.out W hb0)
 clear H0 hs0 hl0 hr0 hb0 HCK
 clear hS0 hL0 hRS
 go_wp2_with fail
 refine HC.out.mono ?_
 rintro e w1 ⟨rfl, hb1⟩
 have HB1 := Lib.hid (bt HB0.out hb1)
 have HS1 := Lib.hid (HS0.out.down hb1); have HL1 := Lib.hid (HL0.out.down hb1); have HR1 := Lib.hid (HR0.out.down hb1)
 obtain ⟨l0, l1, l2, l3, l4⟩ := Jd.ltt_get HL1.out
 have HC := Lib.hid (HJ.out w1 HB1.out)
 clear hb1 HS0 HL0 HR0 HB0 s0 s1 HJ
 go_wp2_with fail
 refine HC.out.mono ?_
 intro e w2 hp
 obtain ⟨G2, k2, rfl, hs2, hb2⟩ := hp.q
 have hA := ba (Below.refl w2.heap.size w2) (.cells #[.slice G2 C.acts.length k2, .int .i64 C.flags, .bool C.asked, .int .i64 C.fault] 53)
 have hK := Jd.crsq_alloc hs2 53
 obtain ⟨CB, hCB⟩ : ∃ CB, CB = w2.heap.size := ⟨_, rfl⟩
 obtain ⟨W2, hW2⟩ : ∃ W, W = w2.alloc (.cells #[.slice G2 C.acts.length k2, .int .i64 C.flags, .bool C.asked, .int .i64 C.fault] 53) := ⟨_, rfl⟩
 rw [← hCB, ← hW2] at hK
 rw [← hW2] at hA
 have hb := bt hb2 hA
 have HK2 := Lib.hid hK
 have HB2 := Lib.hid (bt HB1.out hb)
 have HS2 := Lib.hid (HS1.out.down hb); have HL2 := Lib.hid (HL1.out.down hb); have HR2 := Lib.hid (HR1.out.down hb)
 have HWe := Lib.hid hW2; have HXe := Lib.hid hCB
 clear l0 l1 l2 l3 l4 HC hp hs2 hb2 hA hK hCB hW2 hb HB1 HS1 HL1 HR1
 go_upto_region 7 with fail
 rw [← HWe.out, ← HXe.out]
 clear HWe HXe
 obtain ⟨l0, l1, l2, l3, l4⟩ := Jd.ltt_get HL2.out
 have hA := ba (Below.refl W2.heap.size W2) (.cells (plC x (.slice none 0 0) (.slice none 0 0)).toArray 126)
 have hP := Has.alloc W2 (plC x (.slice none 0 0) (.slice none 0 0)) 126
 obtain ⟨P, hPe⟩ : ∃ P, P = W2.heap.size := ⟨_, rfl⟩
 obtain ⟨W3, hW3⟩ : ∃ W, W = W2.alloc (.cells (plC x (.slice none 0 0) (.slice none 0 0)).toArray 126) := ⟨_, rfl⟩
 rw [← hPe, ← hW3] at hP
 rw [← hW3] at hA
 have hz3 : W3.heap.size = P + 1 := by rw [hW3, World.size_alloc, hPe]
 have HP3 := Lib.hid hP
 have HA3 : Hid (Below P W2 W3) := by unfold Hid; rw [hPe]; exact hA
 have HS3 := Lib.hid (HS2.out.down hA)
 have HPE := Lib.hid hPe
 have HSP : Hid (S0 < P ∧ RS < P ∧ CB < P) := ⟨by rw [hPe]; exact HS2.out.2.2, by rw [hPe]; exact HR2.out.2.2, by rw [hPe]; obtain ⟨_, _, h, _⟩ := HK2.out; exact h.2.2⟩
 have HWP : Hid (w.heap.size ≤ P) := by unfold Hid; rw [hPe]; exact HB2.out.size
 have HWe := Lib.hid hW3; have HXe := Lib.hid hPe
 have HZ3 := Lib.hid hz3
 clear hA hP hPe hW3 HL2 hz3
 unfold plC at HWe
 go_upto_region 8 with fail
 rw [← HWe.out, ← HXe.out]
 clear HWe HXe l0 l1 l2 l3 l4
 obtain ⟨s0, s1, -, -⟩ := HS3.out.two
 go_wp2_with fail
 go_loopw [42] (NmR W2 P x bs) (fun i _ => bs.length - (intOf i).toNat)
 case atStart => exact ⟨0, .slice none 0 0, Nat.zero_le _, rfl, HP3.out, World.ownsRow_nil _ _ _ _, HA3.out⟩
 case round =>
  obtain ⟨j, vb, hj, rfl, h1, h2, h3⟩ := hrel
  clear s0 s1 HS3 HP3 HZ3
  have hbw : Below w.heap.size w wr := HB2.out.trans (h3.mono HWP.out)
  have HBR := Lib.hid hbw
  by_cases hlt : j < bs.length
  ·have hlt' : j < s.boxes.length := by have := HNB.out; omega
   obtain ⟨g, off, a, c, hG, -, hgl, hac, -, c0, c1, c2⟩ := box_get (HBX.out wr hbw) (Below.refl _ _) j hlt'
   have hnm : s.boxes[j].name = bs[j] := by
    have e := HBS.out
    subst e
    rw [List.getElem_map]
   rw [hnm] at c0
   obtain ⟨nm, hn⟩ : ∃ nm, nm = bs[j] := ⟨_, rfl⟩
   rw [← hn] at c0
   have HN : Hid (∀ h : j < bs.length, nm = bs[j]) := fun _ => hn
   generalize s.boxes[j].next = nx at c1
   generalize s.boxes[j].mails.length = nml at c2 hac
   subst hG
   obtain ⟨Gv, cv, rfl⟩ := Sc.row_slice h2
   have hd : decide (j < s.boxes.length) = true := decide_eq_true hlt'
   have H1 := Lib.hid h1; have H2 := Lib.hid h2; have H3 := Lib.hid h3
   have HJL := Lib.hid hlt
   have hjc : j ≤ 5 := by have := HBL.out; omega
   have hjn : (j : Int) < s.boxes.length := by omega
   clear hnm hn h1 h2 h3 hbw hj
   go_upto_region 11 with fail
   have hA := ba (Below.refl wr.heap.size wr) (.cells #[.string ⟨nm.toArray⟩, .int .i64 nx, .slice a nml c] 119)
   have hN := Has.alloc wr [.string ⟨nm.toArray⟩, .int .i64 nx, .slice a nml c] 119
   obtain ⟨NB, hNB⟩ : ∃ NB, NB = wr.heap.size := ⟨_, rfl⟩
   obtain ⟨w4, hw4⟩ : ∃ W, W = wr.alloc (.cells #[.string ⟨nm.toArray⟩, .int .i64 nx, .slice a nml c] 119) := ⟨_, rfl⟩
   have hN' : Has w4 NB [.string ⟨nm.toArray⟩, .int .i64 nx, .slice a nml c] := by rw [hw4, hNB]; exact hN
   rw [← hw4] at hA
   have HA := Lib.hid hA
   have HWe := Lib.hid hw4; have HNe := Lib.hid hNB
   have h1 := H1.out.down hA
   have h2 := row_down H2.out hA
   have HROW := Lib.hid h2
   clear hw4 hNB hN hA c0 c1 c2
   rw [← HWe.out, ← HNe.out]
   clear HWe HNe
   obtain ⟨i0, hi, hz0, hz1, hz2⟩ := Sc.info_three info_str1
   have HI0 := Lib.hid hi; have HZ0 := Lib.hid hz0; have HZ1 := Lib.hid hz1; have HZ2 := Lib.hid hz2
   have hdr := Below.drew (Below.refl w4.heap.size w4)
   have hba := ba (Below.refl w4.heap.size w4) (.cells #[.string ⟨nm.toArray⟩] 9)
   have hb1 : Below w4.heap.size w4 (w4.drew.alloc (.cells #[.string ⟨nm.toArray⟩] 9)) := ba hdr _
   have hb2 : Below w4.heap.size w4 (w4.alloc (.cells #[.string ⟨nm.toArray⟩] 9)).drew := Below.drew hba
   have n0 := hN'.1 0 _ rfl
   have p5 := h1.1 5 _ rfl
   have n0d := moved n0 hdr (Nat.le_refl _); have n0x := moved n0 hb1 (Nat.le_refl _); have n0u := moved n0 hba (Nat.le_refl _); have n0v := moved n0 hb2 (Nat.le_refl _)
   have p5d := moved p5 hdr (Nat.le_refl _); have p5x := moved p5 hb1 (Nat.le_refl _); have p5u := moved p5 hba (Nat.le_refl _); have p5v := moved p5 hb2 (Nat.le_refl _)
   have HROW1 := Lib.hid (row_down h2 hb1); have HROW2 := Lib.hid (row_down h2 hb2)
   have HB1' := Lib.hid (bt HA.out hb1); have HB2' := Lib.hid (bt HA.out hb2)
   have HZL : Hid (P + 1 ≤ w4.heap.size) := h1.2.2
   clear hi hz0 hz1 hz2 hdr hba hb1 hb2 h1 h2 hN'
   go_region_law (first
    | (refine step_append_lies _ (by rfl) _ _ _ (by rfl) (P + 1) 9 i0 _ 1 16 Tryz.underlying37 HI0.out HZ0.out HZ1.out HZ2.out rfl (by omega) (.slice Gv j cv) j ((bs.take j).flatMap strC) (by rfl) (by first | exact HROW1.out | exact HROW2.out)
        ⟨w4.heap.size, 0, none⟩ 1 1 [.string ⟨nm.toArray⟩] (by rfl) (by rfl) (World.news_of_block (cs := #[.string ⟨nm.toArray⟩]) (t := 9) (fr := (0, 0)) (heap_alloc_new w4 _)) (by simp [Value.oneCell'])
        (by omega) (by unfold maxLen; omega) (by omega) (by have := HZL.out; simp; omega) (w4.heap.size + 1) (by simp) ?_
       intro g5 cap5 w5 hown5 hgrow5 hat5 hlt5
       have hput := (by first
        | exact nm_put (W := W2) (wr := wr) (g := g5) (cap := cap5) HJL.out H1.out H2.out H3.out HB1'.out (by rw [← HN.out HJL.out]; exact hown5) hgrow5
        | exact nm_put (W := W2) (wr := wr) (g := g5) (cap := cap5) HJL.out H1.out H2.out H3.out HB2'.out (by rw [← HN.out HJL.out]; exact hown5) hgrow5)
       have HPUT := Lib.hid hput
       have y5 := hput.1.1 5 _ rfl
       have z5 := hput.1.2.1 5 (by simp [plC])
       clear hput))
   all_goals
    go_wp2_with fail
    go_roundw
    case rel => exact ⟨j + 1, _, HJL.out, by go_num, HPUT.out.2.1, HPUT.out.2.2.1, HPUT.out.2.2.2⟩
    case measure => simp [intOf]; omega
  ·obtain rfl : j = bs.length := by omega
   have hd : decide (bs.length < s.boxes.length) = false := decide_eq_false (by have := HNB.out; omega)
   have hb2 : Below W2.heap.size W2 wr := by rw [← HPE.out]; exact h3
   have HKw := Lib.hid (HK2.out.down hb2)
   have HSw := Lib.hid (HS2.out.down hb2); have HRw := Lib.hid (HR2.out.down hb2)
   rw [List.take_length] at h2
   obtain ⟨lo, hlo⟩ : ∃ lo, lo = wr.heap.size := ⟨_, rfl⟩
   have HVB : Hid (SAt cStr wr (fun b => P + 1 ≤ b ∧ b < wr.heap.size) vb bs) := flat_bd (SAt.of_row (f := strC) (hf := fun _ => rfl) h2 (fun b h => h))
   have H1 := Lib.hid h1
   have hPl : P < lo := by rw [hlo]; exact h1.2.2
   obtain ⟨Gk, kk, hk, hks⟩ := HKw.out
   obtain ⟨c0, c1, c2, c3⟩ := Jd.has_quad hk
   have HC := Lib.hid (HEND.out _ _ _ hks)
   have HLO := Lib.hid hlo; have HPL0 := Lib.hid hPl
   clear h1 h2 h3 hbw hlt hj hk hks hb2 hlo hPl HEND HS2 HR2 HK2 HBX
   go_wp2_with fail
   refine HC.out.mono ?_
   rintro e w5 ⟨⟨u5, rfl, hr5⟩, hb5⟩
   obtain ⟨G5, k5, rfl⟩ := Sc.row_slice hr5
   obtain ⟨B, hBe⟩ : ∃ B, B = w5.heap.size := ⟨_, rfl⟩
   have hPB : P < B := by rw [hBe]; have := hb5.size; have := HLO.out; have := HPL0.out; omega
   have HSE : Hid (SAt cAct w5 (fun b => lo ≤ b ∧ b < B) (.slice G5 E.length k5) E) := by unfold Hid; rw [hBe, HLO.out]; exact flat_bd (SAt.of_row (f := actC) (hf := fun _ => rfl) hr5 (fun b h => h))
   have HPL : Hid (PlD w5 B P x bs []) := ⟨vb, .slice none 0 0, H1.out.down hb5, hPB, by rw [hBe]; exact Nat.le_refl _, (HVB.out.down hb5).mono (fun b hb => ⟨by rw [hBe]; have := hb5.size; omega, by omega⟩), World.ownsRow_nil _ _ _ _⟩
   have HB5 := Lib.hid (bt HBR.out hb5)
   have HS5 := Lib.hid (HSw.out.down hb5); have HR5 := Lib.hid (HRw.out.down hb5)
   have HPB := Lib.hid hPB
   clear hr5 hb5 hBe hPB c0 c1 c2 c3 HC HKw HSw HRw HVB H1 HLO HBR hd
   go_wp2_with fail
   go_loopw [65] (AcR w5 B P x bs E) (fun i _ => E.length - (intOf i).toNat)
   case atStart => exact ⟨0, Nat.zero_le _, rfl, HPL.out, PStep.refl _ _ _⟩
   case round =>
    obtain ⟨j, hj, rfl, hP, hst⟩ := hrel
    clear HPL
    by_cases hlt : j < E.length
    ·obtain ⟨g, off, hG, a0, a1, a2⟩ := Jd.act_get HSE.out (hst.same fun b hb => ⟨hb.2, by have := hb.1; have := HPL0.out; omega⟩) hst.size j hlt
     subst hG
     have hin := HE.out E[j] (List.getElem_mem _)
     obtain ⟨a, ha⟩ : ∃ a, a = E[j] := ⟨_, rfl⟩
     rw [← ha] at a0 a1 a2 hin
     obtain ⟨o, ho⟩ : ∃ o, o = (E.take j).foldl (actD x bs) [] := ⟨_, rfl⟩
     rw [← ho] at hP
     have hfold : Hid ((E.take (j + 1)).foldl (actD x bs) [] = actD x bs o a) := by unfold Hid; rw [List.take_succ_eq_append_getElem hlt, List.foldl_append, ← ho, ha]; rfl
     have hol : o.length ≤ 6 := by
      rw [ho]
      have := foldD_len x bs (E.take j) []
      rw [List.length_take, List.length_nil] at this
      have := HEL.out
      omega
     have hbel := hst.below (B := P) (Nat.le_of_lt HPB.out) (Nat.le_refl _)
     have hA := ba (Below.refl wr.heap.size wr) (.cells (actC a).toArray 65)
     have HC := Lib.hid (act_any B P x bs o a (wr.alloc (.cells (actC a).toArray 65)) (hP.down hA) (by have := HBL.out; omega) (by omega) ⟨hin.1, hin.2.1⟩ hin.2.2 m (HM.out _ (ba (HB5.out.trans (hbel.mono HWP.out)) _)) HLN.out)
     have HST := Lib.hid (hst.trans (PStep.of_below (base := B) (P := P) hA hP.sz))
     have HJL := Lib.hid hlt
     have hd2 : decide (j < E.length) = true := decide_eq_true hlt
     have hj6 : j ≤ 6 := by have := HEL.out; omega
     obtain ⟨ak, at', af⟩ := a
     unfold actC at HC HST
     dsimp only at a0 a1 a2 HC HST
     have hjn : (j : Int) < E.length := by omega
     clear ha ho hP hst hin hol hbel hA hj
     go_wp2_with fail
     refine HC.out.mono ?_
     rintro e w8 ⟨rfl, hp8, hs8⟩
     have HR8 := Lib.hid (And.intro hp8 (HST.out.trans hs8))
     clear hp8 hs8 HC HST a0 a1 a2 hd2
     go_wp2_with fail
     go_roundw
     case rel => exact ⟨j + 1, HJL.out, by go_num, by rw [hfold.out]; exact HR8.out.1, HR8.out.2⟩
     case measure => have := HJL.out; simp [intOf]; omega
    ·obtain rfl : j = E.length := by omega
     rw [List.take_length] at hP
     have hd2 : decide (E.length < E.length) = false := decide_eq_false (by omega)
     have hbel := hst.below (B := P) (Nat.le_of_lt HPB.out) (Nat.le_refl _)
     have HS6 := Lib.hid (HS5.out.below hbel HSP.out.1); have HR6 := Lib.hid (HR5.out.below hbel HSP.out.2.1)
     have HB6 := Lib.hid (HB5.out.trans (hbel.mono HWP.out))
     have HPO : Hid (PlD wr B P x bs out) := by unfold Hid; rw [HOUT.out]; exact hP
     clear hP hst hbel hlt hj HS5 HR5 HB5 HSE
     go_upto_region 19 with fail
     go_cut [19, 11] (AlR r w RS P B x bs out)
     case first =>
      clear hd2
      obtain ⟨VB, VO, q1, -, -, -, q5⟩ := HPO.out
      obtain ⟨Gv, kv, rfl⟩ := Sc.row_slice q5
      have hd := Below.drew (Below.refl wr.heap.size wr)
      have hso0 : SAt cEnt wr (fun _ => True) (.slice Gv out.length kv) out := SAt.of_row (f := entC) (hf := fun _ => rfl) q5 (fun _ _ => trivial)
      obtain ⟨VO, hVO⟩ : ∃ VO, VO = Value.slice Gv out.length kv := ⟨_, rfl⟩
      rw [← hVO] at q1 hso0
      have HVO := Lib.hid hVO
      clear hVO q5
      refine wp_region_noPanic ?_
      refine wp_region_held_drew (S := fun wx => Has wx S0 [.slice Gb s.boxes.length cb, .slice Gs s.spool.length cS] ∧ Has wx P (plC x VB VO)) (by kernel_rfl) ⟨HS6.out.down hd, q1.down hd⟩ (fun hHeld => ?_)
      refine heldTo (fun X => (Below w.heap.size w X) ∧ (Has X S0 [.slice Gb s.boxes.length cb, .slice Gs s.spool.length cS] ∧ Has X P (plC x VB VO)) ∧ PlD X B P x bs out ∧ Has X RS [.slice none 0 0, .slice none 0 0] ∧ SAt cEnt X (fun _ => True) VO out) (fun X => Has X S0 [.slice Gb s.boxes.length cb, .slice Gs s.spool.length cS] ∧ Has X P (plC x VB VO)) ⟨bt HB6.out hd, hHeld, HPO.out.down hd, HR6.out.down hd, hso0.down hd⟩ (fun X h => h.2.1) (fun _ h => h) (fun V0 hR hHeld => ?_)
      clear hd hso0 q1
      obtain ⟨hB, -, hP, hRS, hso⟩ := hR
      refine tkH 0 (v := ?_) (gB rfl) ?_ ?_
      rotate_left 1
      ·intro w' hSw; obtain ⟨s0, s1, -, -⟩ := hSw.1.two; (go_simp) <;> with_reducible rfl
      refine tkP 1 (gB rfl) ?_
      refine tkP 2 (gB rfl) ?_
      refine tkP 3 (gB rfl) ?_
      refine tkH 4 (v := ?_) (gB rfl) ?_ ?_
      rotate_left 1
      ·intro w' hSw; have q6 := hSw.2.1 6 _ rfl; (go_simp) <;> with_reducible rfl
      refine rdH [5, 9] ?_
      refine aC (gB rfl) (fun K hK => ?_) ?_
      ·go_simp
       go_at_call 28
       refine (HALL.out _ _ _ hB hso).mono ?_
       rintro e w7 ⟨G7, n7, k7, G8, n8, k8, rfl, hv7, hb7⟩
       try (go_wp2_with fail)
       have hHeld0 := hHeld
       refine hK.out _ _ ?_ (fun hHeld => ?_)
       ·exact ⟨hHeld.1.down hb7, hHeld.2.down hb7⟩
       clear hK K
       try simp only [aP]
       refine heldTo (fun V1 => (Below w.heap.size w V1) ∧ (Has V1 S0 [.slice Gb s.boxes.length cb, .slice Gs s.spool.length cS] ∧ Has V1 P (plC x VB VO)) ∧ (PlD V1 B P x bs out) ∧ (Has V1 RS [.slice none 0 0, .slice none 0 0]) ∧ ((r.2 = 0 → SAt cBox V1 (fun b => B ≤ b ∧ b < V1.heap.size) (.slice G7 n7 k7) r.1.boxes ∧ SAt cEnt V1 (fun b => B ≤ b ∧ b < V1.heap.size) (.slice G8 n8 k8) r.1.spool))) (fun V1 => Has V1 S0 [.slice Gb s.boxes.length cb, .slice Gs s.spool.length cS] ∧ Has V1 P (plC x VB VO)) ⟨bt hB hb7, hHeld, hP.down hb7, hRS.down hb7, fun h0 => ⟨(hv7 h0).1.mono fun b hb => ⟨Nat.le_trans hP.sz hb.1, hb.2⟩, (hv7 h0).2.mono fun b hb => ⟨Nat.le_trans hP.sz hb.1, hb.2⟩⟩⟩ (fun V1 h => h.2.1) (fun _ h => h) (fun V1 hR hHeld => ?_)
       clear hv7 hb7
       clear hB hP hRS hso
       obtain ⟨hB, -, hP, hRS, hv⟩ := hR
       refine tkP 6 (gB rfl) ?_
       refine tkP 7 (gB rfl) ?_
       refine tkP 8 (gB rfl) ?_
       refine rdH [9] ?_
       refine aC (gB rfl) (fun K hK => ?_) ?_
       ·go_simp
        have hHeld0 := hHeld
        refine hK.out _ _ ?_ (fun hHeld => ?_)
        ·exact ⟨hHeld.1.down (ba (Below.refl _ _) _), hHeld.2.down (ba (Below.refl _ _) _)⟩
        clear hK K
        try simp only [aP]
        have hSK : S0 ≠ V1.heap.size := by have := hHeld0.1.2.2; omega
        have hPK : P ≠ V1.heap.size := by have := hHeld0.2.2.2; omega
        have hRK : RS ≠ V1.heap.size := by have := hRS.2.2; omega
        have hBK : B ≤ V1.heap.size := hP.sz
        have hWK : w.heap.size ≤ V1.heap.size := hB.size
        have hvo : VO.ownBlock ≠ some V1.heap.size := hP.own hHeld0.2
        refine heldTo (fun V2 => (Below w.heap.size w V2) ∧ (Has V2 S0 [.slice Gb s.boxes.length cb, .slice Gs s.spool.length cS] ∧ Has V2 P (plC x VB VO)) ∧ (PlD V2 B P x bs out) ∧ (Has V2 RS [.slice none 0 0, .slice none 0 0]) ∧ ((r.2 = 0 → SAt cBox V2 (fun b => B ≤ b ∧ b ≠ V1.heap.size) (.slice G7 n7 k7) r.1.boxes ∧ SAt cEnt V2 (fun b => B ≤ b ∧ b ≠ V1.heap.size) (.slice G8 n8 k8) r.1.spool)) ∧ (Has V2 V1.heap.size [.slice none 0 0, .slice none 0 0])) (fun V2 => Has V2 S0 [.slice Gb s.boxes.length cb, .slice Gs s.spool.length cS] ∧ Has V2 P (plC x VB VO)) ⟨ba hB _, hHeld, hP.down (ba (Below.refl _ _) _), hRS.down (ba (Below.refl _ _) _), fun h0 => ⟨((hv h0).1.down (ba (Below.refl _ _) _)).mono fun b hb => ⟨hb.1, by have := hb.2; omega⟩, ((hv h0).2.down (ba (Below.refl _ _) _)).mono fun b hb => ⟨hb.1, by have := hb.2; omega⟩⟩, Has.alloc V1 _ _⟩ (fun V2 h => h.2.1) (fun _ h => h) (fun V2 hR hHeld => ?_)
        clear hB hP hRS hv
        obtain ⟨hB, -, hP, hRS, hv, hC⟩ := hR
        generalize V1.heap.size = Kb at hC hSK hPK hRK hBK hWK hvo hv ⊢
        refine rdH [10] ?_
        refine aC (gB rfl) (fun K hK => ?_) ?_
        ·obtain ⟨e0, e1, f0, f1⟩ := hC.two
         go_simp
         have hHeld0 := hHeld
         refine hK.out _ _ ?_ (fun hHeld => ?_)
         ·exact ⟨put2_has hHeld.1 hSK _ _, put2_has hHeld.2 hPK _ _⟩
         clear hK K
         try simp only [aP]
         refine tkP 11 (gB rfl) ?_
         refine wpAnyH_done (by kernel_rfl) ?_ _
         refine NoPanic.normal ?_
         go_wp2_with fail
         go_meet
         case rel => exact alr_end hB hWK hP hHeld0.2 hvo hBK hRS hRK hC (fun _ h => h) hv
        exact .nil
       exact .nil
      refine aC (gB rfl) (fun K hK => ?_) ?_
      ·go_simp
       have hHeld0 := hHeld
       refine hK.out _ _ ?_ (fun hHeld => ?_)
       ·exact ⟨hHeld.1.down (ba (Below.refl _ _) _), hHeld.2.down (ba (Below.refl _ _) _)⟩
       clear hK K
       try simp only [aP]
       have hSK : S0 ≠ V0.heap.size := by have := hHeld0.1.2.2; omega
       have hPK : P ≠ V0.heap.size := by have := hHeld0.2.2.2; omega
       have hRK : RS ≠ V0.heap.size := by have := hRS.2.2; omega
       have hBK : B ≤ V0.heap.size := hP.sz
       have hWK : w.heap.size ≤ V0.heap.size := hB.size
       have hvo : VO.ownBlock ≠ some V0.heap.size := hP.own hHeld0.2
       refine heldTo (fun V1 => (Below w.heap.size w V1) ∧ (Has V1 S0 [.slice Gb s.boxes.length cb, .slice Gs s.spool.length cS] ∧ Has V1 P (plC x VB VO)) ∧ (PlD V1 B P x bs out) ∧ (Has V1 RS [.slice none 0 0, .slice none 0 0]) ∧ (SAt cEnt V1 (fun _ => True) VO out) ∧ (Has V1 V0.heap.size [.slice none 0 0, .slice none 0 0])) (fun V1 => Has V1 S0 [.slice Gb s.boxes.length cb, .slice Gs s.spool.length cS] ∧ Has V1 P (plC x VB VO)) ⟨ba hB _, hHeld, hP.down (ba (Below.refl _ _) _), hRS.down (ba (Below.refl _ _) _), hso.down (ba (Below.refl _ _) _), Has.alloc V0 _ _⟩ (fun V1 h => h.2.1) (fun _ h => h) (fun V1 hR hHeld => ?_)
       clear hB hP hRS hso
       obtain ⟨hB, -, hP, hRS, hso, hC⟩ := hR
       generalize V0.heap.size = Kb at hC hSK hPK hRK hBK hWK hvo ⊢
       refine rdH [5] ?_
       refine aC (gB rfl) (fun K hK => ?_) ?_
       ·go_simp
        go_at_call 28
        refine (HALL.out _ _ _ hB hso).mono ?_
        rintro e w7 ⟨G7, n7, k7, G8, n8, k8, rfl, hv7, hb7⟩
        try (go_wp2_with fail)
        have hHeld0 := hHeld
        refine hK.out _ _ ?_ (fun hHeld => ?_)
        ·exact ⟨hHeld.1.down hb7, hHeld.2.down hb7⟩
        clear hK K
        try simp only [aP]
        refine heldTo (fun V2 => (Below w.heap.size w V2) ∧ (Has V2 S0 [.slice Gb s.boxes.length cb, .slice Gs s.spool.length cS] ∧ Has V2 P (plC x VB VO)) ∧ (PlD V2 B P x bs out) ∧ (Has V2 RS [.slice none 0 0, .slice none 0 0]) ∧ ((r.2 = 0 → SAt cBox V2 (fun b => B ≤ b ∧ b ≠ Kb) (.slice G7 n7 k7) r.1.boxes ∧ SAt cEnt V2 (fun b => B ≤ b ∧ b ≠ Kb) (.slice G8 n8 k8) r.1.spool)) ∧ (Has V2 Kb [.slice none 0 0, .slice none 0 0])) (fun V2 => Has V2 S0 [.slice Gb s.boxes.length cb, .slice Gs s.spool.length cS] ∧ Has V2 P (plC x VB VO)) ⟨bt hB hb7, hHeld, hP.down hb7, hRS.down hb7, fun h0 => ⟨(hv7 h0).1.mono fun b hb => ⟨Nat.le_trans hP.sz hb.1, by have := hC.2.2; have := hb.1; omega⟩, (hv7 h0).2.mono fun b hb => ⟨Nat.le_trans hP.sz hb.1, by have := hC.2.2; have := hb.1; omega⟩⟩, hC.down hb7⟩ (fun V2 h => h.2.1) (fun _ h => h) (fun V2 hR hHeld => ?_)
        clear hv7 hb7
        clear hB hP hRS hso hC
        obtain ⟨hB, -, hP, hRS, hv, hC⟩ := hR
        refine tkP 6 (gB rfl) ?_
        refine tkP 7 (gB rfl) ?_
        refine tkP 8 (gB rfl) ?_
        refine rdH [10] ?_
        refine aC (gB rfl) (fun K hK => ?_) ?_
        ·obtain ⟨e0, e1, f0, f1⟩ := hC.two
         go_simp
         have hHeld0 := hHeld
         refine hK.out _ _ ?_ (fun hHeld => ?_)
         ·exact ⟨put2_has hHeld.1 hSK _ _, put2_has hHeld.2 hPK _ _⟩
         clear hK K
         try simp only [aP]
         refine tkP 11 (gB rfl) ?_
         refine wpAnyH_done (by kernel_rfl) ?_ _
         refine NoPanic.normal ?_
         go_wp2_with fail
         go_meet
         case rel => exact alr_end hB hWK hP hHeld0.2 hvo hBK hRS hRK hC (fun _ h => h) hv
        exact .nil
       exact .nil
      exact .nil
     case rest =>
      obtain ⟨R, G1, n1, c1', G2, n2, c2', rfl, rfl, hb7, hp7, hrs7, hR7, hv7⟩ := hcut
      obtain ⟨VB, VO, q1, -, -, -, q5⟩ := hp7
      obtain ⟨Gv, kv, rfl⟩ := Sc.row_slice q5
      have hd := Below.drew (Below.refl wc.heap.size wc)
      by_cases h0 : r.2 = 0
      ·obtain ⟨k1, k2⟩ := hv7 h0
       have e1 : n1 = r.1.boxes.length := by obtain ⟨_, _, e, _⟩ := id k1.form; cases e; rfl
       have e2 : n2 = r.1.spool.length := by obtain ⟨_, _, e, _⟩ := id k2.form; cases e; rfl
       have p6 := q1.1 6 _ rfl
       obtain ⟨x0, x1, -, -⟩ := hR7.two
       obtain ⟨r0, r1, f0, f1⟩ := hrs7.two
       have p6d := moved p6 hd (Nat.le_refl _); have x0d := moved x0 hd (Nat.le_refl _); have x1d := moved x1 hd (Nat.le_refl _); have r0d := moved r0 hd (Nat.le_refl _); have r1d := moved r1 hd (Nat.le_refl _)
       have hRS := hrs7.down hd
       obtain ⟨-, -, f0d, f1d⟩ := hRS.two
       have hso : SAt cEnt wc (fun b => B ≤ b) (.slice Gv out.length kv) out := SAt.of_row (f := entC) (hf := fun _ => rfl) q5 (fun _ h => h)
       have hlt : ∀ b, B ≤ b → b ≠ RS := fun b hb => by have := HPB.out; have := HSP.out.2.1; omega
       have hwl : ∀ b, B ≤ b → w.heap.size ≤ b := fun b hb => by have := HPB.out; have := HSP.out.2.1; have := HWS.out; omega
       have hEND : Hid (SAt cEnt (put2 wc.drew RS (.slice G1 n1 c1') (.slice G2 n2 c2')) (fun b => w.heap.size ≤ b) (.slice Gv out.length kv) out ∧ SAt cBox (put2 wc.drew RS (.slice G1 n1 c1') (.slice G2 n2 c2')) (fun b => w.heap.size ≤ b) (.slice G1 n1 c1') r.1.boxes ∧ SAt cEnt (put2 wc.drew RS (.slice G1 n1 c1') (.slice G2 n2 c2')) (fun b => w.heap.size ≤ b) (.slice G2 n2 c2') r.1.spool ∧ Below w.heap.size w (put2 wc.drew RS (.slice G1 n1 c1') (.slice G2 n2 c2')) ∧ Has (put2 wc.drew RS (.slice G1 n1 c1') (.slice G2 n2 c2')) RS [.slice G1 n1 c1', .slice G2 n2 c2']) :=
        ⟨((hso.down hd).stable (put2_same hlt _ _) (put2_size ..)).mono hwl, ((k1.down hd).stable (put2_same hlt _ _) (put2_size ..)).mono hwl, ((k2.down hd).stable (put2_same hlt _ _) (put2_size ..)).mono hwl, Below.setCell (Below.setCell (bt hb7 hd) HWS.out _) HWS.out _, (hRS.set' (i := 0) _ (by simp)).set' (i := 1) _ (by simp)⟩
       have hPRS : P ≠ RS := by have := HSP.out.2.1; omega
       have hS2 : Hid ((put2 wc.drew RS (.slice G1 n1 c1') (.slice G2 n2 c2')).cell? ⟨P, 6, none⟩ = some (.slice Gv out.length kv)) := (put2_has (q1.down hd) hPRS _ _).1 6 _ rfl
       obtain ⟨no, hno⟩ : ∃ no, no = out.length := ⟨_, rfl⟩
       have HNO := Lib.hid hno; have HN1 := Lib.hid e1; have HN2 := Lib.hid e2; have H00 := Lib.hid h0
       rw [← hno] at p6 p6d hS2
       rw [h0]
       clear k1 k2 e1 e2 q1 q5 hb7 hrs7 hR7 hv7 hd hRS hso hlt hwl hno hPRS h0 hd2
       go_upto_region 22 with fail
       go_region_with (fail)
       all_goals
        go_wp2_with fail
        obtain ⟨e0, e1, -, -⟩ := hEND.out.2.2.2.2.two
        have d0 : (put2 wc RS (.slice G1 n1 c1') (.slice G2 n2 c2')).drew.cell? ⟨RS, 0, none⟩ = some (.slice G1 n1 c1') := e0
        have d1 : (put2 wc RS (.slice G1 n1 c1') (.slice G2 n2 c2')).drew.cell? ⟨RS, 1, none⟩ = some (.slice G2 n2 c2') := e1
        clear e0 e1
        refine bodyPost_ret (v := .tuple #[.slice Gv no kv, .agg #[.slice G1 n1 c1', .slice G2 n2 c2'], .int .i64 0]) (by unfold put2 at d0 d1; simp [results, Tryz.results27, go_sem, d0, d1]) rfl ?_
        obtain ⟨i1, i2, i3, i4, -⟩ := hEND.out
        refine ⟨?_, i4⟩
        rw [if_pos H00.out]
        rw [HN1.out] at i2 ⊢; rw [HN2.out] at i3 ⊢; rw [HNO.out]
        exact ⟨_, _, _, _, _, _, rfl, by rw [← HN1.out, ← HN2.out]; exact i1, by rw [← HN2.out]; exact i2, by rw [← HN1.out]; exact i3⟩
      ·have hq : (r.2 == 0) = false := beq_eq_false_iff_ne.2 h0
       have hq2 : decide (r.2 = 0) = false := decide_eq_false h0
       obtain ⟨r0, r1, f0, f1⟩ := hrs7.two
       have HEND : Hid (Below w.heap.size w (put2 wc RS (.slice none 0 0) (.slice none 0 0)) ∧ Has (put2 wc RS (.slice none 0 0) (.slice none 0 0)) RS [.slice none 0 0, .slice none 0 0]) := ⟨Below.setCell (Below.setCell hb7 HWS.out _) HWS.out _, (hrs7.set' (i := 0) _ (by simp)).set' (i := 1) _ (by simp)⟩
       have H00 := Lib.hid h0
       clear q1 q5 hb7 hrs7 hR7 hv7 hd h0 hd2
       go_wp2_with fail
       obtain ⟨e0, e1, -, -⟩ := HEND.out.2.two
       refine bodyPost_ret (v := .tuple #[.slice none 0 0, .agg #[.slice none 0 0, .slice none 0 0], .int .i64 r.2]) (by unfold put2 at e0 e1; simp [results, Tryz.results27, go_sem, e0, e1]) rfl ?_
       refine ⟨?_, HEND.out.1⟩
       rw [if_neg H00.out]
end Go.Proofs.YtpfbkdbblpppdaaGreatDoor.Dv
namespace Go.Proofs.YtpfbkdbblpppdaaGreatDoor.Dv
open Go.RowKit
open Sc (Str cStr strC RW cStk Stk scriptS)
open Jd (Ltt partL lttC keepA endJ cmdsJ C0 LetOK LetterP ltrX PostIn)
def DelR (out : List Ent) (r : St × Int) (w : World) (e : Ending) (w' : World) : Prop := ∃ Go no co G1 n1 c1 G2 n2 c2, e = .returned (.tuple #[.slice Go no co, .agg #[.slice G1 n1 c1, .slice G2 n2 c2], .int .i64 r.2]) ∧
 (r.2 = 0 → no = out.length ∧ SAt cEnt w' (fun b => w.heap.size ≤ b) (.slice Go no co) out ∧ SAt cBox w' (fun b => w.heap.size ≤ b) (.slice G1 n1 c1) r.1.boxes ∧ SAt cEnt w' (fun b => w.heap.size ≤ b) (.slice G2 n2 c2) r.1.spool) ∧ (r.2 ≠ 0 → no = 0 ∧ n1 = 0 ∧ n2 = 0) ∧ Below w.heap.size w w'
theorem DelP.r {out : List Ent} {r : St × Int} {w w' : World} {e : Ending} (h : DelP out r w e w') : DelR out r w e w' := by
 obtain ⟨h, hb⟩ := h
 by_cases h0 : r.2 = 0
 ·rw [if_pos h0] at h
  obtain ⟨Go, co, G1, c1, G2, c2, rfl, k1, k2, k3⟩ := h
  exact ⟨Go, _, co, G1, _, c1, G2, _, c2, by rw [h0], fun _ => ⟨rfl, k1, k2, k3⟩, fun e => absurd h0 e, hb⟩
 ·rw [if_neg h0] at h
  subst h
  exact ⟨none, 0, 0, none, 0, 0, none, 0, 0, rfl, fun e => absurd e h0, fun _ => ⟨rfl, rfl, rfl⟩, hb⟩
theorem ApPost.r {r : St × Int} {w w' : World} {e : Ending} (h : ApPost r w e w') : AllR r w e w' := AllPost.r h
theorem sat_len {α : Type} {c : Cod α} {w : World} {F : Dom} {G : Option Addr} {n cap : Nat} {xs : List α} (h : SAt c w F (.slice G n cap) xs) : xs.length = n := by
 obtain ⟨_, _, e, _⟩ := h.form
 cases e; rfl
end Go.Proofs.YtpfbkdbblpppdaaGreatDoor.Dv
