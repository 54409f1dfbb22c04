/- On the way. -/
import Derived.Test.YtpfbkdbblpppdaaGreatDoorEJdA
import Derived.Test.YtpfbkdbblpppdaaGreatDoorEScPut
import Derived.Test.YtpfbkdbblpppdaaGreatDoorERuAll
import Derived.Deep.RegionLaw
import Derived.Deep.AppendLies
import Derived.Deep.Cut
import Derived.Lib.SliceRun
set_option linter.unusedVariables false
set_option linter.unusedSimpArgs false
set_option maxHeartbeats 8000000
set_option maxRecDepth 20000
namespace Go.Proofs.YtpfbkdbblpppdaaGreatDoor.Jd
open Go.RowKit
open Sc (Str Tst Cmd cStr strC tstC cTst cCmd RW Stk cStk WStep rowB)
structure Act where
 (kind : Int) (text : Str) (flags : Int)
structure Crs where
 (acts : List Act) (flags : Int) (asked : Bool) (fault : Int)
def actC (a : Act) : List Value := [.int .i64 a.kind, .string ⟨a.text.toArray⟩, .int .i64 a.flags]
def cAct : Cod Act := Cod.flat 3 actC (fun _ => rfl)
def hardJ (k : Int) : Bool := k == 3 || (k == 5 || k == 6)
def clashJ (a x : Act) : Bool := (a.kind == 7 && (x.kind == 7 || hardJ x.kind)) || (hardJ a.kind && x.kind == 7)
def sameJ (a x : Act) : Bool := x.kind == a.kind && x.text == a.text
def addJ (c : Crs) (a : Act) : Crs × Bool :=
 if c.acts.any (clashJ a) = true then (⟨c.acts, c.flags, true, 9⟩, false)
 else if c.acts.any (sameJ a) = true then (⟨c.acts, c.flags, true, c.fault⟩, true)
 else if c.acts.length = 6 then (⟨c.acts, c.flags, true, 5⟩, false)
 else (⟨c.acts ++ [a], c.flags, true, c.fault⟩, true)
theorem infoAct : (Tryz.prog.info? 65).map (fun i => (i.zero, i.size, i.bytes)) = some (some (.agg #[.int .i64 0, .string ⟨#[]⟩, .int .i64 0]), 3, 32) := by kernel_rfl
theorem acts_snoc (l : List Act) (a : Act) : (l ++ [a]).flatMap actC = l.flatMap actC ++ actC a := by simp
theorem act_get {w wr : World} {F : Dom} {G : Option Addr} {n cap : Nat} {l : List Act} (h : SAt cAct w F (.slice G n cap) l) (hs : Same F w wr) (hz : w.heap.size ≤ wr.heap.size) (j : Nat) (hj : j < l.length) :
    ∃ g off, G = some ⟨g, off, none⟩ ∧ wr.cell? ⟨g, off + j * 3, none⟩ = some (.int .i64 l[j].kind) ∧ wr.cell? ⟨g, off + j * 3 + 1, none⟩ = some (.string ⟨l[j].text.toArray⟩) ∧ wr.cell? ⟨g, off + j * 3 + 2, none⟩ = some (.int .i64 l[j].flags) := by
 obtain ⟨g, off, vs, hG, hF, hg, hv, hc⟩ := (h.stable hs hz).get j hj
 obtain rfl : vs = actC l[j] := hv
 exact ⟨g, off, hG, hc 0 _ rfl, hc 1 _ rfl, hc 2 _ rfl⟩
def Cr (w : World) (base R : Nat) (c : Crs) : Prop := ∃ v, Has w R [v, .int .i64 c.flags, .bool c.asked, .int .i64 c.fault] ∧ base ≤ R ∧ w.ownsRow base 65 3 v c.acts.length (c.acts.flatMap actC) ∧ v.ownBlock ≠ some R
theorem Cr.down {w w' : World} {base R : Nat} {c : Crs} (h : Cr w base R c) (hb : Below w.heap.size w w') : Cr w' base R c := by
 obtain ⟨v, h1, h2, h3, h4⟩ := h
 exact ⟨v, h1.down hb, h2, row_down h3 hb, h4⟩
theorem rowB_cell {w : World} {R : Nat} {v : Value} (h : w.cell? ⟨R, 0, none⟩ = some v) : rowB w R = v.ownBlock := by unfold rowB; rw [h]
theorem Cr.new {w : World} {base R : Nat} {c : Crs} (h : Cr w base R c) : R < w.heap.size ∧ w.heap.size ≠ R ∧ rowB w R ≠ some w.heap.size := by
 obtain ⟨v, h1, h2, h3, h4⟩ := h
 refine ⟨h1.2.2, by have := h1.2.2; omega, ?_⟩
 rw [rowB_cell (h1.1 0 _ rfl)]
 intro e
 have := (World.ownsRow.lt h3 _ e).2
 omega
theorem Cr.below {w w' : World} {base R : Nat} {c : Crs} (h : Cr w base R c) (hz : base ≤ w.heap.size) (k : WStep R w w') : Below base w w' := by
 obtain ⟨v, h1, h2, h3, h4⟩ := h
 refine ⟨k.os, k.tape, k.output, k.size, fun i hi => k.keep i (by omega) (by omega) ?_⟩
 rw [rowB_cell (h1.1 0 _ rfl)]
 intro e
 have := (World.ownsRow.lt h3 _ e).1
 omega
theorem step_set {w : World} {R i : Nat} (hi : i ≠ 0) (u : Value) : WStep R w (w.setCell ⟨R, i, none⟩ u) := by
 refine ⟨rfl, rfl, rfl, by simp [World.setCell], fun b _ hbR _ => Below.heap_setCell _ _ _ _ hbR, fun b e => .inl ?_⟩
 have : (w.setCell ⟨R, i, none⟩ u).cell? ⟨R, 0, none⟩ = w.cell? ⟨R, 0, none⟩ := World.cell?_setCell_other _ _ _ _ (by intro e; exact hi (congrArg Addr.off e))
 unfold rowB at e ⊢
 rw [this] at e
 exact e
theorem cr_asked {w : World} {base R : Nat} {c : Crs} (h : Cr w base R c) (b : Bool) : Cr (w.setCell ⟨R, 2, none⟩ (.bool b)) base R ⟨c.acts, c.flags, b, c.fault⟩ := by
 obtain ⟨v, h1, h2, h3, h4⟩ := h
 exact ⟨v, h1.set' (i := 2) _ (by simp), h2, row_off h3 h4 _ _, h4⟩
theorem cr_fault {w : World} {base R : Nat} {c : Crs} (h : Cr w base R c) (z : Int) : Cr (w.setCell ⟨R, 3, none⟩ (.int .i64 z)) base R ⟨c.acts, c.flags, c.asked, z⟩ := by
 obtain ⟨v, h1, h2, h3, h4⟩ := h
 exact ⟨v, h1.set' (i := 3) _ (by simp), h2, row_off h3 h4 _ _, h4⟩
theorem cr_flags {w : World} {base R : Nat} {c : Crs} (h : Cr w base R c) (z : Int) : Cr (w.setCell ⟨R, 1, none⟩ (.int .i64 z)) base R ⟨c.acts, z, c.asked, c.fault⟩ := by
 obtain ⟨v, h1, h2, h3, h4⟩ := h
 exact ⟨v, h1.set' (i := 1) _ (by simp), h2, row_off h3 h4 _ _, h4⟩
theorem cr_put {w w1 w6 : World} {base R g cap : Nat} {c : Crs} {a : Act} {v : Value} (hb1 : Below w.heap.size w w1) (h1 : Has w R [v, .int .i64 c.flags, .bool c.asked, .int .i64 c.fault]) (hR : base ≤ R) (h2 : v.ownBlock ≠ some R)
    (hown : w6.ownsRow base 65 3 (.slice (some ⟨g, 0, none⟩) (c.acts.length + 1) cap) (c.acts.length + 1) ((c.acts ++ [a]).flatMap actC)) (hgrow : w1.grownBy w6 v.ownBlock) (hat : v.ownBlock = some g ∨ w.heap.size ≤ g) :
    Has w6 R [v, .int .i64 c.flags, .bool c.asked, .int .i64 c.fault] ∧ Cr (w6.setCell ⟨R, 0, none⟩ (.slice (some ⟨g, 0, none⟩) (c.acts.length + 1) cap)) base R ⟨c.acts ++ [a], c.flags, c.asked, c.fault⟩ ∧ WStep R w (w6.setCell ⟨R, 0, none⟩ (.slice (some ⟨g, 0, none⟩) (c.acts.length + 1) cap)) := by
 have hRl := h1.2.2
 have hgR : g ≠ R := by
  rcases hat with h | h
  ·rintro rfl; exact h2 h
  ·omega
 have h6 := (h1.down hb1).kept hgrow (fun e => h2 e.symm)
 have hne : (Value.slice (some ⟨g, 0, none⟩) (c.acts.length + 1) cap).ownBlock ≠ some R := fun e => hgR (Option.some.inj e)
 have hnew := h6.set' (i := 0) (.slice (some ⟨g, 0, none⟩) (c.acts.length + 1) cap) (by simp)
 refine ⟨h6, ⟨_, hnew, hR, ?_, hne⟩, ?_⟩
 ·have := row_off hown hne 0 (.slice (some ⟨g, 0, none⟩) (c.acts.length + 1) cap)
  rw [List.length_append]; exact this
 ·refine ⟨hgrow.os.trans hb1.os, hgrow.tape.trans hb1.tape, hgrow.output.trans hb1.output, ?_, fun b hb hbR hbr => ?_, fun b e => ?_⟩
  ·have h := Nat.le_trans hb1.size hgrow.size
   simpa [World.setCell] using h
  ·rw [rowB_cell (h1.1 0 _ rfl)] at hbr
   refine (Below.heap_setCell _ _ _ _ hbR).trans ((hgrow.block b (Nat.lt_of_lt_of_le hb hb1.size) (fun e => hbr e.symm)).trans (hb1.block b hb))
  ·rw [rowB_cell (hnew.1 0 _ rfl)] at e
   rw [rowB_cell (h1.1 0 _ rfl)]
   obtain rfl : g = b := Option.some.inj e
   exact hat
theorem hard_any (k : Int) (w : World) : Calls Tryz.prog 175 #[.int .i64 k] w fun e w' => e = .returned (.bool (hardJ k)) ∧ w = w' := by
 cases h3 : k == 3 with
 | true =>
  have hb : hardJ k = true := by unfold hardJ; rw [h3]; rfl
  rw [hb]
  go_enter Tryz.func175, Tryz.ntmps175
  go_wp2
  go_ret
  exact ⟨rfl, rfl⟩
 | false =>
  cases h5 : k == 5 with
  | true =>
   have hb : hardJ k = true := by unfold hardJ; rw [h3, h5]; rfl
   rw [hb]
   go_enter Tryz.func175, Tryz.ntmps175
   go_wp2
   go_ret
   exact ⟨rfl, rfl⟩
  | false =>
   cases h6 : k == 6 with
   | true =>
    have hb : hardJ k = true := by unfold hardJ; rw [h3, h5, h6]; rfl
    rw [hb]
    go_enter Tryz.func175, Tryz.ntmps175
    go_wp2
    go_ret
    exact ⟨rfl, rfl⟩
   | false =>
    have hb : hardJ k = false := by unfold hardJ; rw [h3, h5, h6]; rfl
    rw [hb]
    go_enter Tryz.func175, Tryz.ntmps175
    go_wp2
    go_ret
    exact ⟨rfl, rfl⟩
theorem has_three {w : World} {b : Nat} {a : Act} (h : Has w b (actC a)) : w.cell? ⟨b, 0, none⟩ = some (.int .i64 a.kind) ∧ w.cell? ⟨b, 1, none⟩ = some (.string ⟨a.text.toArray⟩) ∧ w.cell? ⟨b, 2, none⟩ = some (.int .i64 a.flags) := ⟨h.1 0 _ rfl, h.1 1 _ rfl, h.1 2 _ rfl⟩
theorem clash_any (a x : Act) (A : Nat) (w : World) (hA : Has w A (actC a)) :
    Calls Tryz.prog 174 #[.agg (actC x).toArray, .pointer (some ⟨A, 0, none⟩)] w fun e w' => e = .returned (.bool (clashJ a x)) ∧ Below w.heap.size w w' := by
 have hb := ba (Below.refl w.heap.size w) (.cells (actC x).toArray 65)
 obtain ⟨a0, a1, a2⟩ := has_three (hA.down hb)
 obtain ⟨x0, x1, x2⟩ := has_three (Has.alloc w (actC x) 65)
 have HB := Lib.hid hb
 have HH : Hid (∀ (k : Int) (b : Bool) (w : World), hardJ k = b → Calls Tryz.prog 175 #[.int .i64 k] w fun e w' => e = .returned (.bool b) ∧ w = w') := fun k b w h => by rw [← h]; exact hard_any k w
 obtain ⟨r, hr⟩ : ∃ r, r = clashJ a x := ⟨_, rfl⟩
 rw [← hr]
 unfold clashJ at hr
 clear hb hA
 obtain ⟨ak, at', af⟩ := a
 obtain ⟨xk, xt, xf⟩ := x
 unfold actC at *
 simp only at *
 obtain ⟨hx, hxe⟩ : ∃ hx, hx = hardJ xk := ⟨_, rfl⟩
 obtain ⟨ha, hae⟩ : ∃ ha, ha = hardJ ak := ⟨_, rfl⟩
 rw [← hxe] at hr
 rw [← hae] at hr
 have HXE : Hid (hardJ xk = hx) := hxe.symm
 have HAE : Hid (hardJ ak = ha) := hae.symm
 clear hxe hae
 cases q1 : ak == 7 <;> cases q2 : xk == 7 <;> cases hx <;> cases ha
 all_goals
  rw [q1, q2] at hr
  subst hr
  go_enter Tryz.func174, Tryz.ntmps174
  go_wp2_with (go_at_call 175; refine (HH.out _ _ _ (by first | exact HXE.out | exact HAE.out)).mono ?_; rintro e w' ⟨rfl, rfl⟩)
  go_ret
  exact ⟨rfl, HB.out⟩
theorem same_any (a x : Act) (A : Nat) (w : World) (hA : Has w A (actC a)) :
    Calls Tryz.prog 176 #[.agg (actC x).toArray, .pointer (some ⟨A, 0, none⟩)] w fun e w' => e = .returned (.bool (sameJ a x)) ∧ Below w.heap.size w w' := by
 have hb := ba (Below.refl w.heap.size w) (.cells (actC x).toArray 65)
 obtain ⟨a0, a1, a2⟩ := has_three (hA.down hb)
 obtain ⟨x0, x1, x2⟩ := has_three (Has.alloc w (actC x) 65)
 have HB := Lib.hid hb
 obtain ⟨r, hr⟩ : ∃ r, r = sameJ a x := ⟨_, rfl⟩
 rw [← hr]
 unfold sameJ at hr
 clear hb hA
 obtain ⟨ak, at', af⟩ := a
 obtain ⟨xk, xt, xf⟩ := x
 unfold actC at *
 simp only at *
 cases q1 : xk == ak <;> cases q2 : xt == at'
 all_goals
  rw [q1, q2] at hr
  subst hr
  go_enter Tryz.func176, Tryz.ntmps176
  go_wp2
  go_ret
  exact ⟨rfl, HB.out⟩
def AsksA (N : FuncId) (cs : List Value) (P : Act → Bool) (l : List Act) (w : World) : Prop :=
 ∀ s ∈ l, ∀ w', Below w.heap.size w w' → Calls Tryz.prog N (Value.agg (actC s).toArray :: cs).toArray w' fun e w'' => e = .returned (.bool (P s)) ∧ Below w'.heap.size w' w''
theorem indexA_any (N : FuncId) (cs : List Value) (P : Act → Bool) (v : Value) (l : List Act) (F : Dom) (w : World) (h : SAt cAct w F v l) (hl : l.length ≤ 1000000) (hen : Enters N) (hc : AsksA N cs P l w) :
    Calls Tryz.prog 206 #[v, .func (.func N) #[] cs.toArray] w fun e w' => e = .returned (.int .i64 (idxJ (l.findIdx? P))) ∧ Below w.heap.size w w' := by
 obtain ⟨G, cap, rfl, hcap⟩ := h.form
 have H := Lib.hid h; have HC := Lib.hid hc; have HEN := Lib.hid hen
 clear h hc hen
 go_enter Tryz.func206, Tryz.ntmps206
 go_wp2_with fail
 go_loopw [8] (fun i wr => ∃ j : Nat, j ≤ l.length ∧ i = .int .i64 j ∧ (∀ k (hk : k < l.length), k < j → P l[k] = false) ∧ Below w.heap.size w wr) (fun i _ => l.length - (intOf i).toNat)
 case atStart => exact ⟨0, Nat.zero_le _, rfl, (fun k _ h => absurd h (Nat.not_lt_zero _)), Below.refl _ _⟩
 case round =>
  obtain ⟨j, hj, rfl, hno, hb⟩ := hrel
  have HNO := Lib.hid hno
  clear hno
  by_cases hlt : j < l.length
  ·obtain ⟨g, off, rfl, c0, c1, c2⟩ := act_get H.out (Same.of_below hb) hb.size j hlt
   have hC := Lib.hid (HC.out l[j] (List.getElem_mem _) wr hb)
   cases hp : P l[j] with
   | true =>
    have hfi : Hid (idxJ (l.findIdx? P) = (j : Int)) := by
     have : l.findIdx? P = some j := by
      rw [List.findIdx?_eq_some_iff_getElem]
      exact ⟨hlt, hp, fun k hk => by rw [HNO.out k (by omega) hk]; decide⟩
     unfold Hid; rw [this]; rfl
    rw [hp] at hC
    clear HNO hp
    generalize l[j] = m at c0 c1 c2 hC
    unfold actC at hC
    go_wp2_with fail
    rw [HEN.out]
    refine hC.out.mono ?_
    rintro e w1 ⟨rfl, hb1⟩
    have HB := Lib.hid (bt hb hb1)
    clear c0 c1 c2 hb1 hb
    go_wp2_with fail
    go_ret
    exact ⟨by rw [hfi.out]; rfl, HB.out⟩
   | false =>
    have hno2 : Hid (∀ k (hk : k < l.length), k < j + 1 → P l[k] = false) := by
     intro k hk hkj
     rcases Nat.lt_succ_iff_lt_or_eq.1 hkj with h | h
     ·exact HNO.out k hk h
     ·subst h; exact hp
    rw [hp] at hC
    clear HNO hp
    generalize l[j] = m at c0 c1 c2 hC
    unfold actC at hC
    go_wp2_with fail
    rw [HEN.out]
    refine hC.out.mono ?_
    rintro e w1 ⟨rfl, hb1⟩
    have HB := Lib.hid (bt hb hb1)
    clear c0 c1 c2 hb1 hb
    go_wp2_with fail
    go_roundw
    case rel => exact ⟨j + 1, hlt, by go_num, hno2.out, HB.out⟩
    case measure => simp [intOf]; omega
  ·obtain rfl : j = l.length := by omega
   have hfi : Hid (idxJ (l.findIdx? P) = -1) := by
    have : l.findIdx? P = none := by
     rw [List.findIdx?_eq_none_iff]
     intro b hb
     obtain ⟨k, hk, rfl⟩ := List.getElem_of_mem hb
     exact HNO.out k hk hk
    unfold Hid; rw [this]; rfl
   clear HNO
   go_wp2_with fail
   go_ret
   exact ⟨by rw [hfi.out]; rfl, hb⟩
theorem containsA_any (N : FuncId) (cs : List Value) (P : Act → Bool) (v : Value) (l : List Act) (F : Dom) (w : World) (h : SAt cAct w F v l) (hl : l.length ≤ 1000000) (hen : Enters N) (hc : AsksA N cs P l w) :
    Calls Tryz.prog 177 #[v, .func (.func N) #[] cs.toArray] w fun e w' => e = .returned (.bool (l.any P)) ∧ Below w.heap.size w w' := by
 have HI := Lib.hid (indexA_any N cs P v l F w h hl hen hc)
 have hd := idx_any P l
 obtain ⟨G, cap, rfl, -⟩ := h.form
 obtain ⟨z, hz⟩ : ∃ z, z = idxJ (l.findIdx? P) := ⟨_, rfl⟩
 rw [← hz] at HI hd
 clear h hc hz hen
 go_enter Tryz.func177, Tryz.ntmps177
 go_wp2_with fail
 refine HI.out.mono ?_
 rintro e w1 ⟨rfl, hb1⟩
 go_wp2_with fail
 go_ret
 exact ⟨rfl, hb1⟩
theorem ent_clash : Enters 174 := fun _ _ => by kernel_rfl
theorem ent_same : Enters 176 := fun _ _ => by kernel_rfl
def AddP (base R : Nat) (r : Crs × Bool) (w : World) (e : Ending) (w' : World) : Prop := e = .returned (.bool r.2) ∧ Cr w' base R r.1 ∧ WStep R w w'
theorem add_any (base R : Nat) (c : Crs) (a : Act) (w : World) (hz : base ≤ w.heap.size) (h : Cr w base R c) (hl : c.acts.length ≤ 6) :
    Calls Tryz.prog 125 #[.pointer (some ⟨R, 0, none⟩), .agg (actC a).toArray] w (AddP base R (addJ c a) w) := by
 have hbA := ba (Below.refl w.heap.size w) (.cells (actC a).toArray 65)
 have hcA := h.down hbA
 have hnew := h.new
 have hAA := Has.alloc w (actC a) 65
 obtain ⟨v, hc4, hR, hrow, hv⟩ := hcA
 have f2 := hc4.2.1 2 (by simp)
 have c2 := hc4.1 2 _ rfl
 have hcs := cr_asked ⟨v, hc4, hR, hrow, hv⟩ true
 have hst : WStep R w ((w.alloc (.cells (actC a).toArray 65)).setCell ⟨R, 2, none⟩ (.bool true)) :=
  ((WStep.refl R w).down hnew.1 hbA).trans (step_set (by decide) _)
 have hA1 := hAA.else' (show w.heap.size ≠ R from hnew.2.1) (i := 2) (.bool true)
 have HST0 := Lib.hid (And.intro hcs (And.intro hst hA1))
 obtain ⟨r, hr⟩ : ∃ r, r = addJ c a := ⟨_, rfl⟩
 rw [← hr]
 have HR := Lib.hid hr
 have HZ := Lib.hid hz
 obtain ⟨A, hAe⟩ : ∃ A, A = w.heap.size := ⟨_, rfl⟩
 have hAR : A ≠ R := by rw [hAe]; exact hnew.2.1
 have HAR := Lib.hid hAR
 have HRW := Lib.hid hnew.1
 have hrb : Hid (rowB w R ≠ some A) := by unfold Hid; rw [hAe]; exact hnew.2.2
 clear hbA hnew hAA hc4 hR hrow hv hcs hst hA1 h hr hz hAR
 obtain ⟨ak, at', af⟩ := a
 unfold actC at HST0 c2 f2 ⊢
 go_enter Tryz.func125, Tryz.ntmps125
 go_upto_region 2 with fail
 refine wp_here (R := fun W => Cr W base R ⟨c.acts, c.flags, true, c.fault⟩ ∧ WStep R w W ∧ Has W w.heap.size (actC ⟨ak, at', af⟩)) HST0.out (fun W hW => ?_)
 rw [← hAe] at hW ⊢
 clear HST0 c2 f2 hAe
 obtain ⟨hC, hS, hA⟩ := hW
 obtain ⟨n, hn⟩ : ∃ n, n = c.acts.length := ⟨_, rfl⟩
 obtain ⟨v, hc4, hR, hrow, hv⟩ := hC
 dsimp only at hc4 hrow
 obtain ⟨G, cap, rfl⟩ := Sc.row_slice hrow
 have hrl : R < W.heap.size := hc4.2.2
 have HSA : Hid (SAt cAct W (fun _ => True) (.slice G c.acts.length cap) c.acts) := SAt.of_row (f := actC) (hf := fun _ => rfl) hrow (fun _ _ => trivial)
 have HC1 : Hid (Calls Tryz.prog 177 #[.slice G c.acts.length cap, .func (.func 174) #[] #[.pointer (some ⟨A, 0, none⟩)]] W fun e w' => e = .returned (.bool (c.acts.any (clashJ ⟨ak, at', af⟩))) ∧ Below W.heap.size W w') :=
  containsA_any 174 [.pointer (some ⟨A, 0, none⟩)] (clashJ ⟨ak, at', af⟩) _ c.acts _ W HSA.out (by omega) ent_clash fun x _ w' hb => clash_any _ x A w' (hA.down hb)
 have HC2 : Hid (∀ V, Below W.heap.size W V → Calls Tryz.prog 177 #[.slice G c.acts.length cap, .func (.func 176) #[] #[.pointer (some ⟨A, 0, none⟩)]] V fun e w' => e = .returned (.bool (c.acts.any (sameJ ⟨ak, at', af⟩))) ∧ Below V.heap.size V w') := fun V hV =>
  containsA_any 176 [.pointer (some ⟨A, 0, none⟩)] (sameJ ⟨ak, at', af⟩) _ c.acts _ V (HSA.out.down hV) (by omega) ent_same fun x _ w' hb => same_any _ x A w' ((hA.down hV).down hb)
 obtain ⟨p1, hp1⟩ : ∃ p1, p1 = c.acts.any (clashJ ⟨ak, at', af⟩) := ⟨_, rfl⟩
 obtain ⟨p2, hp2⟩ : ∃ p2, p2 = c.acts.any (sameJ ⟨ak, at', af⟩) := ⟨_, rfl⟩
 rw [← hp1] at HC1
 rw [← hp2] at HC2
 have HR2 : Hid (r = if p1 = true then (⟨c.acts, c.flags, true, 9⟩, false) else if p2 = true then (⟨c.acts, c.flags, true, c.fault⟩, true) else if n = 6 then (⟨c.acts, c.flags, true, 5⟩, false) else (⟨c.acts ++ [⟨ak, at', af⟩], c.flags, true, c.fault⟩, true)) := by
  unfold Hid; rw [HR.out, addJ, ← hp1, ← hp2, ← hn]
 rw [← hn] at HC1 HC2 hrow hl
 have HN := Lib.hid hn
 have HW4 := Lib.hid (And.intro hc4 (And.intro hrow (And.intro hA hS)))
 have HV := Lib.hid hv
 have HRB := Lib.hid hR
 obtain ⟨r0, r1, r2, r3⟩ : W.cell? ⟨R, 0, none⟩ = some (.slice G n cap) ∧ W.cell? ⟨R, 1, none⟩ = some (.int .i64 c.flags) ∧ W.cell? ⟨R, 2, none⟩ = some (.bool true) ∧ W.cell? ⟨R, 3, none⟩ = some (.int .i64 c.fault) := ⟨by rw [hn]; exact hc4.1 0 _ rfl, hc4.1 1 _ rfl, hc4.1 2 _ rfl, hc4.1 3 _ rfl⟩
 clear hc4 hrow hA hS hp1 hp2 hn hv hR HSA HR
 go_wp2_with fail
 refine HC1.out.mono ?_
 rintro e w2 ⟨rfl, hb2⟩
 have HB2 := Lib.hid hb2
 have hc2 := HW4.out.1.down hb2
 clear r0 r1 r2 r3 HC1
 cases p1 with
 | true =>
  have r3 := hc2.1 3 _ rfl
  have f3 := hc2.2.1 3 (by simp)
  have hr : r = (⟨c.acts, c.flags, true, 9⟩, false) := by rw [HR2.out, if_pos rfl]
  have hcr : Cr w2 base R ⟨c.acts, c.flags, true, c.fault⟩ := ⟨_, hc2, HRB.out, by rw [← HN.out]; exact row_down HW4.out.2.1 hb2, HV.out⟩
  have HEND := Lib.hid (And.intro (cr_fault hcr 9) ((HW4.out.2.2.2.down HRW.out hb2).trans (step_set (i := 3) (by decide) (.int .i64 9))))
  subst hr
  clear HR2 hcr hb2 hc2
  go_wp2_with fail
  go_ret
  exact ⟨rfl, HEND.out.1, HEND.out.2⟩
 | false =>
  have r0 : w2.cell? ⟨R, 0, none⟩ = some (.slice G n cap) := by rw [HN.out]; exact hc2.1 0 _ rfl
  have HC := Lib.hid (HC2.out w2 hb2)
  clear hc2 hb2
  go_wp2_with fail
  refine HC.out.mono ?_
  rintro e w3 ⟨rfl, hb3⟩
  have hb23 := bt HB2.out hb3
  have HB3 := Lib.hid hb23
  have hc3 := HW4.out.1.down hb23
  clear r0 HC HC2 hb3 hb23
  have hcr : Cr w3 base R ⟨c.acts, c.flags, true, c.fault⟩ := ⟨_, hc3, HRB.out, by rw [← HN.out]; exact row_down HW4.out.2.1 HB3.out, HV.out⟩
  have hst3 := HW4.out.2.2.2.down HRW.out HB3.out
  cases p2 with
  | true =>
   have hr : r = (⟨c.acts, c.flags, true, c.fault⟩, true) := by rw [HR2.out, if_neg (by decide), if_pos rfl]
   have HEND := Lib.hid (And.intro hcr hst3)
   subst hr
   clear HR2 hcr hc3 hst3
   go_wp2_with fail
   go_ret
   exact ⟨rfl, HEND.out.1, HEND.out.2⟩
  | false =>
   have r0 : w3.cell? ⟨R, 0, none⟩ = some (.slice G n cap) := by rw [HN.out]; exact hc3.1 0 _ rfl
   by_cases h6 : n = 6
   ·have r3 := hc3.1 3 _ rfl
    have f3 := hc3.2.1 3 (by simp)
    have hr : r = (⟨c.acts, c.flags, true, 5⟩, false) := by rw [HR2.out, if_neg (by decide), if_neg (by decide), if_pos h6]
    have HEND := Lib.hid (And.intro (cr_fault hcr 5) (hst3.trans (step_set (i := 3) (by decide) (.int .i64 5))))
    subst hr
    rw [h6] at r0
    clear HR2 hcr hc3 hst3 h6
    go_wp2_with fail
    go_ret
    exact ⟨rfl, HEND.out.1, HEND.out.2⟩
   ·have hr : r = (⟨c.acts ++ [⟨ak, at', af⟩], c.flags, true, c.fault⟩, true) := by rw [HR2.out, if_neg (by decide), if_neg (by decide), if_neg h6]
    subst hr
    have hq6 : ((n : Int) == 6) = false := beq_eq_false_iff_ne.2 (by omega)
    have hd6 : decide (n = 6) = false := decide_eq_false h6
    obtain ⟨i0, hi, hz0, hz1, hz2⟩ := Sc.info_three infoAct
    have HI0 := Lib.hid hi; have HZ0 := Lib.hid hz0; have HZ1 := Lib.hid hz1; have HZ2 := Lib.hid hz2
    have hdr := Below.drew (Below.refl w3.heap.size w3)
    have hba := ba (Below.refl w3.heap.size w3) (.cells #[.int .i64 ak, .string ⟨at'.toArray⟩, .int .i64 af] 65)
    have hb1 : Below w3.heap.size w3 (w3.drew.alloc (.cells #[.int .i64 ak, .string ⟨at'.toArray⟩, .int .i64 af] 65)) := ba hdr _
    have hb2 : Below w3.heap.size w3 (w3.alloc (.cells #[.int .i64 ak, .string ⟨at'.toArray⟩, .int .i64 af] 65)).drew := Below.drew hba
    obtain ⟨a0, a1, a2⟩ := has_three ((HW4.out.2.2.1.down HB3.out).down hdr)
    obtain ⟨a0', a1', a2'⟩ := has_three (HW4.out.2.2.1.down HB3.out)
    have d0 := moved r0 hdr (Nat.le_refl _)
    have x0 := moved r0 hb1 (Nat.le_refl _)
    have u0 := moved r0 hba (Nat.le_refl _)
    have v0 := moved r0 hb2 (Nat.le_refl _)
    have HROW := Lib.hid (row_down (row_down HW4.out.2.1 HB3.out) hb1)
    have HROWB := Lib.hid (row_down (row_down HW4.out.2.1 HB3.out) hb2)
    have HC3 := Lib.hid hc3
    have HST3 := Lib.hid hst3
    have HB1 := Lib.hid hb1
    have HB1B := Lib.hid hb2
    have hzl : base ≤ w3.heap.size := by have := HRB.out; have := hc3.2.2; omega
    have HZL := Lib.hid hzl
    have hfl : (c.acts.flatMap actC).length = n * 3 := (HW4.out.2.1).1
    have HFL := Lib.hid hfl
    clear hi hz0 hz1 hz2 hcr hc3 hst3 HR2 h6 hdr hba hb1 hb2 hzl hfl
    dsimp only at a0 a1 a2 a0' a1' a2'
    go_upto_region 12 with fail
    clear hq6 hd6
    go_region_law (first
     | (refine step_append_lies _ (by rfl) _ _ _ (by rfl) base 65 i0 _ 3 32 Tryz.underlying51 HI0.out HZ0.out HZ1.out HZ2.out rfl (by omega) (.slice G n cap) n (c.acts.flatMap actC) (by rfl) (by first | exact HROW.out | exact HROWB.out)
         ⟨w3.heap.size, 0, none⟩ 1 1 [.int .i64 ak, .string ⟨at'.toArray⟩, .int .i64 af] (by rfl) (by rfl) (World.news_of_block (cs := #[.int .i64 ak, .string ⟨at'.toArray⟩, .int .i64 af]) (t := 65) (fr := (0, 0)) (heap_alloc_new w3 _)) (by simp [Value.oneCell'])
         (by omega) (by unfold maxLen; omega) (by omega) (by have := HZL.out; simp; omega) (w3.heap.size + 1) (by simp) ?_
        intro g5 cap5 w5 hown5 hgrow5 hat5 hlt5
        have hput := (by first
         | exact cr_put (w := w3) (c := ⟨c.acts, c.flags, true, c.fault⟩) (a := ⟨ak, at', af⟩) (g := g5) (cap := cap5) HB1.out HC3.out HRB.out HV.out (by rw [acts_snoc, ← HN.out]; exact hown5) (by rw [← HN.out]; exact hgrow5) (by rw [← HN.out]; exact hat5.imp id (fun h => by omega))
         | exact cr_put (w := w3) (c := ⟨c.acts, c.flags, true, c.fault⟩) (a := ⟨ak, at', af⟩) (g := g5) (cap := cap5) HB1B.out HC3.out HRB.out HV.out (by rw [acts_snoc, ← HN.out]; exact hown5) (by rw [← HN.out]; exact hgrow5) (by rw [← HN.out]; exact hat5.imp id (fun h => by omega)))
        have HPUT := Lib.hid hput
        have y0 := hput.1.1 0 _ rfl
        have z0 := hput.1.2.1 0 (by simp)
        clear hput))
    all_goals
     go_wp2_with fail
     go_ret
     exact ⟨rfl, by rw [HN.out]; exact HPUT.out.2.1, HST3.out.trans (by rw [HN.out]; exact HPUT.out.2.2)⟩
end Go.Proofs.YtpfbkdbblpppdaaGreatDoor.Jd
namespace Go.Proofs.YtpfbkdbblpppdaaGreatDoor.Jd
open Go.RowKit
open Sc (Str Tst Cmd cStr strC tstC cTst cCmd cmdC RW Stk cStk WStep rowB GoodC Good1 flagL)
def flJ (tx : List Str) : Int := match tx with
 | [s] => (flOf [flagL.idxOf s] : Nat)
 | _ => 0
def rdJ (tx : List Str) : Str := match tx with
 | [s] => (match listL s with
  | some [y] => partL 1 y.1 y.2
  | _ => [])
 | _ => []
def orJ (a b : Int) : Int := bits .or .i64 a b
def actJ (f : Int) (x : Cmd) : Act := if x.kind = 5 then ⟨5, x.texts.headD [], f⟩ else if x.kind = 3 then ⟨3, [], f⟩ else if x.kind = 6 then ⟨6, rdJ x.texts, 0⟩ else if x.kind = 7 then ⟨7, x.texts.headD [], 0⟩ else ⟨x.kind, [], 0⟩
def doJ (c : Crs) (x : Cmd) : Crs × Bool := if x.kind = 10 then (c, false) else if x.kind = 8 then (⟨c.acts, flJ x.texts, c.asked, c.fault⟩, true) else if x.kind = 9 then (⟨c.acts, orJ c.flags (flJ x.texts), c.asked, c.fault⟩, true) else if x.kind = 1 then (c, true) else addJ c (actJ c.flags x)
theorem alloc_sz (w : World) (o : Obj) : (w.alloc o).heap.size = w.heap.size + 1 := by simp
theorem three_of {w : World} {b : Nat} {a0 a1 a2 : Value} (h : Has w b [a0, a1, a2]) : w.cell? ⟨b, 0, none⟩ = some a0 ∧ w.cell? ⟨b, 1, none⟩ = some a1 ∧ w.cell? ⟨b, 2, none⟩ = some a2 := ⟨h.1 0 _ rfl, h.1 1 _ rfl, h.1 2 _ rfl⟩
theorem cell_off {W : World} {a : Addr} {b : Nat} (i : Nat) {v : Value} (u : Value) (h : W.cell? a = some v) (hb : a.block ≠ b) : (W.setCell ⟨b, i, none⟩ u).drew.cell? a = some v := by
 rw [show (W.setCell ⟨b, i, none⟩ u).drew.cell? a = (W.setCell ⟨b, i, none⟩ u).cell? a from rfl, World.cell?_setCell_other _ _ _ _ (by intro e; exact hb (congrArg Addr.block e).symm)]
 exact h
structure DoOk (x : Cmd) : Prop where
 k : 1 ≤ x.kind ∧ x.kind ≤ 10 ∧ x.kind ≠ 2
 one : x.kind = 5 ∨ x.kind = 7 → ∃ s, x.texts = [s]
 red : x.kind = 6 → ∃ s y, x.texts = [s] ∧ s.length ≤ 2000 ∧ listL s = some [y]
 flag : x.kind = 8 ∨ x.kind = 9 → ∃ k, k < 5 ∧ x.texts = [flagL.getD k []]
theorem flJ_one (k : Nat) (h : k < 5) : flJ [flagL.getD k []] = (flOf [k] : Nat) := by
 have : ∀ k, k < 5 → flJ [flagL.getD k []] = (flOf [k] : Nat) := by decide
 exact this k h
theorem do_any (n base R : Nat) (c : Crs) (x : Cmd) (vs : List Value) (F : Dom) (m : Int) (w : World) (hrep : (cCmd n).rep w F x vs) (ho : DoOk x) (hN : NamesAt w ∧ 2 < w.heap.size) (hm : w.cell? ⟨6, 0, none⟩ = some (.int .i64 m)) (hz : base ≤ w.heap.size) (h : Cr w base R c) (hl : c.acts.length ≤ 6) :
    Calls Tryz.prog 79 #[.pointer (some ⟨R, 0, none⟩), .agg vs.toArray] w (AddP base R (doJ c x) w) := by
 obtain ⟨q, Gx, cx, Gn, cn, Gk, ck, Gt, ct, Gh, ch, Ge, ce, -, rfl, hx, -, -, -⟩ := Sc.cmd_open hrep
 obtain ⟨⟨k1, k2, k3⟩, o1, o2, o3⟩ := ho
 obtain ⟨r, hr⟩ : ∃ r, r = doJ c x := ⟨_, rfl⟩
 rw [← hr]
 obtain ⟨kind, tx, t, th, el⟩ := x
 simp only [cmdC, tstC] at *
 have HR := Lib.hid hr; have HX := Lib.hid hx; have HM := Lib.hid hm; have HNM := Lib.hid hN; have HCR := Lib.hid h
 have HO1 := Lib.hid o1; have HO2 := Lib.hid o2; have HO3 := Lib.hid o3
 have HADD : Hid (∀ (t : Str) (f : Int) (k : Int) (W : World), Below w.heap.size w W → Calls Tryz.prog 125 #[.pointer (some ⟨R, 0, none⟩), .agg #[.int .i64 k, .string ⟨t.toArray⟩, .int .i64 f]] W (AddP base R (addJ c ⟨k, t, f⟩) w)) := fun t f k W hb =>
  (add_any base R c ⟨k, t, f⟩ W (Nat.le_trans hz hb.size) (h.down hb) hl).mono (fun e w' ⟨h1, h2, h3⟩ => ⟨h1, h2, ((WStep.refl R w).down h.new.1 hb).trans h3⟩)
 have h0 := h
 obtain ⟨v, hc4, hR, hrow, hv⟩ := h
 have hb2 : Below w.heap.size w ((w.alloc (.cells #[.int .i64 kind, .slice Gx tx.length cx, .int .i64 t.kind, .int .i64 t.mat, .int .i64 t.part, .slice Gn t.names.length cn, .slice Gk t.keys.length ck, .bool t.over, .int .i64 t.limit, .slice Gt t.tests.length ct, .slice Gh th.length ch, .slice Ge el.length ce] 50)).alloc (.cells #[.int .i64 kind, .string ⟨#[]⟩, .int .i64 0] 65)) := ba (ba (Below.refl w.heap.size w) _) _
 have HB2 := Lib.hid hb2
 have hc5 := hc4.down hb2
 have r1 := hc5.1 1 _ rfl
 have f1 := hc5.2.1 1 (by simp)
 have hcr2 := h0.down hb2
 have HCR2 := Lib.hid hcr2
 have hst2 := Lib.hid ((WStep.refl R w).down hc4.2.2 hb2)
 have hRw : Hid (R < w.heap.size) := hc4.2.2
 have key : kind = 10 ∨ kind = 1 ∨ kind = 3 ∨ kind = 4 ∨ kind = 8 ∨ kind = 9 ∨ kind = 5 ∨ kind = 7 ∨ kind = 6 := by omega
 clear hrep hx o1 o2 o3 k1 k2 k3 hr hm hN hc4 hc5 hrow hv hR hb2 hcr2 h0
 rcases key with rfl | rfl | rfl | rfl | rfl | rfl | rfl | rfl | rfl
 ·go_enter Tryz.func79, Tryz.ntmps79
  go_wp2_with fail
  go_ret
  have := HR.out
  subst this
  exact ⟨rfl, HCR2.out, hst2.out⟩
 ·go_enter Tryz.func79, Tryz.ntmps79
  go_wp2_with fail
  go_ret
  have := HR.out
  subst this
  exact ⟨rfl, HCR2.out, hst2.out⟩
 ·go_enter Tryz.func79, Tryz.ntmps79
  go_wp2_with fail
  refine (HADD.out [] c.flags 3 _ ?hb).mono ?_
  case hb => exact ba (ba (Below.refl _ _) _) _
  rintro e w2 ⟨rfl, h2, h3⟩
  have hr : r = addJ c ⟨3, [], c.flags⟩ := HR.out
  subst hr
  go_wp2_with fail
  go_ret
  exact ⟨rfl, h2, h3⟩
 ·go_enter Tryz.func79, Tryz.ntmps79
  go_wp2_with fail
  refine (HADD.out [] 0 4 _ HB2.out).mono ?_
  rintro e w2 ⟨rfl, h2, h3⟩
  have hr : r = addJ c ⟨4, [], 0⟩ := HR.out
  subst hr
  go_wp2_with fail
  go_ret
  exact ⟨rfl, h2, h3⟩
 ·obtain ⟨k, hk, rfl⟩ := HO3.out (.inl rfl)
  obtain ⟨g, off, hG, s0⟩ := Sc.str_get HX.out (Same.refl _ _) (Nat.le_refl _) 0 (by simp)
  subst hG
  have HS0 : Hid (w.cell? ⟨g, off, none⟩ = some (.string (nmV k))) := by rw [Sc.nmV_flag k hk]; exact s0
  have HFL : Hid (∀ w', Below w.heap.size w w' → Calls Tryz.prog 124 #[.slice (some ⟨g, off, none⟩) 1 cx] w' fun e w'' => e = .returned (.tuple #[.int .i64 (flOf [k]), .int .i64 0]) ∧ w' = w'') := fun w' hb => Sc.flags_one g off cx k w' hk (HNM.out.1.of_below hb HNM.out.2) (moved HS0.out hb (Nat.le_refl _))
  have hrr : Hid (r = (⟨c.acts, (flOf [k] : Nat), c.asked, c.fault⟩, true)) := by
   unfold Hid
   rw [HR.out]
   show ((⟨c.acts, flJ [flagL.getD k []], c.asked, c.fault⟩, true) : Crs × Bool) = _
   rw [flJ_one k hk]
  obtain ⟨z, hz⟩ : ∃ z : Int, z = (flOf [k] : Nat) := ⟨_, rfl⟩
  rw [← hz] at HFL hrr
  dsimp only [List.length_singleton] at r1 f1
  clear s0 hz hk
  go_enter Tryz.func79, Tryz.ntmps79
  go_wp2_with fail
  refine (HFL.out _ HB2.out).mono ?_
  rintro e w2 ⟨rfl, rfl⟩
  go_wp2_with fail
  go_ret
  have hr := hrr.out
  subst hr
  exact ⟨rfl, cr_flags HCR2.out _, hst2.out.trans (step_set (by decide) _)⟩
 ·obtain ⟨k, hk, rfl⟩ := HO3.out (.inr rfl)
  obtain ⟨g, off, hG, s0⟩ := Sc.str_get HX.out (Same.refl _ _) (Nat.le_refl _) 0 (by simp)
  subst hG
  have HS0 : Hid (w.cell? ⟨g, off, none⟩ = some (.string (nmV k))) := by rw [Sc.nmV_flag k hk]; exact s0
  have HFL : Hid (∀ w', Below w.heap.size w w' → Calls Tryz.prog 124 #[.slice (some ⟨g, off, none⟩) 1 cx] w' fun e w'' => e = .returned (.tuple #[.int .i64 (flOf [k]), .int .i64 0]) ∧ w' = w'') := fun w' hb => Sc.flags_one g off cx k w' hk (HNM.out.1.of_below hb HNM.out.2) (moved HS0.out hb (Nat.le_refl _))
  have hrr : Hid (r = (⟨c.acts, orJ c.flags (flOf [k] : Nat), c.asked, c.fault⟩, true)) := by
   unfold Hid
   rw [HR.out]
   show ((⟨c.acts, orJ c.flags (flJ [flagL.getD k []]), c.asked, c.fault⟩, true) : Crs × Bool) = _
   rw [flJ_one k hk]
  obtain ⟨z, hz⟩ : ∃ z : Int, z = (flOf [k] : Nat) := ⟨_, rfl⟩
  rw [← hz] at HFL hrr
  dsimp only [List.length_singleton] at r1 f1
  clear s0 hz hk
  go_enter Tryz.func79, Tryz.ntmps79
  go_wp2_with fail
  refine (HFL.out _ HB2.out).mono ?_
  rintro e w2 ⟨rfl, rfl⟩
  go_wp2_with fail
  go_ret
  have hr := hrr.out
  subst hr
  exact ⟨rfl, cr_flags HCR2.out _, hst2.out.trans (step_set (by decide) _)⟩
 ·obtain ⟨s, rfl⟩ := HO1.out (.inl rfl)
  obtain ⟨g, off, hG, s0⟩ := Sc.str_get HX.out (Same.refl _ _) (Nat.le_refl _) 0 (by simp)
  subst hG
  have hr : Hid (r = addJ c ⟨5, s, c.flags⟩) := HR.out
  have hgw : Hid (g < w.heap.size) := World.block_lt_of_cell? _ _ s0
  have s1 := moved s0 HB2.out (Nat.le_refl _)
  dsimp only [List.length_singleton, List.getElem_cons_zero, Nat.add_zero] at s1 r1 f1
  have HF := Lib.hid (And.intro r1 (And.intro f1 s1))
  clear s0 s1 r1 f1
  go_enter Tryz.func79, Tryz.ntmps79
  go_upto_region 15 with fail
  refine wp_here (R := fun W => Below w.heap.size w W ∧ Has W w.heap.size [.int .i64 5, .slice (some ⟨g, off, none⟩) 1 cx, .int .i64 t.kind, .int .i64 t.mat, .int .i64 t.part, .slice Gn t.names.length cn, .slice Gk t.keys.length ck, .bool t.over, .int .i64 t.limit, .slice Gt t.tests.length ct, .slice Gh th.length ch, .slice Ge el.length ce] ∧ Has W (w.heap.size + 1) [.int .i64 5, .string ⟨#[]⟩, .int .i64 0] ∧ W.cell? ⟨R, 1, none⟩ = some (.int .i64 c.flags) ∧ W.cell? ⟨g, off, none⟩ = some (.string ⟨s.toArray⟩)) ⟨HB2.out, ?_, ?_, HF.out.1, HF.out.2.2⟩ (fun W hW => ?_)
  ·exact (Has.alloc w _ 50).down (ba (Below.refl _ _) _)
  ·have := Has.alloc (w.alloc (.cells #[.int .i64 5, .slice (some ⟨g, off, none⟩) 1 cx, .int .i64 t.kind, .int .i64 t.mat, .int .i64 t.part, .slice Gn t.names.length cn, .slice Gk t.keys.length ck, .bool t.over, .int .i64 t.limit, .slice Gt t.tests.length ct, .slice Gh th.length ch, .slice Ge el.length ce] 50)) [.int .i64 5, .string ⟨#[]⟩, .int .i64 0] 65
   rw [alloc_sz] at this
   exact this
  obtain ⟨hb, hB, hA, hr1, hs1⟩ := hW
  have hdr := Below.drew (Below.refl W.heap.size W)
  have HBW := Lib.hid (Below.drew hb)
  have x1 := (hB.down hdr).1 1 _ rfl
  obtain ⟨a0, a1, a2⟩ := three_of (hA.down hdr)
  have b1 := (hA.down hdr).2.1 1 (by simp)
  have b2 := (hA.down hdr).2.1 2 (by simp)
  have r1 := moved hr1 hdr (Nat.le_refl _)
  have s1 := moved hs1 hdr (Nat.le_refl _)
  have hRn : R ≠ w.heap.size + 1 := by have := hRw.out; omega
  have hgn : g ≠ w.heap.size + 1 := by have := hgw.out; omega
  have hBn : w.heap.size ≠ w.heap.size + 1 := by omega
  have hu := (hA.set' (i := 1) (.string ⟨s.toArray⟩) (by simp)).down (Below.drew (Below.refl _ _))
  obtain ⟨d0, d1, d2⟩ := three_of hu
  have e1 := hu.2.1 1 (by simp)
  have e2 := hu.2.1 2 (by simp)
  have x2 := cell_off 1 (.string ⟨s.toArray⟩) (hB.1 1 _ rfl) hBn
  have r2 := cell_off 1 (.string ⟨s.toArray⟩) hr1 hRn
  have hv := (hA.set' (i := 2) (.int .i64 c.flags) (by simp)).down (Below.drew (Below.refl _ _))
  obtain ⟨m0, m1, m2⟩ := three_of hv
  have n1 := hv.2.1 1 (by simp)
  have n2 := hv.2.1 2 (by simp)
  have x3 := cell_off 2 (.int .i64 c.flags) (hB.1 1 _ rfl) hBn
  have s3 := cell_off 2 (.int .i64 c.flags) hs1 hgn
  obtain ⟨y0, y1, y2⟩ := three_of (((hA.set' (i := 1) (.string ⟨s.toArray⟩) (by simp)).set' (i := 2) (.int .i64 c.flags) (by simp)).down (Below.drew (Below.refl _ _)))
  obtain ⟨z0, z1, z2⟩ := three_of (((hA.set' (i := 2) (.int .i64 c.flags) (by simp)).set' (i := 1) (.string ⟨s.toArray⟩) (by simp)).down (Below.drew (Below.refl _ _)))
  have HW := Lib.hid hb
  clear hb hB hA hr1 hs1 hdr HB2 HCR2 hst2 HF hRn hgn hBn hu hv
  go_region
  all_goals
   go_wp2_with fail
   refine (HADD.out s c.flags 5 _ ?hb).mono ?_
   case hb => first | exact Below.drew (Below.setCell (Below.setCell HW.out (by show w.heap.size ≤ w.heap.size + 1; omega) _) (by show w.heap.size ≤ w.heap.size + 1; omega) _) | exact Below.setCell (Below.drew (Below.setCell HBW.out (by show w.heap.size ≤ w.heap.size + 1; omega) _)) (by show w.heap.size ≤ w.heap.size + 1; omega) _ | exact Below.setCell (Below.setCell HBW.out (by show w.heap.size ≤ w.heap.size + 1; omega) _) (by show w.heap.size ≤ w.heap.size + 1; omega) _
   rintro e w2 ⟨rfl, h2, h3⟩
   have hr := hr.out
   subst hr
   go_wp2_with fail
   go_ret
   exact ⟨rfl, h2, h3⟩
 ·obtain ⟨s, rfl⟩ := HO1.out (.inr rfl)
  obtain ⟨g, off, hG, s0⟩ := Sc.str_get HX.out (Same.refl _ _) (Nat.le_refl _) 0 (by simp)
  subst hG
  have hr : Hid (r = addJ c ⟨7, s, 0⟩) := HR.out
  have s1 := moved s0 HB2.out (Nat.le_refl _)
  dsimp only [List.length_singleton, List.getElem_cons_zero, Nat.add_zero] at s1
  clear s0
  go_enter Tryz.func79, Tryz.ntmps79
  go_wp2_with fail
  refine (HADD.out s 0 7 _ ?hb).mono ?_
  case hb => exact ba (ba (Below.refl _ _) _) _
  rintro e w2 ⟨rfl, h2, h3⟩
  have hr := hr.out
  subst hr
  go_wp2_with fail
  go_ret
  exact ⟨rfl, h2, h3⟩
 ·obtain ⟨s, y, rfl, hs, hy⟩ := HO2.out rfl
  obtain ⟨g, off, hG, s0⟩ := Sc.str_get HX.out (Same.refl _ _) (Nat.le_refl _) 0 (by simp)
  subst hG
  have hay : addrsJ s = [y] := by unfold addrsJ; rw [hy]; rfl
  have hr : Hid (r = addJ c ⟨6, partL 1 y.1 y.2, 0⟩) := by
   unfold Hid
   rw [HR.out]
   show addJ c ⟨6, (match listL s with
    | some [y] => partL 1 y.1 y.2
    | _ => []), 0⟩ = _
   rw [hy]
  have s1 := moved s0 HB2.out (Nat.le_refl _)
  dsimp only [List.length_singleton, List.getElem_cons_zero, Nat.add_zero] at s1
  have HL := Lib.hid (listJ_any s m _ hs (moved HM.out HB2.out (Nat.le_refl _)))
  have HY := Lib.hid hay
  have HA := Lib.hid (Has.alloc (w.alloc (.cells #[.int .i64 6, .slice (some ⟨g, off, none⟩) 1 cx, .int .i64 t.kind, .int .i64 t.mat, .int .i64 t.part, .slice Gn t.names.length cn, .slice Gk t.keys.length ck, .bool t.over, .int .i64 t.limit, .slice Gt t.tests.length ct, .slice Gh th.length ch, .slice Ge el.length ce] 50)) [.int .i64 6, .string ⟨#[]⟩, .int .i64 0] 65)
  have hsy := addrsJ_chk (s := s) y (by rw [hay]; exact List.mem_singleton.2 rfl)
  have HCK := Lib.hid (chk_len hsy)
  clear s0 hs hy hay hsy r1 f1
  go_enter Tryz.func79, Tryz.ntmps79
  go_wp2_with fail
  refine HL.out.mono ?_
  rintro e w1 ⟨v, k, rfl, hv, hb1⟩
  rw [HY.out] at hv
  obtain ⟨h, -⟩ | ⟨g2, cap2, rfl, -, hcell⟩ := hv
  ·cases h
  have c0 := hcell 0 _ rfl
  have c1 := hcell 1 _ rfl
  have HBW := Lib.hid (bt HB2.out hb1)
  have hA := HA.out.down hb1
  rw [alloc_sz] at hA
  obtain ⟨a0, a1, a2⟩ := three_of hA
  have b1 := hA.2.1 1 (by simp)
  have HA1 := Lib.hid hA
  have HPT := Lib.hid (part_any 1 ⟨y.1.toArray⟩ ⟨y.2.toArray⟩ m w1 (by have := HCK.out; show y.1.toArray.size ≤ _; rw [List.size_toArray]; omega) (by have := HCK.out; show y.2.toArray.size ≤ _; rw [List.size_toArray]; omega) (moved HM.out HBW.out (Nat.le_refl _)))
  rw [part_str] at HPT
  clear hb1 hcell hA HL
  go_wp2_with fail
  refine HPT.out.mono ?_
  rintro e w2 ⟨rfl, hb2⟩
  have HBX := Lib.hid (bt HBW.out hb2)
  have hA2 := HA1.out.down hb2
  clear a0 a1 a2 b1 c0 c1 hb2
  obtain ⟨a0, a1, a2⟩ := three_of hA2
  have b1 := hA2.2.1 1 (by simp)
  clear hA2
  go_wp2_with fail
  refine (HADD.out (partL 1 y.1 y.2) 0 6 _ ?hb).mono ?_
  case hb => exact Below.setCell HBX.out (by show w.heap.size ≤ w.heap.size + 1; omega) _
  rintro e w3 ⟨rfl, h2, h3⟩
  have hr := hr.out
  subst hr
  go_wp2_with fail
  go_ret
  exact ⟨rfl, h2, h3⟩
end Go.Proofs.YtpfbkdbblpppdaaGreatDoor.Jd
namespace Go.Proofs.YtpfbkdbblpppdaaGreatDoor.Jd
open Go.RowKit
open Sc (Str Tst Cmd cStr strC tstC cTst cCmd cmdC RW Stk cStk WStep rowB flagL)
mutual
def cmdJ (x : Ltt) (fs : List Fld) : Cmd → Crs → Crs × Bool
 | ⟨k, tx, t, th, el⟩, c => if k = 2 then (if tstJ x fs t = true then cmdsJ x fs th c else cmdsJ x fs el c) else doJ c ⟨k, tx, t, th, el⟩
def cmdsJ (x : Ltt) (fs : List Fld) : List Cmd → Crs → Crs × Bool
 | [], c => (c, true)
 | a :: l, c => if (cmdJ x fs a c).2 = true then cmdsJ x fs l (cmdJ x fs a c).1 else cmdJ x fs a c
end
mutual
def GoodJ : Cmd → Prop
 | ⟨k, tx, t, th, el⟩ => (k ≠ 2 → DoOk ⟨k, tx, t, th, el⟩) ∧ (k = 2 → GoodT t) ∧ (th.length ≤ 1000000 ∧ el.length ≤ 1000000) ∧ GoodJs th ∧ GoodJs el
def GoodJs : List Cmd → Prop
 | [] => True
 | c :: l => GoodJ c ∧ GoodJs l
end
theorem GoodJs_iff : ∀ l : List Cmd, GoodJs l ↔ ∀ c ∈ l, GoodJ c
 | [] => by simp [GoodJs]
 | c :: l => by rw [GoodJs, GoodJs_iff l]; simp
theorem GoodJ.iff (c : Cmd) : GoodJ c ↔ (c.kind ≠ 2 → DoOk c) ∧ (c.kind = 2 → GoodT c.test) ∧ (c.thn.length ≤ 1000000 ∧ c.els.length ≤ 1000000) ∧ (∀ x ∈ c.thn, GoodJ x) ∧ (∀ x ∈ c.els, GoodJ x) := by
 obtain ⟨k, tx, t, th, el⟩ := c
 rw [GoodJ, GoodJs_iff, GoodJs_iff]
theorem cmdJ_eq (x : Ltt) (fs : List Fld) (a : Cmd) (c : Crs) : cmdJ x fs a c = if a.kind = 2 then (if tstJ x fs a.test = true then cmdsJ x fs a.thn c else cmdsJ x fs a.els c) else doJ c a := by
 obtain ⟨k, tx, t, th, el⟩ := a; rw [cmdJ]
theorem cmdsJ_step (x : Ltt) (fs : List Fld) (l : List Cmd) (c : Crs) (j : Nat) (hj : j < l.length) : cmdsJ x fs (l.drop j) c = if (cmdJ x fs l[j] c).2 = true then cmdsJ x fs (l.drop (j + 1)) (cmdJ x fs l[j] c).1 else cmdJ x fs l[j] c := by
 rw [List.drop_eq_getElem_cons hj, cmdsJ]
theorem addJ_len {c : Crs} {a : Act} (h : c.acts.length ≤ 6) : (addJ c a).1.acts.length ≤ 6 := by
 unfold addJ
 split
 ·exact h
 ·split
  ·exact h
  ·split
   ·exact h
   ·simp only [List.length_append, List.length_cons, List.length_nil]; omega
theorem doJ_len {c : Crs} {a : Cmd} (h : c.acts.length ≤ 6) : (doJ c a).1.acts.length ≤ 6 := by
 unfold doJ
 split
 ·exact h
 ·split
  ·exact h
  ·split
   ·exact h
   ·split
    ·exact h
    ·exact addJ_len h
mutual
theorem cmdJ_len (x : Ltt) (fs : List Fld) : ∀ (a : Cmd) (c : Crs), c.acts.length ≤ 6 → (cmdJ x fs a c).1.acts.length ≤ 6
 | ⟨k, tx, t, th, el⟩, c, h => by
  rw [cmdJ]
  split
  ·split
   ·exact cmdsJ_len x fs th c h
   ·exact cmdsJ_len x fs el c h
  ·exact doJ_len h
theorem cmdsJ_len (x : Ltt) (fs : List Fld) : ∀ (l : List Cmd) (c : Crs), c.acts.length ≤ 6 → (cmdsJ x fs l c).1.acts.length ≤ 6
 | [], c, h => by rw [cmdsJ]; exact h
 | a :: l, c, h => by
  rw [cmdsJ]
  split
  ·exact cmdsJ_len x fs l _ (cmdJ_len x fs a c h)
  ·exact cmdJ_len x fs a c h
end
theorem Cr.row_lt {w : World} {base R : Nat} {c : Crs} (h : Cr w base R c) : ∀ b, rowB w R = some b → b < w.heap.size := by
 intro b e
 obtain ⟨v, h1, h2, h3, h4⟩ := h
 rw [rowB_cell (h1.1 0 _ rfl)] at e
 exact (World.ownsRow.lt h3 _ e).2
theorem Cr.row_down {w w' : World} {base R : Nat} {c : Crs} (h : Cr w base R c) (hb : Below w.heap.size w w') : rowB w' R = rowB w R := by
 obtain ⟨v, h1, h2, h3, h4⟩ := h
 rw [rowB_cell (h1.1 0 _ rfl), rowB_cell ((h1.down hb).1 0 _ rfl)]
theorem cmd_get2 {n : Nat} {w : World} {F : Dom} {G : Option Addr} {len cap : Nat} {l : List Cmd} (h : SAt (cCmd n) w F (.slice G len cap) l) (j : Nat) (hj : j < l.length) :
    ∃ q g off Gx cx Gn cn Gk ck Gt ct Gh ch Ge ce, n = q + 1 ∧ G = some ⟨g, off, none⟩ ∧ (cCmd n).rep w F l[j] (cmdC l[j] (.slice Gx l[j].texts.length cx) (tstC l[j].test (.slice Gn l[j].test.names.length cn) (.slice Gk l[j].test.keys.length ck) (.slice Gt l[j].test.tests.length ct)) (.slice Gh l[j].thn.length ch) (.slice Ge l[j].els.length ce)) ∧
     (cTst (q + 1)).rep w F l[j].test (tstC l[j].test (.slice Gn l[j].test.names.length cn) (.slice Gk l[j].test.keys.length ck) (.slice Gt l[j].test.tests.length ct)) ∧ SAt (cCmd q) w F (.slice Gh l[j].thn.length ch) l[j].thn ∧ SAt (cCmd q) w F (.slice Ge l[j].els.length ce) l[j].els ∧
     ∀ wr, Below w.heap.size w wr → (wr.cell? ⟨g, off + j * 12, none⟩ = some (.int .i64 l[j].kind) ∧ wr.cell? ⟨g, off + j * 12 + 1, none⟩ = some (.slice Gx l[j].texts.length cx)) ∧
     (wr.cell? ⟨g, off + j * 12 + 2, none⟩ = some (.int .i64 l[j].test.kind) ∧ wr.cell? ⟨g, off + j * 12 + 3, none⟩ = some (.int .i64 l[j].test.mat) ∧ wr.cell? ⟨g, off + j * 12 + 4, none⟩ = some (.int .i64 l[j].test.part) ∧ wr.cell? ⟨g, off + j * 12 + 5, none⟩ = some (.slice Gn l[j].test.names.length cn) ∧
     wr.cell? ⟨g, off + j * 12 + 6, none⟩ = some (.slice Gk l[j].test.keys.length ck) ∧ wr.cell? ⟨g, off + j * 12 + 7, none⟩ = some (.bool l[j].test.over) ∧ wr.cell? ⟨g, off + j * 12 + 8, none⟩ = some (.int .i64 l[j].test.limit) ∧ wr.cell? ⟨g, off + j * 12 + 9, none⟩ = some (.slice Gt l[j].test.tests.length ct)) ∧
     wr.cell? ⟨g, off + j * 12 + 10, none⟩ = some (.slice Gh l[j].thn.length ch) ∧ wr.cell? ⟨g, off + j * 12 + 11, none⟩ = some (.slice Ge l[j].els.length ce) := by
 obtain ⟨g, off, vs, hG, hF, hg, hv, hc⟩ := h.get j hj
 obtain ⟨q, Gx, cx, Gn, cn, Gk, ck, Gt, ct, Gh, ch, Ge, ce, hq, rfl, hx, ht, hh, he⟩ := Sc.cmd_open hv
 refine ⟨q, g, off, Gx, cx, Gn, cn, Gk, ck, Gt, ct, Gh, ch, Ge, ce, hq, hG, hv, ht, hh, he, fun wr hb => ?_⟩
 have M : ∀ i v, _ → _ := fun i v h => moved (hc i v h) hb (Nat.le_refl _)
 exact ⟨⟨M 0 _ rfl, M 1 _ rfl⟩, ⟨M 2 _ rfl, M 3 _ rfl, M 4 _ rfl, M 5 _ rfl, M 6 _ rfl, M 7 _ rfl, M 8 _ rfl, M 9 _ rfl⟩, M 10 _ rfl, M 11 _ rfl⟩
structure AllIn (w : World) (x : Ltt) (u : Value) (fs : List Fld) (m : Int) : Prop where
 j : JIn w x u fs m
 names : NamesAt w ∧ 2 < w.heap.size
def AllJP (n : Nat) : Prop := ∀ (l : List Cmd) (v : Value) (F : Dom) (x : Ltt) (u : Value) (body : ByteArray) (fs : List Fld) (m : Int) (w0 : World) (R : Nat) (c : Crs) (w : World), SAt (cCmd n) w0 F v l → (∀ a ∈ l, GoodJ a) → l.length ≤ 1000000 → AllIn w0 x u fs m → Below w0.heap.size w0 w → Cr w w0.heap.size R c → c.acts.length ≤ 6 →
 Calls Tryz.prog 46 #[.pointer (some ⟨R, 0, none⟩), v, .agg (lttC x).toArray, .agg #[u, .string body]] w (AddP w0.heap.size R (cmdsJ x fs l c) w)
theorem all_step (n : Nat) (hIH : ∀ q, q < n → AllJP q) : AllJP n := by
 intro l v F x u body fs m w0 R c w hv hgood hlen hj h0 hC hl
 obtain ⟨G, cap, rfl, -⟩ := hv.form
 obtain ⟨Gv, cv, hu, -⟩ := hj.j.flds.1
 obtain ⟨r, hr⟩ : ∃ r, r = cmdsJ x fs l c := ⟨_, rfl⟩
 rw [← hr]
 have HR := Lib.hid hr; have HV := Lib.hid hv; have HG := Lib.hid hgood; have HJ := Lib.hid hj; have HIH := Lib.hid hIH; have H0 := Lib.hid h0; have HC := Lib.hid hC
 have hbA := ba (ba (Below.refl w.heap.size w) (.cells (lttC x).toArray 33)) (.cells #[u, .string body] 100)
 have hL := (Has.alloc w (lttC x) 33).down (ba (Below.refl _ _) (.cells #[u, .string body] 100))
 have hM := Has.alloc (w.alloc (.cells (lttC x).toArray 33)) [u, .string body] 100
 rw [alloc_sz] at hM
 have HH := Lib.hid (And.intro hbA (And.intro hL hM))
 clear hv hgood hj hIH h0 hC hr hbA hL hM
 subst hu
 unfold lttC
 go_enter Tryz.func46, Tryz.ntmps46
 go_upto_region 1 with fail
 refine wp_here (R := fun W => Below w.heap.size w W ∧ Has W w.heap.size (lttC x) ∧ Has W (w.heap.size + 1) [.slice Gv fs.length cv, .string body]) HH.out (fun W1 hW => ?_)
 obtain ⟨hb1, hL, hM⟩ := hW
 have hC1 := HC.out.down hb1
 have hrl : ∀ b, rowB W1 R = some b → b < w.heap.size := by rw [HC.out.row_down hb1]; exact HC.out.row_lt
 have hRw : R < w.heap.size := HC.out.new.1
 have HB1 := Lib.hid hb1; have HL := Lib.hid hL; have HM := Lib.hid hM; have HC1 := Lib.hid hC1; have HRL := Lib.hid hrl; have HRW := Lib.hid hRw
 have HZ1 : Hid (w0.heap.size ≤ W1.heap.size) := Nat.le_trans H0.out.size hb1.size
 have H01 := Lib.hid (bt H0.out hb1)
 clear hb1 hL hM hC1 hrl hRw HH
 go_wp2_with fail
 go_loopw [14] (fun i wr => ∃ (j : Nat) (c' : Crs), i = .int .i64 j ∧ j ≤ l.length ∧ Hid (r = cmdsJ x fs (l.drop j) c') ∧ Cr wr w0.heap.size R c' ∧ WStep R W1 wr ∧ c'.acts.length ≤ 6) (fun i _ => l.length - (intOf i).toNat)
 case atStart => exact ⟨0, c, rfl, Nat.zero_le _, HR.out, HC1.out, WStep.refl _ _, hl⟩
 case round =>
  obtain ⟨j, c', rfl, hj, HD, hC', hS, hl'⟩ := hrel
  have HC' := Lib.hid hC'; have HS := Lib.hid hS; have HL' := Lib.hid hl'
  have hB := H01.out.trans (HC1.out.below HZ1.out hS)
  by_cases hlt : j < l.length
  ·obtain ⟨q, g, off, Gx, cx, Gn, cn, Gk, ck, Gt, ct, Gh, ch, Ge, ce, hq, rfl, hr0, ht, hh, he, hcell⟩ := cmd_get2 HV.out j hlt
   obtain ⟨⟨e0, e1⟩, ⟨e2, e3, e4, e5, e6, e7, e8, e9⟩, e10, e11⟩ := hcell wr hB
   have hst := cmdsJ_step x fs l c' j hlt
   have hls := (GoodJ.iff _).1 (HG.out _ (List.getElem_mem hlt))
   clear hcell
   generalize l[j] = a at hr0 ht hh he e0 e1 e2 e3 e4 e5 e6 e7 e8 e9 e10 e11 hst hls
   obtain ⟨g1, g2, ⟨g3, g4⟩, g5, g6⟩ := hls
   have hcj := cmdJ_eq x fs a c'
   have hplen := cmdJ_len x fs a c' hl'
   obtain ⟨p, hp⟩ : ∃ p, p = cmdJ x fs a c' := ⟨_, rfl⟩
   rw [← hp] at hst hcj hplen
   clear hp
   have hal := ba (Below.refl wr.heap.size wr) (.cells (cmdC a (.slice Gx a.texts.length cx) (tstC a.test (.slice Gn a.test.names.length cn) (.slice Gk a.test.keys.length ck) (.slice Gt a.test.tests.length ct)) (.slice Gh a.thn.length ch) (.slice Ge a.els.length ce)).toArray 50)
   have hBA := bt hB hal
   have hCA := hC'.down hal
   have hRW1 := HC1.out.new.1
   have hSA := hS.down hRW1 hal
   have hLw := (hS.has HL.out (by have := HRW.out; omega) (fun e => Nat.lt_irrefl _ (HRL.out _ e))).down hal
   have hMw := (hS.has HM.out (by have := HRW.out; omega) (fun e => by have := HRL.out _ e; omega)).down hal
   have hKw := Has.alloc wr (cmdC a (.slice Gx a.texts.length cx) (tstC a.test (.slice Gn a.test.names.length cn) (.slice Gk a.test.keys.length ck) (.slice Gt a.test.tests.length ct)) (.slice Gh a.thn.length ch) (.slice Ge a.els.length ce)) 50
   have HDO : Hid (a.kind ≠ 2 → Calls Tryz.prog 79 #[.pointer (some ⟨R, 0, none⟩), .agg (cmdC a (.slice Gx a.texts.length cx) (tstC a.test (.slice Gn a.test.names.length cn) (.slice Gk a.test.keys.length ck) (.slice Gt a.test.tests.length ct)) (.slice Gh a.thn.length ch) (.slice Ge a.els.length ce)).toArray] (wr.alloc (.cells (cmdC a (.slice Gx a.texts.length cx) (tstC a.test (.slice Gn a.test.names.length cn) (.slice Gk a.test.keys.length ck) (.slice Gt a.test.tests.length ct)) (.slice Gh a.thn.length ch) (.slice Ge a.els.length ce)).toArray 50)) (AddP w0.heap.size R p (wr.alloc (.cells (cmdC a (.slice Gx a.texts.length cx) (tstC a.test (.slice Gn a.test.names.length cn) (.slice Gk a.test.keys.length ck) (.slice Gt a.test.tests.length ct)) (.slice Gh a.thn.length ch) (.slice Ge a.els.length ce)).toArray 50)))) := fun hk => by
    have := do_any n w0.heap.size R c' a _ F m _ ((cCmd n).stable hr0 (Same.of_below hBA) hBA.size) (g1 hk) ⟨HJ.out.names.1.of_below hBA HJ.out.names.2, Nat.lt_of_lt_of_le HJ.out.names.2 hBA.size⟩ (moved HJ.out.j.max hBA (Nat.le_refl _)) hBA.size hCA hl'
    rw [if_neg hk] at hcj
    rw [hcj]
    exact this
   have HTS : Hid (a.kind = 2 → Calls Tryz.prog 44 #[.agg (tstC a.test (.slice Gn a.test.names.length cn) (.slice Gk a.test.keys.length ck) (.slice Gt a.test.tests.length ct)).toArray, .agg (lttC x).toArray, .agg #[.slice Gv fs.length cv, .string body]] (wr.alloc (.cells (cmdC a (.slice Gx a.texts.length cx) (tstC a.test (.slice Gn a.test.names.length cn) (.slice Gk a.test.keys.length ck) (.slice Gt a.test.tests.length ct)) (.slice Gh a.thn.length ch) (.slice Ge a.els.length ce)).toArray 50)) (AskP (tstJ x fs a.test) (wr.alloc (.cells (cmdC a (.slice Gx a.texts.length cx) (tstC a.test (.slice Gn a.test.names.length cn) (.slice Gk a.test.keys.length ck) (.slice Gt a.test.tests.length ct)) (.slice Gh a.thn.length ch) (.slice Ge a.els.length ce)).toArray 50)))) := fun hk =>
    test_every (q + 1) a.test _ F x _ body fs m _ ((cTst (q + 1)).stable ht (Same.of_below hBA) hBA.size) (g2 hk) (HJ.out.j.down hBA)
   have HI1 : Hid (∀ W, Below w0.heap.size w0 W → Cr W w0.heap.size R c' → Calls Tryz.prog 46 #[.pointer (some ⟨R, 0, none⟩), .slice Gh a.thn.length ch, .agg (lttC x).toArray, .agg #[.slice Gv fs.length cv, .string body]] W (AddP w0.heap.size R (cmdsJ x fs a.thn c') W)) := fun W hW hCW =>
    HIH.out q (by omega) a.thn _ F x _ body fs m w0 R c' W hh g5 g3 HJ.out hW hCW hl'
   have HI2 : Hid (∀ W, Below w0.heap.size w0 W → Cr W w0.heap.size R c' → Calls Tryz.prog 46 #[.pointer (some ⟨R, 0, none⟩), .slice Ge a.els.length ce, .agg (lttC x).toArray, .agg #[.slice Gv fs.length cv, .string body]] W (AddP w0.heap.size R (cmdsJ x fs a.els c') W)) := fun W hW hCW =>
    HIH.out q (by omega) a.els _ F x _ body fs m w0 R c' W he g6 g4 HJ.out hW hCW hl'
   have HBA := Lib.hid hBA; have HCA := Lib.hid hCA; have HSA := Lib.hid hSA; have HLw := Lib.hid hLw; have HMw := Lib.hid hMw; have HKw := Lib.hid hKw; have HCJ := Lib.hid hcj
   obtain ⟨pc, pb⟩ := p
   have HST : Hid (cmdsJ x fs (l.drop j) c' = if pb = true then cmdsJ x fs (l.drop (j + 1)) pc else (pc, pb)) := hst
   have HPL : Hid (pc.acts.length ≤ 6) := hplen
   have HRW1 := Lib.hid hRW1
   have hjn : (j : Int) < l.length := by omega
   clear hr0 ht hh he g1 g2 g3 g4 g5 g6 hst hcj hplen hal hBA hCA hSA hLw hMw hKw hB hC' hS hRW1 hq
   obtain ⟨kind, tx, t, th, el⟩ := a
   unfold cmdC tstC at *
   simp only at *
   dsimp only [List.cons_append, List.nil_append] at *
   by_cases hk : kind = 2
   ·subst hk
    have HT := Lib.hid (HTS.out rfl)
    clear HTS HDO
    obtain ⟨l0, l1, l2, l3, l4⟩ := ltt_get HLw.out
    obtain ⟨m0, m1, -⟩ := HMw.out.two
    unfold lttC at HT HI1 HI2
    go_wp2_with fail
    refine HT.out.mono ?_
    rintro e w3 ⟨rfl, hb3⟩
    have hb03 := bt HBA.out hb3
    have HI1 := Lib.hid (HI1.out w3 hb03 (HCA.out.down hb3))
    have HI2 := Lib.hid (HI2.out w3 hb03 (HCA.out.down hb3))
    have HS3 := Lib.hid (HSA.out.down HRW1.out hb3)
    obtain ⟨d0, d1, d2, d3, d4, d5, d6, d7, d8, d9, d10, d11⟩ := Sc.has_twelve2 (HKw.out.down hb3)
    clear l0 l1 l2 l3 l4 m0 m1 e0 e1 e2 e3 e4 e5 e6 e7 e8 e9 e10 e11 HT hb03
    obtain ⟨l0, l1, l2, l3, l4⟩ := ltt_get (HLw.out.down hb3)
    obtain ⟨m0, m1, -⟩ := (HMw.out.down hb3).two
    clear hb3
    cases htr : tstJ x fs t with
    | true =>
     have hp : (pc, pb) = cmdsJ x fs th c' := by rw [HCJ.out, if_pos True.intro, if_pos htr]
     rw [← hp] at HI1
     clear hp htr HCJ HI2
     go_wp2_with fail
     refine (HI1.out).mono ?_
     rintro e w4 ⟨rfl, h2, h3⟩
     have hs4 := Lib.hid (HS3.out.trans h3)
     clear h3 l0 l1 l2 l3 l4 m0 m1 d0 d1 d2 d3 d4 d5 d6 d7 d8 d9 d10 d11 HI1
     cases pb with
     | true =>
      have hd2 : Hid (r = cmdsJ x fs (l.drop (j + 1)) pc) := by unfold Hid; rw [HD.out, HST.out]; rfl
      go_wp2_with fail
      go_roundw
      case rel => exact ⟨j + 1, pc, by go_num, hlt, hd2.out, h2, hs4.out, HPL.out⟩
      case measure => simp [intOf]; omega
     | false =>
      have hr : Hid (r = (pc, false)) := by unfold Hid; rw [HD.out, HST.out]; rfl
      go_wp2_with fail
      go_ret
      have hr := hr.out
      subst hr
      exact ⟨rfl, h2, ((WStep.refl R w).down HRW.out HB1.out).trans hs4.out⟩
    | false =>
     have hp : (pc, pb) = cmdsJ x fs el c' := by rw [HCJ.out, if_pos True.intro, if_neg (by rw [htr]; decide)]
     rw [← hp] at HI2
     clear hp htr HCJ HI1
     go_wp2_with fail
     refine (HI2.out).mono ?_
     rintro e w4 ⟨rfl, h2, h3⟩
     have hs4 := Lib.hid (HS3.out.trans h3)
     clear h3 l0 l1 l2 l3 l4 m0 m1 d0 d1 d2 d3 d4 d5 d6 d7 d8 d9 d10 d11 HI2
     cases pb with
     | true =>
      have hd2 : Hid (r = cmdsJ x fs (l.drop (j + 1)) pc) := by unfold Hid; rw [HD.out, HST.out]; rfl
      go_wp2_with fail
      go_roundw
      case rel => exact ⟨j + 1, pc, by go_num, hlt, hd2.out, h2, hs4.out, HPL.out⟩
      case measure => simp [intOf]; omega
     | false =>
      have hr : Hid (r = (pc, false)) := by unfold Hid; rw [HD.out, HST.out]; rfl
      go_wp2_with fail
      go_ret
      have hr := hr.out
      subst hr
      exact ⟨rfl, h2, ((WStep.refl R w).down HRW.out HB1.out).trans hs4.out⟩
   ·have HDX := Lib.hid (HDO.out hk)
    have hk2 : (kind != 2) = true := by rw [bne, beq_eq_false_iff_ne.2 hk]; rfl
    clear HDO HTS HI1 HI2 HCJ hk
    go_wp2_with fail
    refine (HDX.out).mono ?_
    rintro e w4 ⟨rfl, h2, h3⟩
    have hs4 := Lib.hid (HSA.out.trans h3)
    clear h3 e0 e1 e2 e3 e4 e5 e6 e7 e8 e9 e10 e11 HDX
    cases pb with
    | true =>
     have hd2 : Hid (r = cmdsJ x fs (l.drop (j + 1)) pc) := by unfold Hid; rw [HD.out, HST.out]; rfl
     go_wp2_with fail
     go_roundw
     case rel => exact ⟨j + 1, pc, by go_num, hlt, hd2.out, h2, hs4.out, HPL.out⟩
     case measure => simp [intOf]; omega
    | false =>
     have hr : Hid (r = (pc, false)) := by unfold Hid; rw [HD.out, HST.out]; rfl
     go_wp2_with fail
     go_ret
     have hr := hr.out
     subst hr
     exact ⟨rfl, h2, ((WStep.refl R w).down HRW.out HB1.out).trans hs4.out⟩
  ·obtain rfl : j = l.length := by omega
   have hz : Hid (r = (c', true)) := by unfold Hid; rw [HD.out, List.drop_length, cmdsJ]
   clear hC' hS hl' hB HD
   go_wp2_with fail
   go_ret
   have hr := hz.out
   subst hr
   exact ⟨rfl, HC'.out, ((WStep.refl R w).down HRW.out HB1.out).trans HS.out⟩
theorem all_every (n : Nat) : AllJP n := by
 induction n using Nat.strongRecOn with
 | _ n ih => exact all_step n ih
end Go.Proofs.YtpfbkdbblpppdaaGreatDoor.Jd
namespace Go.Proofs.YtpfbkdbblpppdaaGreatDoor.Jd
open Go.RowKit
open Sc (Str Tst Cmd cStr strC tstC cTst cCmd cmdC RW Stk cStk WStep rowB)
def C0 : Crs := ⟨[], 0, false, 0⟩
def JudgeP (c : Crs) (w : World) (e : Ending) (w' : World) : Prop := ∃ u, e = .returned (.tuple #[.agg #[u, .int .i64 c.flags, .bool c.asked, .int .i64 c.fault], .int .i64 0]) ∧ w'.ownsRow w.heap.size 65 3 u c.acts.length (c.acts.flatMap actC) ∧ Below w.heap.size w w'
theorem row_base {w : World} {base base' : Nat} {t : TypeId} {k n : Nat} {v : Value} {L : List Value} (h : w.ownsRow base t k v n L) (hb : base' ≤ base) : w.ownsRow base' t k v n L := by
 obtain ⟨h1, h2 | ⟨g, cap, cur, a, b, c⟩⟩ := h
 ·exact ⟨h1, .inl h2⟩
 ·exact ⟨h1, .inr ⟨g, cap, cur, a, Nat.le_trans hb b, c⟩⟩
theorem row_four {w : World} {base : Nat} {t : TypeId} {k n : Nat} {v : Value} {L : List Value} {B : Nat} (h : w.ownsRow base t k v n L) (hB : B < base) (a b c d : Value) : ((((w.setCell ⟨B, 0, none⟩ a).setCell ⟨B, 1, none⟩ b).setCell ⟨B, 2, none⟩ c).setCell ⟨B, 3, none⟩ d).ownsRow base t k v n L := by
 have hne : v.ownBlock ≠ some B := fun e => by have := (World.ownsRow.lt h _ e).1; omega
 exact row_off (row_off (row_off (row_off h hne _ _) hne _ _) hne _ _) hne _ _
theorem judge_any (n : Nat) (cs : List Cmd) (v : Value) (F : Dom) (x : Ltt) (fs : List Fld) (body : Str) (m : Int) (w : World) (hv : SAt (cCmd n) w F v cs) (hgood : ∀ a ∈ cs, GoodJ a) (hlen : cs.length ≤ 1000000) (hN : NamesAt w ∧ 2 < w.heap.size) (hm : w.cell? ⟨6, 0, none⟩ = some (.int .i64 m)) (hx : LetOK x fs body)
    (hck : ∀ V, Below w.heap.size w V → Calls Tryz.prog 33 #[v] V fun e w' => e = .returned (.int .i64 0) ∧ Below V.heap.size V w') :
    Calls Tryz.prog 20 #[v, .agg (lttC x).toArray] w (JudgeP (cmdsJ x fs cs C0).1 w) := by
 obtain ⟨Gc, cc, rfl, -⟩ := hv.form
 obtain ⟨r, hr⟩ : ∃ r, r = cmdsJ x fs cs C0 := ⟨_, rfl⟩
 rw [← hr]
 have HR := Lib.hid hr; have HV := Lib.hid hv; have HG := Lib.hid hgood; have HNM := Lib.hid hN; have HM := Lib.hid hm; have HX := Lib.hid hx; have HCK := Lib.hid hck
 have HCL : Hid (∀ V, Below w.heap.size w V → Calls Tryz.prog 43 #[.agg (lttC x).toArray] V (ChkP fs body V)) := fun V hV => jcheck_any x fs body m V hx (moved hm hV (Nat.le_refl _))
 have hA1 := ba (Below.refl w.heap.size w) (.cells (lttC x).toArray 33)
 have hA2 := ba (Below.refl (w.alloc (.cells (lttC x).toArray 33)).heap.size (w.alloc (.cells (lttC x).toArray 33))) (.cells #[.slice none 0 0, .int .i64 0, .bool false, .int .i64 0] 53)
 have hL0 := (Has.alloc w (lttC x) 33).down hA2
 have hB0 := Has.alloc (w.alloc (.cells (lttC x).toArray 33)) [.slice none 0 0, .int .i64 0, .bool false, .int .i64 0] 53
 rw [World.size_alloc] at hB0
 have H0 := Lib.hid (And.intro hL0 (And.intro hB0 (bt hA1 hA2)))
 clear hr hv hgood hN hm hx hck hA1 hA2 hL0 hB0
 unfold lttC at HCL H0 ⊢
 go_enter Tryz.func20, Tryz.ntmps20
 go_upto_region 1 with fail
 refine wp_here (R := fun W => Has W w.heap.size (lttC x) ∧ Has W (w.heap.size + 1) [.slice none 0 0, .int .i64 0, .bool false, .int .i64 0] ∧ Below w.heap.size w W) H0.out (fun W hW => ?_)
 obtain ⟨hL, hB, hBW⟩ := hW
 clear H0
 obtain ⟨L, hLe⟩ : ∃ L, L = w.heap.size := ⟨_, rfl⟩
 obtain ⟨B, hBe⟩ : ∃ B, B = w.heap.size + 1 := ⟨_, rfl⟩
 have hBs : B < W.heap.size := by rw [hBe]; exact hB.2.2
 have HBS := Lib.hid hBs
 have HBL : Hid (w.heap.size ≤ B) := by unfold Hid; omega
 rw [← hLe] at hL
 rw [← hBe] at hB
 rw [← hBe, ← hLe]
 have HL := Lib.hid hL; have HB := Lib.hid hB; have HBW := Lib.hid hBW
 have HC1 := Lib.hid (HCK.out W hBW)
 clear hL hB hBW hLe hBe hBs HCK
 go_wp2_with fail
 refine HC1.out.mono ?_
 rintro e w1 ⟨rfl, hb1⟩
 have HB1 := Lib.hid hb1
 obtain ⟨l0, l1, l2, l3, l4⟩ := ltt_get (HL.out.down hb1)
 have HC := Lib.hid (HCL.out w1 (bt HBW.out hb1))
 clear hb1 HC1
 go_wp2_with fail
 refine HC.out.mono ?_
 intro e w3 hp
 obtain ⟨u, rfl, hf3, hb3⟩ := hp
 obtain ⟨G, cap, rfl, -⟩ := id hf3
 clear l0 l1 l2 l3 l4 HC
 go_upto_region 8 with fail
 have hA := ba (Below.refl w3.heap.size w3) (.cells #[.slice G fs.length cap, .string ⟨body.toArray⟩] 100)
 have hB4 := bt (bt HB1.out hb3) hA
 have hM4 := Has.alloc w3 [.slice G fs.length cap, .string ⟨body.toArray⟩] 100
 have hL4 := HL.out.down hB4
 have hK4 := HB.out.down hB4
 have hf4 := hf3.down hA
 obtain ⟨W4, hW4⟩ : ∃ W4, W4 = w3.alloc (.cells #[.slice G fs.length cap, .string ⟨body.toArray⟩] 100) := ⟨_, rfl⟩
 have hsz : W4.heap.size = w3.heap.size + 1 := by rw [hW4, World.size_alloc]
 rw [show w3.alloc (.cells [.slice G fs.length cap, .string ⟨body.toArray⟩].toArray 100) = W4 from hW4.symm] at hM4
 rw [← hW4] at hA hB4 hL4 hK4 hf4 ⊢
 have HM4 := Lib.hid hM4
 clear hW4 hA hf3 hb3
 have hcr : Cr (W4.alloc (.cells #[.slice none 0 0, .int .i64 0, .bool false, .int .i64 0] 113)) W4.heap.size W4.heap.size C0 :=
  ⟨.slice none 0 0, Has.alloc W4 [.slice none 0 0, .int .i64 0, .bool false, .int .i64 0] 113, Nat.le_refl _, World.ownsRow_nil _ _ _ _, by simp [Value.ownBlock]⟩
 have hb5 := ba (Below.refl W4.heap.size W4) (.cells #[.slice none 0 0, .int .i64 0, .bool false, .int .i64 0] 113)
 have hbw := bt HBW.out hB4
 have hin : AllIn W4 x (.slice G fs.length cap) fs m := ⟨⟨HX.out.ltt, ⟨hf4, HX.out.flds⟩, moved HM.out hbw (Nat.le_refl _)⟩, HNM.out.1.of_below hbw HNM.out.2, Nat.lt_of_lt_of_le HNM.out.2 hbw.size⟩
 have HALL := Lib.hid (all_every n cs _ F x (.slice G fs.length cap) ⟨body.toArray⟩ fs m W4 W4.heap.size C0 _ (HV.out.down hbw) HG.out hlen hin hb5 hcr (by unfold C0; decide))
 rw [← HR.out] at HALL
 have hL5 := hL4.down hb5
 have hM5 := hM4.down hb5
 have HK5 := Lib.hid (hK4.down hb5)
 have HCR := Lib.hid hcr
 have HBW4 := Lib.hid hbw
 have HB5 := Lib.hid hb5
 have HBx : Hid (B < W4.heap.size) := Nat.lt_of_lt_of_le HBS.out hB4.size
 obtain ⟨l0, l1, l2, l3, l4⟩ := ltt_get hL5
 obtain ⟨m0, m1, -⟩ := hM5.two
 unfold lttC at HALL
 obtain ⟨R, hRe⟩ : ∃ R, R = w3.heap.size + 1 := ⟨_, rfl⟩
 have hsR : W4.heap.size = R := by rw [hRe]; exact hsz
 rw [hsR] at HALL HCR HB5 HBx
 have HWR : Hid (w.heap.size ≤ R) := by have := HBW4.out.size; unfold Hid; omega
 have HRW : Hid (R ≤ (W4.alloc (.cells #[.slice none 0 0, .int .i64 0, .bool false, .int .i64 0] 113)).heap.size) := by unfold Hid; rw [World.size_alloc, hsR]; omega
 have HB45 := Lib.hid (bt HBW4.out (ba (Below.refl W4.heap.size W4) (.cells #[.slice none 0 0, .int .i64 0, .bool false, .int .i64 0] 113)))
 rw [← hRe]
 clear hB4 hL4 hK4 hf4 hcr hb5 hbw hin hL5 hM5 hM4 hsR hsz hRe
 go_wp2_with fail
 refine HALL.out.mono ?_
 rintro e w5 ⟨rfl, hc5, hs5⟩
 have hk := hs5.has HK5.out (by have := HBx.out; omega) (fun e => by
  obtain ⟨v, h1, h2, h3, h4⟩ := HCR.out
  rw [rowB_cell (h1.1 0 _ rfl)] at e
  have := (World.ownsRow.lt h3 _ e).1
  have := HBx.out
  omega)
 have HB5' := Lib.hid (HB45.out.trans ((HCR.out.below HRW.out hs5).mono HWR.out))
 obtain ⟨⟨acts, flags, asked, fault⟩, b⟩ := r
 obtain ⟨v, h1, h2, h3, h4⟩ := hc5
 dsimp only at h1 h3
 obtain ⟨Gv, cv, rfl⟩ := Sc.row_slice h3
 have r0 := h1.1 0 _ rfl
 have r1 := h1.1 1 _ rfl
 have r2 := h1.1 2 _ rfl
 have r3 := h1.1 3 _ rfl
 have k0 := hk.1 0 _ rfl
 have k1 := hk.1 1 _ rfl
 have k2 := hk.1 2 _ rfl
 have k3 := hk.1 3 _ rfl
 have f0 := hk.2.1 0 (by simp)
 have f1 := hk.2.1 1 (by simp)
 have f2 := hk.2.1 2 (by simp)
 have f3 := hk.2.1 3 (by simp)
 have hBR : B ≠ R := by have := HBx.out; omega
 have HROW := Lib.hid (row_four h3 HBx.out (.slice Gv acts.length cv) (.int .i64 flags) (.bool asked) (.int .i64 fault))
 have HEND := Lib.hid ((((HB5'.out.setCell (p := ⟨B, 0, none⟩) HBL.out (.slice Gv acts.length cv)).setCell (p := ⟨B, 1, none⟩) HBL.out (.int .i64 flags)).setCell (p := ⟨B, 2, none⟩) HBL.out (.bool asked)).setCell (p := ⟨B, 3, none⟩) HBL.out (.int .i64 fault))
 have hE := (((hk.set' (i := 0) (.slice Gv acts.length cv) (by simp)).set' (i := 1) (.int .i64 flags) (by simp)).set' (i := 2) (.bool asked) (by simp)).set' (i := 3) (.int .i64 fault) (by simp)
 have e0 := hE.1 0 _ rfl
 have e1 := hE.1 1 _ rfl
 have e2 := hE.1 2 _ rfl
 have e3 := hE.1 3 _ rfl
 have HE := Lib.hid (And.intro e0 (And.intro e1 (And.intro e2 e3)))
 clear l0 l1 l2 l3 l4 m0 m1 h1 h2 h3 h4 hs5 hk HALL hE e0 e1 e2 e3
 go_wp2_with fail
 obtain ⟨e0, e1, e2, e3⟩ := HE.out
 refine bodyPost_ret (v := .tuple #[.agg #[.slice Gv acts.length cv, .int .i64 flags, .bool asked, .int .i64 fault], .int .i64 0]) (by simp [results, Tryz.results20, go_sem, e0, e1, e2, e3]) rfl ?_
 exact ⟨_, rfl, row_base HROW.out HWR.out, HEND.out⟩
theorem acts_len (l : List Act) : (l.flatMap actC).length = l.length * 3 := by
 induction l with
 | nil => rfl
 | cons a l ih => rw [List.flatMap_cons, List.length_append, ih, List.length_cons]; show 3 + _ = _; omega
theorem acts_at : ∀ (l : List Act) (j : Nat) (u : Value), (l.flatMap actC)[j]? = some u → ∃ (k : Nat) (h : k < l.length) (i : Nat), j = k * 3 + i ∧ (actC l[k])[i]? = some u
 | [], j, u, h => by cases h
 | a :: l, j, u, h => by
  by_cases hj : j < 3
  ·refine ⟨0, by simp, j, by omega, ?_⟩
   rw [List.flatMap_cons, List.getElem?_append_left (by show j < 3; exact hj)] at h
   exact h
  ·rw [List.flatMap_cons, List.getElem?_append_right (by show 3 ≤ j; omega)] at h
   obtain ⟨k, hk, i, e, g⟩ := acts_at l (j - 3) u h
   exact ⟨k + 1, by simp; omega, i, by omega, g⟩
theorem acts_cells {w : World} {F : Dom} {x : Addr} {n cap : Nat} {l : List Act} (h : SAt cAct w F (.slice (some x) n cap) l) : ∀ j u, (l.flatMap actC)[j]? = some u → w.cell? (x.add j) = some u := by
 intro j u hj
 obtain ⟨k, hk, i, rfl, hu⟩ := acts_at l j u hj
 obtain ⟨g, off, vs, hG, hF, hg, hv, hc⟩ := h.get k hk
 obtain rfl : vs = actC l[k] := hv
 obtain rfl := Option.some.inj hG
 have := hc i u hu
 rw [Addr.add_lit]
 rw [show off + (k * 3 + i) = off + k * 3 + i by omega]
 exact this
theorem cloneA_any (v : Value) (l : List Act) (F : Dom) (w : World) (h : SAt cAct w F v l) (hl : l.length ≤ 200000) :
    Calls Tryz.prog 81 #[v] w fun e w' => (∃ v', e = .returned v' ∧ w'.ownsRow w.heap.size 65 3 v' l.length (l.flatMap actC)) ∧ Below w.heap.size w w' := by
 obtain ⟨a, cap, rfl, hcap⟩ := h.form
 have q22 : ∀ (w : World) (a : Option Addr) (n c n' c' : Nat), (binOp .eql 51 (.slice a n c) (.slice none n' c')).run Tryz.prog w = .ok (.bool a.isNone) w := fun w a n c n' c' => Lib.run_eql_slice_nil w _ _ a n c n' c' Tryz.underlying51
 cases a with
 | none =>
  have hl0 : l = [] := by
   cases l with
   | nil => rfl
   | cons c l =>
    obtain ⟨_, _, _, h, _⟩ := h.get 0 (Nat.succ_pos _)
    cases h
  subst hl0
  go_enter Tryz.func81, Tryz.ntmps81
  go_wp2_with fail
  go_ret
  exact ⟨⟨_, rfl, World.ownsRow_nil _ _ _ _⟩, Below.refl _ _⟩
 | some x =>
  obtain ⟨i0, hi, hz0, hz1, hz2⟩ := Sc.info_three infoAct
  have HI := Lib.hid hi; have HZ0 := Lib.hid hz0; have HZ1 := Lib.hid hz1; have HZ2 := Lib.hid hz2
  clear hi hz0 hz1 hz2
  have hA := ba (Below.refl w.heap.size w) (.cells #[] 65)
  have A : Hid (∀ j u, (l.flatMap actC)[j]? = some u → (w.alloc (.cells #[] 65)).cell? (x.add j) = some u) := acts_cells (h.down hA)
  have HL := Lib.hid (acts_len l)
  clear hA h
  go_enter Tryz.func81, Tryz.ntmps81
  go_wp2_with (at_builtin; refine wpList_append_own _ rfl _ _ 51 rfl w.heap.size 65 i0 (.agg #[.int .i64 0, .string ⟨#[]⟩, .int .i64 0]) 3 32 Tryz.underlying51 HI.out HZ0.out HZ1.out HZ2.out rfl (by decide) _ _ _ rfl (World.ownsRow_made w #[] 0 (Nat.le_refl _) (Nat.zero_le _) rfl) x l.length cap (l.flatMap actC) rfl ?qc1 A.out ?qc3 ?qc4 ?qc5 ?qc6 ?_)
  case qc1 => exact HL.out
  case qc3 => intro u hu; obtain ⟨y, _, hy⟩ := List.mem_flatMap.1 hu; simp [actC] at hy; rcases hy with rfl | rfl | rfl <;> rfl
  case qc4 => unfold maxLen; omega
  case qc5 => omega
  case qc6 => simp
  intro v' w1 hown hgrow _
  clear A
  go_wp2_with fail
  go_ret
  refine ⟨⟨v', rfl, by simpa using hown⟩, ?_⟩
  exact ((Below.refl _ w).alloc (Nat.le_refl _) _).grown hgrow (by simp) (by intro k hk; simp [Value.ownBlock] at hk; omega)
def keepA (f : Int) : Act := ⟨3, [], f⟩
def endJ (c : Crs) : List Act := if c.fault ≠ 0 then [keepA 0] else if c.asked = false then [keepA c.flags] else c.acts
def EndP (l : List Act) (w : World) (e : Ending) (w' : World) : Prop := (∃ u, e = .returned (.tuple #[u, .int .i64 0]) ∧ w'.ownsRow w.heap.size 65 3 u l.length (l.flatMap actC)) ∧ Below w.heap.size w w'
theorem end1_any (R : Nat) (v : Value) (c : Crs) (F : Dom) (w : World) (hR : Has w R [v, .int .i64 c.flags, .bool c.asked, .int .i64 c.fault]) (h : SAt cAct w F v c.acts) (hl : c.acts.length ≤ 6) :
    Calls Tryz.prog 49 #[.pointer (some ⟨R, 0, none⟩)] w fun e w' => (∃ u, e = .returned u ∧ w'.ownsRow w.heap.size 65 3 u (endJ c).length ((endJ c).flatMap actC)) ∧ Below w.heap.size w w' := by
 have HC := Lib.hid (cloneA_any v c.acts F w h (by omega))
 obtain ⟨a, cap, rfl, hcap⟩ := h.form
 obtain ⟨acts, flags, asked, fault⟩ := c
 dsimp only at hR HC hl
 have r0 := hR.1 0 _ rfl
 have r1 := hR.1 1 _ rfl
 have r2 := hR.1 2 _ rfl
 have r3 := hR.1 3 _ rfl
 obtain ⟨i0, hi, hz0, hz1, hz2⟩ := Sc.info_three infoAct
 clear h hR
 by_cases hf : fault = 0
 ·subst hf
  cases asked with
  | false =>
   have he : Hid (endJ ⟨acts, flags, false, 0⟩ = [keepA flags]) := rfl
   rw [he.out]
   go_enter Tryz.func49, Tryz.ntmps49
   go_wp2_with fail
   go_ret
   exact ⟨⟨_, rfl, World.ownsRow_lit (base := w.heap.size) (size := 3) w #[.int .i64 3, .string ⟨#[]⟩, .int .i64 flags] 1 (Nat.le_refl _) (by decide) rfl⟩, ba (Below.refl _ _) _⟩
  | true =>
   have he : Hid (endJ ⟨acts, flags, true, 0⟩ = acts) := rfl
   rw [he.out]
   go_enter Tryz.func49, Tryz.ntmps49
   go_wp2_with fail
   refine HC.out.mono ?_
   rintro e w1 ⟨⟨u, rfl, hown⟩, hb⟩
   go_wp2_with fail
   go_ret
   exact ⟨⟨_, rfl, hown⟩, hb⟩
 ·have he : Hid (endJ ⟨acts, flags, asked, fault⟩ = [keepA 0]) := by unfold Hid endJ; rw [if_pos hf]
  rw [he.out]
  have hq : (fault != 0) = true := by rw [bne, beq_eq_false_iff_ne.2 hf]; rfl
  clear he hf
  go_enter Tryz.func49, Tryz.ntmps49
  go_wp2_with fail
  go_ret
  exact ⟨⟨_, rfl, World.ownsRow_lit (base := w.heap.size) (size := 3) w #[.int .i64 3, .string ⟨#[]⟩, .int .i64 0] 1 (Nat.le_refl _) (by decide) rfl⟩, ba (Below.refl _ _) _⟩
end Go.Proofs.YtpfbkdbblpppdaaGreatDoor.Jd
namespace Go.Proofs.YtpfbkdbblpppdaaGreatDoor.Jd
open Go.RowKit
open Sc (Str Tst Cmd cStr strC tstC cTst cCmd cmdC RW Stk cStk WStep rowB flagL)
def FlagOk (c : Crs) : Prop := ∃ n : Nat, n < 32 ∧ c.flags = (n : Int)
theorem addJ_flag {c : Crs} {a : Act} (h : FlagOk c) : FlagOk (addJ c a).1 := by
 unfold addJ
 split
 ·exact h
 ·split
  ·exact h
  ·split
   ·exact h
   ·exact h
theorem doJ_flag {c : Crs} {a : Cmd} (h : FlagOk c) (hd : DoOk a) : FlagOk (doJ c a).1 := by
 unfold doJ
 split
 ·exact h
 ·split
  ·next _ hk =>
   obtain ⟨k, h5, ht⟩ := hd.flag (.inl hk)
   refine ⟨flOf [k], flOf_lt _ (by intro x hx; rw [List.mem_singleton] at hx; omega), ?_⟩
   show flJ a.texts = _
   rw [ht, flJ_one k h5]
  ·split
   ·next _ _ hk =>
    obtain ⟨k, h5, ht⟩ := hd.flag (.inr hk)
    obtain ⟨n, hn, hc⟩ := h
    have hf : flOf [k] < 32 := flOf_lt _ (by intro x hx; rw [List.mem_singleton] at hx; omega)
    refine ⟨n ||| flOf [k], ?_, ?_⟩
    ·exact Nat.or_lt_two_pow (n := 5) hn hf
    ·show orJ c.flags (flJ a.texts) = _
     rw [ht, flJ_one k h5, hc]
     exact or_i64 n (flOf [k]) hn hf
   ·split
    ·exact h
    ·exact addJ_flag h
theorem C0_flag : FlagOk C0 := ⟨0, by decide, rfl⟩
theorem chkc_any (v : Value) (c : Crs) (F : Dom) (w : World) (h : SAt cAct w F v c.acts) (hl : c.acts.length ≤ 6) (hf : FlagOk c) :
    Calls Tryz.prog 48 #[.agg #[v, .int .i64 c.flags, .bool c.asked, .int .i64 c.fault]] w fun e w' => e = .returned (.int .i64 0) ∧ Below w.heap.size w w' := by
 obtain ⟨a, cap, rfl, hcap⟩ := h.form
 obtain ⟨n, hn, hfl⟩ := hf
 obtain ⟨acts, flags, asked, fault⟩ := c
 dsimp only at hfl hl
 subst hfl
 obtain ⟨k, hk⟩ : ∃ k, k = acts.length := ⟨_, rfl⟩
 dsimp only
 rw [← hk] at hl ⊢
 clear h hcap hk
 have q1 : decide ((6 : Int) < (k : Int)) = false := decide_eq_false (by omega)
 have q2 : decide ((n : Int) < 0) = false := decide_eq_false (by omega)
 have q3 : decide ((32 : Int) ≤ (n : Int)) = false := decide_eq_false (by omega)
 go_enter Tryz.func48, Tryz.ntmps48
 go_wp2_with fail
 go_ret
 exact ⟨rfl, ba (Below.refl _ _) _⟩
theorem end_any (v : Value) (c : Crs) (F : Dom) (w : World) (h : SAt cAct w F v c.acts) (hl : c.acts.length ≤ 6) (hf : FlagOk c) :
    Calls Tryz.prog 24 #[.agg #[v, .int .i64 c.flags, .bool c.asked, .int .i64 c.fault]] w (EndP (endJ c) w) := by
 have HV := Lib.hid h
 have HF := Lib.hid hf
 obtain ⟨a, cap, rfl, hcap⟩ := h.form
 have hA := ba (Below.refl w.heap.size w) (.cells #[.slice a c.acts.length cap, .int .i64 c.flags, .bool c.asked, .int .i64 c.fault] 53)
 have hH := Has.alloc w [.slice a c.acts.length cap, .int .i64 c.flags, .bool c.asked, .int .i64 c.fault] 53
 have HC := Lib.hid (chkc_any _ c F _ (h.down hA) hl hf)
 have HA := Lib.hid hA; have HH := Lib.hid hH
 clear hA hH h hcap hf
 go_enter Tryz.func24, Tryz.ntmps24
 go_wp2_with fail
 refine HC.out.mono ?_
 rintro e w1 ⟨rfl, hb1⟩
 have hH1 := HH.out.down hb1
 have r0 := hH1.1 0 _ rfl
 have r1 := hH1.1 1 _ rfl
 have r2 := hH1.1 2 _ rfl
 have r3 := hH1.1 3 _ rfl
 have hB1 := bt HA.out hb1
 have hA2 := ba (Below.refl w1.heap.size w1) (.cells #[.slice a c.acts.length cap, .int .i64 c.flags, .bool c.asked, .int .i64 c.fault] 113)
 have hB2 := bt hB1 hA2
 have HE := Lib.hid (end1_any w1.heap.size _ c F _ (Has.alloc w1 [.slice a c.acts.length cap, .int .i64 c.flags, .bool c.asked, .int .i64 c.fault] 113) (HV.out.down hB2) hl)
 have HB2 := Lib.hid hB2
 clear hb1 hH1 hB1 hA2 hB2 HC
 go_wp2_with fail
 refine HE.out.mono ?_
 rintro e w3 ⟨⟨u, rfl, hown⟩, hb3⟩
 have HB3 := Lib.hid (bt HB2.out hb3)
 have HO := Lib.hid (row_base hown (show w.heap.size ≤ _ from HB2.out.size))
 clear hb3 hown HE r0 r1 r2 r3
 go_wp2_with fail
 go_ret2
 exact ⟨⟨_, rfl, HO.out⟩, HB3.out⟩
end Go.Proofs.YtpfbkdbblpppdaaGreatDoor.Jd
namespace Go.Proofs.YtpfbkdbblpppdaaGreatDoor.Jd
open Go.RowKit
open Sc (Str Tst Cmd Stk cmdS textsS kindC redirW fileW flagW flagL T0 testS kindC_ok)
theorem nilC {P : Cmd → Prop} : ∀ s ∈ ([] : List Cmd), P s := fun s h => by cases h
theorem plain_do (x : Stk) {k : Int} (hk : 3 ≤ k ∧ k ≤ 10) : DoOk ⟨k, textsS k x, T0, [], []⟩ := by
 obtain ⟨⟨h5, h6, h8, hkk, -, -⟩, -, -, -⟩ := (Sc.GoodC.iff _).1 (Sc.plain_good x hk)
 have a3 := pick_lt_int x.a 3 (by omega)
 refine ⟨⟨hkk.1, hkk.2, by show k ≠ 2; omega⟩, fun h => ?_, fun h => ?_, h8⟩
 ·rcases h with h | h
  ·obtain ⟨s, hs, -⟩ := h5 h; exact ⟨s, hs⟩
  ·have h' : k = 7 := h
   subst h'
   exact ⟨_, rfl⟩
 ·have h' : k = 6 := h
  subst h'
  obtain ⟨y, hy⟩ := Sc.one_of.1 (Sc.redirW_ok (pick x.a 3) (by omega))
  refine ⟨redirW.getD (pick x.a 3) [], y, rfl, ?_, hy⟩
  have : ∀ n : Nat, n < 3 → (redirW.getD n []).length ≤ 2000 := by decide
  exact this _ (by omega)
theorem plain_goodJ (x : Stk) {k : Int} (hk : 3 ≤ k ∧ k ≤ 10) : GoodJ ⟨k, textsS k x, T0, [], []⟩ :=
 (GoodJ.iff _).2 ⟨fun _ => plain_do x hk, fun h => absurd h (by show k ≠ 2; omega), ⟨Nat.zero_le _, Nat.zero_le _⟩, nilC, nilC⟩
theorem cmdS_goodJ : ∀ (m : Nat) (x : Stk), GoodJ (cmdS m x)
 | 0, x => by
  have hk := kindC_ok x
  rw [cmdS]
  by_cases h2 : kindC x = 2
  ·have e : textsS (kindC x) x = textsS 3 x := by rw [h2]; rfl
   rw [if_pos h2, e]; exact plain_goodJ x (by decide)
  ·rw [if_neg h2]; exact plain_goodJ x (by omega)
 | m + 1, x => by
  have hk := kindC_ok x
  rw [cmdS]
  by_cases h2 : kindC x = 2
  ·rw [if_pos h2]
   refine (GoodJ.iff _).2 ⟨fun h => absurd rfl h, fun _ => (testS_fine 2 1 _ (by omega) (by omega)).good, ⟨?_, ?_⟩, fun c hc => ?_, fun c hc => ?_⟩
   ·show (List.map _ _).length ≤ _; rw [List.length_map, List.length_take]; omega
   ·show (List.map _ _).length ≤ _; rw [List.length_map, List.length_take]; omega
   ·obtain ⟨y, -, rfl⟩ := List.mem_map.1 hc; exact cmdS_goodJ m y
   ·obtain ⟨y, -, rfl⟩ := List.mem_map.1 hc; exact cmdS_goodJ m y
  ·rw [if_neg h2]; exact plain_goodJ x (by omega)
theorem req_goodJ : GoodJ Sc.reqC :=
 (GoodJ.iff _).2 ⟨fun _ => ⟨by decide, fun h => absurd h (by decide), fun h => absurd h (by decide), fun h => absurd h (by decide)⟩, fun h => absurd h (by decide), ⟨Nat.zero_le _, Nat.zero_le _⟩, nilC, nilC⟩
end Go.Proofs.YtpfbkdbblpppdaaGreatDoor.Jd
