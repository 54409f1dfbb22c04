/- On the way. -/
import Derived.Test.YtpfbkdbblpppdaaGreatDoorEDvScr
import Derived.Test.YtpfbkdbblpppdaaGreatDoorEBoxFnd
import Derived.Deep.DeepCutAuto
import Derived.Deep.RegionHeld3
set_option linter.unusedVariables false
set_option linter.unusedSimpArgs false
set_option maxHeartbeats 8000000
set_option maxRecDepth 20000
namespace Go.Proofs.YtpfbkdbblpppdaaGreatDoor.Dv
open Go.RowKit
open Sc (Str cStr RW cCmd Cmd cStk Stk)
open Jd (Ltt partL lttC keepA endJ cmdsJ C0 LetOK LetterP ltrX ltrX_ok letterX_any PostIn ltt_get)
theorem hTo {P : Program} {md : Region.Mode} {ops : Array Oper} {Q : Exit → Act → World → Prop} {B : World} {fuel : Nat} {listed : Array Bool} {a : Act} {w : World} (R : World → Prop) (hR : R w) (hS : ∀ V, R V → Below B.heap.size B V) (h : ∀ V, R V → Below B.heap.size B V → wpAnyH P md ops Q (fun X => Below B.heap.size B X) fuel listed a V) : wpAnyH P md ops Q (fun X => Below B.heap.size B X) fuel listed a w :=
 heldTo R (fun X => Below B.heap.size B X) hR hS (fun _ h => h) h
theorem spool_box {e : Ent} (h : e.kind = 6) (hf : formV e = 0) : e.box = [] := by
 unfold formV at hf
 rw [if_neg (by omega)] at hf
 split at hf
 ·cases hf
 ·next hs =>
  have hs' : shapeOK e = true := by simpa using hs
  unfold shapeOK at hs'
  rw [if_neg (by omega), if_neg (by omega), if_neg (by omega), if_neg (by omega)] at hs'
  simp at hs'
  exact hs'.1.1
theorem allS_good : ∀ (l : List Ent) (s : St), GoodS s → (∀ x ∈ l, formV x = 0) → GoodS (allS s l).1
 | [], s, h, _ => h
 | x :: l, s, h, hf => by
  have hx := hf x (List.mem_cons_self ..)
  rw [allS, if_neg (by rw [hx]; decide)]
  split
  ·exact h
  ·exact allS_good l _ (applyS_good h hx) fun y hy => hf y (List.mem_cons_of_mem _ hy)
theorem deliverWhole_walk (la : Option Addr) (cap : Nat) (cs : List Raw) (a0 a1 a2 b0 b1 b2 : ByteArray) (G : Option Addr) (n c : Nat) (z : Nat → Nat → ByteArray) (bo : ByteArray) (sv : Value) (ks : Nat) (sl : List Stk) (m : Int) (w : World)
 (hl : RawsAt w la cs) (hlen : cs.length ≤ 9223372036854775807) (h0 : a0.size ≤ maxLen) (h1 : a1.size ≤ maxLen) (_h2 : a2.size ≤ maxLen) (j0 : b0.size ≤ maxLen) (j1 : b1.size ≤ maxLen) (_j2 : b2.size ≤ maxLen) (hx : StrRows w G n 2 z ∧ n ≤ maxLen) (hbo : bo.size ≤ maxLen) (hsv : SAt (cStk ks) w (fun _ => True) sv sl) (hsl : sl.length ≤ 140737488351232)
 (hT : Sc.Tabs w w.heap.size) (hE : Sc.ExtAt w ∧ 0 < w.heap.size) (hN : NamesAt w ∧ 2 < w.heap.size) (hmx : w.cell? ⟨6, 0, none⟩ = some (.int .i64 m)) :
 Calls Tryz.prog 8 #[.slice la cs.length cap, .agg #[.string a0, .string a1, .string a2, .string b0, .string b1, .string b2, .slice G n c, .string bo], sv] w fun e w' => e = .returned (.bool true) ∧ Below w.heap.size w w' := by
 have h : PostIn w a0 a1 a2 b0 b1 b2 G n c z bo := ⟨h0, h1, j0, j1, hx, hbo⟩
 have hW : RW w m := ⟨hT, hE, hN, hmx⟩
 clear h0 h1 _h2 j0 j1 _j2 hx hbo hT hE hN hmx
 have hD := ltr_ok a0 a1 b0 b1 z n bo cs
 obtain ⟨x, hx⟩ : ∃ x, x = ltrX a0 a1 b0 b1 z n bo := ⟨_, rfl⟩
 have hok := ltrX_ok a0 a1 b0 b1 z n bo
 rw [← hx] at hok hD
 have HLT : Hid (∀ V, Below w.heap.size w V → Calls Tryz.prog 14 #[.agg #[.string a0, .string a1, .string a2, .string b0, .string b1, .string b2, .slice G n c, .string bo]] V (LetterP x V)) := fun V hV => by
  rw [hx]
  exact letterX_any a0 a1 a2 b0 b1 b2 G n c z bo m V (h.down hV) (hW.down hV).max
 obtain ⟨s, hs⟩ : ∃ s, s = stBx cs := ⟨_, rfl⟩
 have hg := stBx_good cs
 rw [← hs] at hg hD
 have HST : Hid (∀ V, Below w.heap.size w V → Calls Tryz.prog 26 #[.slice la cs.length cap] V (StPost s V)) := fun V hV => by
  rw [hs]
  exact state_any la cap cs m V (hl.down hV) hlen (hW.down hV).max
 obtain ⟨cs', hcs'⟩ : ∃ l, l = Sc.scriptS sl := ⟨_, rfl⟩
 have HSC : Hid (∀ V, Below w.heap.size w V → Calls Tryz.prog 23 #[sv] V (Sc.ScrPost cs' 15 V)) := fun V hV => by
  rw [hcs']
  exact Sc.script_any sl sv ks _ V (hsv.down hV) hsl (hW.down hV).tab
 obtain ⟨C, hC⟩ : ∃ C, C = (cmdsJ x (ltrFs z n) cs' C0).1 := ⟨_, rfl⟩
 have hCo : CrsOk C := by rw [hC, hcs']; exact script_keep x _ sl
 have hCl : C.acts.length ≤ 6 := by rw [hC]; exact Jd.cmdsJ_len x _ _ C0 (by unfold C0; decide)
 obtain ⟨out, hout⟩ : ∃ out, out = planD x (s.boxes.map Bx.name) (endJ C) := ⟨_, rfl⟩
 obtain ⟨hEO, hAP⟩ := planD_ok hD _ (endJ_ok hCo)
 have hol : out.length ≤ 10 := by
  rw [hout]
  have h1 := foldD_len x (s.boxes.map Bx.name) (endJ C) []
  have h2 := endJ_len hCl
  unfold planD
  simp at h1
  omega
 rw [← hout] at hEO hAP
 obtain ⟨r, hr⟩ : ∃ r, r = allS s out := ⟨_, rfl⟩
 have H5 : Hid (r.2 = 0 ∨ r.2 = 5) := by unfold Hid; rw [hr]; exact allS_five out s fun e he => ⟨(hEO e he).1, (hEO e he).2.imp id fun k => ⟨k.1, k.2.1⟩⟩
 have HDL : Hid (∀ V vB vS v F F', SAt cBox V F vB s.boxes → SAt cEnt V F vS s.spool → SAt (cCmd 15) V F' v cs' → Below w.heap.size w V → Calls Tryz.prog 27 #[.agg #[vB, vS], .agg (lttC x).toArray, v] V (DelR out r V)) := fun V vB vS v F F' hB hS hv hV => by
  rw [hr, hout]
  exact deliver_list s x _ _ cs' C _ _ vB vS v m V F F' hB hS hg (hW.down hV) hok (by rw [hcs']; exact Jd.script_okk sl) (by rw [hcs']; have := Sc.script_len sl; omega) (by rw [hcs']; exact Sc.rule_allowed sl) hC hCo rfl rfl hD hv
 have HAL : Hid (∀ V vB vS v F, SAt cBox V F vB s.boxes → SAt cEnt V F vS s.spool → SAt cEnt V F v out → Below w.heap.size w V → Calls Tryz.prog 28 #[.agg #[vB, vS], v] V (AllR r V)) := fun V vB vS v F hB hS hv hV => by
  rw [hr]
  exact (all_any s out vB vS v F m V hB hS hg hv hol (fun e he => small_of_form (hEO e he).1) (hW.down hV).max).mono fun _ _ h => AllPost.r h
 have HFD : Hid (∀ (nm : Str) V v a' n' c' F, SAt cBox V F v s.boxes → Calls Tryz.prog 29 #[.agg #[v, .slice a' n' c'], .string ⟨nm.toArray⟩] V fun e w' => e = .returned (.int .i64 (idx (findB s.boxes nm))) ∧ Below V.heap.size V w') := fun nm V v a' n' c' F hv =>
  kfind_any v a' n' c' s.boxes F nm V hv (by have := hg.boxes; omega)
 have HEO : Hid (∀ (j : Nat) (hj : j < out.length), (out[j].kind = 6 ∧ idx (findB s.boxes out[j].box) < 0) ∨ out[j].kind = 2 ∧ 0 ≤ idx (findB s.boxes out[j].box) ∧ out[j].text = x.text) := fun j hj => by
  rcases (hEO out[j] (List.getElem_mem hj)).2 with h | ⟨h1, h2, h3⟩
  ·refine .inl ⟨h, ?_⟩
   rw [spool_box h (hEO out[j] (List.getElem_mem hj)).1]
   cases e : findB s.boxes [] with
   | none => show (-1 : Int) < 0; decide
   | some i =>
    obtain ⟨hi, hn⟩ := findB_some e
    have := (hg.ok _ (List.getElem_mem hi)).1
    rw [hn] at this
    exact absurd this (by decide)
  ·refine .inr ⟨h1, ?_, h3⟩
   cases e : findB s.boxes out[j].box with
   | none => exact absurd e (find_mem h2)
   | some i => show (0 : Int) ≤ (i : Int); omega
 have HAP : Hid (∀ (i j : Nat) (hi : i < out.length) (hj : j < out.length), j < i → ¬ (out[i].kind = 2 ∧ out[j].kind = 2 ∧ out[i].box = out[j].box)) := fun i j hi hj hij h => List.pairwise_iff_getElem.1 hAP j i hj hi hij ⟨h.2.1, h.1, h.2.2.symm⟩
 have HSM : Hid (r.2 = 0 → ∀ V v1 u1 v2 u2 F1 F2, SAt cBox V F1 v1 r.1.boxes → SAt cEnt V F1 u1 r.1.spool → SAt cBox V F2 v2 r.1.boxes → SAt cEnt V F2 u2 r.1.spool → Calls Tryz.prog 30 #[.agg #[v1, u1], .agg #[v2, u2]] V fun e w' => e = .returned (.bool true) ∧ Below V.heap.size V w') := fun h0 V v1 u1 v2 u2 F1 F2 k1 k2 k3 k4 => by
  have hgr : GoodS r.1 := by rw [hr]; exact allS_good out s hg fun e he => (hEO e he).1
  exact same_any r.1 v1 u1 v2 u2 F1 F2 V k1 k2 k3 k4 (by have := hgr.boxes; omega) (by have := hgr.spool; omega) (fun b hb => by have := (hgr.ok b hb).2.2.2.1; omega)
 obtain ⟨no', hno'⟩ : ∃ l, l = out.length := ⟨_, rfl⟩
 have HOL := Lib.hid hno'
 have HO10 := Lib.hid hol
 have hA1 := ba (Below.refl w.heap.size w) (.cells #[.string a0, .string a1, .string a2, .string b0, .string b1, .string b2, .slice G n c, .string bo] 26)
 have HX1 := Lib.hid (Has.alloc w [.string a0, .string a1, .string a2, .string b0, .string b1, .string b2, .slice G n c, .string bo] 26)
 have HA := Lib.hid hA1
 have HC := Lib.hid (HST.out _ hA1)
 obtain ⟨Gv, cv, rfl, -⟩ := hsv.form
 clear hx h hW hok hA1 HST hl hlen hs hg hr hD hC hCo hCl hout hEO hAP hol hcs' hsv hsl hno'
 go_enter Tryz.func8, Tryz.ntmps8
 go_wp2_with fail
 refine HC.out.mono ?_
 rintro e w1 ⟨⟨G1, c1, G2, c2, rfl, h1, h2⟩, hb1⟩
 have hA := ba (Below.refl w1.heap.size w1) (.cells #[.slice G1 s.boxes.length c1, .slice G2 s.spool.length c2] 73)
 obtain ⟨S0, hS0⟩ : ∃ S0, S0 = w1.heap.size := ⟨_, rfl⟩
 obtain ⟨W2, hW2⟩ : ∃ W, W = w1.alloc (.cells #[.slice G1 s.boxes.length c1, .slice G2 s.spool.length c2] 73) := ⟨_, rfl⟩
 have hs2 : Has W2 S0 [.slice G1 s.boxes.length c1, .slice G2 s.spool.length c2] := by rw [hW2, hS0]; exact Has.alloc w1 _ _
 rw [← hW2] at hA
 have HSV := Lib.hid (And.intro hs2 (And.intro (h1.down hA) (h2.down hA)))
 have HB2 := Lib.hid (bt (bt HA.out hb1) hA)
 obtain ⟨p0, p1, p2, p3, p4, p5, p6, p7⟩ := Sc.has_oct' (HX1.out.down (bt hb1 hA))
 have HC2 := Lib.hid (HLT.out _ HB2.out)
 have HWe := Lib.hid hW2; have HSe := Lib.hid hS0
 clear hA hb1 h1 h2 hs2 hS0 hW2 HC HX1 HA HLT
 go_upto_region 2 with fail
 rw [← HWe.out, ← HSe.out]
 clear HWe HSe
 go_wp2_with fail
 refine HC2.out.mono ?_
 rintro e w3 ⟨rfl, hb3⟩
 have hA := ba (Below.refl w3.heap.size w3) (.cells (lttC x).toArray 33)
 have HL := Has.alloc w3 (lttC x) 33
 obtain ⟨L, hLe⟩ : ∃ L, L = w3.heap.size := ⟨_, rfl⟩
 obtain ⟨W3, hW3⟩ : ∃ W, W = w3.alloc (.cells (lttC x).toArray 33) := ⟨_, rfl⟩
 rw [← hW3, ← hLe] at HL
 rw [← hW3] at hA
 have hb := bt hb3 hA
 have HL3 := Lib.hid HL
 have HSV3 := Lib.hid (And.intro (HSV.out.1.down hb) (And.intro (HSV.out.2.1.down hb) (HSV.out.2.2.down hb)))
 have HB3 := Lib.hid (bt HB2.out hb)
 have HWe := Lib.hid hW3; have HLe := Lib.hid hLe
 unfold lttC at HWe HDL ⊢
 clear hA hb hb3 HL hLe hW3 HC2 HSV HB2 p0 p1 p2 p3 p4 p5 p6 p7
 go_upto_region 3 with fail
 rw [← HWe.out, ← HLe.out]
 clear HWe HLe
 have HL4 := HL3; have HSV4 := HSV3; have HB4 := HB3
 clear HL3 HSV3 HB3
 go_cut [10, 11, 12] (fun vo vt ve wx => ∃ (Tb : Nat) (Go : Option Addr) (no co : Nat) (H1 : Option Addr) (n1 d1 : Nat) (H2 : Option Addr) (n2 d2 : Nat), vo = .slice Go no co ∧ vt = .pointer (some ⟨Tb, 0, none⟩) ∧ ve = .int .i64 r.2 ∧ Has wx Tb [.slice H1 n1 d1, .slice H2 n2 d2] ∧ W3.heap.size ≤ Tb ∧ DelM out r (fun b => b ≠ Tb) wx Go no co H1 n1 d1 H2 n2 d2 ∧ Below W3.heap.size W3 wx)
 case first =>
  clear HSM HFD HEO HAP HAL H5 HOL
  have hd := Below.drew (Below.refl W3.heap.size W3)
  refine wp_region_noPanic ?_
  refine wp_region_held_drew (S := fun wx => Below W3.heap.size W3 wx) (by kernel_rfl) hd (fun hHeld => ?_)
  refine hTo (B := W3) (fun X => Below W3.heap.size W3 X) hd (fun X h => h) (fun V0 hR hHeld => ?_)
  clear hR
  refine tkH 0 (v := ?_) (gB rfl) ?_ ?_
  rotate_left 1
  ·intro w' hSw; obtain ⟨s0, s1, -, -⟩ := (HSV4.out.1.down hSw).two; (go_simp) <;> with_reducible rfl
  refine tkH 1 (v := ?_) (gB rfl) ?_ ?_
  rotate_left 1
  ·intro w' hSw; obtain ⟨l0, l1, l2, l3, l4⟩ := ltt_get (HL4.out.down hSw); (go_simp) <;> with_reducible rfl
  refine tkP 2 (gB rfl) ?_
  refine rdH [3, 9] ?_
  refine aC (gB rfl) (fun K hK => ?_) ?_
  ·go_simp
   go_at_call 23
   refine (HSC.out _ (bt HB4.out hHeld)).mono ?_
   rintro e w6 ⟨G6, c6, rfl, hs6, hb6⟩
   try (go_wp2_with fail)
   refine hK.out _ _ (bt hHeld hb6) (fun hHeld => ?_)
   clear hK K
   try simp only [aP]
   refine hTo (B := W3) (fun V1 => (Below W3.heap.size W3 V1) ∧ (SAt (cCmd 15) V1 (fun _ => True) (.slice G6 cs'.length c6) cs')) ⟨hHeld, hs6.mono (fun _ _ => trivial)⟩ (fun V1 h => h.1) (fun V1 hR hHeld => ?_)
   clear hb6 hs6
   obtain ⟨-, hs⟩ := hR
   refine rdH [4, 9] ?_
   refine aC (gB rfl) (fun K hK => ?_) ?_
   ·go_simp
    go_at_call 27
    refine (HDL.out _ _ _ _ _ _ (HSV4.out.2.1.down hHeld) (HSV4.out.2.2.down hHeld) hs (bt HB4.out hHeld)).mono ?_
    rintro e w7 ⟨Go, no, co, H1, n1, d1, H2, n2, d2, rfl, hgood, hbad, hb7⟩
    try (go_wp2_with fail)
    refine hK.out _ _ (bt hHeld hb7) (fun hHeld => ?_)
    clear hK K
    try simp only [aP]
    refine hTo (B := W3) (fun V2 => (Below W3.heap.size W3 V2) ∧ (DelM out r (fun _ => True) V2 Go no co H1 n1 d1 H2 n2 d2)) ⟨hHeld, DelM.mono (DelM.of hgood hbad) (fun _ _ => trivial)⟩ (fun V2 h => h.1) (fun V2 hR hHeld => ?_)
    clear hb7 hbad hgood hs
    obtain ⟨-, hD⟩ := hR
    refine tkP 5 (gB rfl) ?_
    refine tkP 6 (gB rfl) ?_
    refine tkP 7 (gB rfl) ?_
    refine tkP 8 (gB rfl) ?_
    refine rdH [9] ?_
    refine aC (gB rfl) (fun K hK => ?_) ?_
    ·go_simp
     have hHeld0 := hHeld
     refine hK.out _ _ (ba hHeld _) (fun hHeld => ?_)
     clear hK K
     try simp only [aP]
     have hKW : W3.heap.size ≤ V2.heap.size := hHeld0.size
     refine hTo (B := W3) (fun V3 => (Below W3.heap.size W3 V3) ∧ (DelM out r (fun b => b ≠ V2.heap.size) V3 Go no co H1 n1 d1 H2 n2 d2) ∧ (Has V3 V2.heap.size [.slice none 0 0, .slice none 0 0])) ⟨hHeld, ((DelM.bd hD).mono (fun b hb => Nat.ne_of_lt hb.2)).down (ba (Below.refl _ _) _), Has.alloc V2 _ _⟩ (fun V3 h => h.1) (fun V3 hR hHeld => ?_)
     clear hD hHeld0
     obtain ⟨-, hD, hC⟩ := hR
     generalize V2.heap.size = Tb at hC hKW hD ⊢
     refine tkP 10 (gB rfl) ?_
     refine rdH [11] ?_
     refine aC (gB rfl) (fun K hK => ?_) ?_
     ·obtain ⟨e0, e1, f0, f1⟩ := hC.two
      go_simp
      refine hK.out _ _ (Below.setCell (Below.setCell hHeld hKW _) hKW _) (fun hHeld => ?_)
      clear hK K
      try simp only [aP]
      refine tkP 12 (gB rfl) ?_
      refine wpAnyH_done (by kernel_rfl) ?_ _
      refine NoPanic.normal ?_
      go_wp2_with fail
      go_meet
      case rel => exact ⟨Tb, Go, no, co, H1, n1, d1, H2, n2, d2, rfl, rfl, rfl, (hC.set' (i := 0) _ (by simp)).set' (i := 1) _ (by simp), hKW, hD.put, hHeld⟩
     exact .nil
    exact .nil
   refine aC (gB rfl) (fun K hK => ?_) ?_
   ·go_simp
    have hHeld0 := hHeld
    refine hK.out _ _ (ba hHeld _) (fun hHeld => ?_)
    clear hK K
    try simp only [aP]
    have hKW : W3.heap.size ≤ V1.heap.size := hHeld0.size
    refine hTo (B := W3) (fun V2 => (Below W3.heap.size W3 V2) ∧ (SAt (cCmd 15) V2 (fun _ => True) (.slice G6 cs'.length c6) cs') ∧ (Has V2 V1.heap.size [.slice none 0 0, .slice none 0 0])) ⟨hHeld, hs.down (ba (Below.refl _ _) _), Has.alloc V1 _ _⟩ (fun V2 h => h.1) (fun V2 hR hHeld => ?_)
    clear hs hHeld0
    obtain ⟨-, hs, hC⟩ := hR
    generalize V1.heap.size = Tb at hC hKW ⊢
    refine rdH [4] ?_
    refine aC (gB rfl) (fun K hK => ?_) ?_
    ·go_simp
     go_at_call 27
     refine (HDL.out _ _ _ _ _ _ (HSV4.out.2.1.down hHeld) (HSV4.out.2.2.down hHeld) hs (bt HB4.out hHeld)).mono ?_
     rintro e w7 ⟨Go, no, co, H1, n1, d1, H2, n2, d2, rfl, hgood, hbad, hb7⟩
     try (go_wp2_with fail)
     refine hK.out _ _ (bt hHeld hb7) (fun hHeld => ?_)
     clear hK K
     try simp only [aP]
     refine hTo (B := W3) (fun V3 => (Below W3.heap.size W3 V3) ∧ (DelM out r (fun b => b ≠ Tb) V3 Go no co H1 n1 d1 H2 n2 d2) ∧ (Has V3 Tb [.slice none 0 0, .slice none 0 0])) ⟨hHeld, DelM.mono (DelM.of hgood hbad) (fun b hb => by have := hC.2.2; omega), hC.down hb7⟩ (fun V3 h => h.1) (fun V3 hR hHeld => ?_)
     clear hb7 hbad hgood hC hs
     obtain ⟨-, hD, hC⟩ := hR
     refine tkP 5 (gB rfl) ?_
     refine tkP 6 (gB rfl) ?_
     refine tkP 7 (gB rfl) ?_
     refine tkP 8 (gB rfl) ?_
     refine tkP 10 (gB rfl) ?_
     refine rdH [11] ?_
     refine aC (gB rfl) (fun K hK => ?_) ?_
     ·obtain ⟨e0, e1, f0, f1⟩ := hC.two
      go_simp
      refine hK.out _ _ (Below.setCell (Below.setCell hHeld hKW _) hKW _) (fun hHeld => ?_)
      clear hK K
      try simp only [aP]
      refine tkP 12 (gB rfl) ?_
      refine wpAnyH_done (by kernel_rfl) ?_ _
      refine NoPanic.normal ?_
      go_wp2_with fail
      go_meet
      case rel => exact ⟨Tb, Go, no, co, H1, n1, d1, H2, n2, d2, rfl, rfl, rfl, (hC.set' (i := 0) _ (by simp)).set' (i := 1) _ (by simp), hKW, hD.put, hHeld⟩
     exact .nil
    exact .nil
   exact .nil
  refine aC (gB rfl) (fun K hK => ?_) ?_
  ·go_simp
   have hHeld0 := hHeld
   refine hK.out _ _ (ba hHeld _) (fun hHeld => ?_)
   clear hK K
   try simp only [aP]
   have hKW : W3.heap.size ≤ V0.heap.size := hHeld0.size
   refine hTo (B := W3) (fun V1 => (Below W3.heap.size W3 V1) ∧ (Has V1 V0.heap.size [.slice none 0 0, .slice none 0 0])) ⟨hHeld, Has.alloc V0 _ _⟩ (fun V1 h => h.1) (fun V1 hR hHeld => ?_)
   clear hHeld0
   obtain ⟨-, hC⟩ := hR
   generalize V0.heap.size = Tb at hC hKW ⊢
   refine rdH [3] ?_
   refine aC (gB rfl) (fun K hK => ?_) ?_
   ·go_simp
    go_at_call 23
    refine (HSC.out _ (bt HB4.out hHeld)).mono ?_
    rintro e w6 ⟨G6, c6, rfl, hs6, hb6⟩
    try (go_wp2_with fail)
    refine hK.out _ _ (bt hHeld hb6) (fun hHeld => ?_)
    clear hK K
    try simp only [aP]
    refine hTo (B := W3) (fun V2 => (Below W3.heap.size W3 V2) ∧ (SAt (cCmd 15) V2 (fun _ => True) (.slice G6 cs'.length c6) cs') ∧ (Has V2 Tb [.slice none 0 0, .slice none 0 0])) ⟨hHeld, hs6.mono (fun _ _ => trivial), hC.down hb6⟩ (fun V2 h => h.1) (fun V2 hR hHeld => ?_)
    clear hb6 hs6 hC
    obtain ⟨-, hs, hC⟩ := hR
    refine rdH [4] ?_
    refine aC (gB rfl) (fun K hK => ?_) ?_
    ·go_simp
     go_at_call 27
     refine (HDL.out _ _ _ _ _ _ (HSV4.out.2.1.down hHeld) (HSV4.out.2.2.down hHeld) hs (bt HB4.out hHeld)).mono ?_
     rintro e w7 ⟨Go, no, co, H1, n1, d1, H2, n2, d2, rfl, hgood, hbad, hb7⟩
     try (go_wp2_with fail)
     refine hK.out _ _ (bt hHeld hb7) (fun hHeld => ?_)
     clear hK K
     try simp only [aP]
     refine hTo (B := W3) (fun V3 => (Below W3.heap.size W3 V3) ∧ (DelM out r (fun b => b ≠ Tb) V3 Go no co H1 n1 d1 H2 n2 d2) ∧ (Has V3 Tb [.slice none 0 0, .slice none 0 0])) ⟨hHeld, DelM.mono (DelM.of hgood hbad) (fun b hb => by have := hC.2.2; omega), hC.down hb7⟩ (fun V3 h => h.1) (fun V3 hR hHeld => ?_)
     clear hb7 hbad hgood hC hs
     obtain ⟨-, hD, hC⟩ := hR
     refine tkP 5 (gB rfl) ?_
     refine tkP 6 (gB rfl) ?_
     refine tkP 7 (gB rfl) ?_
     refine tkP 8 (gB rfl) ?_
     refine tkP 10 (gB rfl) ?_
     refine rdH [11] ?_
     refine aC (gB rfl) (fun K hK => ?_) ?_
     ·obtain ⟨e0, e1, f0, f1⟩ := hC.two
      go_simp
      refine hK.out _ _ (Below.setCell (Below.setCell hHeld hKW _) hKW _) (fun hHeld => ?_)
      clear hK K
      try simp only [aP]
      refine tkP 12 (gB rfl) ?_
      refine wpAnyH_done (by kernel_rfl) ?_ _
      refine NoPanic.normal ?_
      go_wp2_with fail
      go_meet
      case rel => exact ⟨Tb, Go, no, co, H1, n1, d1, H2, n2, d2, rfl, rfl, rfl, (hC.set' (i := 0) _ (by simp)).set' (i := 1) _ (by simp), hKW, hD.put, hHeld⟩
     exact .nil
    exact .nil
   exact .nil
  exact .nil
 case rest =>
  obtain ⟨Tb, Go, no, co, H1, n1, d1, H2, n2, d2, rfl, rfl, rfl, hT, hTb, hM, hb5⟩ := hcut
  have HT := Lib.hid hT
  have HL5 := Lib.hid (HL4.out.down hb5)
  have HSV5 := Lib.hid (And.intro (HSV4.out.1.down hb5) (And.intro (HSV4.out.2.1.down hb5) (HSV4.out.2.2.down hb5)))
  have HB5 := Lib.hid (bt HB4.out hb5)
  obtain ⟨t0, t1, -, -⟩ := HT.out.two
  rcases H5.out with h0 | h5
  ·obtain ⟨hno, hO, hBx, hSp⟩ := hM.1 h0
   have HNO : Hid (no = out.length) := hno
   have HO := Lib.hid hO; have HBX := Lib.hid (And.intro hBx hSp)
   rw [h0]
   have HSM0 := Lib.hid (HSM.out h0)
   have HR0 := Lib.hid h0
   obtain ⟨s0, s1, -, -⟩ := HSV5.out.1.two
   have HC3 := Lib.hid (HAL.out wc _ _ _ _ (HSV5.out.2.1) (HSV5.out.2.2) (hO.mono fun _ _ => trivial) HB5.out)
   clear hT hTb hM hb5 HL4 HSV4 HB4 HDL h0 hno hO hBx hSp HAL H5 HSM HSC
   go_wp2_with fail
   refine HC3.out.mono ?_
   rintro e w6 ⟨K1, m1, e1, K2, m2, e2, rfl, hg6, hb6⟩
   rw [HR0.out]
   have hA := ba (Below.refl w6.heap.size w6) (.cells #[.slice K1 m1 e1, .slice K2 m2 e2] 73)
   have hU := Has.alloc w6 [.slice K1 m1 e1, .slice K2 m2 e2] 73
   obtain ⟨U, hUe⟩ : ∃ U, U = w6.heap.size := ⟨_, rfl⟩
   obtain ⟨W7, hW7⟩ : ∃ W, W = w6.alloc (.cells #[.slice K1 m1 e1, .slice K2 m2 e2] 73) := ⟨_, rfl⟩
   rw [← hUe, ← hW7] at hU
   rw [← hW7] at hA
   have hb := bt hb6 hA
   have hg7 := hg6 HR0.out
   have HU7 := Lib.hid hU
   have HUU := Lib.hid (And.intro (hg7.1.down hA) (hg7.2.down hA))
   have HT7 := Lib.hid (HT.out.down hb); have HO7 := Lib.hid (HO.out.down hb); have HBX7 := Lib.hid (And.intro (HBX.out.1.down hb) (HBX.out.2.down hb))
   have HS7 := Lib.hid (And.intro (HSV5.out.1.down hb) (HSV5.out.2.1.down hb)); have HL7 := Lib.hid (HL5.out.down hb); have HB7 := Lib.hid (bt HB5.out hb)
   have HWe := Lib.hid hW7; have HUe := Lib.hid hUe
   clear hA hU hUe hW7 hb hb6 hg6 hg7 HC3 HT HO HBX HSV5 HL5 HB5 s0 s1 t0 t1
   go_upto_region 7 with fail
   rw [← HWe.out, ← HUe.out]
   clear HWe HUe
   go_wp2_with fail
   go_loopw [15] (fun i wr => ∃ j : Nat, j ≤ out.length ∧ i = .int .i64 j ∧ Below W7.heap.size W7 wr) (fun i _ => out.length - (intOf i).toNat)
   case atStart => exact ⟨0, Nat.zero_le _, rfl, Below.refl _ _⟩
   case round =>
    obtain ⟨wp, rfl⟩ : ∃ wp : World, wp = wr := ⟨_, rfl⟩
    obtain ⟨j, hj, rfl, hb⟩ := hrel
    have HBL := Lib.hid hb
    have ho10 := HO10.out
    obtain ⟨s0, s1, -, -⟩ := (HS7.out.1.down hb).two
    obtain ⟨l0, l1, l2, l3, l4⟩ := ltt_get (HL7.out.down hb)
    by_cases hlt : j < no
    ·have hjo : j < out.length := by rw [← HNO.out]; exact hlt
     obtain ⟨g, off, rfl, hF, hg, x0, x1, x2, x3, x4, x5⟩ := ent_get HO7.out hb j hjo
     have hej := HEO.out j hjo
     have HJO := Lib.hid hjo
     have hbd := Below.drew hb
     generalize out[j] = ej at x0 x1 x5 hej
     obtain ⟨fi, hfi⟩ : ∃ fi, fi = idx (findB s.boxes ej.box) := ⟨_, rfl⟩
     rw [← hfi] at hej
     have HFJ : Hid (∀ V v a' n' c' F, SAt cBox V F v s.boxes → Calls Tryz.prog 29 #[.agg #[v, .slice a' n' c'], .string ⟨ej.box.toArray⟩] V fun e w' => e = .returned (.int .i64 fi) ∧ Below V.heap.size V w') := by
      rw [hfi]
      exact HFD.out ej.box
     have HEJ := Lib.hid hej
     have hq1 : decide (j < no) = true := decide_eq_true hlt
     have HS10 := Lib.hid (And.intro (HS7.out.1.down hb) (HS7.out.2.down hb))
     have HL10 := Lib.hid (HL7.out.down hb)
     have HXX := Lib.hid (And.intro x0 (And.intro x1 x5))
     clear hej hb hbd hfi x0 x1 x2 x3 x4 x5 s0 s1 l0 l1 l2 l3 l4 hjo
     go_upto_region 10 with fail
     go_cut [96] (fun v wx => v = .bool false ∧ Below W7.heap.size W7 wx)
     case first =>
      clear HSM0 HFD HEO HAP
      rcases HEJ.out with ⟨h6, hf0⟩ | ⟨h2, hf0, htx⟩
      ·have HX10 : Hid (∀ V, Below wp.heap.size wp V → V.cell? ⟨g, off + j * 6, none⟩ = some (.int .i64 6) ∧ V.cell? ⟨g, off + j * 6 + 1, none⟩ = some (.string ⟨ej.box.toArray⟩) ∧ V.cell? ⟨g, off + j * 6 + 5, none⟩ = some (.string ⟨ej.text.toArray⟩)) := fun V hV => ⟨moved (by rw [HXX.out.1, h6]; rfl) hV (Nat.le_refl _), moved HXX.out.2.1 hV (Nat.le_refl _), moved HXX.out.2.2 hV (Nat.le_refl _)⟩
       have hq2 : decide (fi < 0) = true := decide_eq_true hf0
       clear HEJ h6 HXX
       have hd := Below.drew (Below.refl wp.heap.size wp)
       refine wp_region_noPanic ?_
       refine wp_region_held_drew (S := fun wx => Below wp.heap.size wp wx) (by kernel_rfl) hd (fun hHeld => ?_)
       refine hTo (B := wp) (fun X => Below wp.heap.size wp X) hd (fun X h => h) (fun V0 hR hHeld => ?_)
       clear hR
       refine tkP 0 (gB rfl) ?_
       refine tkP 1 (gB rfl) ?_
       refine tkP 2 (gB rfl) ?_
       refine tkP 3 (gB rfl) ?_
       refine tkH 4 (v := ?_) (gB rfl) ?_ ?_
       rotate_left 1
       ·intro w' hSw; obtain ⟨x0, x1, x5⟩ := HX10.out w' hSw; (go_simp) <;> with_reducible rfl
       refine tkP 5 (gB rfl) ?_
       refine tkP 6 (gB rfl) ?_
       refine wpAnyH_take (i := 7) (v := undef) (gB rfl) (by kernel_rfl) (by kernel_rfl) (by kernel_rfl) (fun _ _ _ h => h) (Or.inr ⟨by rfl, rfl⟩) (by assumption) ?_
       try simp only [aP]
       refine wpAnyH_take (i := 8) (v := undef) (gB rfl) (by kernel_rfl) (by kernel_rfl) (by kernel_rfl) (fun _ _ _ h => h) (Or.inr ⟨by rfl, rfl⟩) (by assumption) ?_
       try simp only [aP]
       refine wpAnyH_take (i := 9) (v := undef) (gB rfl) (by kernel_rfl) (by kernel_rfl) (by kernel_rfl) (fun _ _ _ h => h) (Or.inr ⟨by rfl, rfl⟩) (by assumption) ?_
       try simp only [aP]
       refine wpAnyH_take (i := 10) (v := undef) (gB rfl) (by kernel_rfl) (by kernel_rfl) (by kernel_rfl) (fun _ _ _ h => h) (Or.inr ⟨by rfl, rfl⟩) (by assumption) ?_
       try simp only [aP]
       refine wpAnyH_take (i := 11) (v := undef) (gB rfl) (by kernel_rfl) (by kernel_rfl) (by kernel_rfl) (fun _ _ _ h => h) (Or.inr ⟨by rfl, rfl⟩) (by assumption) ?_
       try simp only [aP]
       refine wpAnyH_take (i := 12) (v := undef) (gB rfl) (by kernel_rfl) (by kernel_rfl) (by kernel_rfl) (fun _ _ _ h => h) (Or.inr ⟨by rfl, rfl⟩) (by assumption) ?_
       try simp only [aP]
       refine wpAnyH_take (i := 13) (v := undef) (gB rfl) (by kernel_rfl) (by kernel_rfl) (by kernel_rfl) (fun _ _ _ h => h) (Or.inr ⟨by rfl, rfl⟩) (by assumption) ?_
       try simp only [aP]
       refine wpAnyH_take (i := 14) (v := undef) (gB rfl) (by kernel_rfl) (by kernel_rfl) (by kernel_rfl) (fun _ _ _ h => h) (Or.inr ⟨by rfl, rfl⟩) (by assumption) ?_
       try simp only [aP]
       refine tkP 15 (gB rfl) ?_
       refine tkP 16 (gB rfl) ?_
       refine tkH 17 (v := ?_) (gB rfl) ?_ ?_
       rotate_left 1
       ·intro w' hSw; obtain ⟨s0, s1, -, -⟩ := (HS10.out.1.down hSw).two; (go_simp) <;> with_reducible rfl
       refine tkP 18 (gB rfl) ?_
       refine tkP 19 (gB rfl) ?_
       refine tkP 20 (gB rfl) ?_
       refine tkP 21 (gB rfl) ?_
       refine tkH 22 (v := ?_) (gB rfl) ?_ ?_
       rotate_left 1
       ·intro w' hSw; obtain ⟨x0, x1, x5⟩ := HX10.out w' hSw; (go_simp) <;> with_reducible rfl
       refine rdH [23] ?_
       refine aC (gB rfl) (fun K hK => ?_) ?_
       ·go_simp
        go_at_call 29
        refine (HFJ.out _ _ _ _ _ _ (HS10.out.2.down hHeld)).mono ?_
        rintro e w7 ⟨rfl, hb7⟩
        try (go_wp2_with fail)
        refine hK.out _ _ (bt hHeld hb7) (fun hHeld => ?_)
        clear hK K
        try simp only [aP]
        refine hTo (B := wp) (fun V1 => Below wp.heap.size wp V1) hHeld (fun V1 h => h) (fun V1 hR hHeld => ?_)
        clear hR hb7
        refine tkP 24 (gB rfl) ?_
        refine tkP 25 (gB rfl) ?_
        refine tkP 26 (gB rfl) ?_
        refine tkP 27 (gB rfl) ?_
        refine tkP 28 (gB rfl) ?_
        refine tkP 29 (gB rfl) ?_
        refine tkH 30 (v := ?_) (gB rfl) ?_ ?_
        rotate_left 1
        ·intro w' hSw; obtain ⟨x0, x1, x5⟩ := HX10.out w' hSw; (go_simp) <;> with_reducible rfl
        refine tkP 31 (gB rfl) ?_
        refine tkP 32 (gB rfl) ?_
        refine tkP 33 (gB rfl) ?_
        refine wpAnyH_done (by kernel_rfl) ?_ _
        refine NoPanic.normal ?_
        go_wp2_with fail
        go_meet
        case rel => exact ⟨rfl, bt HBL.out hHeld⟩
       exact .nil
      ·have HX10 : Hid (∀ V, Below wp.heap.size wp V → V.cell? ⟨g, off + j * 6, none⟩ = some (.int .i64 2) ∧ V.cell? ⟨g, off + j * 6 + 1, none⟩ = some (.string ⟨ej.box.toArray⟩) ∧ V.cell? ⟨g, off + j * 6 + 5, none⟩ = some (.string ⟨x.text.toArray⟩)) := fun V hV => ⟨moved (by rw [HXX.out.1, h2]; rfl) hV (Nat.le_refl _), moved HXX.out.2.1 hV (Nat.le_refl _), moved (by rw [HXX.out.2.2, htx]) hV (Nat.le_refl _)⟩
       have hq2 : decide (fi < 0) = false := decide_eq_false (by omega)
       clear HEJ h2 htx HXX
       have hd := Below.drew (Below.refl wp.heap.size wp)
       refine wp_region_noPanic ?_
       refine wp_region_held_drew (S := fun wx => Below wp.heap.size wp wx) (by kernel_rfl) hd (fun hHeld => ?_)
       refine hTo (B := wp) (fun X => Below wp.heap.size wp X) hd (fun X h => h) (fun V0 hR hHeld => ?_)
       clear hR
       refine tkP 0 (gB rfl) ?_
       refine tkP 1 (gB rfl) ?_
       refine tkP 2 (gB rfl) ?_
       refine tkP 3 (gB rfl) ?_
       refine tkH 4 (v := ?_) (gB rfl) ?_ ?_
       rotate_left 1
       ·intro w' hSw; obtain ⟨x0, x1, x5⟩ := HX10.out w' hSw; (go_simp) <;> with_reducible rfl
       refine tkP 5 (gB rfl) ?_
       refine tkP 6 (gB rfl) ?_
       refine tkP 7 (gB rfl) ?_
       refine tkP 8 (gB rfl) ?_
       refine tkP 9 (gB rfl) ?_
       refine tkP 10 (gB rfl) ?_
       refine tkH 11 (v := ?_) (gB rfl) ?_ ?_
       rotate_left 1
       ·intro w' hSw; obtain ⟨x0, x1, x5⟩ := HX10.out w' hSw; (go_simp) <;> with_reducible rfl
       refine tkP 12 (gB rfl) ?_
       refine tkH 13 (v := ?_) (gB rfl) ?_ ?_
       rotate_left 1
       ·intro w' hSw; obtain ⟨l0, l1, l2, l3, l4⟩ := ltt_get (HL10.out.down hSw); (go_simp) <;> with_reducible rfl
       refine tkP 14 (gB rfl) ?_
       refine tkP 15 (gB rfl) ?_
       refine tkP 16 (gB rfl) ?_
       refine tkH 17 (v := ?_) (gB rfl) ?_ ?_
       rotate_left 1
       ·intro w' hSw; obtain ⟨s0, s1, -, -⟩ := (HS10.out.1.down hSw).two; (go_simp) <;> with_reducible rfl
       refine tkP 18 (gB rfl) ?_
       refine tkP 19 (gB rfl) ?_
       refine tkP 20 (gB rfl) ?_
       refine tkP 21 (gB rfl) ?_
       refine tkH 22 (v := ?_) (gB rfl) ?_ ?_
       rotate_left 1
       ·intro w' hSw; obtain ⟨x0, x1, x5⟩ := HX10.out w' hSw; (go_simp) <;> with_reducible rfl
       refine rdH [23] ?_
       refine aC (gB rfl) (fun K hK => ?_) ?_
       ·go_simp
        go_at_call 29
        refine (HFJ.out _ _ _ _ _ _ (HS10.out.2.down hHeld)).mono ?_
        rintro e w7 ⟨rfl, hb7⟩
        try (go_wp2_with fail)
        refine hK.out _ _ (bt hHeld hb7) (fun hHeld => ?_)
        clear hK K
        try simp only [aP]
        refine hTo (B := wp) (fun V1 => Below wp.heap.size wp V1) hHeld (fun V1 h => h) (fun V1 hR hHeld => ?_)
        clear hR hb7
        refine tkP 24 (gB rfl) ?_
        refine tkP 25 (gB rfl) ?_
        refine wpAnyH_take (i := 26) (v := undef) (gB rfl) (by kernel_rfl) (by kernel_rfl) (by kernel_rfl) (fun _ _ _ h => h) (Or.inr ⟨by rfl, rfl⟩) (by assumption) ?_
        try simp only [aP]
        refine wpAnyH_take (i := 27) (v := undef) (gB rfl) (by kernel_rfl) (by kernel_rfl) (by kernel_rfl) (fun _ _ _ h => h) (Or.inr ⟨by rfl, rfl⟩) (by assumption) ?_
        try simp only [aP]
        refine wpAnyH_take (i := 28) (v := undef) (gB rfl) (by kernel_rfl) (by kernel_rfl) (by kernel_rfl) (fun _ _ _ h => h) (Or.inr ⟨by rfl, rfl⟩) (by assumption) ?_
        try simp only [aP]
        refine wpAnyH_take (i := 29) (v := undef) (gB rfl) (by kernel_rfl) (by kernel_rfl) (by kernel_rfl) (fun _ _ _ h => h) (Or.inr ⟨by rfl, rfl⟩) (by assumption) ?_
        try simp only [aP]
        refine wpAnyH_take (i := 30) (v := undef) (gB rfl) (by kernel_rfl) (by kernel_rfl) (by kernel_rfl) (fun _ _ _ h => h) (Or.inr ⟨by rfl, rfl⟩) (by assumption) ?_
        try simp only [aP]
        refine wpAnyH_take (i := 31) (v := undef) (gB rfl) (by kernel_rfl) (by kernel_rfl) (by kernel_rfl) (fun _ _ _ h => h) (Or.inr ⟨by rfl, rfl⟩) (by assumption) ?_
        try simp only [aP]
        refine tkP 32 (gB rfl) ?_
        refine tkP 33 (gB rfl) ?_
        refine wpAnyH_done (by kernel_rfl) ?_ _
        refine NoPanic.normal ?_
        go_wp2_with fail
        go_meet
        case rel => exact ⟨rfl, bt HBL.out hHeld⟩
       exact .nil
     case rest =>
      obtain ⟨rfl, hbc⟩ := hcut
      have HBC := Lib.hid hbc
      clear hbc HFJ HEJ hq1 HBL HS10 HL10 HXX
      go_wp2_with fail
      go_loopw [16] (fun i wr => ∃ k : Nat, k ≤ j ∧ i = .int .i64 k ∧ Below W7.heap.size W7 wr) (fun i _ => j - (intOf i).toNat)
      case atStart => exact ⟨0, Nat.zero_le _, rfl, HBC.out⟩
      case round =>
       obtain ⟨wq, rfl⟩ : ∃ wp : World, wp = wr := ⟨_, rfl⟩
       obtain ⟨k, hk, rfl, hb⟩ := hrel
       by_cases hlk : k < j
       ·have hko : k < out.length := Nat.lt_trans hlk HJO.out
        obtain ⟨g1, off1, e1, hF1, hg1, x0, x1, x2, x3, x4, x5⟩ := ent_get HO7.out hb j HJO.out
        obtain ⟨rfl, rfl⟩ : g1 = g ∧ off1 = off := by have := Option.some.inj e1; injection this with a b; exact ⟨a.symm, b.symm⟩
        obtain ⟨g2, off2, e2, hF2, hg2, y0, y1, y2, y3, y4, y5⟩ := ent_get HO7.out hb k hko
        obtain ⟨rfl, rfl⟩ : g2 = g1 ∧ off2 = off1 := by have := Option.some.inj e2; injection this with a b; exact ⟨a.symm, b.symm⟩
        have hkn : k < no := by rw [HNO.out]; exact hko
        have hap := HAP.out j k HJO.out hko hlk
        have hj2 := (HEO.out j HJO.out)
        have hk2 := (HEO.out k hko)
        generalize out[j] = ej at x0 x1 hap hj2
        generalize out[k] = ek at y0 y1 hap hk2
        have HBQ := Lib.hid hb
        have hcase : (wq.cell? ⟨g2, off2 + j * 6, none⟩ = some (.int .i64 6)) ∨ (wq.cell? ⟨g2, off2 + j * 6, none⟩ = some (.int .i64 2) ∧ wq.cell? ⟨g2, off2 + k * 6, none⟩ = some (.int .i64 6)) ∨ (wq.cell? ⟨g2, off2 + j * 6, none⟩ = some (.int .i64 2) ∧ wq.cell? ⟨g2, off2 + k * 6, none⟩ = some (.int .i64 2) ∧ ej.box ≠ ek.box ∧ decide (ej.box = ek.box) = false ∧ (ej.box == ek.box) = false) := by
         rcases hj2 with ⟨h, -⟩ | ⟨h, -⟩
         ·left; rw [x0, h]; rfl
         ·rcases hk2 with ⟨h', -⟩ | ⟨h', -⟩
          ·right; left; exact ⟨by rw [x0, h]; rfl, by rw [y0, h']; rfl⟩
          ·have hn : ej.box ≠ ek.box := fun e => hap ⟨h, h', e⟩
           right; right; exact ⟨by rw [x0, h]; rfl, by rw [y0, h']; rfl, hn, decide_eq_false hn, beq_eq_false_iff_ne.2 hn⟩
        clear x0 x2 x3 x4 x5 y0 y2 y3 y4 y5 hap hj2 hk2 e1 e2 hb
        rcases hcase with z0 | ⟨z0, z1⟩ | ⟨z0, z1, hne, hd1, hd2⟩
        all_goals
         go_wp2_with fail
         go_quiet (fail)
         have HB := Lib.hid (bt HBQ.out (below_drewN wq nq))
         go_wp2_with fail
         go_roundw
         case rel => exact ⟨k + 1, hlk, by go_num, HB.out⟩
         case measure => simp [intOf]; omega
       ·obtain rfl : k = j := by omega
        have HB := Lib.hid hb
        clear hb
        go_wp2_with fail
        go_roundw
        case rel => exact ⟨k + 1, HJO.out, by go_num, HB.out⟩
        case measure => have := HJO.out; simp [intOf]; omega
    ·obtain rfl : j = no := by have := HNO.out; omega
     obtain ⟨t0, t1, -, -⟩ := (HT7.out.down hb).two
     obtain ⟨u0, u1, -, -⟩ := (HU7.out.down hb).two
     have HC5 := Lib.hid (HSM0.out wp _ _ _ _ _ _ (HBX7.out.1.down hb) (HBX7.out.2.down hb) (HUU.out.1.down hb) (HUU.out.2.down hb))
     have HBW := Lib.hid (bt HB7.out hb)
     clear hb s0 s1 l0 l1 l2 l3 l4
     go_wp2_with fail
     refine HC5.out.mono ?_
     rintro e w9 ⟨rfl, hb9⟩
     have HB9 := Lib.hid (bt HBW.out hb9)
     clear hb9 HC5
     go_wp2_with fail
     go_ret
     exact ⟨rfl, HB9.out⟩
  ·obtain ⟨e1, e2, -⟩ := hM.2 (by rw [h5]; decide)
   subst e1 e2
   rw [h5]
   clear hT hTb hM hb5 HL4 HSV4 HB4 HDL HAL HSM HSC HFD HEO HAP
   go_wp2_with fail
   go_ret
   exact ⟨rfl, HB5.out⟩
end Go.Proofs.YtpfbkdbblpppdaaGreatDoor.Dv
