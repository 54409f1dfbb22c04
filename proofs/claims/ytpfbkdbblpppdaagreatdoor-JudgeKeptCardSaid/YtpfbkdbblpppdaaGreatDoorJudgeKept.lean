/-
  DERIVED. The law JudgeKept: its walk.
-/
import Derived.Test.YtpfbkdbblpppdaaGreatDoorJdA
import Derived.Test.YtpfbkdbblpppdaaGreatDoorJdC
import Derived.Deep.RegionHeld3
import Derived.Deep.DeepCutAuto
import Derived.BigQuiet
set_option linter.unusedVariables false
set_option linter.unusedSimpArgs false
namespace Go.Proofs.YtpfbkdbblpppdaaGreatDoor.Jd
open Go.RowKit
open Sc (Str Tst Cmd cStr strC tstC cTst cCmd RW Stk cStk scriptS ruleS)

set_option maxHeartbeats 1000000 in
set_option maxRecDepth 20000 in
theorem judgeKept_any (a0 a1 a2 b0 b1 b2 : ByteArray) (G : Option Addr) (n c : Nat) (z : Nat → Nat → ByteArray) (bo : ByteArray) (l : List Stk) (sv : Value) (k : Nat) (F : Dom) (m : Int) (w : World)
    (h : PostIn w a0 a1 a2 b0 b1 b2 G n c z bo) (hv : SAt (cStk k) w F sv l) (hlen : l.length ≤ 140737488351232) (hW : RW w m) :
    Calls Tryz.prog 6 #[.agg #[.string a0, .string a1, .string a2, .string b0, .string b1, .string b2, .slice G n c, .string bo], sv] w fun e w' => e = .returned (.bool true) ∧ Below w.heap.size w w' := by
  obtain ⟨x, hx⟩ : ∃ x, x = ltrX a0 a1 b0 b1 z n bo := ⟨_, rfl⟩
  have hok := ltrX_ok a0 a1 b0 b1 z n bo
  rw [← hx] at hok
  obtain ⟨fs, hfs⟩ : ∃ fs, fs = ltrFs z n := ⟨_, rfl⟩
  rw [← hfs] at hok
  have HLT : Hid (∀ V, Below w.heap.size w V → Calls Tryz.prog 14 #[.agg #[.string a0, .string a1, .string a2, .string b0, .string b1, .string b2, .slice G n c, .string bo]] V (LetterP x V)) := fun V hV => by
    rw [hx]
    exact letterX_any a0 a1 a2 b0 b1 b2 G n c z bo m V (h.down hV) (hW.down hV).max
  obtain ⟨cs, hcs⟩ : ∃ cs, cs = scriptS l := ⟨_, rfl⟩
  have HSC : Hid (∀ V, Below w.heap.size w V → Calls Tryz.prog 23 #[sv] V (Sc.ScrPost cs 15 V)) := fun V hV => by
    rw [hcs]
    exact Sc.script_any l sv k F V (hv.down hV) hlen ((hW.down hV).tab)
  obtain ⟨C, hC⟩ : ∃ C, C = (cmdsJ x fs cs C0).1 := ⟨_, rfl⟩
  have HJ : Hid (∀ V u F', SAt (cCmd 15) V F' u cs → Below w.heap.size w V → Calls Tryz.prog 20 #[u, .agg (lttC x).toArray] V (JudgeP C V)) := fun V u F' hu hV => by
    rw [hC]; rw [hcs] at hu ⊢
    exact judge_script l u F' x fs _ m V hu (hW.down hV) hok
  have HJ0 : Hid (∀ V, Below w.heap.size w V → Calls Tryz.prog 20 #[.slice none 0 0, .agg (lttC x).toArray] V (Judge0 V)) := fun V hV => judge_none x fs _ m V (hW.down hV) hok
  have hlenC : C.acts.length ≤ 6 := by rw [hC]; exact cmdsJ_len x fs cs C0 (by unfold C0; decide)
  have hflagC : FlagOk C := by rw [hC, hcs]; exact cmdsJ_flag x fs _ C0 ((GoodJs_iff _).2 (script_goodJ l)) C0_flag
  have hendC : FaultOk C ∧ AskOk C := by rw [hC]; exact cmdsJ_end x fs cs C0 C0_end
  have hA1 := ba (Below.refl w.heap.size w) (.cells #[.string a0, .string a1, .string a2, .string b0, .string b1, .string b2, .slice G n c, .string bo] 26)
  have HX1 := Lib.hid (Has.alloc w [.string a0, .string a1, .string a2, .string b0, .string b1, .string b2, .slice G n c, .string bo] 26)
  have HA := Lib.hid hA1
  have HC := Lib.hid (HLT.out _ hA1)
  obtain ⟨p0, p1, p2, p3, p4, p5, p6, p7⟩ := Sc.has_oct' HX1.out
  obtain ⟨Gs, cs', rfl, -⟩ := hv.form
  clear hx hfs h hv hW hok hA1 HLT hC hcs
  go_enter Tryz.func6, Tryz.ntmps6
  go_wp2_with fail
  refine HC.out.mono ?_
  rintro e w1 ⟨rfl, hb1⟩
  have hA := ba (Below.refl w1.heap.size w1) (.cells (lttC x).toArray 33)
  have HL := Lib.hid (Has.alloc w1 (lttC x) 33)
  have HB2 := Lib.hid (bt (bt HA.out hb1) hA)
  obtain ⟨L, hLe⟩ : ∃ L, L = w1.heap.size := ⟨_, rfl⟩
  obtain ⟨W2, hW2⟩ : ∃ W2, W2 = w1.alloc (.cells (lttC x).toArray 33) := ⟨_, rfl⟩
  have HL2 : Hid (Has W2 L (lttC x)) := by unfold Hid; rw [hW2, hLe]; exact HL.out
  have HBW : Hid (Below w.heap.size w W2) := by unfold Hid; rw [hW2]; exact HB2.out
  have HWe := Lib.hid hW2; have HLe := Lib.hid hLe
  unfold lttC at HWe HJ HJ0 ⊢
  clear hA hb1 HC p0 p1 p2 p3 p4 p5 p6 p7 HX1 HA HL HB2 hW2 hLe
  go_upto_region 2 with fail
  rw [← HWe.out, ← HLe.out]
  clear HWe HLe
  --REGION2
  go_cut [7, 8] (JAt x C L w)
  case first =>
    have hd := Below.drew (Below.refl W2.heap.size W2)
    refine wp_region_noPanic ?_
    refine wp_region_held_drew (S := fun wx => Has wx L [.string ⟨x.fa.toArray⟩, .string ⟨x.fd.toArray⟩, .string ⟨x.ta.toArray⟩, .string ⟨x.td.toArray⟩, .string ⟨x.text.toArray⟩]) (by kernel_rfl) (HL2.out.down hd) (fun hHeld => ?_)
    refine heldTo (fun X => Below w.heap.size w X ∧ Has X L [.string ⟨x.fa.toArray⟩, .string ⟨x.fd.toArray⟩, .string ⟨x.ta.toArray⟩, .string ⟨x.td.toArray⟩, .string ⟨x.text.toArray⟩]) (fun X => Has X L [.string ⟨x.fa.toArray⟩, .string ⟨x.fd.toArray⟩, .string ⟨x.ta.toArray⟩, .string ⟨x.td.toArray⟩, .string ⟨x.text.toArray⟩]) ⟨bt HBW.out hd, hHeld⟩ (fun X h => h.2) (fun _ h => h) (fun V0 hR hHeld => ?_)
    clear hd
    obtain ⟨hB, -⟩ := hR
    refine wpAnyH_take (i := 0) (v := ?_) (by (simp only [List.getElem?_toArray, List.getElem?_cons_zero]; rfl)) (by kernel_rfl) (by kernel_rfl) (by kernel_rfl) (fun _ _ _ h => h) (Or.inl ⟨by rfl, ?_⟩) (by assumption) ?_
    rotate_left 1
    · intro w' hSw; (go_simp) <;> with_reducible rfl
    try simp only [Act.put, List.setIfInBounds_toArray, List.set_cons_zero, List.set_cons_succ]
    refine wpAnyH_take (i := 2) (v := ?_) (by (simp only [List.getElem?_toArray, List.getElem?_cons_succ, List.getElem?_cons_zero]; rfl)) (by kernel_rfl) (by kernel_rfl) (by kernel_rfl) (fun _ _ _ h => h) (Or.inl ⟨by rfl, ?_⟩) (by assumption) ?_
    rotate_left 1
    · intro w' hSw; obtain ⟨l0, l1, l2, l3, l4⟩ := ltt_get hSw; (go_simp) <;> with_reducible rfl
    try simp only [Act.put, List.setIfInBounds_toArray, List.set_cons_zero, List.set_cons_succ]
    refine wpAnyH_ready (rs := [1, 7]) (by kernel_rfl) (by simp) ?_
    refine AllReadyH.cons (by (simp only [List.getElem?_toArray, List.getElem?_cons_succ, List.getElem?_cons_zero]; rfl)) (fun K hK => ?_) ?_
    · go_simp
      go_at_call 23
      refine (HSC.out _ hB).mono ?_
      rintro e w6 ⟨G6, c6, rfl, hs6, hb6⟩
      try (go_wp2_with fail)
      have hHeld0 := hHeld
      refine hK.out _ _ ?_ (fun hHeld => ?_)
      · exact hHeld.down hb6
      clear hK K
      try simp only [Act.put, List.setIfInBounds_toArray, List.set_cons_zero, List.set_cons_succ]
      refine heldTo (fun V1 => (Below w.heap.size w V1) ∧ (Has V1 L [.string ⟨x.fa.toArray⟩, .string ⟨x.fd.toArray⟩, .string ⟨x.ta.toArray⟩, .string ⟨x.td.toArray⟩, .string ⟨x.text.toArray⟩]) ∧ (SAt (cCmd 15) V1 (fun _ => True) (.slice G6 cs.length c6) cs)) (fun V1 => Has V1 L [.string ⟨x.fa.toArray⟩, .string ⟨x.fd.toArray⟩, .string ⟨x.ta.toArray⟩, .string ⟨x.td.toArray⟩, .string ⟨x.text.toArray⟩]) ⟨bt hB hb6, hHeld, hs6.mono (fun _ _ => trivial)⟩ (fun V1 h => h.2.1) (fun _ h => h) (fun V1 hR hHeld => ?_)
      clear hs6 hb6
      clear hB
      obtain ⟨hB, -, hs⟩ := hR
      refine wpAnyH_ready (rs := [3, 7]) (by kernel_rfl) (by simp) ?_
      refine AllReadyH.cons (by (simp only [List.getElem?_toArray, List.getElem?_cons_succ, List.getElem?_cons_zero]; rfl)) (fun K hK => ?_) ?_
      · go_simp
        go_at_call 20
        refine (HJ.out _ _ _ hs hB).mono ?_
        rintro e w7 ⟨u7, rfl, hr7, hb7⟩
        obtain ⟨G7, c7, rfl⟩ := Sc.row_slice hr7
        try (go_wp2_with fail)
        have hHeld0 := hHeld
        refine hK.out _ _ ?_ (fun hHeld => ?_)
        · exact hHeld.down hb7
        clear hK K
        try simp only [Act.put, List.setIfInBounds_toArray, List.set_cons_zero, List.set_cons_succ]
        refine heldTo (fun V2 => (Below w.heap.size w V2) ∧ (Has V2 L [.string ⟨x.fa.toArray⟩, .string ⟨x.fd.toArray⟩, .string ⟨x.ta.toArray⟩, .string ⟨x.td.toArray⟩, .string ⟨x.text.toArray⟩]) ∧ (World.ownsRow V2 w.heap.size 65 3 (.slice G7 C.acts.length c7) C.acts.length (C.acts.flatMap actC))) (fun V2 => Has V2 L [.string ⟨x.fa.toArray⟩, .string ⟨x.fd.toArray⟩, .string ⟨x.ta.toArray⟩, .string ⟨x.td.toArray⟩, .string ⟨x.text.toArray⟩]) ⟨bt hB hb7, hHeld, row_base hr7 hB.size⟩ (fun V2 h => h.2.1) (fun _ h => h) (fun V2 hR hHeld => ?_)
        clear hr7 hb7
        clear hB hs
        obtain ⟨hB, -, hr⟩ := hR
        refine wpAnyH_take (i := 4) (v := ?_) (by (simp only [List.getElem?_toArray, List.getElem?_cons_succ, List.getElem?_cons_zero]; rfl)) (by kernel_rfl) (by kernel_rfl) (by kernel_rfl) (fun _ _ _ h => h) (Or.inl ⟨by rfl, ?_⟩) (by assumption) ?_
        rotate_left 1
        · intro w' hSw; (go_simp) <;> with_reducible rfl
        try simp only [Act.put, List.setIfInBounds_toArray, List.set_cons_zero, List.set_cons_succ]
        refine wpAnyH_take (i := 5) (v := ?_) (by (simp only [List.getElem?_toArray, List.getElem?_cons_succ, List.getElem?_cons_zero]; rfl)) (by kernel_rfl) (by kernel_rfl) (by kernel_rfl) (fun _ _ _ h => h) (Or.inl ⟨by rfl, ?_⟩) (by assumption) ?_
        rotate_left 1
        · intro w' hSw; (go_simp) <;> with_reducible rfl
        try simp only [Act.put, List.setIfInBounds_toArray, List.set_cons_zero, List.set_cons_succ]
        refine wpAnyH_take (i := 6) (v := ?_) (by (simp only [List.getElem?_toArray, List.getElem?_cons_succ, List.getElem?_cons_zero]; rfl)) (by kernel_rfl) (by kernel_rfl) (by kernel_rfl) (fun _ _ _ h => h) (Or.inl ⟨by rfl, ?_⟩) (by assumption) ?_
        rotate_left 1
        · intro w' hSw; (go_simp) <;> with_reducible rfl
        try simp only [Act.put, List.setIfInBounds_toArray, List.set_cons_zero, List.set_cons_succ]
        refine wpAnyH_ready (rs := [7]) (by kernel_rfl) (by simp) ?_
        refine AllReadyH.cons (by (simp only [List.getElem?_toArray, List.getElem?_cons_succ, List.getElem?_cons_zero]; rfl)) (fun K hK => ?_) ?_
        · go_simp
          have hHeld0 := hHeld
          refine hK.out _ _ ?_ (fun hHeld => ?_)
          · exact hHeld.down (ba (Below.refl _ _) _)
          clear hK K
          try simp only [Act.put, List.setIfInBounds_toArray, List.set_cons_zero, List.set_cons_succ]
          have hKL : L ≠ V2.heap.size := by have := hHeld0.2.2; omega
          have hKW : w.heap.size ≤ V2.heap.size := hB.size
          refine heldTo (fun V3 => (Below w.heap.size w V3) ∧ (Has V3 L [.string ⟨x.fa.toArray⟩, .string ⟨x.fd.toArray⟩, .string ⟨x.ta.toArray⟩, .string ⟨x.td.toArray⟩, .string ⟨x.text.toArray⟩]) ∧ (World.ownsRow V3 w.heap.size 65 3 (.slice G7 C.acts.length c7) C.acts.length (C.acts.flatMap actC)) ∧ (Has V3 V2.heap.size [.slice none 0 0, .int .i64 0, .bool false, .int .i64 0]) ∧ ((Value.slice G7 C.acts.length c7).ownBlock ≠ some V2.heap.size)) (fun V3 => Has V3 L [.string ⟨x.fa.toArray⟩, .string ⟨x.fd.toArray⟩, .string ⟨x.ta.toArray⟩, .string ⟨x.td.toArray⟩, .string ⟨x.text.toArray⟩]) ⟨ba hB _, hHeld, row_down hr (ba (Below.refl _ _) _), Has.alloc V2 _ _, fun e => by have := (World.ownsRow.lt hr _ e).2; omega⟩ (fun V3 h => h.2.1) (fun _ h => h) (fun V3 hR hHeld => ?_)
          clear hB hr
          obtain ⟨hB, -, hr, hC, hne⟩ := hR
          generalize V2.heap.size = Kb at hC hKL hKW hne ⊢
          refine wpAnyH_ready (rs := [8]) (by kernel_rfl) (by simp) ?_
          refine AllReadyH.cons (by (simp only [List.getElem?_toArray, List.getElem?_cons_succ, List.getElem?_cons_zero]; rfl)) (fun K hK => ?_) ?_
          · obtain ⟨e0, e1, e2, e3⟩ := has_quad hC
            obtain ⟨f0, f1, f2, f3⟩ := has_quadf hC
            go_simp
            have hHeld0 := hHeld
            refine hK.out _ _ ?_ (fun hHeld => ?_)
            · exact put4_has hHeld hKL _ _ _ _
            clear hK K
            try simp only [Act.put, List.setIfInBounds_toArray, List.set_cons_zero, List.set_cons_succ]
            refine wpAnyH_take (i := 9) (v := ?_) (by (simp only [List.getElem?_toArray, List.getElem?_cons_succ, List.getElem?_cons_zero]; rfl)) (by kernel_rfl) (by kernel_rfl) (by kernel_rfl) (fun _ _ _ h => h) (Or.inl ⟨by rfl, ?_⟩) (by assumption) ?_
            rotate_left 1
            · intro w' hSw; (go_simp) <;> with_reducible rfl
            try simp only [Act.put, List.setIfInBounds_toArray, List.set_cons_zero, List.set_cons_succ]
            refine wpAnyH_done (by kernel_rfl) ?_ _
            refine NoPanic.normal ?_
            go_wp2_with fail
            go_meet
            case rel => exact ⟨Kb, rfl, rfl, crs_put hC hr hne, hHeld, put4_below hB hKW _ _ _ _⟩
          exact AllReadyH.nil
        exact AllReadyH.nil
      refine AllReadyH.cons (by (simp only [List.getElem?_toArray, List.getElem?_cons_succ, List.getElem?_cons_zero]; rfl)) (fun K hK => ?_) ?_
      · go_simp
        have hHeld0 := hHeld
        refine hK.out _ _ ?_ (fun hHeld => ?_)
        · exact hHeld.down (ba (Below.refl _ _) _)
        clear hK K
        try simp only [Act.put, List.setIfInBounds_toArray, List.set_cons_zero, List.set_cons_succ]
        have hKL : L ≠ V1.heap.size := by have := hHeld0.2.2; omega
        have hKW : w.heap.size ≤ V1.heap.size := hB.size
        refine heldTo (fun V2 => (Below w.heap.size w V2) ∧ (Has V2 L [.string ⟨x.fa.toArray⟩, .string ⟨x.fd.toArray⟩, .string ⟨x.ta.toArray⟩, .string ⟨x.td.toArray⟩, .string ⟨x.text.toArray⟩]) ∧ (SAt (cCmd 15) V2 (fun _ => True) (.slice G6 cs.length c6) cs) ∧ (Has V2 V1.heap.size [.slice none 0 0, .int .i64 0, .bool false, .int .i64 0])) (fun V2 => Has V2 L [.string ⟨x.fa.toArray⟩, .string ⟨x.fd.toArray⟩, .string ⟨x.ta.toArray⟩, .string ⟨x.td.toArray⟩, .string ⟨x.text.toArray⟩]) ⟨ba hB _, hHeld, hs.down (ba (Below.refl _ _) _), Has.alloc V1 _ _⟩ (fun V2 h => h.2.1) (fun _ h => h) (fun V2 hR hHeld => ?_)
        clear hB hs
        obtain ⟨hB, -, hs, hC⟩ := hR
        generalize V1.heap.size = Kb at hC hKL hKW ⊢
        refine wpAnyH_ready (rs := [3]) (by kernel_rfl) (by simp) ?_
        refine AllReadyH.cons (by (simp only [List.getElem?_toArray, List.getElem?_cons_succ, List.getElem?_cons_zero]; rfl)) (fun K hK => ?_) ?_
        · go_simp
          go_at_call 20
          refine (HJ.out _ _ _ hs hB).mono ?_
          rintro e w7 ⟨u7, rfl, hr7, hb7⟩
          obtain ⟨G7, c7, rfl⟩ := Sc.row_slice hr7
          try (go_wp2_with fail)
          have hHeld0 := hHeld
          refine hK.out _ _ ?_ (fun hHeld => ?_)
          · exact hHeld.down hb7
          clear hK K
          try simp only [Act.put, List.setIfInBounds_toArray, List.set_cons_zero, List.set_cons_succ]
          refine heldTo (fun V3 => (Below w.heap.size w V3) ∧ (Has V3 L [.string ⟨x.fa.toArray⟩, .string ⟨x.fd.toArray⟩, .string ⟨x.ta.toArray⟩, .string ⟨x.td.toArray⟩, .string ⟨x.text.toArray⟩]) ∧ (World.ownsRow V3 w.heap.size 65 3 (.slice G7 C.acts.length c7) C.acts.length (C.acts.flatMap actC)) ∧ (Has V3 Kb [.slice none 0 0, .int .i64 0, .bool false, .int .i64 0]) ∧ ((Value.slice G7 C.acts.length c7).ownBlock ≠ some Kb)) (fun V3 => Has V3 L [.string ⟨x.fa.toArray⟩, .string ⟨x.fd.toArray⟩, .string ⟨x.ta.toArray⟩, .string ⟨x.td.toArray⟩, .string ⟨x.text.toArray⟩]) ⟨bt hB hb7, hHeld, row_base hr7 hB.size, hC.down hb7, fun e => by have h1 := (World.ownsRow.lt hr7 _ e).1; have h2 := hC.2.2; omega⟩ (fun V3 h => h.2.1) (fun _ h => h) (fun V3 hR hHeld => ?_)
          clear hr7 hb7
          clear hB hs hC
          obtain ⟨hB, -, hr, hC, hne⟩ := hR
          refine wpAnyH_take (i := 4) (v := ?_) (by (simp only [List.getElem?_toArray, List.getElem?_cons_succ, List.getElem?_cons_zero]; rfl)) (by kernel_rfl) (by kernel_rfl) (by kernel_rfl) (fun _ _ _ h => h) (Or.inl ⟨by rfl, ?_⟩) (by assumption) ?_
          rotate_left 1
          · intro w' hSw; (go_simp) <;> with_reducible rfl
          try simp only [Act.put, List.setIfInBounds_toArray, List.set_cons_zero, List.set_cons_succ]
          refine wpAnyH_take (i := 5) (v := ?_) (by (simp only [List.getElem?_toArray, List.getElem?_cons_succ, List.getElem?_cons_zero]; rfl)) (by kernel_rfl) (by kernel_rfl) (by kernel_rfl) (fun _ _ _ h => h) (Or.inl ⟨by rfl, ?_⟩) (by assumption) ?_
          rotate_left 1
          · intro w' hSw; (go_simp) <;> with_reducible rfl
          try simp only [Act.put, List.setIfInBounds_toArray, List.set_cons_zero, List.set_cons_succ]
          refine wpAnyH_take (i := 6) (v := ?_) (by (simp only [List.getElem?_toArray, List.getElem?_cons_succ, List.getElem?_cons_zero]; rfl)) (by kernel_rfl) (by kernel_rfl) (by kernel_rfl) (fun _ _ _ h => h) (Or.inl ⟨by rfl, ?_⟩) (by assumption) ?_
          rotate_left 1
          · intro w' hSw; (go_simp) <;> with_reducible rfl
          try simp only [Act.put, List.setIfInBounds_toArray, List.set_cons_zero, List.set_cons_succ]
          refine wpAnyH_ready (rs := [8]) (by kernel_rfl) (by simp) ?_
          refine AllReadyH.cons (by (simp only [List.getElem?_toArray, List.getElem?_cons_succ, List.getElem?_cons_zero]; rfl)) (fun K hK => ?_) ?_
          · obtain ⟨e0, e1, e2, e3⟩ := has_quad hC
            obtain ⟨f0, f1, f2, f3⟩ := has_quadf hC
            go_simp
            have hHeld0 := hHeld
            refine hK.out _ _ ?_ (fun hHeld => ?_)
            · exact put4_has hHeld hKL _ _ _ _
            clear hK K
            try simp only [Act.put, List.setIfInBounds_toArray, List.set_cons_zero, List.set_cons_succ]
            refine wpAnyH_take (i := 9) (v := ?_) (by (simp only [List.getElem?_toArray, List.getElem?_cons_succ, List.getElem?_cons_zero]; rfl)) (by kernel_rfl) (by kernel_rfl) (by kernel_rfl) (fun _ _ _ h => h) (Or.inl ⟨by rfl, ?_⟩) (by assumption) ?_
            rotate_left 1
            · intro w' hSw; (go_simp) <;> with_reducible rfl
            try simp only [Act.put, List.setIfInBounds_toArray, List.set_cons_zero, List.set_cons_succ]
            refine wpAnyH_done (by kernel_rfl) ?_ _
            refine NoPanic.normal ?_
            go_wp2_with fail
            go_meet
            case rel => exact ⟨Kb, rfl, rfl, crs_put hC hr hne, hHeld, put4_below hB hKW _ _ _ _⟩
          exact AllReadyH.nil
        exact AllReadyH.nil
      exact AllReadyH.nil
    refine AllReadyH.cons (by (simp only [List.getElem?_toArray, List.getElem?_cons_succ, List.getElem?_cons_zero]; rfl)) (fun K hK => ?_) ?_
    · go_simp
      have hHeld0 := hHeld
      refine hK.out _ _ ?_ (fun hHeld => ?_)
      · exact hHeld.down (ba (Below.refl _ _) _)
      clear hK K
      try simp only [Act.put, List.setIfInBounds_toArray, List.set_cons_zero, List.set_cons_succ]
      have hKL : L ≠ V0.heap.size := by have := hHeld0.2.2; omega
      have hKW : w.heap.size ≤ V0.heap.size := hB.size
      refine heldTo (fun V1 => (Below w.heap.size w V1) ∧ (Has V1 L [.string ⟨x.fa.toArray⟩, .string ⟨x.fd.toArray⟩, .string ⟨x.ta.toArray⟩, .string ⟨x.td.toArray⟩, .string ⟨x.text.toArray⟩]) ∧ (Has V1 V0.heap.size [.slice none 0 0, .int .i64 0, .bool false, .int .i64 0])) (fun V1 => Has V1 L [.string ⟨x.fa.toArray⟩, .string ⟨x.fd.toArray⟩, .string ⟨x.ta.toArray⟩, .string ⟨x.td.toArray⟩, .string ⟨x.text.toArray⟩]) ⟨ba hB _, hHeld, Has.alloc V0 _ _⟩ (fun V1 h => h.2.1) (fun _ h => h) (fun V1 hR hHeld => ?_)
      clear hB
      obtain ⟨hB, -, hC⟩ := hR
      generalize V0.heap.size = Kb at hC hKL hKW ⊢
      refine wpAnyH_ready (rs := [1]) (by kernel_rfl) (by simp) ?_
      refine AllReadyH.cons (by (simp only [List.getElem?_toArray, List.getElem?_cons_succ, List.getElem?_cons_zero]; rfl)) (fun K hK => ?_) ?_
      · go_simp
        go_at_call 23
        refine (HSC.out _ hB).mono ?_
        rintro e w6 ⟨G6, c6, rfl, hs6, hb6⟩
        try (go_wp2_with fail)
        have hHeld0 := hHeld
        refine hK.out _ _ ?_ (fun hHeld => ?_)
        · exact hHeld.down hb6
        clear hK K
        try simp only [Act.put, List.setIfInBounds_toArray, List.set_cons_zero, List.set_cons_succ]
        refine heldTo (fun V2 => (Below w.heap.size w V2) ∧ (Has V2 L [.string ⟨x.fa.toArray⟩, .string ⟨x.fd.toArray⟩, .string ⟨x.ta.toArray⟩, .string ⟨x.td.toArray⟩, .string ⟨x.text.toArray⟩]) ∧ (SAt (cCmd 15) V2 (fun _ => True) (.slice G6 cs.length c6) cs) ∧ (Has V2 Kb [.slice none 0 0, .int .i64 0, .bool false, .int .i64 0])) (fun V2 => Has V2 L [.string ⟨x.fa.toArray⟩, .string ⟨x.fd.toArray⟩, .string ⟨x.ta.toArray⟩, .string ⟨x.td.toArray⟩, .string ⟨x.text.toArray⟩]) ⟨bt hB hb6, hHeld, hs6.mono (fun _ _ => trivial), hC.down hb6⟩ (fun V2 h => h.2.1) (fun _ h => h) (fun V2 hR hHeld => ?_)
        clear hs6 hb6
        clear hB hC
        obtain ⟨hB, -, hs, hC⟩ := hR
        refine wpAnyH_ready (rs := [3]) (by kernel_rfl) (by simp) ?_
        refine AllReadyH.cons (by (simp only [List.getElem?_toArray, List.getElem?_cons_succ, List.getElem?_cons_zero]; rfl)) (fun K hK => ?_) ?_
        · go_simp
          go_at_call 20
          refine (HJ.out _ _ _ hs hB).mono ?_
          rintro e w7 ⟨u7, rfl, hr7, hb7⟩
          obtain ⟨G7, c7, rfl⟩ := Sc.row_slice hr7
          try (go_wp2_with fail)
          have hHeld0 := hHeld
          refine hK.out _ _ ?_ (fun hHeld => ?_)
          · exact hHeld.down hb7
          clear hK K
          try simp only [Act.put, List.setIfInBounds_toArray, List.set_cons_zero, List.set_cons_succ]
          refine heldTo (fun V3 => (Below w.heap.size w V3) ∧ (Has V3 L [.string ⟨x.fa.toArray⟩, .string ⟨x.fd.toArray⟩, .string ⟨x.ta.toArray⟩, .string ⟨x.td.toArray⟩, .string ⟨x.text.toArray⟩]) ∧ (World.ownsRow V3 w.heap.size 65 3 (.slice G7 C.acts.length c7) C.acts.length (C.acts.flatMap actC)) ∧ (Has V3 Kb [.slice none 0 0, .int .i64 0, .bool false, .int .i64 0]) ∧ ((Value.slice G7 C.acts.length c7).ownBlock ≠ some Kb)) (fun V3 => Has V3 L [.string ⟨x.fa.toArray⟩, .string ⟨x.fd.toArray⟩, .string ⟨x.ta.toArray⟩, .string ⟨x.td.toArray⟩, .string ⟨x.text.toArray⟩]) ⟨bt hB hb7, hHeld, row_base hr7 hB.size, hC.down hb7, fun e => by have h1 := (World.ownsRow.lt hr7 _ e).1; have h2 := hC.2.2; omega⟩ (fun V3 h => h.2.1) (fun _ h => h) (fun V3 hR hHeld => ?_)
          clear hr7 hb7
          clear hB hs hC
          obtain ⟨hB, -, hr, hC, hne⟩ := hR
          refine wpAnyH_take (i := 4) (v := ?_) (by (simp only [List.getElem?_toArray, List.getElem?_cons_succ, List.getElem?_cons_zero]; rfl)) (by kernel_rfl) (by kernel_rfl) (by kernel_rfl) (fun _ _ _ h => h) (Or.inl ⟨by rfl, ?_⟩) (by assumption) ?_
          rotate_left 1
          · intro w' hSw; (go_simp) <;> with_reducible rfl
          try simp only [Act.put, List.setIfInBounds_toArray, List.set_cons_zero, List.set_cons_succ]
          refine wpAnyH_take (i := 5) (v := ?_) (by (simp only [List.getElem?_toArray, List.getElem?_cons_succ, List.getElem?_cons_zero]; rfl)) (by kernel_rfl) (by kernel_rfl) (by kernel_rfl) (fun _ _ _ h => h) (Or.inl ⟨by rfl, ?_⟩) (by assumption) ?_
          rotate_left 1
          · intro w' hSw; (go_simp) <;> with_reducible rfl
          try simp only [Act.put, List.setIfInBounds_toArray, List.set_cons_zero, List.set_cons_succ]
          refine wpAnyH_take (i := 6) (v := ?_) (by (simp only [List.getElem?_toArray, List.getElem?_cons_succ, List.getElem?_cons_zero]; rfl)) (by kernel_rfl) (by kernel_rfl) (by kernel_rfl) (fun _ _ _ h => h) (Or.inl ⟨by rfl, ?_⟩) (by assumption) ?_
          rotate_left 1
          · intro w' hSw; (go_simp) <;> with_reducible rfl
          try simp only [Act.put, List.setIfInBounds_toArray, List.set_cons_zero, List.set_cons_succ]
          refine wpAnyH_ready (rs := [8]) (by kernel_rfl) (by simp) ?_
          refine AllReadyH.cons (by (simp only [List.getElem?_toArray, List.getElem?_cons_succ, List.getElem?_cons_zero]; rfl)) (fun K hK => ?_) ?_
          · obtain ⟨e0, e1, e2, e3⟩ := has_quad hC
            obtain ⟨f0, f1, f2, f3⟩ := has_quadf hC
            go_simp
            have hHeld0 := hHeld
            refine hK.out _ _ ?_ (fun hHeld => ?_)
            · exact put4_has hHeld hKL _ _ _ _
            clear hK K
            try simp only [Act.put, List.setIfInBounds_toArray, List.set_cons_zero, List.set_cons_succ]
            refine wpAnyH_take (i := 9) (v := ?_) (by (simp only [List.getElem?_toArray, List.getElem?_cons_succ, List.getElem?_cons_zero]; rfl)) (by kernel_rfl) (by kernel_rfl) (by kernel_rfl) (fun _ _ _ h => h) (Or.inl ⟨by rfl, ?_⟩) (by assumption) ?_
            rotate_left 1
            · intro w' hSw; (go_simp) <;> with_reducible rfl
            try simp only [Act.put, List.setIfInBounds_toArray, List.set_cons_zero, List.set_cons_succ]
            refine wpAnyH_done (by kernel_rfl) ?_ _
            refine NoPanic.normal ?_
            go_wp2_with fail
            go_meet
            case rel => exact ⟨Kb, rfl, rfl, crs_put hC hr hne, hHeld, put4_below hB hKW _ _ _ _⟩
          exact AllReadyH.nil
        exact AllReadyH.nil
      exact AllReadyH.nil
    exact AllReadyH.nil
  case rest =>
    clear HL2 HBW HSC HJ
    obtain ⟨Cb, rfl, rfl, hc, hl, hb⟩ := hcut
    obtain ⟨Gu, cu, hC, hS⟩ := hc
    obtain ⟨E, hE⟩ : ∃ E, E = endJ C := ⟨_, rfl⟩
    obtain ⟨nE, hnE⟩ : ∃ n, E.length = n := ⟨_, rfl⟩
    have HEND : Hid (∀ V F u, SAt cAct V F u C.acts → Calls Tryz.prog 24 #[.agg #[u, .int .i64 C.flags, .bool C.asked, .int .i64 C.fault]] V (EndS E nE V)) := fun V F u h => (end_any u C F V h hlenC hflagC).mono fun e w' h => by rw [← hE] at h; exact h.s hnE
    have HEND0 : Hid (∀ V G k, Calls Tryz.prog 24 #[.agg #[.slice G 0 k, .int .i64 0, .bool false, .int .i64 0]] V (EndS [keepA 0] 1 V)) := fun V G k => (end_any (.slice G 0 k) C0 (fun _ => True) V (nil_sat _ _ _ _) (by unfold C0; decide) C0_flag).mono fun e w' h => h.s rfl
    obtain ⟨acts, flags, asked, fault⟩ := C
    dsimp only at HEND hC hS hlenC
    obtain ⟨na, hna⟩ : ∃ n, n = acts.length := ⟨_, rfl⟩
    rw [← hna] at hC hS
    have HNA := Lib.hid hna; have HNE := Lib.hid hnE; have HE := Lib.hid hE; have HLC := Lib.hid hlenC
    have HE2 := Lib.hid hendC
    have HS := Lib.hid hS; have HCC := Lib.hid hC; have HL := Lib.hid hl; have HB := Lib.hid hb
    obtain ⟨c0, c1, c2, c3⟩ := has_quad hC
    have HC1 := Lib.hid (HEND.out _ _ _ hS)
    clear hC hS hl hb hE hnE hna hlenC hendC hflagC HEND
    go_wp2_with fail
    refine HC1.out.mono ?_
    rintro e w3 ⟨G3, k3, rfl, hs3, hb3⟩
    have HS3 := Lib.hid hs3
    have HB3 := Lib.hid (bt HB.out hb3)
    have HCC3 := Lib.hid (HCC.out.down hb3)
    have HL3 := Lib.hid (HL.out.down hb3)
    have HSA3 := Lib.hid (HS.out.down hb3)
    obtain ⟨l0, l1, l2, l3, l4⟩ := ltt_get HL3.out
    have HC2 := Lib.hid (HJ0.out w3 HB3.out)
    clear HC1 HB HCC HL HS hs3 hb3 c0 c1 c2 c3
    go_wp2_with fail
    refine HC2.out.mono ?_
    rintro e w4 ⟨G4, k4, rfl, hb4⟩
    have hA4 := ba (Below.refl w4.heap.size w4) (.cells #[.slice G4 0 k4, .int .i64 0, .bool false, .int .i64 0] 53)
    have hb4' := bt hb4 hA4
    have HS4 := Lib.hid (HS3.out.down hb4')
    have HB4 := Lib.hid (bt HB3.out hb4')
    have HCC4 := Lib.hid (HCC3.out.down hb4')
    have HSA4 := Lib.hid (HSA3.out.down hb4')
    have HC3 := Lib.hid (HEND0.out (w4.alloc (.cells #[.slice G4 0 k4, .int .i64 0, .bool false, .int .i64 0] 53)) G4 k4)
    clear HC2 HS3 HB3 HCC3 HL3 HSA3 l0 l1 l2 l3 l4 hA4 hb4 hb4' HJ0 HEND0
    go_wp2_with fail
    refine HC3.out.mono ?_
    rintro e w5 ⟨G5, k5, rfl, hs5, hb5⟩
    have hA5 := ba (Below.refl w5.heap.size w5) (.cells #[.int .i64 3, .string ⟨#[]⟩, .int .i64 0] 65)
    have hb5' := bt hb5 hA5
    have HS5 := Lib.hid (HS4.out.down hb5')
    have HB5 := Lib.hid (bt HB4.out hb5')
    have HCC5 := Lib.hid (HCC4.out.down hb5')
    have HSA5 := Lib.hid (HSA4.out.down hb5')
    have HK5 := Lib.hid (hs5.down hA5)
    have HC4 := Lib.hid (sameA_any _ _ [keepA 0] _ _ _ (hs5.down hA5) (keep_sat w5 65 0) (by simp))
    clear HC3 HS4 HB4 HCC4 HSA4 hs5 hA5 hb5 hb5'
    go_wp2_with fail
    refine HC4.out.mono ?_
    rintro e w6 ⟨rfl, hb6⟩
    have HS6 := Lib.hid (HS5.out.down hb6)
    have HB6 := Lib.hid (bt HB5.out hb6)
    have HCC6 := Lib.hid (HCC5.out.down hb6)
    have HSA6 := Lib.hid (HSA5.out.down hb6)
    have HK6 := Lib.hid (HK5.out.down hb6)
    obtain ⟨c0, c1, c2, c3⟩ := has_quad HCC6.out
    clear HC4 HS5 HB5 HCC5 HSA5 HK5 hb6
    go_upto_region 8 with fail
    rcases HE2.out.1 with hf | hf | hf <;> dsimp only at hf <;> subst hf
    · cases asked
      · have he := HE.out.trans (endJ_quiet rfl rfl)
        have hn := HNE.out
        rw [he] at hn
        obtain rfl : 1 = nE := hn
        have hdr := Below.drew (Below.refl w6.heap.size w6)
        rw [he] at HS6
        obtain ⟨g, off, rfl, p0, p1, p2⟩ := act_get HS6.out (Same.refl _ _) (Nat.le_refl _) 0 (by simp)
        obtain ⟨_, _, e1, q0, q1, q2⟩ := act_get HS6.out (Same.of_below hdr) hdr.size 0 (by simp)
        cases e1
        obtain ⟨d0, d1, d2, d3⟩ := has_quad (HCC6.out.down hdr)
        simp only [List.getElem_cons_zero, keepA, Nat.zero_mul, Nat.add_zero] at p0 p1 p2 q0 q1 q2
        clear he hdr
        go_upto_region 11 with fail
        go_quiet (fail)
        go_wp2_with fail
        go_ret
        exact ⟨rfl, ⟨HB6.out.os, HB6.out.tape, HB6.out.output, HB6.out.size, HB6.out.block⟩⟩
      · have he := HE.out.trans (endJ_acts rfl rfl)
        dsimp only at he
        have hpos := HE2.out.2 rfl rfl
        dsimp only at hpos
        have hn := HNE.out
        rw [he] at hn
        rw [he, ← hn, ← HNA.out] at HS6
        have hle : acts.length ≤ 1000000 := by have := HLC.out; omega
        have HC5 := Lib.hid (sameA_any _ _ acts _ _ _ HS6.out HSA6.out hle)
        have hnp : decide (0 < na) = true := decide_eq_true (by have := HNA.out; omega)
        obtain rfl : nE = na := by rw [← hn, ← HNA.out]
        clear he hpos hn hle
        go_wp2_with fail
        refine HC5.out.mono ?_
        rintro e w7 ⟨rfl, hb7⟩
        have HB7 := Lib.hid (bt HB6.out hb7)
        clear hb7 HC5
        go_wp2_with fail
        go_ret
        exact ⟨rfl, HB7.out⟩
    · have he := HE.out.trans (endJ_fault (by show ¬ (9 : Int) = 0; decide))
      have hn := HNE.out
      rw [he] at hn
      obtain rfl : 1 = nE := hn
      rw [he] at HS6
      have HC5 := Lib.hid (sameA_any _ _ [keepA 0] _ _ _ HS6.out HK6.out (by simp))
      clear he
      go_wp2_with fail
      refine HC5.out.mono ?_
      rintro e w7 ⟨rfl, hb7⟩
      have HB7 := Lib.hid (bt HB6.out hb7)
      obtain ⟨d0, d1, d2, d3⟩ := has_quad (HCC6.out.down hb7)
      clear hb7 HC5
      go_wp2_with fail
      go_ret
      exact ⟨rfl, HB7.out⟩
    · have he := HE.out.trans (endJ_fault (by show ¬ (5 : Int) = 0; decide))
      have hn := HNE.out
      rw [he] at hn
      obtain rfl : 1 = nE := hn
      rw [he] at HS6
      have HC5 := Lib.hid (sameA_any _ _ [keepA 0] _ _ _ HS6.out HK6.out (by simp))
      clear he
      go_wp2_with fail
      refine HC5.out.mono ?_
      rintro e w7 ⟨rfl, hb7⟩
      have HB7 := Lib.hid (bt HB6.out hb7)
      obtain ⟨d0, d1, d2, d3⟩ := has_quad (HCC6.out.down hb7)
      clear hb7 HC5
      go_wp2_with fail
      go_ret
      exact ⟨rfl, HB7.out⟩
theorem judgeKept_walk (a0 a1 a2 b0 b1 b2 : ByteArray) (G : Option Addr) (n c : Nat) (z : Nat → Nat → ByteArray) (bo : ByteArray) (sv : Value) (k : Nat) (l : List Stk) (mx : Int) (W : World) (h0 : a0.size ≤ maxLen) (h1 : a1.size ≤ maxLen) (_h2 : a2.size ≤ maxLen) (j0 : b0.size ≤ maxLen) (j1 : b1.size ≤ maxLen) (_j2 : b2.size ≤ maxLen) (hx : StrRows W G n 2 z ∧ n ≤ maxLen) (hbo : bo.size ≤ maxLen)
    (hl : SAt (cStk k) W (fun _ => True) sv l) (hlen : l.length ≤ 140737488351232) (hT : Sc.Tabs W W.heap.size) (hE : Sc.ExtAt W ∧ 0 < W.heap.size) (hN : NamesAt W ∧ 2 < W.heap.size) (hmx : W.cell? ⟨6, 0, none⟩ = some (.int .i64 mx)) :
    Calls Tryz.prog 6 #[.agg #[.string a0, .string a1, .string a2, .string b0, .string b1, .string b2, .slice G n c, .string bo], sv] W fun e w' => e = .returned (.bool true) ∧ Below W.heap.size W w' :=
  judgeKept_any a0 a1 a2 b0 b1 b2 G n c z bo l sv k _ mx W ⟨h0, h1, j0, j1, hx, hbo⟩ hl hlen ⟨hT, hE, hN, hmx⟩
end Go.Proofs.YtpfbkdbblpppdaaGreatDoor.Jd
