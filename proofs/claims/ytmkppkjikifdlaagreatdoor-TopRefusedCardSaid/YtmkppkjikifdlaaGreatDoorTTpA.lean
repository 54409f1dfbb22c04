/- On the way. -/
import Derived.Test.YtmkppkjikifdlaaGreatDoorTJgB
import Derived.Test.YtmkppkjikifdlaaGreatDoorTJgD
import Derived.Test.YtmkppkjikifdlaaGreatDoorTBxC
import Derived.Test.YtmkppkjikifdlaaGreatDoorTHeldBy
import Derived.Test.YtmkppkjikifdlaaGreatDoorTRawOpen
import Derived.Test.YtmkppkjikifdlaaGreatDoorTCod
import Derived.Test.YtmkppkjikifdlaaGreatDoorTTopP
import Derived.Deep.DeepCutAuto
set_option linter.unusedVariables false
set_option linter.unusedSimpArgs false
set_option maxHeartbeats 8000000
set_option maxRecDepth 20000
namespace Go.Proofs.YtmkppkjikifdlaaGreatDoor.Tp
open Go.RowKit
theorem gB {α : Type} {l : List α} {i : Nat} {o : α} (h : l[i]? = some o) : l.toArray[i]? = some o := by rw [List.getElem?_toArray]; exact h
theorem tkH {P : Program} {md : Region.Mode} {ops : Array Oper} {Q : Exit → Act → World → Prop} {S : World → Prop} (i : Nat) {oi : Oper} {v : Value} {fuel : Nat} {listed : Array Bool} {a a' : Act} {w : World} (hi : ops[i]? = some oi)
 (hy : ∀ w, S w → (execOp a.eval oi).run P w = .ok (.value v) w) (h : wpAnyH P md ops Q S fuel (listed.setIfInBounds i true) a' w)
 (hs : Region.noSelect ops = true := by kernel_rfl) (hf : Region.free md ops listed i = true := by kernel_rfl) (hr : (Region.ready md ops listed).contains i = true := by kernel_rfl) (hQ : ∀ c a w, Q (.panic c) (a.put oi.dst v) w → Q (.panic c) a w := by exact fun _ _ _ h => h)
 (hw : Region.wanted oi (yielded ops a.tmps) = true := by rfl) (hS : S w := by assumption) (ha : a.put oi.dst v = a' := by (try simp only [Act.put, List.setIfInBounds_toArray, List.set_cons_zero, List.set_cons_succ]); rfl) : wpAnyH P md ops Q S (fuel + 1) listed a w := wpAnyH_take hi hs hf hr hQ (Or.inl ⟨hw, hy⟩) hS (ha ▸ h)
theorem tkP {P : Program} {md : Region.Mode} {ops : Array Oper} {Q : Exit → Act → World → Prop} {S : World → Prop} (i : Nat) {oi : Oper} {v : Value} {fuel : Nat} {listed : Array Bool} {a a' : Act} {w : World} (hi : ops[i]? = some oi) (h : wpAnyH P md ops Q S fuel (listed.setIfInBounds i true) a' w)
 (hy : ∀ w, S w → (execOp a.eval oi).run P w = .ok (.value v) w := by intro w' hSw; (go_simp) <;> with_reducible rfl)
 (hs : Region.noSelect ops = true := by kernel_rfl) (hf : Region.free md ops listed i = true := by kernel_rfl) (hr : (Region.ready md ops listed).contains i = true := by kernel_rfl) (hQ : ∀ c a w, Q (.panic c) (a.put oi.dst v) w → Q (.panic c) a w := by exact fun _ _ _ h => h)
 (hw : Region.wanted oi (yielded ops a.tmps) = true := by rfl) (hS : S w := by assumption) (ha : a.put oi.dst v = a' := by (try simp only [Act.put, List.setIfInBounds_toArray, List.set_cons_zero, List.set_cons_succ]); rfl) : wpAnyH P md ops Q S (fuel + 1) listed a w := tkH i hi hy h hs hf hr hQ hw hS ha
theorem rdH {P : Program} {md : Region.Mode} {ops : Array Oper} {Q : Exit → Act → World → Prop} {S : World → Prop} (rs : List Nat) {fuel : Nat} {listed : Array Bool} {a : Act} {w : World} (h : AllReadyH P md ops Q S fuel listed a w rs) (hr : Region.ready md ops listed = rs := by kernel_rfl) (hne : rs ≠ [] := by simp) : wpAnyH P md ops Q S (fuel + 1) listed a w := wpAnyH_ready hr hne h
theorem hTo {P : Program} {md : Region.Mode} {ops : Array Oper} {Q : Exit → Act → World → Prop} {B : World} {fuel : Nat} {listed : Array Bool} {a : Act} {w : World} (R : World → Prop) (hR : R w) (hS : ∀ V, R V → Below B.heap.size B V) (h : ∀ V, R V → Below B.heap.size B V → wpAnyH P md ops Q (fun X => Below B.heap.size B X) fuel listed a V) : wpAnyH P md ops Q (fun X => Below B.heap.size B X) fuel listed a w :=
 heldTo R (fun X => Below B.heap.size B X) hR hS (fun _ h => h) h
theorem Picked_any (n m : Int) (w : World) (h0 : Int64 n) (h2 : 1 ≤ m) (h3 : m ≤ 9223372036854775807) :
    Calls Tryz.prog 8 #[.int .i64 n, .int .i64 m] w fun e w' => e = .returned (.int .i64 (pick n m)) ∧ w = w' := by
 have HP := Lib.hid (picked_any n m w h0.1 h0.2 h2 h3)
 go_enter Tryz.func8, Tryz.ntmps8
 go_wp2_with fail
 refine HP.out.mono ?_
 rintro e w1 ⟨rfl, rfl⟩
 go_wp2_with fail
 go_ret
 exact ⟨rfl, rfl⟩
theorem Word_any (s : ByteArray) (w : World) (hs : s.size ≤ 9223372036854775807) :
    Calls Tryz.prog 54 #[.string s] w fun e w' => (∃ t : ByteArray, e = .returned (.string t) ∧ t.size ≤ 8) ∧ Below w.heap.size w w' := by
 have HP := Lib.hid (word_any s w hs)
 have hl : (wordL s.data.toList).length ≤ 8 := by
  unfold wordL
  split
  ·decide
  ·rw [List.length_map, List.length_take]; omega
 have HL := Lib.hid hl
 clear hl
 go_enter Tryz.func54, Tryz.ntmps54
 go_wp2_with fail
 refine HP.out.mono ?_
 rintro e w1 ⟨rfl, hb1⟩
 have HB := Lib.hid hb1
 clear hb1
 go_wp2_with fail
 go_ret
 exact ⟨⟨_, rfl, by show (List.toArray _).size ≤ 8; rw [List.size_toArray]; exact HL.out⟩, HB.out⟩
theorem val40 (l : List UInt8) : (valueL l).length ≤ 40 := by unfold valueL valU; rw [List.length_map, List.length_range]; omega
theorem Value_any (s : ByteArray) (w : World) (hs : s.size ≤ 9223372036854775807) :
    Calls Tryz.prog 15 #[.string s] w fun e w' => (∃ t : ByteArray, e = .returned (.string t) ∧ t.size ≤ 40) ∧ Below w.heap.size w w' := by
 have HP := Lib.hid (value_any s w hs)
 have HL := Lib.hid (val40 s.data.toList)
 go_enter Tryz.func15, Tryz.ntmps15
 go_wp2_with fail
 refine HP.out.mono ?_
 rintro e w1 ⟨rfl, hb1⟩
 have HB := Lib.hid hb1
 clear hb1
 go_wp2_with fail
 go_ret
 exact ⟨⟨_, rfl, by show (List.toArray _).size ≤ 40; rw [List.size_toArray]; exact HL.out⟩, HB.out⟩
theorem head_any (c : Raw) (w : World) (h : RawOK c) :
    Calls Tryz.prog 53 #[rawV c] w fun e w' => (∃ s : ByteArray, e = .returned (.string s) ∧ s.size ≤ 1000) ∧ Below w.heap.size w w' := by
 obtain ⟨kd, cn, us, a, b, tx⟩ := c
 obtain ⟨h1, h2, h3, h4, h5, h6⟩ := h
 simp only at h1 h2 h3 h4 h5 h6
 have HPK : Hid (∀ w, Calls Tryz.prog 8 #[.int .i64 b, .int .i64 3] w fun e w' => e = .returned (.int .i64 (pick b (3 : Nat))) ∧ w = w') := fun w => Picked_any b 3 w h5 (by omega) (by omega)
 have HP4 : Hid (∀ w, Calls Tryz.prog 8 #[.int .i64 b, .int .i64 4] w fun e w' => e = .returned (.int .i64 (pick b (4 : Nat))) ∧ w = w') := fun w => Picked_any b 4 w h5 (by omega) (by omega)
 have HP5 : Hid (∀ w, Calls Tryz.prog 8 #[.int .i64 b, .int .i64 5] w fun e w' => e = .returned (.int .i64 (pick b (5 : Nat))) ∧ w = w') := fun w => Picked_any b 5 w h5 (by omega) (by omega)
 have HWD : Hid (∀ w, Calls Tryz.prog 54 #[.string tx] w fun e w' => (∃ t : ByteArray, e = .returned (.string t) ∧ t.size ≤ 8) ∧ Below w.heap.size w w') := fun w => Word_any tx w h6
 have k3 := pick_lt b 3 (by omega)
 have k5 := pick_lt b 5 (by omega)
 generalize pick b (3 : Nat) = p3 at HPK k3
 generalize pick b (4 : Nat) = p4 at HP4
 generalize pick b (5 : Nat) = p5 at HP5 k5
 have K3 := Lib.hid k3
 clear h1 h2 h3 h4 h5 h6 k3
 show Calls Tryz.prog 53 #[.agg #[.int .i64 kd, .int .i64 cn, .int .i64 us, .int .i64 a, .int .i64 b, .string tx]] w _
 have hal := ba (Below.refl w.heap.size w) (.cells #[.int .i64 kd, .int .i64 cn, .int .i64 us, .int .i64 a, .int .i64 b, .string tx] 28)
 have hg := Has.alloc w [.int .i64 kd, .int .i64 cn, .int .i64 us, .int .i64 a, .int .i64 b, .string tx] 28
 obtain ⟨wr, hwr⟩ : ∃ W, W = w.alloc (.cells #[.int .i64 kd, .int .i64 cn, .int .i64 us, .int .i64 a, .int .i64 b, .string tx] 28) := ⟨_, rfl⟩
 obtain ⟨R, hR⟩ : ∃ R, R = w.heap.size := ⟨_, rfl⟩
 have hg' : Has wr R [.int .i64 kd, .int .i64 cn, .int .i64 us, .int .i64 a, .int .i64 b, .string tx] := by rw [hwr, hR]; exact hg
 have HG := Lib.hid hg'
 rw [← hwr] at hal
 have HAL := Lib.hid hal; have HWR := Lib.hid hwr; have HRE := Lib.hid hR
 clear hal hg hg' hwr hR
 go_enter Tryz.func53, Tryz.ntmps53
 go_upto_region 1 with fail
 rw [← HWR.out, ← HRE.out]
 clear HWR
 go_cut [3] (fun v wx => ∃ s : ByteArray, v = .string s ∧ s.size ≤ 60 ∧ Below wr.heap.size wr wx)
 case first =>
  have hk : p3 = 0 ∨ p3 = 1 ∨ p3 = 2 := by have := K3.out; omega
  clear HP4 HP5 k5 K3
  rcases hk with rfl | rfl | rfl
  all_goals
   have hd := Below.drew (Below.refl wr.heap.size wr)
   refine wp_region_noPanic ?_
   refine wp_region_held_drew (S := fun wx => Below wr.heap.size wr wx) (by kernel_rfl) hd (fun hHeld => ?_)
   refine hTo (B := wr) (fun X => Below wr.heap.size wr X) hd (fun X h => h) (fun V0 hR hHeld => ?_)
   clear hR hd
   refine tkP 1 (gB rfl) ?_
   refine tkH 2 (v := ?_) (gB rfl) ?_ ?_
   rotate_left 1
   ·intro w' hSw; obtain ⟨g0, g1, g2, g3, g4, g5⟩ := (HG.out.down hSw).six; (go_simp) <;> with_reducible rfl
   refine tkP 8 (gB rfl) ?_
   refine tkH 9 (v := ?_) (gB rfl) ?_ ?_
   rotate_left 1
   ·intro w' hSw; obtain ⟨g0, g1, g2, g3, g4, g5⟩ := (HG.out.down hSw).six; (go_simp) <;> with_reducible rfl
   refine rdH [0, 3] ?_
   refine AllReadyH.cons (gB rfl) (fun K hK => ?_) ?_
   ·go_simp
    refine hK.out _ _ (ba hHeld _) (fun hHeld => ?_)
    clear hK K
    try simp only [Act.put, List.setIfInBounds_toArray, List.set_cons_zero, List.set_cons_succ]
    refine heldTo (fun V1 => Below wr.heap.size wr V1 ∧ Has V1 V0.heap.size [.string ⟨#[119, 111, 114, 107]⟩, .string ⟨#[102, 117, 110]⟩, .string ⟨#[112, 108, 97, 121]⟩]) (fun V1 => Below wr.heap.size wr V1 ∧ Has V1 V0.heap.size [.string ⟨#[119, 111, 114, 107]⟩, .string ⟨#[102, 117, 110]⟩, .string ⟨#[112, 108, 97, 121]⟩]) ⟨hHeld, Has.alloc V0 _ _⟩ (fun V1 h => h) (fun _ h => h.1) (fun V1 hR hHeld => ?_)
    clear hR
    generalize V0.heap.size = A at hHeld ⊢
    refine rdH [3] ?_
    refine AllReadyH.cons (gB rfl) (fun K hK => ?_) ?_
    ·go_simp
     go_at_call 8
     refine (HPK.out _).mono ?_
     rintro e w' ⟨rfl, rfl⟩
     try (go_wp2_with fail)
     refine hK.out _ _ (hHeld) (fun hHeld => ?_)
     clear hK K
     refine tkP 4 (gB rfl) ?_
     refine tkH 5 (v := ?_) (gB rfl) ?_ ?_
     rotate_left 1
     ·intro w' hSw; have q0 := hSw.2.1 0 _ rfl; have q1 := hSw.2.1 1 _ rfl; have q2 := hSw.2.1 2 _ rfl; (go_simp) <;> with_reducible rfl
     refine tkP 6 (gB rfl) ?_
     refine tkP 7 (gB rfl) ?_
     refine rdH [10] ?_
     refine AllReadyH.cons (gB rfl) (fun K hK => ?_) ?_
     ·go_simp
      go_at_call 54
      refine (HWD.out _).mono ?_
      rintro e w4 ⟨⟨sw, rfl, hsw⟩, hb4⟩
      have HSW := Lib.hid hsw
      clear hsw
      try (go_wp2_with fail)
      refine hK.out _ _ (⟨bt hHeld.1 hb4, hHeld.2.down hb4⟩) (fun hHeld => ?_)
      clear hK K
      refine heldTo (fun V2 => Below wr.heap.size wr V2 ∧ Has V2 A [.string ⟨#[119, 111, 114, 107]⟩, .string ⟨#[102, 117, 110]⟩, .string ⟨#[112, 108, 97, 121]⟩]) (fun V2 => Below wr.heap.size wr V2 ∧ Has V2 A [.string ⟨#[119, 111, 114, 107]⟩, .string ⟨#[102, 117, 110]⟩, .string ⟨#[112, 108, 97, 121]⟩]) hHeld (fun V2 h => h) (fun _ h => h) (fun V2 hR hHeld => ?_)
      clear hR hb4
      refine tkH 11 (v := ?_) (gB rfl) ?_ ?_
      rotate_left 1
      ·intro w' hSw; have n1 : ¬ 9223372036854775807 < 13 + sw.size := (by have := HSW.out; omega); have n2 : ¬ 9223372036854775807 < 14 + sw.size := (by have := HSW.out; omega); (go_simp) <;> with_reducible rfl
      refine tkH 12 (v := ?_) (gB rfl) ?_ ?_
      rotate_left 1
      ·intro w' hSw; have n1 : ¬ 9223372036854775807 < 13 + sw.size + 2 := (by have := HSW.out; omega); have n2 : ¬ 9223372036854775807 < 14 + sw.size + 2 := (by have := HSW.out; omega); (go_simp) <;> with_reducible rfl
      refine tkP 13 (gB rfl) ?_
      refine wpAnyH_done (by kernel_rfl) ?_ _
      refine NoPanic.normal ?_
      go_wp2_with fail
      go_meet
      case rel => exact ⟨_, rfl, by have := HSW.out; simp only [ByteArray.size_append]; show 9 + _ + 1 + _ + 2 ≤ 60; first | (show 9 + 4 + 1 + _ + 2 ≤ 60; omega) | (show 9 + 3 + 1 + _ + 2 ≤ 60; omega), hHeld.1⟩
     exact .nil
    exact .nil
   refine AllReadyH.cons (gB rfl) (fun K hK => ?_) ?_
   ·go_simp
    go_at_call 8
    refine (HPK.out _).mono ?_
    rintro e w' ⟨rfl, rfl⟩
    try (go_wp2_with fail)
    refine hK.out _ _ (hHeld) (fun hHeld => ?_)
    clear hK K
    try simp only [Act.put, List.setIfInBounds_toArray, List.set_cons_zero, List.set_cons_succ]
    refine rdH [0, 10] ?_
    refine AllReadyH.cons (gB rfl) (fun K hK => ?_) ?_
    ·go_simp
     refine hK.out _ _ (ba hHeld _) (fun hHeld => ?_)
     clear hK K
     refine heldTo (fun V1 => Below wr.heap.size wr V1 ∧ Has V1 V0.heap.size [.string ⟨#[119, 111, 114, 107]⟩, .string ⟨#[102, 117, 110]⟩, .string ⟨#[112, 108, 97, 121]⟩]) (fun V1 => Below wr.heap.size wr V1 ∧ Has V1 V0.heap.size [.string ⟨#[119, 111, 114, 107]⟩, .string ⟨#[102, 117, 110]⟩, .string ⟨#[112, 108, 97, 121]⟩]) ⟨hHeld, Has.alloc V0 _ _⟩ (fun V1 h => h) (fun _ h => h.1) (fun V1 hR hHeld => ?_)
     clear hR
     generalize V0.heap.size = A at hHeld ⊢
     refine tkP 4 (gB rfl) ?_
     refine tkH 5 (v := ?_) (gB rfl) ?_ ?_
     rotate_left 1
     ·intro w' hSw; have q0 := hSw.2.1 0 _ rfl; have q1 := hSw.2.1 1 _ rfl; have q2 := hSw.2.1 2 _ rfl; (go_simp) <;> with_reducible rfl
     refine tkP 6 (gB rfl) ?_
     refine tkP 7 (gB rfl) ?_
     refine rdH [10] ?_
     refine AllReadyH.cons (gB rfl) (fun K hK => ?_) ?_
     ·go_simp
      go_at_call 54
      refine (HWD.out _).mono ?_
      rintro e w4 ⟨⟨sw, rfl, hsw⟩, hb4⟩
      have HSW := Lib.hid hsw
      clear hsw
      try (go_wp2_with fail)
      refine hK.out _ _ (⟨bt hHeld.1 hb4, hHeld.2.down hb4⟩) (fun hHeld => ?_)
      clear hK K
      refine heldTo (fun V2 => Below wr.heap.size wr V2 ∧ Has V2 A [.string ⟨#[119, 111, 114, 107]⟩, .string ⟨#[102, 117, 110]⟩, .string ⟨#[112, 108, 97, 121]⟩]) (fun V2 => Below wr.heap.size wr V2 ∧ Has V2 A [.string ⟨#[119, 111, 114, 107]⟩, .string ⟨#[102, 117, 110]⟩, .string ⟨#[112, 108, 97, 121]⟩]) hHeld (fun V2 h => h) (fun _ h => h) (fun V2 hR hHeld => ?_)
      clear hR hb4
      refine tkH 11 (v := ?_) (gB rfl) ?_ ?_
      rotate_left 1
      ·intro w' hSw; have n1 : ¬ 9223372036854775807 < 13 + sw.size := (by have := HSW.out; omega); have n2 : ¬ 9223372036854775807 < 14 + sw.size := (by have := HSW.out; omega); (go_simp) <;> with_reducible rfl
      refine tkH 12 (v := ?_) (gB rfl) ?_ ?_
      rotate_left 1
      ·intro w' hSw; have n1 : ¬ 9223372036854775807 < 13 + sw.size + 2 := (by have := HSW.out; omega); have n2 : ¬ 9223372036854775807 < 14 + sw.size + 2 := (by have := HSW.out; omega); (go_simp) <;> with_reducible rfl
      refine tkP 13 (gB rfl) ?_
      refine wpAnyH_done (by kernel_rfl) ?_ _
      refine NoPanic.normal ?_
      go_wp2_with fail
      go_meet
      case rel => exact ⟨_, rfl, by have := HSW.out; simp only [ByteArray.size_append]; show 9 + _ + 1 + _ + 2 ≤ 60; first | (show 9 + 4 + 1 + _ + 2 ≤ 60; omega) | (show 9 + 3 + 1 + _ + 2 ≤ 60; omega), hHeld.1⟩
     exact .nil
    refine AllReadyH.cons (gB rfl) (fun K hK => ?_) ?_
    ·go_simp
     go_at_call 54
     refine (HWD.out _).mono ?_
     rintro e w4 ⟨⟨sw, rfl, hsw⟩, hb4⟩
     have HSW := Lib.hid hsw
     clear hsw
     try (go_wp2_with fail)
     refine hK.out _ _ (bt hHeld hb4) (fun hHeld => ?_)
     clear hK K
     try simp only [Act.put, List.setIfInBounds_toArray, List.set_cons_zero, List.set_cons_succ]
     refine hTo (B := wr) (fun V1 => Below wr.heap.size wr V1) hHeld (fun V1 h => h) (fun V1 hR hHeld => ?_)
     clear hR hb4
     refine rdH [0] ?_
     refine AllReadyH.cons (gB rfl) (fun K hK => ?_) ?_
     ·go_simp
      refine hK.out _ _ (ba hHeld _) (fun hHeld => ?_)
      clear hK K
      refine heldTo (fun V2 => Below wr.heap.size wr V2 ∧ Has V2 V1.heap.size [.string ⟨#[119, 111, 114, 107]⟩, .string ⟨#[102, 117, 110]⟩, .string ⟨#[112, 108, 97, 121]⟩]) (fun V2 => Below wr.heap.size wr V2 ∧ Has V2 V1.heap.size [.string ⟨#[119, 111, 114, 107]⟩, .string ⟨#[102, 117, 110]⟩, .string ⟨#[112, 108, 97, 121]⟩]) ⟨hHeld, Has.alloc V1 _ _⟩ (fun V2 h => h) (fun _ h => h.1) (fun V2 hR hHeld => ?_)
      clear hR
      generalize V1.heap.size = A at hHeld ⊢
      refine tkP 4 (gB rfl) ?_
      refine tkH 5 (v := ?_) (gB rfl) ?_ ?_
      rotate_left 1
      ·intro w' hSw; have q0 := hSw.2.1 0 _ rfl; have q1 := hSw.2.1 1 _ rfl; have q2 := hSw.2.1 2 _ rfl; (go_simp) <;> with_reducible rfl
      refine tkP 6 (gB rfl) ?_
      refine tkP 7 (gB rfl) ?_
      refine tkH 11 (v := ?_) (gB rfl) ?_ ?_
      rotate_left 1
      ·intro w' hSw; have n1 : ¬ 9223372036854775807 < 13 + sw.size := (by have := HSW.out; omega); have n2 : ¬ 9223372036854775807 < 14 + sw.size := (by have := HSW.out; omega); (go_simp) <;> with_reducible rfl
      refine tkH 12 (v := ?_) (gB rfl) ?_ ?_
      rotate_left 1
      ·intro w' hSw; have n1 : ¬ 9223372036854775807 < 13 + sw.size + 2 := (by have := HSW.out; omega); have n2 : ¬ 9223372036854775807 < 14 + sw.size + 2 := (by have := HSW.out; omega); (go_simp) <;> with_reducible rfl
      refine tkP 13 (gB rfl) ?_
      refine wpAnyH_done (by kernel_rfl) ?_ _
      refine NoPanic.normal ?_
      go_wp2_with fail
      go_meet
      case rel => exact ⟨_, rfl, by have := HSW.out; simp only [ByteArray.size_append]; show 9 + _ + 1 + _ + 2 ≤ 60; first | (show 9 + 4 + 1 + _ + 2 ≤ 60; omega) | (show 9 + 3 + 1 + _ + 2 ≤ 60; omega), hHeld.1⟩
     exact .nil
    exact .nil
   exact .nil
 case rest =>
  obtain ⟨s, rfl, hs, hb⟩ := hcut
  obtain ⟨g0, g1, g2, g3, g4, g5⟩ := (HG.out.down hb).six
  have HB := Lib.hid hb
  have hs1 : s.size ≤ 60 := hs
  clear hb hs HPK HWD K3
  have n1 : ¬ 9223372036854775807 < s.size + 11 := by omega
  have hq : p4 = 1 ∨ (p4 ≠ 1 ∧ ((p4 : Int) == 1) = false) := by
   rcases Decidable.em (p4 = 1) with h4 | h4
   ·exact .inl h4
   ·exact .inr ⟨h4, by rw [beq_eq_false_iff_ne]; omega⟩
  rcases hq with rfl | ⟨h4, q0⟩
  all_goals
   go_wp2_with fail
   refine (HP4.out _).mono ?_
   rintro e w1 ⟨rfl, rfl⟩
   clear HP4
   go_wp2_with fail
   go_loopw [3, 4] (fun v i wx => ∃ (t : ByteArray) (j : Nat), v = .string t ∧ i = .int .i64 j ∧ j ≤ p5 ∧ t.size ≤ 100 + 110 * j ∧ Below wr.heap.size wr wx) (fun _ i _ => p5 - (intOf i).toNat)
   case atStart => exact ⟨_, 0, rfl, rfl, Nat.zero_le _, by first | omega | (rw [ByteArray.size_append]; show _ + 11 ≤ _; omega), HB.out⟩
   case round =>
    obtain ⟨t, j, rfl, rfl, hj, ht, hbj⟩ := hrel
    obtain ⟨x0, x1, x2, x3, x4, x5⟩ := (HG.out.down hbj).six
    have HBJ := Lib.hid hbj
    clear hbj
    by_cases hlt : j < p5
    ·have q1 : decide ((j : Int) < (p5 : Int)) = true := decide_eq_true (by omega)
     have q2 : decide (j < p5) = true := decide_eq_true hlt
     have n1 : ¬ 9223372036854775807 < t.size + 105 := by omega
     go_wp2_with fail
     refine (HP5.out _).mono ?_
     rintro e w1 ⟨rfl, rfl⟩
     go_wp2_with fail
     go_roundw
     case rel => exact ⟨_, j + 1, rfl, by simp, by omega, by rw [ByteArray.size_append]; show _ + 105 ≤ _; omega, HBJ.out⟩
     case measure => simp [intOf]; omega
    ·have q1 : decide ((j : Int) < (p5 : Int)) = false := decide_eq_false (by omega)
     have q2 : decide (j < p5) = false := decide_eq_false hlt
     go_wp2_with fail
     refine (HP5.out _).mono ?_
     rintro e w1 ⟨rfl, rfl⟩
     go_wp2_with fail
     go_ret
     exact ⟨⟨_, rfl, by omega⟩, bt HAL.out HBJ.out⟩
theorem two_of {p : Nat} (h : p < 2) : p = 0 ∨ p = 1 := by omega
theorem three_of {p : Nat} (h : p < 3) : p = 0 ∨ p = 1 ∨ p = 2 := by omega
theorem eight_of {p : Nat} (h : p < 8) : p = 0 ∨ p = 1 ∨ p = 2 ∨ p = 3 ∨ p = 4 ∨ p = 5 ∨ p = 6 ∨ p = 7 := by omega
theorem letter_any (c : Raw) (w : World) (h : RawOK c) :
    Calls Tryz.prog 36 #[rawV c] w fun e w' => (∃ s : ByteArray, e = .returned (.string s) ∧ s.size ≤ 2000) ∧ Below w.heap.size w w' := by
 have HHD : Hid (∀ w, Calls Tryz.prog 53 #[rawV c] w fun e w' => (∃ s : ByteArray, e = .returned (.string s) ∧ s.size ≤ 1000) ∧ Below w.heap.size w w') := fun w => head_any c w h
 obtain ⟨kd, cn, us, a, b, tx⟩ := c
 obtain ⟨h1, h2, h3, h4, h5, h6⟩ := h
 simp only at h1 h2 h3 h4 h5 h6
 unfold rawV at HHD ⊢
 simp only at HHD ⊢
 have HP2 : Hid (∀ w, Calls Tryz.prog 8 #[.int .i64 a, .int .i64 2] w fun e w' => e = .returned (.int .i64 (pick a (2 : Nat))) ∧ w = w') := fun w => Picked_any a 2 w h4 (by omega) (by omega)
 have HP8 : Hid (∀ w, Calls Tryz.prog 8 #[.int .i64 us, .int .i64 8] w fun e w' => e = .returned (.int .i64 (pick us (8 : Nat))) ∧ w = w') := fun w => Picked_any us 8 w h3 (by omega) (by omega)
 have HWD : Hid (∀ w, Calls Tryz.prog 54 #[.string tx] w fun e w' => (∃ t : ByteArray, e = .returned (.string t) ∧ t.size ≤ 8) ∧ Below w.heap.size w w') := fun w => Word_any tx w h6
 have hk2 := two_of (pick_lt a 2 (by omega))
 have hk8 := eight_of (pick_lt us 8 (by omega))
 generalize pick a (2 : Nat) = p2 at HP2 hk2
 generalize pick us (8 : Nat) = p8 at HP8 hk8
 have K2 := Lib.hid hk2; have K8 := Lib.hid hk8
 clear h1 h2 h3 h4 h5 h6 hk2 hk8
 have hal := ba (Below.refl w.heap.size w) (.cells #[.int .i64 kd, .int .i64 cn, .int .i64 us, .int .i64 a, .int .i64 b, .string tx] 28)
 have hg := Has.alloc w [.int .i64 kd, .int .i64 cn, .int .i64 us, .int .i64 a, .int .i64 b, .string tx] 28
 obtain ⟨wr, hwr⟩ : ∃ W, W = w.alloc (.cells #[.int .i64 kd, .int .i64 cn, .int .i64 us, .int .i64 a, .int .i64 b, .string tx] 28) := ⟨_, rfl⟩
 obtain ⟨R, hR⟩ : ∃ R, R = w.heap.size := ⟨_, rfl⟩
 have hg' : Has wr R [.int .i64 kd, .int .i64 cn, .int .i64 us, .int .i64 a, .int .i64 b, .string tx] := by rw [hwr, hR]; exact hg
 have HG := Lib.hid hg'
 rw [← hwr] at hal
 have HAL := Lib.hid hal; have HWR := Lib.hid hwr; have HRE := Lib.hid hR
 clear hal hg hg' hwr hR
 go_enter Tryz.func36, Tryz.ntmps36
 go_upto_region 1 with fail
 rw [← HWR.out, ← HRE.out]
 clear HWR
 go_cut [3] (fun v wx => ∃ s : ByteArray, v = .string s ∧ s.size ≤ 40 ∧ Below wr.heap.size wr wx)
 case first =>
  have hk := K2.out
  obtain ⟨g0, g1, g2, g3, g4, g5⟩ := (HG.out.down (ba (Below.refl wr.heap.size wr) (.cells #[.string ⟨#[106, 111, 101]⟩, .string ⟨#[115, 112, 97, 109]⟩] 9))).six
  have HB := Lib.hid (ba (Below.refl wr.heap.size wr) (.cells #[.string ⟨#[106, 111, 101]⟩, .string ⟨#[115, 112, 97, 109]⟩] 9))
  clear HHD HP8 HWD K8 K2
  rcases hk with rfl | rfl
  all_goals
   go_wp2_with fail
   refine (HP2.out _).mono ?_
   rintro e w1 ⟨rfl, rfl⟩
   go_wp2_with fail
   go_meet
   case rel => exact ⟨_, rfl, by decide, HB.out⟩
 case rest =>
  obtain ⟨s, rfl, hs, hb⟩ := hcut
  have HB := Lib.hid hb
  have hs1 : s.size ≤ 40 := hs
  clear hb hs HP2 K2
  go_wp2_with fail
  go_loopw [3, 4] (fun v i wx => ∃ (t : ByteArray) (j : Nat), v = .string t ∧ i = .int .i64 j ∧ j ≤ 3 ∧ t.size ≤ 50 + 20 * j ∧ Below wr.heap.size wr wx) (fun _ i _ => 3 - (intOf i).toNat)
  case atStart => exact ⟨_, 0, rfl, rfl, Nat.zero_le _, by omega, HB.out⟩
  case round =>
   obtain ⟨t, j, rfl, rfl, hj, ht, hbj⟩ := hrel
   obtain ⟨x0, x1, x2, x3, x4, x5⟩ := (HG.out.down hbj).six
   have HBJ := Lib.hid hbj
   have HBN := Lib.hid (ba hbj (.cells #[.string ⟨#[97, 110, 110]⟩, .string ⟨#[98, 111, 98]⟩, .string ⟨#[99, 97, 116]⟩] 9))
   clear hbj
   by_cases hlt : j < 3
   ·have n1 : ¬ 9223372036854775807 < t.size + 19 := by omega
    have hk := K8.out
    clear HHD HWD K8
    have HT := Lib.hid ht
    clear ht hj
    rcases three_of hlt with rfl | rfl | rfl
    all_goals
     rcases hk with rfl | rfl | rfl | rfl | rfl | rfl | rfl | rfl
    all_goals
     go_wp2_with fail
     refine (HP8.out _).mono ?_
     rintro e w1 ⟨rfl, rfl⟩
     go_wp2_with fail
     go_roundw
     case rel =>
      first
       | exact ⟨_, 1, rfl, rfl, by omega, by have := HT.out; first | omega | (rw [ByteArray.size_append]; show _ + 19 ≤ _; omega), by first | exact HBJ.out | exact HBN.out⟩
       | exact ⟨_, 2, rfl, rfl, by omega, by have := HT.out; first | omega | (rw [ByteArray.size_append]; show _ + 19 ≤ _; omega), by first | exact HBJ.out | exact HBN.out⟩
       | exact ⟨_, 3, rfl, rfl, by omega, by have := HT.out; first | omega | (rw [ByteArray.size_append]; show _ + 19 ≤ _; omega), by first | exact HBJ.out | exact HBN.out⟩
     case measure => simp [intOf]
   ·obtain rfl : j = 3 := by omega
    clear hlt hj HP8 K8
    have HT := Lib.hid ht
    clear ht
    go_wp2_with fail
    refine (HHD.out _).mono ?_
    rintro e w1 ⟨⟨hd, rfl, hhd⟩, hb1⟩
    have hb2 := bt HBJ.out hb1
    obtain ⟨y0, y1, y2, y3, y4, y5⟩ := (HG.out.down hb2).six
    have HB2 := Lib.hid hb2; have HHS := Lib.hid hhd
    have n1 : ¬ 9223372036854775807 < 6 + hd.size := by omega
    have n2 : ¬ 9223372036854775807 < 6 + hd.size + 2 := by omega
    have n3 : ¬ 9223372036854775807 < t.size + (6 + hd.size + 2) := by have := HT.out; omega
    have n4 : ¬ 9223372036854775807 < t.size + (6 + hd.size + 2) + 1 := by have := HT.out; omega
    clear hb1 hb2 hhd HHD HBJ x0 x1 x2 x3 x4 x5
    go_wp2_with fail
    refine (HWD.out _).mono ?_
    rintro e w3 ⟨⟨wd, rfl, hwd⟩, hb3⟩
    have HB3 := Lib.hid (bt HB2.out hb3); have HWS := Lib.hid hwd
    have n5 : ¬ 9223372036854775807 < t.size + (6 + hd.size + 2) + 1 + wd.size := by have := HT.out; have := HHS.out; omega
    have n6 : ¬ 9223372036854775807 < t.size + (6 + hd.size + 2) + 1 + wd.size + 5 := by have := HT.out; have := HHS.out; omega
    clear hb3 hwd HWD
    go_wp2_with fail
    go_ret
    refine ⟨⟨_, rfl, ?_⟩, bt HAL.out HB3.out⟩
    have := HT.out; have := HHS.out; have := HWS.out
    simp only [ByteArray.size_append]
    show t.size + (6 + hd.size + 2) + 1 + wd.size + 5 ≤ 2000
    omega
theorem four_of {p : Nat} (h : p < 4) : p = 0 ∨ p = 1 ∨ p = 2 ∨ p = 3 := by omega
theorem kinds_of {p : Nat} (h : p < 16) : (p = 0 ∨ p = 1 ∨ p = 8 ∨ p = 9 ∨ p = 10 ∨ p = 12 ∨ p = 13) ∨ (p = 2 ∨ p = 3 ∨ p = 4 ∨ p = 11) ∨ (p = 5 ∨ p = 6 ∨ p = 7) ∨ p = 14 ∨ p = 15 := by omega
theorem line_text (c : Raw) (w : World) (h : RawOK c) :
    Calls Tryz.prog 7 #[rawV c] w fun e w' => (∃ s : ByteArray, e = .returned (.string s) ∧ s.size ≤ 60) ∧ Below w.heap.size w w' := by
 obtain ⟨kd, cn, us, a, b, tx⟩ := c
 obtain ⟨h1, h2, h3, h4, h5, h6⟩ := h
 simp only at h1 h2 h3 h4 h5 h6
 unfold rawV
 simp only
 have HP4 : Hid (∀ w, Calls Tryz.prog 8 #[.int .i64 us, .int .i64 4] w fun e w' => e = .returned (.int .i64 (pick us (4 : Nat))) ∧ w = w') := fun w => Picked_any us 4 w h3 (by omega) (by omega)
 have HP16 : Hid (∀ w, Calls Tryz.prog 8 #[.int .i64 kd, .int .i64 16] w fun e w' => e = .returned (.int .i64 (pick kd (16 : Nat))) ∧ w = w') := fun w => Picked_any kd 16 w h1 (by omega) (by omega)
 have HP2 : Hid (∀ w, Calls Tryz.prog 8 #[.int .i64 a, .int .i64 2] w fun e w' => e = .returned (.int .i64 (pick a (2 : Nat))) ∧ w = w') := fun w => Picked_any a 2 w h4 (by omega) (by omega)
 have HVL : Hid (∀ w, Calls Tryz.prog 15 #[.string tx] w fun e w' => (∃ t : ByteArray, e = .returned (.string t) ∧ t.size ≤ 40) ∧ Below w.heap.size w w') := fun w => Value_any tx w h6
 have hk2 := two_of (pick_lt a 2 (by omega))
 have hk4 := four_of (pick_lt us 4 (by omega))
 have hk16 := kinds_of (pick_lt kd 16 (by omega))
 generalize pick a (2 : Nat) = p2 at HP2 hk2
 generalize pick us (4 : Nat) = p4 at HP4 hk4
 generalize pick kd (16 : Nat) = p16 at HP16 hk16
 have K2 := Lib.hid hk2; have K4 := Lib.hid hk4; have K16 := Lib.hid hk16
 clear h1 h2 h3 h4 h5 h6 hk2 hk4 hk16
 have hal := ba (Below.refl w.heap.size w) (.cells #[.int .i64 kd, .int .i64 cn, .int .i64 us, .int .i64 a, .int .i64 b, .string tx] 28)
 have hg := Has.alloc w [.int .i64 kd, .int .i64 cn, .int .i64 us, .int .i64 a, .int .i64 b, .string tx] 28
 obtain ⟨wr, hwr⟩ : ∃ W, W = w.alloc (.cells #[.int .i64 kd, .int .i64 cn, .int .i64 us, .int .i64 a, .int .i64 b, .string tx] 28) := ⟨_, rfl⟩
 obtain ⟨R, hR⟩ : ∃ R, R = w.heap.size := ⟨_, rfl⟩
 have hg' : Has wr R [.int .i64 kd, .int .i64 cn, .int .i64 us, .int .i64 a, .int .i64 b, .string tx] := by rw [hwr, hR]; exact hg
 have HG := Lib.hid hg'
 rw [← hwr] at hal
 have HAL := Lib.hid hal; have HWR := Lib.hid hwr; have HRE := Lib.hid hR
 clear hal hg hg' hwr hR
 go_enter Tryz.func7, Tryz.ntmps7
 go_upto_region 1 with fail
 rw [← HWR.out, ← HRE.out]
 clear HWR
 go_cut [3] (fun v wx => ∃ s : ByteArray, v = .string s ∧ s.size ≤ 3 ∧ Below wr.heap.size wr wx)
 case first =>
  have hk := K4.out
  have hb1 := ba (Below.refl wr.heap.size wr) (.cells #[.string ⟨#[97, 110, 110]⟩, .string ⟨#[98, 111, 98]⟩, .string ⟨#[99, 97, 116]⟩, .string ⟨#[100, 97, 110]⟩] 9)
  obtain ⟨g0, g1, g2, g3, g4, g5⟩ := (HG.out.down hb1).six
  have HB := Lib.hid hb1
  clear HP2 HP16 HVL K2 K4 K16 hb1
  rcases hk with rfl | rfl | rfl | rfl
  all_goals
   go_wp2_with fail
   refine (HP4.out _).mono ?_
   rintro e w1 ⟨rfl, rfl⟩
   go_wp2_with fail
   go_meet
   case rel => exact ⟨_, rfl, by decide, HB.out⟩
 case rest =>
  obtain ⟨s, rfl, hs, hb⟩ := hcut
  obtain ⟨x0, x1, x2, x3, x4, x5⟩ := (HG.out.down hb).six
  have HB := Lib.hid hb
  have hs1 : s.size ≤ 3 := hs
  have n1 : ¬ 9223372036854775807 < 9 + s.size := by omega
  have n2 : ¬ 9223372036854775807 < 9 + s.size + 5 := by omega
  have hk := K16.out
  have hk2 := K2.out
  clear hs HP4 K4 K2 K16
  rcases hk with hk | hk | hk | hk
  ·clear HP2 HVL hk2
   rcases hk with rfl | rfl | rfl | rfl | rfl | rfl | rfl
   all_goals
    go_wp2_with fail
    refine (HP16.out _).mono ?_
    rintro e w1 ⟨rfl, rfl⟩
    go_wp2_with fail
    go_ret
    exact ⟨⟨_, rfl, by decide⟩, bt HAL.out HB.out⟩
  ·clear HVL
   have hb1 := ba hb (.cells #[.string ⟨#[106, 111, 101]⟩, .string ⟨#[115, 112, 97, 109]⟩] 9)
   have hb2 := ba hb (.cells #[.string ⟨#[119, 111, 114, 107]⟩, .string ⟨#[102, 117, 110]⟩] 9)
   obtain ⟨y0, y1, y2, y3, y4, y5⟩ := (HG.out.down hb1).six
   obtain ⟨z0, z1, z2, z3, z4, z5⟩ := (HG.out.down hb2).six
   have HB1 := Lib.hid hb1; have HB2 := Lib.hid hb2
   clear hb hb1 hb2
   rcases hk with rfl | rfl | rfl | rfl
   all_goals
    rcases hk2 with rfl | rfl
   all_goals
    go_wp2_with fail
    refine (HP16.out _).mono ?_
    rintro e w1 ⟨rfl, rfl⟩
    go_wp2_with fail
    refine (HP2.out _).mono ?_
    rintro e w1 ⟨rfl, rfl⟩
    go_wp2_with fail
    go_ret
    exact ⟨⟨_, rfl, by decide⟩, bt HAL.out (by first | exact HB1.out | exact HB2.out)⟩
  ·clear HP2 HVL hk2 hb
   rcases hk with rfl | rfl | rfl
   all_goals
    go_wp2_with fail
    refine (HP16.out _).mono ?_
    rintro e w1 ⟨rfl, rfl⟩
    go_wp2_with fail
    go_ret
    exact ⟨⟨_, rfl, by simp only [ByteArray.size_append]; show 9 + s.size + 5 ≤ 60; omega⟩, bt HAL.out HB.out⟩
  ·clear HP2 hk2 hb
   rcases hk with rfl | rfl
   all_goals
    go_wp2_with fail
    refine (HP16.out _).mono ?_
    rintro e w1 ⟨rfl, rfl⟩
    go_wp2_with fail
    refine (HVL.out _).mono ?_
    rintro e w1 ⟨⟨t, rfl, ht⟩, hb1⟩
    have HB1 := Lib.hid (bt HB.out hb1); have HT := Lib.hid ht
    clear hb1 ht
    go_wp2_with fail
    go_ret
    exact ⟨⟨_, rfl, by have := HT.out; omega⟩, bt HAL.out HB1.out⟩
structure Ac where
 (k c u p : Int) (d : ByteArray) (ek : Int) (eb : ByteArray) (eu ef : Int) (et ex : ByteArray)
def acC (a : Ac) : List Value := [.int .i64 a.k, .int .i64 a.c, .int .i64 a.u, .int .i64 a.p, .string a.d, .int .i64 a.ek, .string a.eb, .int .i64 a.eu, .int .i64 a.ef, .string a.et, .string a.ex]
theorem acC_of (k c u p : Int) (d : ByteArray) (ek : Int) (eb : ByteArray) (eu ef : Int) (et ex : ByteArray) : [.int .i64 k, .int .i64 c, .int .i64 u, .int .i64 p, .string d, .int .i64 ek, .string eb, .int .i64 eu, .int .i64 ef, .string et, .string ex] = acC ⟨k, c, u, p, d, ek, eb, eu, ef, et, ex⟩ := rfl
theorem _root_.Go.Proofs.YtmkppkjikifdlaaGreatDoor.Has.drew' {w : World} {b : Nat} {vs : List Value} (h : Has w b vs) : Has w.drew b vs := h.down (Below.drew (Below.refl w.heap.size w))
theorem _root_.Go.Proofs.YtmkppkjikifdlaaGreatDoor.Has.cells11 {w : World} {b : Nat} {a0 a1 a2 a3 a4 a5 a6 a7 a8 a9 a10 : Value} (h : Has w b [a0, a1, a2, a3, a4, a5, a6, a7, a8, a9, a10]) : w.cell? ⟨b, 0, none⟩ = some a0 ∧ w.cell? ⟨b, 1, none⟩ = some a1 ∧ w.cell? ⟨b, 2, none⟩ = some a2 ∧ w.cell? ⟨b, 3, none⟩ = some a3 ∧ w.cell? ⟨b, 4, none⟩ = some a4 ∧ w.cell? ⟨b, 5, none⟩ = some a5 ∧ w.cell? ⟨b, 6, none⟩ = some a6 ∧ w.cell? ⟨b, 7, none⟩ = some a7 ∧ w.cell? ⟨b, 8, none⟩ = some a8 ∧ w.cell? ⟨b, 9, none⟩ = some a9 ∧ w.cell? ⟨b, 10, none⟩ = some a10 :=
 ⟨h.1 0 _ rfl, h.1 1 _ rfl, h.1 2 _ rfl, h.1 3 _ rfl, h.1 4 _ rfl, h.1 5 _ rfl, h.1 6 _ rfl, h.1 7 _ rfl, h.1 8 _ rfl, h.1 9 _ rfl, h.1 10 _ rfl⟩
theorem _root_.Go.Proofs.YtmkppkjikifdlaaGreatDoor.Has.free11 {w : World} {b : Nat} {a0 a1 a2 a3 a4 a5 a6 a7 a8 a9 a10 : Value} (h : Has w b [a0, a1, a2, a3, a4, a5, a6, a7, a8, a9, a10]) : w.frozen? ⟨b, 0, none⟩ = false ∧ w.frozen? ⟨b, 1, none⟩ = false ∧ w.frozen? ⟨b, 2, none⟩ = false ∧ w.frozen? ⟨b, 3, none⟩ = false ∧ w.frozen? ⟨b, 4, none⟩ = false ∧ w.frozen? ⟨b, 5, none⟩ = false ∧ w.frozen? ⟨b, 6, none⟩ = false ∧ w.frozen? ⟨b, 7, none⟩ = false ∧ w.frozen? ⟨b, 8, none⟩ = false ∧ w.frozen? ⟨b, 9, none⟩ = false ∧ w.frozen? ⟨b, 10, none⟩ = false :=
 ⟨h.2.1 0 (by simp), h.2.1 1 (by simp), h.2.1 2 (by simp), h.2.1 3 (by simp), h.2.1 4 (by simp), h.2.1 5 (by simp), h.2.1 6 (by simp), h.2.1 7 (by simp), h.2.1 8 (by simp), h.2.1 9 (by simp), h.2.1 10 (by simp)⟩
theorem set11 {w : World} {b : Nat} {a0 a1 a2 a3 a4 a5 a6 a7 a8 a9 a10 : Value} (h : Has w b [a0, a1, a2, a3, a4, a5, a6, a7, a8, a9, a10]) (u0 u1 u2 u3 u4 u5 u6 u7 u8 u9 u10 : Value) : Has (((((((((((w.setCell ⟨b, 0, none⟩ u0).setCell ⟨b, 1, none⟩ u1).setCell ⟨b, 2, none⟩ u2).setCell ⟨b, 3, none⟩ u3).setCell ⟨b, 4, none⟩ u4).setCell ⟨b, 5, none⟩ u5).setCell ⟨b, 6, none⟩ u6).setCell ⟨b, 7, none⟩ u7).setCell ⟨b, 8, none⟩ u8).setCell ⟨b, 9, none⟩ u9).setCell ⟨b, 10, none⟩ u10) b [u0, u1, u2, u3, u4, u5, u6, u7, u8, u9, u10] :=
 (((((((((((h.set' u0 (i := 0) (by simp)).set' u1 (i := 1) (by simp)).set' u2 (i := 2) (by simp)).set' u3 (i := 3) (by simp)).set' u4 (i := 4) (by simp)).set' u5 (i := 5) (by simp)).set' u6 (i := 6) (by simp)).set' u7 (i := 7) (by simp)).set' u8 (i := 8) (by simp)).set' u9 (i := 9) (by simp)).set' u10 (i := 10) (by simp))
theorem else11 {w : World} {b R : Nat} {xs : List Value} (h : Has w R xs) (hn : R ≠ b) (u0 u1 u2 u3 u4 u5 u6 u7 u8 u9 u10 : Value) : Has (((((((((((w.setCell ⟨b, 0, none⟩ u0).setCell ⟨b, 1, none⟩ u1).setCell ⟨b, 2, none⟩ u2).setCell ⟨b, 3, none⟩ u3).setCell ⟨b, 4, none⟩ u4).setCell ⟨b, 5, none⟩ u5).setCell ⟨b, 6, none⟩ u6).setCell ⟨b, 7, none⟩ u7).setCell ⟨b, 8, none⟩ u8).setCell ⟨b, 9, none⟩ u9).setCell ⟨b, 10, none⟩ u10) R xs :=
 (((((((((((h.else' hn u0).else' hn u1).else' hn u2).else' hn u3).else' hn u4).else' hn u5).else' hn u6).else' hn u7).else' hn u8).else' hn u9).else' hn u10)
theorem below11 {w W : World} {b : Nat} (h : Below w.heap.size w W) (hb : w.heap.size ≤ b) (u0 u1 u2 u3 u4 u5 u6 u7 u8 u9 u10 : Value) : Below w.heap.size w (((((((((((W.setCell ⟨b, 0, none⟩ u0).setCell ⟨b, 1, none⟩ u1).setCell ⟨b, 2, none⟩ u2).setCell ⟨b, 3, none⟩ u3).setCell ⟨b, 4, none⟩ u4).setCell ⟨b, 5, none⟩ u5).setCell ⟨b, 6, none⟩ u6).setCell ⟨b, 7, none⟩ u7).setCell ⟨b, 8, none⟩ u8).setCell ⟨b, 9, none⟩ u9).setCell ⟨b, 10, none⟩ u10) :=
 (((((((((((h.setCell hb u0).setCell hb u1).setCell hb u2).setCell hb u3).setCell hb u4).setCell hb u5).setCell hb u6).setCell hb u7).setCell hb u8).setCell hb u9).setCell hb u10)
theorem act_end {w W : World} {b : Nat} {a : Act} (xs : List Value) {x : Ac} (hx : xs = acC x) (ht : a.tmps.getD 2 undef = .pointer (some ⟨b, 0, none⟩)) (hd : a.defers = []) (h : Has W b xs) (hb : Below w.heap.size w W) :
    bodyPost Tryz.prog Tryz.f23 (fun e w' => (∃ x : Ac, e = .returned (.agg (acC x).toArray)) ∧ Below w.heap.size w w') .ret a W := by
 rw [hx] at h
 obtain ⟨c0, c1, c2, c3, c4, c5, c6, c7, c8, c9, c10⟩ := Has.cells11 (show Has W b [_, _, _, _, _, _, _, _, _, _, _] from h)
 refine bodyPost_ret (v := .agg (acC x).toArray) ?_ hd ⟨⟨x, rfl⟩, hb⟩
 have ht' : a.tmps[2]?.getD undef = .pointer (some ⟨b, 0, none⟩) := by simpa using ht
 simp [results, Tryz.results23, go_sem, ht', c0, c1, c2, c3, c4, c5, c6, c7, c8, c9, c10, acC]
theorem twelve_of {p : Nat} (h : p < 12) : (p = 0 ∨ p = 1 ∨ p = 2) ∨ (p = 3 ∨ p = 4) ∨ (p = 5 ∨ p = 6 ∨ p = 7 ∨ p = 9) ∨ p = 8 ∨ p = 10 ∨ p = 11 := by omega
theorem act_any (c : Raw) (w : World) (h : RawOK c) :
    Calls Tryz.prog 23 #[rawV c] w fun e w' => (∃ x : Ac, e = .returned (.agg (acC x).toArray)) ∧ Below w.heap.size w w' := by
 have HLT : Hid (∀ w, Calls Tryz.prog 36 #[rawV c] w fun e w' => (∃ s : ByteArray, e = .returned (.string s) ∧ s.size ≤ 2000) ∧ Below w.heap.size w w') := fun w => letter_any c w h
 obtain ⟨kd, cn, us, a, b, tx⟩ := c
 obtain ⟨h1, h2, h3, h4, h5, h6⟩ := h
 simp only at h1 h2 h3 h4 h5 h6
 have z0 : Int64 0 := ⟨by decide, by decide⟩
 have HLN : Hid (∀ w, Calls Tryz.prog 7 #[rawV ⟨a, 0, us, b, 0, tx⟩] w fun e w' => (∃ s : ByteArray, e = .returned (.string s) ∧ s.size ≤ 60) ∧ Below w.heap.size w w') := fun w => line_text _ w ⟨h4, z0, h3, h5, z0, h6⟩
 have HEN : Hid (∀ w, Calls Tryz.prog 37 #[rawV ⟨a, b, b, a, cn, tx⟩] w fun e w' => e = .returned (entV (entOf ⟨a, b, b, a, cn, tx⟩)) ∧ Below w.heap.size w w') := fun w => entry_any _ w ⟨h4, h5, h5, h4, h2, h6⟩
 generalize entOf ⟨a, b, b, a, cn, tx⟩ = en at HEN
 unfold rawV at HLT HLN HEN ⊢
 simp only at HLT HLN HEN ⊢
 have HP3 : Hid (∀ w, Calls Tryz.prog 8 #[.int .i64 cn, .int .i64 3] w fun e w' => e = .returned (.int .i64 (pick cn (3 : Nat))) ∧ w = w') := fun w => Picked_any cn 3 w h2 (by omega) (by omega)
 have HP3U : Hid (∀ w, Calls Tryz.prog 8 #[.int .i64 us, .int .i64 3] w fun e w' => e = .returned (.int .i64 (pick us (3 : Nat))) ∧ w = w') := fun w => Picked_any us 3 w h3 (by omega) (by omega)
 have HP900 : Hid (∀ w, Calls Tryz.prog 8 #[.int .i64 a, .int .i64 900] w fun e w' => e = .returned (.int .i64 (pick a (900 : Nat))) ∧ w = w') := fun w => Picked_any a 900 w h4 (by omega) (by omega)
 have HP12 : Hid (∀ w, Calls Tryz.prog 8 #[.int .i64 kd, .int .i64 12] w fun e w' => e = .returned (.int .i64 (pick kd (12 : Nat))) ∧ w = w') := fun w => Picked_any kd 12 w h1 (by omega) (by omega)
 have hk := twelve_of (pick_lt kd 12 (by omega))
 generalize pick cn (3 : Nat) = p3 at HP3
 generalize pick us (3 : Nat) = pu at HP3U
 generalize pick a (900 : Nat) = p9 at HP900
 generalize pick kd (12 : Nat) = p12 at HP12 hk
 clear h1 h2 h3 h4 h5 h6 z0
 have hg0 := Has.alloc w [.int .i64 kd, .int .i64 cn, .int .i64 us, .int .i64 a, .int .i64 b, .string tx] 28
 have hz0 : (w.alloc (.cells #[.int .i64 kd, .int .i64 cn, .int .i64 us, .int .i64 a, .int .i64 b, .string tx] 28)).heap.size = w.heap.size + 1 := World.size_alloc _ _
 have hb0 := ba (Below.refl w.heap.size w) (.cells #[.int .i64 kd, .int .i64 cn, .int .i64 us, .int .i64 a, .int .i64 b, .string tx] 28)
 have ht0 := Has.alloc (w.alloc (.cells #[.int .i64 kd, .int .i64 cn, .int .i64 us, .int .i64 a, .int .i64 b, .string tx] 28)) [.int .i64 0, .int .i64 0, .int .i64 0, .int .i64 0, .string ⟨#[]⟩, .int .i64 0, .string ⟨#[]⟩, .int .i64 0, .int .i64 0, .string ⟨#[]⟩, .string ⟨#[]⟩] 32
 rw [hz0] at ht0
 have hb1 := ba (Below.refl (w.alloc (.cells #[.int .i64 kd, .int .i64 cn, .int .i64 us, .int .i64 a, .int .i64 b, .string tx] 28)).heap.size (w.alloc (.cells #[.int .i64 kd, .int .i64 cn, .int .i64 us, .int .i64 a, .int .i64 b, .string tx] 28))) (.cells #[.int .i64 0, .int .i64 0, .int .i64 0, .int .i64 0, .string ⟨#[]⟩, .int .i64 0, .string ⟨#[]⟩, .int .i64 0, .int .i64 0, .string ⟨#[]⟩, .string ⟨#[]⟩] 32)
 have hg1 := Has.down (show Has (w.alloc (.cells #[.int .i64 kd, .int .i64 cn, .int .i64 us, .int .i64 a, .int .i64 b, .string tx] 28)) w.heap.size [.int .i64 kd, .int .i64 cn, .int .i64 us, .int .i64 a, .int .i64 b, .string tx] from hg0) hb1
 have hbw := bt hb0 hb1
 obtain ⟨wr, hwr⟩ : ∃ W, W = (w.alloc (.cells #[.int .i64 kd, .int .i64 cn, .int .i64 us, .int .i64 a, .int .i64 b, .string tx] 28)).alloc (.cells #[.int .i64 0, .int .i64 0, .int .i64 0, .int .i64 0, .string ⟨#[]⟩, .int .i64 0, .string ⟨#[]⟩, .int .i64 0, .int .i64 0, .string ⟨#[]⟩, .string ⟨#[]⟩] 32) := ⟨_, rfl⟩
 obtain ⟨R, hR⟩ : ∃ R, R = w.heap.size := ⟨_, rfl⟩
 have HG : Hid (Has wr R [.int .i64 kd, .int .i64 cn, .int .i64 us, .int .i64 a, .int .i64 b, .string tx]) := by rw [hwr, hR]; exact hg1
 have HT : Hid (Has wr (R + 1) [.int .i64 0, .int .i64 0, .int .i64 0, .int .i64 0, .string ⟨#[]⟩, .int .i64 0, .string ⟨#[]⟩, .int .i64 0, .int .i64 0, .string ⟨#[]⟩, .string ⟨#[]⟩]) := by rw [hwr, hR]; exact ht0
 have HBW : Hid (Below w.heap.size w wr) := by rw [hwr]; exact hbw
 have hRT : w.heap.size ≤ R + 1 := by omega
 have HWR := Lib.hid hwr; have HRE := Lib.hid hR
 clear hg0 hz0 hb0 ht0 hb1 hg1 hbw hwr hR
 go_enter Tryz.func23, Tryz.ntmps23
 go_upto_region 1 with fail
 rw [← HWR.out, ← HRE.out]
 clear HWR
 obtain ⟨x0, x1, x2, x3, x4, x5⟩ := HG.out.six
 rcases hk with hk | hk | hk | hk
 ·rcases hk with rfl | rfl | rfl
  all_goals
   go_wp2_with fail
   refine (HP3.out _).mono ?_
   rintro e w1 ⟨rfl, rfl⟩
   go_wp2_with fail
   refine (HP12.out _).mono ?_
   rintro e w1 ⟨rfl, rfl⟩
   go_wp2_with fail
   refine (HLT.out _).mono ?_
   rintro e w2 ⟨⟨s, rfl, -⟩, hb2⟩
   have hT := HT.out.down hb2
   obtain ⟨e0, e1, e2, e3, e4, e5, e6, e7, e8, e9, e10⟩ := hT.cells11
   obtain ⟨f0, f1, f2, f3, f4, f5, f6, f7, f8, f9, f10⟩ := hT.free11
   have HTT := Lib.hid hT; have HB2 := Lib.hid (bt HBW.out hb2)
   clear hT hb2
   go_wp2_with fail
   exact act_end _ (acC_of _ _ _ _ _ _ _ _ _ _ _) rfl rfl (set11 HTT.out _ _ _ _ _ _ _ _ _ _ _) (below11 HB2.out hRT _ _ _ _ _ _ _ _ _ _ _)
 ·rcases hk with rfl | rfl
  all_goals
   go_wp2_with fail
   refine (HP3.out _).mono ?_
   rintro e w1 ⟨rfl, rfl⟩
   go_wp2_with fail
   refine (HP12.out _).mono ?_
   rintro e w1 ⟨rfl, rfl⟩
   go_wp2_with fail
   refine (HLN.out _).mono ?_
   rintro e w2 ⟨⟨s, rfl, hs⟩, hb2⟩
   have n1 : ¬ 9223372036854775807 < s.size + 2 := by omega
   have hT := HT.out.down hb2
   obtain ⟨e0, e1, e2, e3, e4, e5, e6, e7, e8, e9, e10⟩ := hT.cells11
   obtain ⟨f0, f1, f2, f3, f4, f5, f6, f7, f8, f9, f10⟩ := hT.free11
   have HTT := Lib.hid hT; have HB2 := Lib.hid (bt HBW.out hb2)
   clear hT hb2
   go_wp2_with fail
   exact act_end _ (acC_of _ _ _ _ _ _ _ _ _ _ _) rfl rfl (set11 HTT.out _ _ _ _ _ _ _ _ _ _ _) (below11 HB2.out hRT _ _ _ _ _ _ _ _ _ _ _)
 ·obtain ⟨e0, e1, e2, e3, e4, e5, e6, e7, e8, e9, e10⟩ := HT.out.cells11
  obtain ⟨f0, f1, f2, f3, f4, f5, f6, f7, f8, f9, f10⟩ := HT.out.free11
  rcases hk with rfl | rfl | rfl | rfl
  all_goals
   go_wp2_with fail
   refine (HP3.out _).mono ?_
   rintro e w1 ⟨rfl, rfl⟩
   go_wp2_with fail
   refine (HP12.out _).mono ?_
   rintro e w1 ⟨rfl, rfl⟩
   go_wp2_with fail
   exact act_end _ (acC_of _ _ _ _ _ _ _ _ _ _ _) rfl rfl (set11 HT.out _ _ _ _ _ _ _ _ _ _ _) (below11 HBW.out hRT _ _ _ _ _ _ _ _ _ _ _)
 rcases hk with rfl | hk
 ·obtain ⟨e0, e1, e2, e3, e4, e5, e6, e7, e8, e9, e10⟩ := HT.out.cells11
  obtain ⟨f0, f1, f2, f3, f4, f5, f6, f7, f8, f9, f10⟩ := HT.out.free11
  go_wp2_with fail
  refine (HP3.out _).mono ?_
  rintro e w1 ⟨rfl, rfl⟩
  go_wp2_with fail
  refine (HP12.out _).mono ?_
  rintro e w1 ⟨rfl, rfl⟩
  go_wp2_with fail
  refine (HP900.out _).mono ?_
  rintro e w1 ⟨rfl, rfl⟩
  go_wp2_with fail
  exact act_end _ (acC_of _ _ _ _ _ _ _ _ _ _ _) rfl rfl (set11 HT.out _ _ _ _ _ _ _ _ _ _ _) (below11 HBW.out hRT _ _ _ _ _ _ _ _ _ _ _)
 rcases hk with rfl | rfl
 all_goals
  go_wp2_with fail
  refine (HP3.out _).mono ?_
  rintro e w1 ⟨rfl, rfl⟩
  go_wp2_with fail
  refine (HP12.out _).mono ?_
  rintro e w1 ⟨rfl, rfl⟩
  go_upto_region 18 with fail
  refine wp_region_noPanic ?_
  have hd : (Below w.heap.size w wr.drew ∧ Has wr.drew R [.int .i64 kd, .int .i64 cn, .int .i64 us, .int .i64 a, .int .i64 b, .string tx]) ∧ Has wr.drew (R + 1) [.int .i64 0, .int .i64 0, .int .i64 0, .int .i64 0, .string ⟨#[]⟩, .int .i64 0, .string ⟨#[]⟩, .int .i64 0, .int .i64 0, .string ⟨#[]⟩, .string ⟨#[]⟩] := ⟨⟨HBW.out.drew, HG.out.drew'⟩, HT.out.drew'⟩
  refine wp_region_held_drew (S := fun V0 => Below w.heap.size w V0 ∧ Has V0 R [.int .i64 kd, .int .i64 cn, .int .i64 us, .int .i64 a, .int .i64 b, .string tx]) (by kernel_rfl) hd.1 (fun hHeld => ?_)
  refine heldTo (fun V0 => (Below w.heap.size w V0 ∧ Has V0 R [.int .i64 kd, .int .i64 cn, .int .i64 us, .int .i64 a, .int .i64 b, .string tx]) ∧ Has V0 (R + 1) [.int .i64 0, .int .i64 0, .int .i64 0, .int .i64 0, .string ⟨#[]⟩, .int .i64 0, .string ⟨#[]⟩, .int .i64 0, .int .i64 0, .string ⟨#[]⟩, .string ⟨#[]⟩]) (fun V0 => Below w.heap.size w V0 ∧ Has V0 R [.int .i64 kd, .int .i64 cn, .int .i64 us, .int .i64 a, .int .i64 b, .string tx]) hd (fun V0 h => h.1) (fun _ h => h) (fun V0 hR hHeld => ?_)
  obtain ⟨-, hT⟩ := hR
  clear hd
  refine tkP 0 (gB rfl) ?_
  refine tkH 1 (v := ?_) (gB rfl) ?_ ?_
  rotate_left 1
  ·intro w' hSw; obtain ⟨x0, x1, x2, x3, x4, x5⟩ := hSw.2.six; (go_simp) <;> with_reducible rfl
  refine tkP 3 (gB rfl) ?_
  refine tkH 4 (v := ?_) (gB rfl) ?_ ?_
  rotate_left 1
  ·intro w' hSw; obtain ⟨x0, x1, x2, x3, x4, x5⟩ := hSw.2.six; (go_simp) <;> with_reducible rfl
  refine tkP 5 (gB rfl) ?_
  refine tkH 6 (v := ?_) (gB rfl) ?_ ?_
  rotate_left 1
  ·intro w' hSw; obtain ⟨x0, x1, x2, x3, x4, x5⟩ := hSw.2.six; (go_simp) <;> with_reducible rfl
  refine tkP 7 (gB rfl) ?_
  refine tkH 8 (v := ?_) (gB rfl) ?_ ?_
  rotate_left 1
  ·intro w' hSw; obtain ⟨x0, x1, x2, x3, x4, x5⟩ := hSw.2.six; (go_simp) <;> with_reducible rfl
  refine tkP 9 (gB rfl) ?_
  refine tkH 10 (v := ?_) (gB rfl) ?_ ?_
  rotate_left 1
  ·intro w' hSw; obtain ⟨x0, x1, x2, x3, x4, x5⟩ := hSw.2.six; (go_simp) <;> with_reducible rfl
  refine tkP 11 (gB rfl) ?_
  refine tkH 12 (v := ?_) (gB rfl) ?_ ?_
  rotate_left 1
  ·intro w' hSw; obtain ⟨x0, x1, x2, x3, x4, x5⟩ := hSw.2.six; (go_simp) <;> with_reducible rfl
  refine tkP 13 (gB rfl) ?_
  refine tkH 14 (v := ?_) (gB rfl) ?_ ?_
  rotate_left 1
  ·intro w' hSw; obtain ⟨x0, x1, x2, x3, x4, x5⟩ := hSw.2.six; (go_simp) <;> with_reducible rfl
  refine tkP 15 (gB rfl) ?_
  refine rdH [2] ?_
  refine AllReadyH.cons (gB rfl) (fun K hK => ?_) ?_
  ·go_simp
   go_at_call 8
   refine (HP3U.out _).mono ?_
   rintro e w' ⟨rfl, rfl⟩
   try (go_wp2_with fail)
   refine hK.out _ _ (hHeld) (fun hHeld => ?_)
   clear hK K
   try simp only [Act.put, List.setIfInBounds_toArray, List.set_cons_zero, List.set_cons_succ]
   refine rdH [16] ?_
   refine AllReadyH.cons (gB rfl) (fun K hK => ?_) ?_
   ·go_simp
    go_at_call 37
    refine (HEN.out _).mono ?_
    rintro e w4 ⟨rfl, hb4⟩
    unfold entV
    try (go_wp2_with fail)
    refine hK.out _ _ (⟨bt hHeld.1 hb4, hHeld.2.down hb4⟩) (fun hHeld => ?_)
    clear hK K
    try simp only [Act.put, List.setIfInBounds_toArray, List.set_cons_zero, List.set_cons_succ]
    refine heldTo (fun V1 => (Below w.heap.size w V1 ∧ Has V1 R [.int .i64 kd, .int .i64 cn, .int .i64 us, .int .i64 a, .int .i64 b, .string tx]) ∧ Has V1 (R + 1) [.int .i64 0, .int .i64 0, .int .i64 0, .int .i64 0, .string ⟨#[]⟩, .int .i64 0, .string ⟨#[]⟩, .int .i64 0, .int .i64 0, .string ⟨#[]⟩, .string ⟨#[]⟩]) (fun V1 => Below w.heap.size w V1 ∧ Has V1 R [.int .i64 kd, .int .i64 cn, .int .i64 us, .int .i64 a, .int .i64 b, .string tx]) ⟨hHeld, hT.down hb4⟩ (fun V1 h => h.1) (fun _ h => h) (fun V1 hR hHeld => ?_)
    clear hb4 hT
    obtain ⟨-, hT⟩ := hR
    refine tkP 17 (gB rfl) ?_
    refine rdH [18] ?_
    refine AllReadyH.cons (gB rfl) (fun K hK => ?_) ?_
    ·obtain ⟨e0, e1, e2, e3, e4, e5, e6, e7, e8, e9, e10⟩ := hT.cells11
     obtain ⟨f0, f1, f2, f3, f4, f5, f6, f7, f8, f9, f10⟩ := hT.free11
     go_simp
     refine hK.out _ _ (⟨below11 hHeld.1 hRT _ _ _ _ _ _ _ _ _ _ _, else11 hHeld.2 (by omega) _ _ _ _ _ _ _ _ _ _ _⟩) (fun hHeld => ?_)
     clear hK K
     try simp only [Act.put, List.setIfInBounds_toArray, List.set_cons_zero, List.set_cons_succ]
     refine wpAnyH_done (by kernel_rfl) ?_ _
     refine NoPanic.normal ?_
     go_wp2_with fail
     exact act_end _ (acC_of _ _ _ _ _ _ _ _ _ _ _) rfl rfl (set11 hT _ _ _ _ _ _ _ _ _ _ _) hHeld.1
    exact .nil
   exact .nil
  exact .nil
theorem acs_len (l : List Ac) : (l.flatMap acC).length = l.length * 11 := by
 induction l with
 | nil => rfl
 | cons a l ih => rw [List.flatMap_cons, List.length_append, ih, List.length_cons]; show 11 + _ = _; omega
theorem acs_snoc (l : List Ac) (x : Ac) : (l ++ [x]).flatMap acC = l.flatMap acC ++ [.int .i64 x.k, .int .i64 x.c, .int .i64 x.u, .int .i64 x.p, .string x.d, .int .i64 x.ek, .string x.eb, .int .i64 x.eu, .int .i64 x.ef, .string x.et, .string x.ex] := by rw [List.flatMap_append, List.flatMap_cons, List.flatMap_nil, List.append_nil]; rfl
theorem infoAct : (Tryz.prog.info? 32).map (fun i => (i.zero, i.size, i.bytes)) = some (some (.agg #[.int .i64 0, .int .i64 0, .int .i64 0, .int .i64 0, .string ⟨#[]⟩, .int .i64 0, .string ⟨#[]⟩, .int .i64 0, .int .i64 0, .string ⟨#[]⟩, .string ⟨#[]⟩]), 11, 120) := by kernel_rfl
theorem news2 (w : World) (o : Obj) (cs : List Value) (t : TypeId) : ∀ j u, cs[j]? = some u → ((w.alloc o).alloc (.cells cs.toArray t)).cell? (Addr.add ⟨w.heap.size + 1, 0, none⟩ j) = some u := by
 intro j u h
 have := news_of (w.alloc o) cs t j u h
 rwa [World.size_alloc] at this
theorem row_slice' {w : World} {base e k n : Nat} {v : Value} {xs : List Value} (h : w.ownsRow base e k v n xs) : ∃ G c, v = .slice G n c := by
 rcases h.2 with ⟨h1, h2⟩ | ⟨g, cap, cur, h1, _⟩
 ·exact ⟨none, 0, by rw [h1, h2]⟩
 ·exact ⟨_, _, h1⟩
theorem acts_any (cs : List Raw) (a : Option Addr) (cap most : Nat) (w : World) (hv : RawsAt w a cs) (hn : cs.length ≤ 9223372036854775807) (hm : most ≤ 1000) :
    Calls Tryz.prog 14 #[.slice a cs.length cap, .int .i64 (most : Int)] w fun e w' => (∃ G n c, e = .returned (.slice G n c)) ∧ Below w.heap.size w w' := by
 obtain ⟨i0, hi, hz0, hz1, hz2⟩ := info_parts infoAct
 have HI := Lib.hid hi; have HZ0 := Lib.hid hz0; have HZ1 := Lib.hid hz1; have HZ2 := Lib.hid hz2
 have HV := Lib.hid hv
 clear hi hz0 hz1 hz2 hv
 go_enter Tryz.func14, Tryz.ntmps14
 go_wp2_with fail
 go_loopw [5, 6] (fun v i wr => ∃ (j : Nat) (l : List Ac), l.length = j ∧ j ≤ cs.length ∧ j ≤ most ∧ i = .int .i64 j ∧ wr.ownsRow w.heap.size 32 11 v j (l.flatMap acC) ∧ Below w.heap.size w wr) (fun _ i _ => cs.length - (intOf i).toNat)
 case atStart => exact ⟨0, [], rfl, Nat.zero_le _, Nat.zero_le _, rfl, World.ownsRow_nil _ _ _ _, Below.refl _ _⟩
 case round =>
  obtain ⟨j, l, hl, hj, hjm, rfl, hown, hbel⟩ := hrel
  obtain ⟨Gv, cv, hv⟩ := row_slice' hown
  subst hv
  by_cases hlt : j < cs.length
  ·by_cases hltm : j < most
   ·obtain ⟨g, off, rfl, hg, c0, c1, c2, c3, c4, c5, hok⟩ := (HV.out.down hbel) j cs[j] (List.getElem?_eq_getElem hlt)
    obtain ⟨c, hc⟩ : ∃ c, c = cs[j] := ⟨_, rfl⟩
    rw [← hc] at c0 c1 c2 c3 c4 c5 hok
    have hact := act_any c wr hok
    unfold rawV at hact
    have HAK := Lib.hid hact; have HOWN := Lib.hid hown; have HBEL := Lib.hid hbel
    have hszw : w.heap.size ≤ wr.heap.size := hbel.size
    have HTL : Hid ((l.flatMap acC).length = j * 11) := by unfold Hid; rw [acs_len, hl]
    obtain ⟨L, hL⟩ : ∃ L, L = l.flatMap acC := ⟨_, rfl⟩
    have HLE := Lib.hid hL
    rw [← hL] at HOWN HTL
    clear hown hbel hact hok hc hL
    go_wp2_with fail
    refine HAK.out.mono ?_
    rintro e w5 ⟨⟨x, rfl⟩, hb5⟩
    unfold acC
    have HOWN5 := Lib.hid (row_down HOWN.out hb5)
    have HBEL5 := Lib.hid (bt HBEL.out hb5)
    have hsz5 : w.heap.size ≤ w5.heap.size := Nat.le_trans hszw hb5.size
    have hLl : L.length = j * 11 := HTL.out
    clear hb5 HAK HOWN HBEL c0 c1 c2 c3 c4 c5
    go_wp2_with (at_builtin; refine wpList_append_lies _ (by rfl) _ _ _ (by rfl) w.heap.size 32 i0 _ 11 120 Tryz.underlying23 HI.out HZ0.out HZ1.out HZ2.out rfl (by omega) (.slice Gv j cv) j L (by rfl) ((HOWN5.out.alloc _).alloc _) ⟨w5.heap.size + 1, 0, none⟩ 1 1 [.int .i64 x.k, .int .i64 x.c, .int .i64 x.u, .int .i64 x.p, .string x.d, .int .i64 x.ek, .string x.eb, .int .i64 x.eu, .int .i64 x.ef, .string x.et, .string x.ex] (by rfl) (by rfl) (news2 w5 _ _ _) (by simp [Value.oneCell']) (by omega) (by unfold maxLen; omega) (by omega) (by simp; omega) (w5.heap.size + 2) (by simp) ?_)
    intro gg cap6 w6 hown6 hgrow hat hlt6
    have hba := ba (ba (Below.refl w5.heap.size w5) (.cells #[.int .i64 x.k, .int .i64 x.c, .int .i64 x.u, .int .i64 x.p, .string x.d, .int .i64 x.ek, .string x.eb, .int .i64 x.eu, .int .i64 x.ef, .string x.et, .string x.ex] 32)) (.cells #[.int .i64 x.k, .int .i64 x.c, .int .i64 x.u, .int .i64 x.p, .string x.d, .int .i64 x.ek, .string x.eb, .int .i64 x.eu, .int .i64 x.ef, .string x.et, .string x.ex] 32)
    have hrow5 := HOWN5.out
    have hb6 : Below w.heap.size w w6 := below_row (bt HBEL5.out hba) (Nat.le_refl _) (row_down hrow5 hba) (by omega) hgrow
    rw [HLE.out, ← acs_snoc l x] at hown6
    have HB6 := Lib.hid hb6; have HOWN6 := Lib.hid hown6
    clear hown6 hgrow hat hlt6 hba hrow5 hb6
    go_wp2_with fail
    go_roundw
    case rel => exact ⟨j + 1, l ++ [x], by rw [List.length_append, hl]; rfl, by omega, by omega, by go_num, HOWN6.out, HB6.out⟩
    case measure => simp [intOf]; omega
   ·obtain rfl : j = most := by omega
    have HBEL := Lib.hid hbel
    clear hbel hown
    go_wp2_with fail
    go_ret
    exact ⟨⟨_, _, _, rfl⟩, HBEL.out⟩
  ·obtain rfl : j = cs.length := by omega
   have HBEL := Lib.hid hbel
   clear hbel hown
   go_wp2_with fail
   go_ret
   exact ⟨⟨_, _, _, rfl⟩, HBEL.out⟩
theorem users_any (w : World) :
    Calls Tryz.prog 12 #[] w fun e w' => e = .returned (.slice (some ⟨w.heap.size, 0, none⟩) 3 3) ∧ Has w' w.heap.size (users0.flatMap usC) ∧ w'.ownsRow w.heap.size 47 2 (.slice (some ⟨w.heap.size, 0, none⟩) 3 3) 3 (users0.flatMap usC) ∧ Below w.heap.size w w' := by
 have hb := ba (Below.refl w.heap.size w) (.cells (users0.flatMap usC).toArray 47)
 have hh := Has.alloc w (users0.flatMap usC) 47
 have h1 := World.ownsRow_lit (base := w.heap.size) (e := 47) (size := 2) w (users0.flatMap usC).toArray 3 (Nat.le_refl _) (by unfold maxLen; omega) (by rfl)
 have h2 : (w.alloc (.cells (users0.flatMap usC).toArray 47)).ownsRow w.heap.size 47 2 (.slice (some ⟨w.heap.size, 0, none⟩) 3 3) 3 (users0.flatMap usC) := by simpa using h1
 have HB := Lib.hid hb; have HH := Lib.hid hh; have HO := Lib.hid h2
 clear hb hh h1 h2
 go_enter Tryz.func12, Tryz.ntmps12
 go_wp2_with fail
 go_ret
 exact ⟨rfl, HH.out, HO.out, HB.out⟩
end Go.Proofs.YtmkppkjikifdlaaGreatDoor.Tp
