/-
  DERIVED. The law ScriptElse: its walk.
-/
import Derived.Test.YtobdokabelilmaaDoorScElsP
import Derived.Test.YtobdokabelilmaaDoorScTst6
import Derived.Test.YtobdokabelilmaaDoorScCmds
import Derived.Test.YtobdokabelilmaaDoorScShow
import Derived.Test.YtobdokabelilmaaDoorScLaid
import Derived.Test.YtobdokabelilmaaDoorScWrote
import Derived.Deep.DeepCutAuto
import Derived.Deep.CutBlock
import Derived.Deep.RegionHeld3
import Derived.Test.YtobdokabelilmaaDoorHeldBy
namespace Go.Proofs.YtobdokabelilmaaDoor.Sc
open Go.RowKit
open Tk (Tok)

theorem tst_form8 {K : Nat} {w : World} {F : Dom} {t : Tst} {vs : List Value} (h : (cTst K).rep w F t vs) : ∃ k m p G1 n1 c1 G2 n2 c2 o l G3 n3 c3, vs = [.int .i64 k, .int .i64 m, .int .i64 p, .slice G1 n1 c1, .slice G2 n2 c2, .bool o, .int .i64 l, .slice G3 n3 c3] := by
  obtain ⟨_, Gn, cn, Gk, ck, Gt, ct, -, rfl, -⟩ := tst_open h
  exact ⟨_, _, _, _, _, _, _, _, _, _, _, _, _, _, rfl⟩
def StkIn (w : World) (y : Stk) (v : Value) : Prop := ∃ n F, (cStk n).rep w F y (stkC y v)
/-- what stands behind the first statement: c -/
def ElsNew (x a : Stk) (w0 : World) (p : Value) (wx : World) : Prop := ∃ (C : Nat) (vs : List Value), p = .pointer (some ⟨C, 0, none⟩) ∧ Has wx C vs ∧ (cCmd 6).rep wx (fun b => b < wx.heap.size) (elsC x a) vs ∧ w0.heap.size ≤ C ∧ Below w0.heap.size w0 wx
/-- a test as it lies: not in the block c -/
def ElsT (V : World) (c : Option Nat) (x : Stk) (vs : List Value) : Prop := (cTst 4).rep V (fun b => c ≠ some b ∧ b < V.heap.size) (testS 0 x) vs
theorem ElsT.down {V V' : World} {c : Option Nat} {x : Stk} {vs : List Value} (h : ElsT V c x vs) (hb : Below V.heap.size V V') : ElsT V' c x vs :=
  (cTst 4).mono ((cTst 4).stable h (Same.of_below hb) hb.size) (fun b hh => ⟨hh.1, Nat.lt_of_lt_of_le hh.2 hb.size⟩)
theorem ElsT.fresh {V : World} {n : Nat} {x : Stk} {vs : List Value} (h : ElsT V none x vs) (hn : V.heap.size ≤ n) : ElsT V (some n) x vs :=
  (cTst 4).mono h (fun b hh => ⟨fun e => by have := Option.some.inj e; have := hh.2; omega, hh.2⟩)
theorem sat_none {α : Type} (c : Cod α) (w : World) (F : Dom) (G : Option Addr) (cap : Nat) : SAt c w F (.slice G 0 cap) [] := ⟨G, cap, rfl, Nat.zero_le _, fun i x h => by simp at h⟩
theorem ElsT.ofPost {V V' : World} {c : Option Nat} {x : Stk} {vs : List Value} (h : (cTst 4).rep V' (fun b => V.heap.size ≤ b) (testS 0 x) vs) (_hb : Below V.heap.size V V') (hc : ∀ C, c = some C → C < V.heap.size) : ElsT V' c x vs :=
  (cTst 4).mono (tst_bd 4 h) (fun b hh => ⟨fun e => by have := hc b e; have := hh.1; omega, hh.2⟩)
theorem else12 {w : World} {b C : Nat} {vs : List Value} (h : Has w b vs) (hb : b ≠ C) (a0 a1 a2 a3 a4 a5 a6 a7 a8 a9 a10 a11 : Value) : Has ((((((((((((w.setCell ⟨C, 0, none⟩ a0).setCell ⟨C, 1, none⟩ a1).setCell ⟨C, 2, none⟩ a2).setCell ⟨C, 3, none⟩ a3).setCell ⟨C, 4, none⟩ a4).setCell ⟨C, 5, none⟩ a5).setCell ⟨C, 6, none⟩ a6).setCell ⟨C, 7, none⟩ a7).setCell ⟨C, 8, none⟩ a8).setCell ⟨C, 9, none⟩ a9).setCell ⟨C, 10, none⟩ a10).setCell ⟨C, 11, none⟩ a11) b vs :=
  (((((((((((h.else' hb a0).else' hb a1).else' hb a2).else' hb a3).else' hb a4).else' hb a5).else' hb a6).else' hb a7).else' hb a8).else' hb a9).else' hb a10).else' hb a11
def z12 : List Value := [.int .i64 0, .slice none 0 0, .int .i64 0, .int .i64 0, .int .i64 0, .slice none 0 0, .slice none 0 0, .bool false, .int .i64 0, .slice none 0 0, .slice none 0 0, .slice none 0 0]
theorem elsI_rep {w : World} {F : Dom} {a : Stk} {vs : List Value} (h : (cTst 4).rep w F (testS 0 a) vs) : (cCmd 5).rep w F (elsI a) (.int .i64 2 :: .slice none 0 0 :: (vs ++ [.slice none 0 0, .slice none 0 0])) :=
  ifC_rep (m := 4) (tst_le (by omega) h) (SAt.nil _ _ _) (SAt.nil _ _ _)
theorem elsC_rep {w : World} {F : Dom} {x a : Stk} {E : Nat} {vs us : List Value} (h : (cTst 4).rep w F (testS 0 x) vs) (h2 : (cTst 4).rep w F (testS 0 a) us) (hE : Has w E (.int .i64 2 :: .slice none 0 0 :: (us ++ [.slice none 0 0, .slice none 0 0]))) (hF : F E) :
    (cCmd 6).rep w F (elsC x a) (.int .i64 2 :: .slice none 0 0 :: (vs ++ [.slice none 0 0, .slice (some ⟨E, 0, none⟩) 1 1])) :=
  ifC_rep (m := 5) (tst_le (by omega) h) (SAt.nil _ _ _) (sat_lone (elsI_rep h2) hE hF)
theorem els_new {x a : Stk} {W wE : World} {E : Nat} {vs us : List Value} {t : TypeId} (h : (cTst 4).rep wE (fun b => b < wE.heap.size) (testS 0 x) vs) (h2 : (cTst 4).rep wE (fun b => b < wE.heap.size) (testS 0 a) us) (hE : Has wE E (.int .i64 2 :: .slice none 0 0 :: (us ++ [.slice none 0 0, .slice none 0 0]))) (hb : Below W.heap.size W wE) :
    ElsNew x a W (.pointer (some ⟨wE.heap.size, 0, none⟩)) (wE.alloc (.cells (.int .i64 2 :: .slice none 0 0 :: (vs ++ [.slice none 0 0, .slice (some ⟨E, 0, none⟩) 1 1])).toArray t)) := by
  have hal := ba (Below.refl wE.heap.size wE) (.cells (.int .i64 2 :: .slice none 0 0 :: (vs ++ [.slice none 0 0, .slice (some ⟨E, 0, none⟩) 1 1])).toArray t)
  refine ⟨_, _, rfl, Has.alloc wE _ _, ?_, hb.size, ba hb _⟩
  have hz : (wE.alloc (.cells (.int .i64 2 :: .slice none 0 0 :: (vs ++ [.slice none 0 0, .slice (some ⟨E, 0, none⟩) 1 1])).toArray t)).heap.size = wE.heap.size + 1 := World.size_alloc _ _
  have h' := (cTst 4).mono ((cTst 4).stable h (Same.of_below hal) hal.size) (F' := fun b => b < wE.heap.size + 1) (fun b hb => by omega)
  have h2' := (cTst 4).mono ((cTst 4).stable h2 (Same.of_below hal) hal.size) (F' := fun b => b < wE.heap.size + 1) (fun b hb => by omega)
  rw [hz]
  exact elsC_rep h' h2' (hE.down hal) (by have := hE.2.2; omega)
theorem els_at {x a : Stk} {W wE wx : World} {C E : Nat} {vs us : List Value} (hw : Wrote wE wx C (.int .i64 2 :: .slice none 0 0 :: (vs ++ [.slice none 0 0, .slice (some ⟨E, 0, none⟩) 1 1]))) (h : ElsT wE (some C) x vs) (h2 : ElsT wE (some C) a us)
    (hE : Has wE E (.int .i64 2 :: .slice none 0 0 :: (us ++ [.slice none 0 0, .slice none 0 0]))) (hCE : E ≠ C) (hC : W.heap.size ≤ C) (hb : Below W.heap.size W wE) : ElsNew x a W (.pointer (some ⟨C, 0, none⟩)) wx := by
  have hs : Same (fun b => some C ≠ some b ∧ b < wE.heap.size) wE wx := fun b hb _ => hw.keep b (fun e => hb.1 (by rw [e]))
  have h' := (cTst 4).mono ((cTst 4).stable h hs (by rw [hw.size]; exact Nat.le_refl _)) (F' := fun b => b < wE.heap.size) (fun b hb => hb.2)
  have h2' := (cTst 4).mono ((cTst 4).stable h2 hs (by rw [hw.size]; exact Nat.le_refl _)) (F' := fun b => b < wE.heap.size) (fun b hb => hb.2)
  have e := hw.keep E hCE
  have hE' : Has wx E (.int .i64 2 :: .slice none 0 0 :: (us ++ [.slice none 0 0, .slice none 0 0])) := ⟨fun i v hv => (World.cell?_of_block (w := wE) (a := ⟨E, i, none⟩) e).trans (hE.1 i v hv), fun i hi => (World.frozen?_of_block (w := wE) (a := ⟨E, i, none⟩) e).trans (hE.2.1 i hi), by rw [hw.size]; exact hE.2.2⟩
  refine ⟨_, _, rfl, hw.has, ?_, hC, hw.below _ _ hb hC⟩
  rw [hw.size]
  exact elsC_rep h' h2' hE' hE.2.2
/-- what Show answers, where all is well -/
theorem show_ok (n : Nat) (cs : List Cmd) (v : Value) (F : Dom) (w : World) (hv : SAt (cCmd n) w F v cs) (hF : ∀ c ∈ cs, FormC c) (hFl : ∀ b, F b → b < w.heap.size) (htab : Tabs w w.heap.size) (hlen : (cs.flatMap wC).length ≤ 1000000) (h0 : checkS cs = 0) :
    Calls Tryd.prog 15 #[v] w fun e w' => (∃ G c, e = .returned (.tuple #[.slice G (cs.flatMap wC).length c, .int .i64 0]) ∧ SAt cTok w' (fun _ => True) (.slice G (cs.flatMap wC).length c) (cs.flatMap wC)) ∧ Below w.heap.size w w' := by
  refine (show_any n cs v F w hv hF hFl htab hlen).mono ?_
  intro e w' h
  obtain ⟨-, h2, h3⟩ := h
  obtain ⟨u, rfl, hu⟩ := h2 h0
  obtain ⟨G, c, rfl⟩ := row_slice hu
  exact ⟨⟨G, c, rfl, SAt.of_row (f := tokC) (hf := fun _ => rfl) hu (fun _ _ => trivial)⟩, h3⟩
theorem tok_get {w wr : World} {F : Dom} {G : Option Addr} {n cap : Nat} {l : List Tok} (h : SAt cTok w F (.slice G n cap) l) (hb : Below w.heap.size w wr) (j : Nat) (hj : j < l.length) :
    ∃ g off, G = some ⟨g, off, none⟩ ∧ wr.cell? ⟨g, off + j * 3, none⟩ = some (.int .i64 l[j].kind) ∧ wr.cell? ⟨g, off + j * 3 + 1, none⟩ = some (.string ⟨l[j].text.toArray⟩) := by
  obtain ⟨g, off, vs, hG, hF, hg, hv, hc⟩ := h.get j hj
  obtain rfl : vs = tokC l[j] := hv
  exact ⟨g, off, hG, moved (hc 0 _ rfl) hb (Nat.le_refl _), moved (hc 1 _ rfl) hb (Nat.le_refl _)⟩
theorem keep_rep (w : World) (F : Dom) : (cCmd 5).rep w F keepC [.int .i64 3, .slice none 0 0, .int .i64 0, .int .i64 0, .int .i64 0, .slice none 0 0, .slice none 0 0, .bool false, .int .i64 0, .slice none 0 0, .slice none 0 0, .slice none 0 0] :=
  ⟨.slice none 0 0, [.int .i64 0, .int .i64 0, .int .i64 0, .slice none 0 0, .slice none 0 0, .bool false, .int .i64 0, .slice none 0 0], .slice none 0 0, .slice none 0 0, rfl, SAt.nil _ _ _, zero_rep 4 w F 0, SAt.nil _ _ _, SAt.nil _ _ _⟩
/-- the three ways of a token -/
theorem tok_ways (s : Str) (t : Tok) : (isWd s t = true ∧ t.kind = 1 ∧ t.text = s) ∨ (isWd s t = false ∧ t.kind ≠ 1) ∨ (isWd s t = false ∧ t.kind = 1 ∧ (t.text == s) = false) := by
  unfold isWd
  by_cases h1 : t.kind = 1
  · cases h2 : t.text == s with
    | true => exact .inl ⟨by simp [h1], h1, by simpa using h2⟩
    | false => exact .inr (.inr ⟨by simp, h1, rfl⟩)
  · exact .inr (.inl ⟨by simp [h1], h1⟩)
theorem not_wd {s : Str} {t : Tok} (h : isWd s t = false) (h1 : t.kind = 1) : (t.text == s) = false := by
  unfold isWd at h
  rw [h1] at h; simpa using h

set_option maxHeartbeats 8000000 in
set_option maxRecDepth 20000 in
theorem scriptElse_any (x a : Stk) (nx na : Nat) (vx va : Value) (Fx Fa : Dom) (w : World) (hx : (cStk nx).rep w Fx x (stkC x vx)) (ha : (cStk na).rep w Fa a (stkC a va)) (htab : Tabs w w.heap.size) :
    Calls Tryd.prog 4 #[.agg (stkC x vx).toArray, .agg (stkC a va).toArray] w fun e w' => e = .returned (.bool true) ∧ Below w.heap.size w w' := by
  have HQX := Lib.hid (⟨nx, Fx, hx⟩ : StkIn w x vx)
  have HQA := Lib.hid (⟨na, Fa, ha⟩ : StkIn w a va)
  have HT : Hid (∀ (y : Stk) (G : Option Addr) (n c : Nat) (w' : World), StkIn w y (.slice G n c) → Below w.heap.size w w' → Calls Tryd.prog 14 #[.agg #[.int .i64 y.kind, .int .i64 y.a, .int .i64 y.b, .string ⟨y.s.toArray⟩, .string ⟨y.t.toArray⟩, .slice G n c], .int .i64 3] w' (TestPost (testS 0 y) 4 w')) := fun y G n c w' ⟨k, F, h⟩ hb => test_all 0 (by omega) k y _ F w' ((cStk k).stable h (Same.of_below hb) hb.size)
  have HW0 := Lib.hid (ba (ba (Below.refl w.heap.size w) (.cells (stkC x vx).toArray 35)) (.cells (stkC a va).toArray 35))
  have hX0 := (Has.alloc w (stkC x vx) 35).down (ba (Below.refl _ _) (.cells (stkC a va).toArray 35))
  have hA0 := Has.alloc (w.alloc (.cells (stkC x vx).toArray 35)) (stkC a va) 35
  rw [World.size_alloc] at hA0
  obtain ⟨_, Gx, cx, -, hvx, -⟩ := stk_open hx
  obtain ⟨_, Ga, ca, -, hva, -⟩ := stk_open ha
  obtain rfl : vx = .slice Gx x.subs.length cx := by simpa [stkC] using hvx
  obtain rfl : va = .slice Ga a.subs.length ca := by simpa [stkC] using hva
  have HX0 := Lib.hid hX0; have HA0 := Lib.hid hA0
  have HP := Lib.hid (elsC_form x a)
  obtain ⟨nsx, hnsx⟩ : ∃ nsx, nsx = x.subs.length := ⟨_, rfl⟩
  obtain ⟨nsa, hnsa⟩ : ∃ nsa, nsa = a.subs.length := ⟨_, rfl⟩
  simp only [stkC] at *
  rw [← hnsx] at HQX HX0 HW0 HA0 ⊢
  rw [← hnsa] at HQA HA0 HW0 HX0 ⊢
  clear hx ha hvx hva hnsx hnsa hX0 hA0
  go_enter Tryd.func4, Tryd.ntmps4
  go_upto_region 1 with fail
  refine wp_at (R := fun W => Has W w.heap.size _ ∧ Has W (w.heap.size + 1) _ ∧ Below w.heap.size w W) ⟨HX0.out, HA0.out, HW0.out⟩ (fun W hW => ?_)
  clear HX0 HA0 HW0
  obtain ⟨hX, hA, hb⟩ := hW
  obtain ⟨x0, x1, x2, x3, x4, x5⟩ := has_six hX
  obtain ⟨a0, a1, a2, a3, a4, a5⟩ := has_six hA
  have HB := Lib.hid hb; have HXW := Lib.hid hX; have HAW := Lib.hid hA
  clear hb hX hA
  go_cut [5] (ElsNew x a W)
  case first =>
    have hB : Below W.heap.size W W.drew := Below.drew (Below.refl _ _)
    have hx1 : w.heap.size + 1 < W.heap.size := HAW.out.2.2
    refine wp_region_noPanic ?_
    refine wp_region_held_drew (S := fun wx => Has wx w.heap.size [.int .i64 x.kind, .int .i64 x.a, .int .i64 x.b, .string ⟨x.s.toArray⟩, .string ⟨x.t.toArray⟩, .slice Gx nsx cx] ∧ Has wx (w.heap.size + 1) [.int .i64 a.kind, .int .i64 a.a, .int .i64 a.b, .string ⟨a.s.toArray⟩, .string ⟨a.t.toArray⟩, .slice Ga nsa ca]) (by kernel_rfl) ⟨HXW.out.down hB, HAW.out.down hB⟩ (fun hHeld => ?_)
    refine heldTo (fun X => Below W.heap.size W X ∧ Has X w.heap.size [.int .i64 x.kind, .int .i64 x.a, .int .i64 x.b, .string ⟨x.s.toArray⟩, .string ⟨x.t.toArray⟩, .slice Gx nsx cx] ∧ Has X (w.heap.size + 1) [.int .i64 a.kind, .int .i64 a.a, .int .i64 a.b, .string ⟨a.s.toArray⟩, .string ⟨a.t.toArray⟩, .slice Ga nsa ca]) (fun X => Has X w.heap.size [.int .i64 x.kind, .int .i64 x.a, .int .i64 x.b, .string ⟨x.s.toArray⟩, .string ⟨x.t.toArray⟩, .slice Gx nsx cx] ∧ Has X (w.heap.size + 1) [.int .i64 a.kind, .int .i64 a.a, .int .i64 a.b, .string ⟨a.s.toArray⟩, .string ⟨a.t.toArray⟩, .slice Ga nsa ca]) ⟨hB, hHeld⟩ (fun X h => h.2) (fun _ h => h) (fun V0 hR hHeld => ?_)
    clear hB
    obtain ⟨hB, -⟩ := hR
    refine wpAnyH_take (i := 0) (v := ?_) (by (simp only [List.getElem?_toArray, List.getElem?_cons_zero]; rfl)) (by kernel_rfl) (by kernel_rfl) (by kernel_rfl) (fun _ _ _ h => h) (Or.inl ⟨by rfl, ?_⟩) (by assumption) ?_
    rotate_left 1
    · intro w' hSw; obtain ⟨hX1, hX2⟩ := hSw; obtain ⟨c0, c1, c2, c3, c4, c5⟩ := has_six hX1; (go_simp) <;> with_reducible rfl
    try simp only [Act.put, List.setIfInBounds_toArray, List.set_cons_zero, List.set_cons_succ]
    refine wpAnyH_take (i := 2) (v := ?_) (by (simp only [List.getElem?_toArray, List.getElem?_cons_succ, List.getElem?_cons_zero]; rfl)) (by kernel_rfl) (by kernel_rfl) (by kernel_rfl) (fun _ _ _ h => h) (Or.inl ⟨by rfl, ?_⟩) (by assumption) ?_
    rotate_left 1
    · intro w' hSw; obtain ⟨hX1, hX2⟩ := hSw; obtain ⟨c0, c1, c2, c3, c4, c5⟩ := has_six hX2; (go_simp) <;> with_reducible rfl
    try simp only [Act.put, List.setIfInBounds_toArray, List.set_cons_zero, List.set_cons_succ]
    refine wpAnyH_ready (rs := [1, 7]) (by kernel_rfl) (by simp) ?_
    refine AllReadyH.cons (by (simp only [List.getElem?_toArray, List.getElem?_cons_succ, List.getElem?_cons_zero]; rfl)) (fun K hK => ?_) ?_
    · go_simp
      go_at_call 14
      refine (HT.out _ _ _ _ _ HQX.out (bt HB.out hB)).mono ?_
      rintro e w4 ⟨vs3, rfl, hr3, hb4⟩
      obtain ⟨k3, m3, p3, G31, n31, c31, G32, n32, c32, o3, l3, G33, n33, c33, rfl⟩ := tst_form8 hr3
      try (go_wp2_with fail)
      refine hK.out _ _ ?_ (fun hHeld => ?_)
      · exact ⟨hHeld.1.down hb4, hHeld.2.down hb4⟩
      clear hK K
      try simp only [Act.put, List.setIfInBounds_toArray, List.set_cons_zero, List.set_cons_succ]
      refine heldTo (fun V1 => (Below W.heap.size W V1) ∧ (Has V1 w.heap.size [.int .i64 x.kind, .int .i64 x.a, .int .i64 x.b, .string ⟨x.s.toArray⟩, .string ⟨x.t.toArray⟩, .slice Gx nsx cx] ∧ Has V1 (w.heap.size + 1) [.int .i64 a.kind, .int .i64 a.a, .int .i64 a.b, .string ⟨a.s.toArray⟩, .string ⟨a.t.toArray⟩, .slice Ga nsa ca]) ∧ (ElsT V1 none x [.int .i64 k3, .int .i64 m3, .int .i64 p3, .slice G31 n31 c31, .slice G32 n32 c32, .bool o3, .int .i64 l3, .slice G33 n33 c33])) (fun V1 => Has V1 w.heap.size [.int .i64 x.kind, .int .i64 x.a, .int .i64 x.b, .string ⟨x.s.toArray⟩, .string ⟨x.t.toArray⟩, .slice Gx nsx cx] ∧ Has V1 (w.heap.size + 1) [.int .i64 a.kind, .int .i64 a.a, .int .i64 a.b, .string ⟨a.s.toArray⟩, .string ⟨a.t.toArray⟩, .slice Ga nsa ca]) ⟨bt hB hb4, hHeld, ElsT.ofPost hr3 hb4 (fun C' e => by cases e)⟩ (fun V1 h => h.2.1) (fun _ h => h) (fun V1 hR hHeld => ?_)
      clear hr3 hb4
      clear hB
      obtain ⟨hB, -, h3⟩ := hR
      refine wpAnyH_ready (rs := [3, 7]) (by kernel_rfl) (by simp) ?_
      refine AllReadyH.cons (by (simp only [List.getElem?_toArray, List.getElem?_cons_succ, List.getElem?_cons_zero]; rfl)) (fun K hK => ?_) ?_
      · go_simp
        go_at_call 14
        refine (HT.out _ _ _ _ _ HQA.out (bt HB.out hB)).mono ?_
        rintro e w4 ⟨vs4, rfl, hr4, hb4⟩
        obtain ⟨k4, m4, p4, G41, n41, c41, G42, n42, c42, o4, l4, G43, n43, c43, rfl⟩ := tst_form8 hr4
        try (go_wp2_with fail)
        refine hK.out _ _ ?_ (fun hHeld => ?_)
        · exact ⟨hHeld.1.down hb4, hHeld.2.down hb4⟩
        clear hK K
        try simp only [Act.put, List.setIfInBounds_toArray, List.set_cons_zero, List.set_cons_succ]
        refine heldTo (fun V2 => (Below W.heap.size W V2) ∧ (Has V2 w.heap.size [.int .i64 x.kind, .int .i64 x.a, .int .i64 x.b, .string ⟨x.s.toArray⟩, .string ⟨x.t.toArray⟩, .slice Gx nsx cx] ∧ Has V2 (w.heap.size + 1) [.int .i64 a.kind, .int .i64 a.a, .int .i64 a.b, .string ⟨a.s.toArray⟩, .string ⟨a.t.toArray⟩, .slice Ga nsa ca]) ∧ (ElsT V2 none x [.int .i64 k3, .int .i64 m3, .int .i64 p3, .slice G31 n31 c31, .slice G32 n32 c32, .bool o3, .int .i64 l3, .slice G33 n33 c33]) ∧ (ElsT V2 none a [.int .i64 k4, .int .i64 m4, .int .i64 p4, .slice G41 n41 c41, .slice G42 n42 c42, .bool o4, .int .i64 l4, .slice G43 n43 c43])) (fun V2 => Has V2 w.heap.size [.int .i64 x.kind, .int .i64 x.a, .int .i64 x.b, .string ⟨x.s.toArray⟩, .string ⟨x.t.toArray⟩, .slice Gx nsx cx] ∧ Has V2 (w.heap.size + 1) [.int .i64 a.kind, .int .i64 a.a, .int .i64 a.b, .string ⟨a.s.toArray⟩, .string ⟨a.t.toArray⟩, .slice Ga nsa ca]) ⟨bt hB hb4, hHeld, h3.down hb4, ElsT.ofPost hr4 hb4 (fun C' e => by cases e)⟩ (fun V2 h => h.2.1) (fun _ h => h) (fun V2 hR hHeld => ?_)
        clear hr4 hb4
        clear hB h3
        obtain ⟨hB, -, h3, h4⟩ := hR
        refine wpAnyH_take (i := 4) (v := ?_) (by (simp only [List.getElem?_toArray, List.getElem?_cons_succ, List.getElem?_cons_zero]; rfl)) (by kernel_rfl) (by kernel_rfl) (by kernel_rfl) (fun _ _ _ h => h) (Or.inl ⟨by rfl, ?_⟩) (by assumption) ?_
        rotate_left 1
        · intro w' hSw; (go_simp) <;> with_reducible rfl
        try simp only [Act.put, List.setIfInBounds_toArray, List.set_cons_zero, List.set_cons_succ]
        refine wpAnyH_ready (rs := [5, 7]) (by kernel_rfl) (by simp) ?_
        refine AllReadyH.cons (by (simp only [List.getElem?_toArray, List.getElem?_cons_succ, List.getElem?_cons_zero]; rfl)) (fun K hK => ?_) ?_
        · go_simp
          refine hK.out _ _ ?_ (fun hHeld => ?_)
          · exact ⟨hHeld.1.down (ba (Below.refl _ _) _), hHeld.2.down (ba (Below.refl _ _) _)⟩
          clear hK K
          try simp only [Act.put, List.setIfInBounds_toArray, List.set_cons_zero, List.set_cons_succ]
          refine heldTo (fun V3 => (Below W.heap.size W V3) ∧ (Has V3 w.heap.size [.int .i64 x.kind, .int .i64 x.a, .int .i64 x.b, .string ⟨x.s.toArray⟩, .string ⟨x.t.toArray⟩, .slice Gx nsx cx] ∧ Has V3 (w.heap.size + 1) [.int .i64 a.kind, .int .i64 a.a, .int .i64 a.b, .string ⟨a.s.toArray⟩, .string ⟨a.t.toArray⟩, .slice Ga nsa ca]) ∧ (ElsT V3 none x [.int .i64 k3, .int .i64 m3, .int .i64 p3, .slice G31 n31 c31, .slice G32 n32 c32, .bool o3, .int .i64 l3, .slice G33 n33 c33]) ∧ (ElsT V3 none a [.int .i64 k4, .int .i64 m4, .int .i64 p4, .slice G41 n41 c41, .slice G42 n42 c42, .bool o4, .int .i64 l4, .slice G43 n43 c43]) ∧ (Has V3 V2.heap.size [.int .i64 2, .slice none 0 0, .int .i64 k4, .int .i64 m4, .int .i64 p4, .slice G41 n41 c41, .slice G42 n42 c42, .bool o4, .int .i64 l4, .slice G43 n43 c43, .slice none 0 0, .slice none 0 0])) (fun V3 => Has V3 w.heap.size [.int .i64 x.kind, .int .i64 x.a, .int .i64 x.b, .string ⟨x.s.toArray⟩, .string ⟨x.t.toArray⟩, .slice Gx nsx cx] ∧ Has V3 (w.heap.size + 1) [.int .i64 a.kind, .int .i64 a.a, .int .i64 a.b, .string ⟨a.s.toArray⟩, .string ⟨a.t.toArray⟩, .slice Ga nsa ca]) ⟨ba hB _, hHeld, h3.down (ba (Below.refl _ _) _), h4.down (ba (Below.refl _ _) _), Has.alloc V2 _ _⟩ (fun V3 h => h.2.1) (fun _ h => h) (fun V3 hR hHeld => ?_)
          clear hB h3 h4
          obtain ⟨hB, -, h3, h4, hE⟩ := hR
          generalize V2.heap.size = E at hE ⊢
          refine wpAnyH_take (i := 6) (v := ?_) (by (simp only [List.getElem?_toArray, List.getElem?_cons_succ, List.getElem?_cons_zero]; rfl)) (by kernel_rfl) (by kernel_rfl) (by kernel_rfl) (fun _ _ _ h => h) (Or.inl ⟨by rfl, ?_⟩) (by assumption) ?_
          rotate_left 1
          · intro w' hSw; (go_simp) <;> with_reducible rfl
          try simp only [Act.put, List.setIfInBounds_toArray, List.set_cons_zero, List.set_cons_succ]
          refine wpAnyH_ready (rs := [7]) (by kernel_rfl) (by simp) ?_
          refine AllReadyH.cons (by (simp only [List.getElem?_toArray, List.getElem?_cons_succ, List.getElem?_cons_zero]; rfl)) (fun K hK => ?_) ?_
          · go_simp
            refine hK.out _ _ ?_ (fun hHeld => ?_)
            · exact ⟨hHeld.1.down (ba (Below.refl _ _) _), hHeld.2.down (ba (Below.refl _ _) _)⟩
            clear hK K
            try simp only [Act.put, List.setIfInBounds_toArray, List.set_cons_zero, List.set_cons_succ]
            refine heldTo (fun V4 => (Below W.heap.size W V4) ∧ (Has V4 w.heap.size [.int .i64 x.kind, .int .i64 x.a, .int .i64 x.b, .string ⟨x.s.toArray⟩, .string ⟨x.t.toArray⟩, .slice Gx nsx cx] ∧ Has V4 (w.heap.size + 1) [.int .i64 a.kind, .int .i64 a.a, .int .i64 a.b, .string ⟨a.s.toArray⟩, .string ⟨a.t.toArray⟩, .slice Ga nsa ca]) ∧ (ElsT V4 (some V3.heap.size) x [.int .i64 k3, .int .i64 m3, .int .i64 p3, .slice G31 n31 c31, .slice G32 n32 c32, .bool o3, .int .i64 l3, .slice G33 n33 c33]) ∧ (ElsT V4 (some V3.heap.size) a [.int .i64 k4, .int .i64 m4, .int .i64 p4, .slice G41 n41 c41, .slice G42 n42 c42, .bool o4, .int .i64 l4, .slice G43 n43 c43]) ∧ (Has V4 E [.int .i64 2, .slice none 0 0, .int .i64 k4, .int .i64 m4, .int .i64 p4, .slice G41 n41 c41, .slice G42 n42 c42, .bool o4, .int .i64 l4, .slice G43 n43 c43, .slice none 0 0, .slice none 0 0]) ∧ (Has V4 V3.heap.size [.int .i64 0, .slice none 0 0, .int .i64 0, .int .i64 0, .int .i64 0, .slice none 0 0, .slice none 0 0, .bool false, .int .i64 0, .slice none 0 0, .slice none 0 0, .slice none 0 0])) (fun V4 => Has V4 w.heap.size [.int .i64 x.kind, .int .i64 x.a, .int .i64 x.b, .string ⟨x.s.toArray⟩, .string ⟨x.t.toArray⟩, .slice Gx nsx cx] ∧ Has V4 (w.heap.size + 1) [.int .i64 a.kind, .int .i64 a.a, .int .i64 a.b, .string ⟨a.s.toArray⟩, .string ⟨a.t.toArray⟩, .slice Ga nsa ca]) ⟨ba hB _, hHeld, (h3.fresh (Nat.le_refl _)).down (ba (Below.refl _ _) _), (h4.fresh (Nat.le_refl _)).down (ba (Below.refl _ _) _), hE.down (ba (Below.refl _ _) _), Has.alloc V3 _ _⟩ (fun V4 h => h.2.1) (fun _ h => h) (fun V4 hR hHeld => ?_)
            have hCW : W.heap.size ≤ V3.heap.size := hB.size
            have hCE : E ≠ V3.heap.size := by have := hE.2.2; omega
            clear hB h3 h4 hE
            obtain ⟨hB, -, h3, h4, hE, hC⟩ := hR
            generalize V3.heap.size = C at hC hCW hCE h3 h4 ⊢
            refine wpAnyH_ready (rs := [8]) (by kernel_rfl) (by simp) ?_
            refine AllReadyH.cons (by (simp only [List.getElem?_toArray, List.getElem?_cons_succ, List.getElem?_cons_zero]; rfl)) (fun K hK => ?_) ?_
            · obtain ⟨e0, e1, e2, e3, e4, e5, e6, e7, e8, e9, e10, e11⟩ := has_12 hC
              obtain ⟨f0, f1, f2, f3, f4, f5, f6, f7, f8, f9, f10, f11⟩ := has_free hC
              go_simp
              refine hK.out _ _ ?_ (fun hHeld => ?_)
              · exact ⟨else12 hHeld.1 (by omega) _ _ _ _ _ _ _ _ _ _ _ _, else12 hHeld.2 (by omega) _ _ _ _ _ _ _ _ _ _ _ _⟩
              clear hK K
              try simp only [Act.put, List.setIfInBounds_toArray, List.set_cons_zero, List.set_cons_succ]
              refine wpAnyH_done (by kernel_rfl) ?_ _
              refine NoPanic.normal ?_
              go_wp2_with fail
              go_meet
              case rel => exact els_at (wrote12 hC _ _ _ _ _ _ _ _ _ _ _ _) h3 h4 hE hCE hCW hB
            exact AllReadyH.nil
          exact AllReadyH.nil
        refine AllReadyH.cons (by (simp only [List.getElem?_toArray, List.getElem?_cons_succ, List.getElem?_cons_zero]; rfl)) (fun K hK => ?_) ?_
        · go_simp
          refine hK.out _ _ ?_ (fun hHeld => ?_)
          · exact ⟨hHeld.1.down (ba (Below.refl _ _) _), hHeld.2.down (ba (Below.refl _ _) _)⟩
          clear hK K
          try simp only [Act.put, List.setIfInBounds_toArray, List.set_cons_zero, List.set_cons_succ]
          refine heldTo (fun V3 => (Below W.heap.size W V3) ∧ (Has V3 w.heap.size [.int .i64 x.kind, .int .i64 x.a, .int .i64 x.b, .string ⟨x.s.toArray⟩, .string ⟨x.t.toArray⟩, .slice Gx nsx cx] ∧ Has V3 (w.heap.size + 1) [.int .i64 a.kind, .int .i64 a.a, .int .i64 a.b, .string ⟨a.s.toArray⟩, .string ⟨a.t.toArray⟩, .slice Ga nsa ca]) ∧ (ElsT V3 (some V2.heap.size) x [.int .i64 k3, .int .i64 m3, .int .i64 p3, .slice G31 n31 c31, .slice G32 n32 c32, .bool o3, .int .i64 l3, .slice G33 n33 c33]) ∧ (ElsT V3 (some V2.heap.size) a [.int .i64 k4, .int .i64 m4, .int .i64 p4, .slice G41 n41 c41, .slice G42 n42 c42, .bool o4, .int .i64 l4, .slice G43 n43 c43]) ∧ (Has V3 V2.heap.size [.int .i64 0, .slice none 0 0, .int .i64 0, .int .i64 0, .int .i64 0, .slice none 0 0, .slice none 0 0, .bool false, .int .i64 0, .slice none 0 0, .slice none 0 0, .slice none 0 0])) (fun V3 => Has V3 w.heap.size [.int .i64 x.kind, .int .i64 x.a, .int .i64 x.b, .string ⟨x.s.toArray⟩, .string ⟨x.t.toArray⟩, .slice Gx nsx cx] ∧ Has V3 (w.heap.size + 1) [.int .i64 a.kind, .int .i64 a.a, .int .i64 a.b, .string ⟨a.s.toArray⟩, .string ⟨a.t.toArray⟩, .slice Ga nsa ca]) ⟨ba hB _, hHeld, (h3.fresh (Nat.le_refl _)).down (ba (Below.refl _ _) _), (h4.fresh (Nat.le_refl _)).down (ba (Below.refl _ _) _), Has.alloc V2 _ _⟩ (fun V3 h => h.2.1) (fun _ h => h) (fun V3 hR hHeld => ?_)
          have hCW : W.heap.size ≤ V2.heap.size := hB.size
          clear hB h3 h4
          obtain ⟨hB, -, h3, h4, hC⟩ := hR
          generalize V2.heap.size = C at hC hCW h3 h4 ⊢
          refine wpAnyH_ready (rs := [5]) (by kernel_rfl) (by simp) ?_
          refine AllReadyH.cons (by (simp only [List.getElem?_toArray, List.getElem?_cons_succ, List.getElem?_cons_zero]; rfl)) (fun K hK => ?_) ?_
          · go_simp
            refine hK.out _ _ ?_ (fun hHeld => ?_)
            · exact ⟨hHeld.1.down (ba (Below.refl _ _) _), hHeld.2.down (ba (Below.refl _ _) _)⟩
            clear hK K
            try simp only [Act.put, List.setIfInBounds_toArray, List.set_cons_zero, List.set_cons_succ]
            refine heldTo (fun V4 => (Below W.heap.size W V4) ∧ (Has V4 w.heap.size [.int .i64 x.kind, .int .i64 x.a, .int .i64 x.b, .string ⟨x.s.toArray⟩, .string ⟨x.t.toArray⟩, .slice Gx nsx cx] ∧ Has V4 (w.heap.size + 1) [.int .i64 a.kind, .int .i64 a.a, .int .i64 a.b, .string ⟨a.s.toArray⟩, .string ⟨a.t.toArray⟩, .slice Ga nsa ca]) ∧ (ElsT V4 (some C) x [.int .i64 k3, .int .i64 m3, .int .i64 p3, .slice G31 n31 c31, .slice G32 n32 c32, .bool o3, .int .i64 l3, .slice G33 n33 c33]) ∧ (ElsT V4 (some C) a [.int .i64 k4, .int .i64 m4, .int .i64 p4, .slice G41 n41 c41, .slice G42 n42 c42, .bool o4, .int .i64 l4, .slice G43 n43 c43]) ∧ (Has V4 V3.heap.size [.int .i64 2, .slice none 0 0, .int .i64 k4, .int .i64 m4, .int .i64 p4, .slice G41 n41 c41, .slice G42 n42 c42, .bool o4, .int .i64 l4, .slice G43 n43 c43, .slice none 0 0, .slice none 0 0]) ∧ (Has V4 C [.int .i64 0, .slice none 0 0, .int .i64 0, .int .i64 0, .int .i64 0, .slice none 0 0, .slice none 0 0, .bool false, .int .i64 0, .slice none 0 0, .slice none 0 0, .slice none 0 0])) (fun V4 => Has V4 w.heap.size [.int .i64 x.kind, .int .i64 x.a, .int .i64 x.b, .string ⟨x.s.toArray⟩, .string ⟨x.t.toArray⟩, .slice Gx nsx cx] ∧ Has V4 (w.heap.size + 1) [.int .i64 a.kind, .int .i64 a.a, .int .i64 a.b, .string ⟨a.s.toArray⟩, .string ⟨a.t.toArray⟩, .slice Ga nsa ca]) ⟨ba hB _, hHeld, h3.down (ba (Below.refl _ _) _), h4.down (ba (Below.refl _ _) _), Has.alloc V3 _ _, hC.down (ba (Below.refl _ _) _)⟩ (fun V4 h => h.2.1) (fun _ h => h) (fun V4 hR hHeld => ?_)
            have hCE : V3.heap.size ≠ C := by have := hC.2.2; omega
            clear hB h3 h4 hC
            obtain ⟨hB, -, h3, h4, hE, hC⟩ := hR
            generalize V3.heap.size = E at hE hCE ⊢
            refine wpAnyH_take (i := 6) (v := ?_) (by (simp only [List.getElem?_toArray, List.getElem?_cons_succ, List.getElem?_cons_zero]; rfl)) (by kernel_rfl) (by kernel_rfl) (by kernel_rfl) (fun _ _ _ h => h) (Or.inl ⟨by rfl, ?_⟩) (by assumption) ?_
            rotate_left 1
            · intro w' hSw; (go_simp) <;> with_reducible rfl
            try simp only [Act.put, List.setIfInBounds_toArray, List.set_cons_zero, List.set_cons_succ]
            refine wpAnyH_ready (rs := [8]) (by kernel_rfl) (by simp) ?_
            refine AllReadyH.cons (by (simp only [List.getElem?_toArray, List.getElem?_cons_succ, List.getElem?_cons_zero]; rfl)) (fun K hK => ?_) ?_
            · obtain ⟨e0, e1, e2, e3, e4, e5, e6, e7, e8, e9, e10, e11⟩ := has_12 hC
              obtain ⟨f0, f1, f2, f3, f4, f5, f6, f7, f8, f9, f10, f11⟩ := has_free hC
              go_simp
              refine hK.out _ _ ?_ (fun hHeld => ?_)
              · exact ⟨else12 hHeld.1 (by omega) _ _ _ _ _ _ _ _ _ _ _ _, else12 hHeld.2 (by omega) _ _ _ _ _ _ _ _ _ _ _ _⟩
              clear hK K
              try simp only [Act.put, List.setIfInBounds_toArray, List.set_cons_zero, List.set_cons_succ]
              refine wpAnyH_done (by kernel_rfl) ?_ _
              refine NoPanic.normal ?_
              go_wp2_with fail
              go_meet
              case rel => exact els_at (wrote12 hC _ _ _ _ _ _ _ _ _ _ _ _) h3 h4 hE hCE hCW hB
            exact AllReadyH.nil
          exact AllReadyH.nil
        exact AllReadyH.nil
      refine AllReadyH.cons (by (simp only [List.getElem?_toArray, List.getElem?_cons_succ, List.getElem?_cons_zero]; rfl)) (fun K hK => ?_) ?_
      · go_simp
        refine hK.out _ _ ?_ (fun hHeld => ?_)
        · exact ⟨hHeld.1.down (ba (Below.refl _ _) _), hHeld.2.down (ba (Below.refl _ _) _)⟩
        clear hK K
        try simp only [Act.put, List.setIfInBounds_toArray, List.set_cons_zero, List.set_cons_succ]
        refine heldTo (fun V2 => (Below W.heap.size W V2) ∧ (Has V2 w.heap.size [.int .i64 x.kind, .int .i64 x.a, .int .i64 x.b, .string ⟨x.s.toArray⟩, .string ⟨x.t.toArray⟩, .slice Gx nsx cx] ∧ Has V2 (w.heap.size + 1) [.int .i64 a.kind, .int .i64 a.a, .int .i64 a.b, .string ⟨a.s.toArray⟩, .string ⟨a.t.toArray⟩, .slice Ga nsa ca]) ∧ (ElsT V2 (some V1.heap.size) x [.int .i64 k3, .int .i64 m3, .int .i64 p3, .slice G31 n31 c31, .slice G32 n32 c32, .bool o3, .int .i64 l3, .slice G33 n33 c33]) ∧ (Has V2 V1.heap.size [.int .i64 0, .slice none 0 0, .int .i64 0, .int .i64 0, .int .i64 0, .slice none 0 0, .slice none 0 0, .bool false, .int .i64 0, .slice none 0 0, .slice none 0 0, .slice none 0 0])) (fun V2 => Has V2 w.heap.size [.int .i64 x.kind, .int .i64 x.a, .int .i64 x.b, .string ⟨x.s.toArray⟩, .string ⟨x.t.toArray⟩, .slice Gx nsx cx] ∧ Has V2 (w.heap.size + 1) [.int .i64 a.kind, .int .i64 a.a, .int .i64 a.b, .string ⟨a.s.toArray⟩, .string ⟨a.t.toArray⟩, .slice Ga nsa ca]) ⟨ba hB _, hHeld, (h3.fresh (Nat.le_refl _)).down (ba (Below.refl _ _) _), Has.alloc V1 _ _⟩ (fun V2 h => h.2.1) (fun _ h => h) (fun V2 hR hHeld => ?_)
        have hCW : W.heap.size ≤ V1.heap.size := hB.size
        clear hB h3
        obtain ⟨hB, -, h3, hC⟩ := hR
        generalize V1.heap.size = C at hC hCW h3 ⊢
        refine wpAnyH_ready (rs := [3]) (by kernel_rfl) (by simp) ?_
        refine AllReadyH.cons (by (simp only [List.getElem?_toArray, List.getElem?_cons_succ, List.getElem?_cons_zero]; rfl)) (fun K hK => ?_) ?_
        · go_simp
          go_at_call 14
          refine (HT.out _ _ _ _ _ HQA.out (bt HB.out hB)).mono ?_
          rintro e w4 ⟨vs4, rfl, hr4, hb4⟩
          obtain ⟨k4, m4, p4, G41, n41, c41, G42, n42, c42, o4, l4, G43, n43, c43, rfl⟩ := tst_form8 hr4
          try (go_wp2_with fail)
          refine hK.out _ _ ?_ (fun hHeld => ?_)
          · exact ⟨hHeld.1.down hb4, hHeld.2.down hb4⟩
          clear hK K
          try simp only [Act.put, List.setIfInBounds_toArray, List.set_cons_zero, List.set_cons_succ]
          refine heldTo (fun V3 => (Below W.heap.size W V3) ∧ (Has V3 w.heap.size [.int .i64 x.kind, .int .i64 x.a, .int .i64 x.b, .string ⟨x.s.toArray⟩, .string ⟨x.t.toArray⟩, .slice Gx nsx cx] ∧ Has V3 (w.heap.size + 1) [.int .i64 a.kind, .int .i64 a.a, .int .i64 a.b, .string ⟨a.s.toArray⟩, .string ⟨a.t.toArray⟩, .slice Ga nsa ca]) ∧ (ElsT V3 (some C) x [.int .i64 k3, .int .i64 m3, .int .i64 p3, .slice G31 n31 c31, .slice G32 n32 c32, .bool o3, .int .i64 l3, .slice G33 n33 c33]) ∧ (ElsT V3 (some C) a [.int .i64 k4, .int .i64 m4, .int .i64 p4, .slice G41 n41 c41, .slice G42 n42 c42, .bool o4, .int .i64 l4, .slice G43 n43 c43]) ∧ (Has V3 C [.int .i64 0, .slice none 0 0, .int .i64 0, .int .i64 0, .int .i64 0, .slice none 0 0, .slice none 0 0, .bool false, .int .i64 0, .slice none 0 0, .slice none 0 0, .slice none 0 0])) (fun V3 => Has V3 w.heap.size [.int .i64 x.kind, .int .i64 x.a, .int .i64 x.b, .string ⟨x.s.toArray⟩, .string ⟨x.t.toArray⟩, .slice Gx nsx cx] ∧ Has V3 (w.heap.size + 1) [.int .i64 a.kind, .int .i64 a.a, .int .i64 a.b, .string ⟨a.s.toArray⟩, .string ⟨a.t.toArray⟩, .slice Ga nsa ca]) ⟨bt hB hb4, hHeld, h3.down hb4, ElsT.ofPost hr4 hb4 (fun C' e => by obtain rfl := Option.some.inj e; exact hC.2.2), hC.down hb4⟩ (fun V3 h => h.2.1) (fun _ h => h) (fun V3 hR hHeld => ?_)
          clear hr4 hb4
          clear hB h3 hC
          obtain ⟨hB, -, h3, h4, hC⟩ := hR
          refine wpAnyH_take (i := 4) (v := ?_) (by (simp only [List.getElem?_toArray, List.getElem?_cons_succ, List.getElem?_cons_zero]; rfl)) (by kernel_rfl) (by kernel_rfl) (by kernel_rfl) (fun _ _ _ h => h) (Or.inl ⟨by rfl, ?_⟩) (by assumption) ?_
          rotate_left 1
          · intro w' hSw; (go_simp) <;> with_reducible rfl
          try simp only [Act.put, List.setIfInBounds_toArray, List.set_cons_zero, List.set_cons_succ]
          refine wpAnyH_ready (rs := [5]) (by kernel_rfl) (by simp) ?_
          refine AllReadyH.cons (by (simp only [List.getElem?_toArray, List.getElem?_cons_succ, List.getElem?_cons_zero]; rfl)) (fun K hK => ?_) ?_
          · go_simp
            refine hK.out _ _ ?_ (fun hHeld => ?_)
            · exact ⟨hHeld.1.down (ba (Below.refl _ _) _), hHeld.2.down (ba (Below.refl _ _) _)⟩
            clear hK K
            try simp only [Act.put, List.setIfInBounds_toArray, List.set_cons_zero, List.set_cons_succ]
            refine heldTo (fun V4 => (Below W.heap.size W V4) ∧ (Has V4 w.heap.size [.int .i64 x.kind, .int .i64 x.a, .int .i64 x.b, .string ⟨x.s.toArray⟩, .string ⟨x.t.toArray⟩, .slice Gx nsx cx] ∧ Has V4 (w.heap.size + 1) [.int .i64 a.kind, .int .i64 a.a, .int .i64 a.b, .string ⟨a.s.toArray⟩, .string ⟨a.t.toArray⟩, .slice Ga nsa ca]) ∧ (ElsT V4 (some C) x [.int .i64 k3, .int .i64 m3, .int .i64 p3, .slice G31 n31 c31, .slice G32 n32 c32, .bool o3, .int .i64 l3, .slice G33 n33 c33]) ∧ (ElsT V4 (some C) a [.int .i64 k4, .int .i64 m4, .int .i64 p4, .slice G41 n41 c41, .slice G42 n42 c42, .bool o4, .int .i64 l4, .slice G43 n43 c43]) ∧ (Has V4 V3.heap.size [.int .i64 2, .slice none 0 0, .int .i64 k4, .int .i64 m4, .int .i64 p4, .slice G41 n41 c41, .slice G42 n42 c42, .bool o4, .int .i64 l4, .slice G43 n43 c43, .slice none 0 0, .slice none 0 0]) ∧ (Has V4 C [.int .i64 0, .slice none 0 0, .int .i64 0, .int .i64 0, .int .i64 0, .slice none 0 0, .slice none 0 0, .bool false, .int .i64 0, .slice none 0 0, .slice none 0 0, .slice none 0 0])) (fun V4 => Has V4 w.heap.size [.int .i64 x.kind, .int .i64 x.a, .int .i64 x.b, .string ⟨x.s.toArray⟩, .string ⟨x.t.toArray⟩, .slice Gx nsx cx] ∧ Has V4 (w.heap.size + 1) [.int .i64 a.kind, .int .i64 a.a, .int .i64 a.b, .string ⟨a.s.toArray⟩, .string ⟨a.t.toArray⟩, .slice Ga nsa ca]) ⟨ba hB _, hHeld, h3.down (ba (Below.refl _ _) _), h4.down (ba (Below.refl _ _) _), Has.alloc V3 _ _, hC.down (ba (Below.refl _ _) _)⟩ (fun V4 h => h.2.1) (fun _ h => h) (fun V4 hR hHeld => ?_)
            have hCE : V3.heap.size ≠ C := by have := hC.2.2; omega
            clear hB h3 h4 hC
            obtain ⟨hB, -, h3, h4, hE, hC⟩ := hR
            generalize V3.heap.size = E at hE hCE ⊢
            refine wpAnyH_take (i := 6) (v := ?_) (by (simp only [List.getElem?_toArray, List.getElem?_cons_succ, List.getElem?_cons_zero]; rfl)) (by kernel_rfl) (by kernel_rfl) (by kernel_rfl) (fun _ _ _ h => h) (Or.inl ⟨by rfl, ?_⟩) (by assumption) ?_
            rotate_left 1
            · intro w' hSw; (go_simp) <;> with_reducible rfl
            try simp only [Act.put, List.setIfInBounds_toArray, List.set_cons_zero, List.set_cons_succ]
            refine wpAnyH_ready (rs := [8]) (by kernel_rfl) (by simp) ?_
            refine AllReadyH.cons (by (simp only [List.getElem?_toArray, List.getElem?_cons_succ, List.getElem?_cons_zero]; rfl)) (fun K hK => ?_) ?_
            · obtain ⟨e0, e1, e2, e3, e4, e5, e6, e7, e8, e9, e10, e11⟩ := has_12 hC
              obtain ⟨f0, f1, f2, f3, f4, f5, f6, f7, f8, f9, f10, f11⟩ := has_free hC
              go_simp
              refine hK.out _ _ ?_ (fun hHeld => ?_)
              · exact ⟨else12 hHeld.1 (by omega) _ _ _ _ _ _ _ _ _ _ _ _, else12 hHeld.2 (by omega) _ _ _ _ _ _ _ _ _ _ _ _⟩
              clear hK K
              try simp only [Act.put, List.setIfInBounds_toArray, List.set_cons_zero, List.set_cons_succ]
              refine wpAnyH_done (by kernel_rfl) ?_ _
              refine NoPanic.normal ?_
              go_wp2_with fail
              go_meet
              case rel => exact els_at (wrote12 hC _ _ _ _ _ _ _ _ _ _ _ _) h3 h4 hE hCE hCW hB
            exact AllReadyH.nil
          exact AllReadyH.nil
        exact AllReadyH.nil
      exact AllReadyH.nil
    refine AllReadyH.cons (by (simp only [List.getElem?_toArray, List.getElem?_cons_succ, List.getElem?_cons_zero]; rfl)) (fun K hK => ?_) ?_
    · go_simp
      refine hK.out _ _ ?_ (fun hHeld => ?_)
      · exact ⟨hHeld.1.down (ba (Below.refl _ _) _), hHeld.2.down (ba (Below.refl _ _) _)⟩
      clear hK K
      try simp only [Act.put, List.setIfInBounds_toArray, List.set_cons_zero, List.set_cons_succ]
      refine heldTo (fun V1 => (Below W.heap.size W V1) ∧ (Has V1 w.heap.size [.int .i64 x.kind, .int .i64 x.a, .int .i64 x.b, .string ⟨x.s.toArray⟩, .string ⟨x.t.toArray⟩, .slice Gx nsx cx] ∧ Has V1 (w.heap.size + 1) [.int .i64 a.kind, .int .i64 a.a, .int .i64 a.b, .string ⟨a.s.toArray⟩, .string ⟨a.t.toArray⟩, .slice Ga nsa ca]) ∧ (Has V1 V0.heap.size [.int .i64 0, .slice none 0 0, .int .i64 0, .int .i64 0, .int .i64 0, .slice none 0 0, .slice none 0 0, .bool false, .int .i64 0, .slice none 0 0, .slice none 0 0, .slice none 0 0])) (fun V1 => Has V1 w.heap.size [.int .i64 x.kind, .int .i64 x.a, .int .i64 x.b, .string ⟨x.s.toArray⟩, .string ⟨x.t.toArray⟩, .slice Gx nsx cx] ∧ Has V1 (w.heap.size + 1) [.int .i64 a.kind, .int .i64 a.a, .int .i64 a.b, .string ⟨a.s.toArray⟩, .string ⟨a.t.toArray⟩, .slice Ga nsa ca]) ⟨ba hB _, hHeld, Has.alloc V0 _ _⟩ (fun V1 h => h.2.1) (fun _ h => h) (fun V1 hR hHeld => ?_)
      have hCW : W.heap.size ≤ V0.heap.size := hB.size
      clear hB
      obtain ⟨hB, -, hC⟩ := hR
      generalize V0.heap.size = C at hC hCW ⊢
      refine wpAnyH_ready (rs := [1]) (by kernel_rfl) (by simp) ?_
      refine AllReadyH.cons (by (simp only [List.getElem?_toArray, List.getElem?_cons_succ, List.getElem?_cons_zero]; rfl)) (fun K hK => ?_) ?_
      · go_simp
        go_at_call 14
        refine (HT.out _ _ _ _ _ HQX.out (bt HB.out hB)).mono ?_
        rintro e w4 ⟨vs3, rfl, hr3, hb4⟩
        obtain ⟨k3, m3, p3, G31, n31, c31, G32, n32, c32, o3, l3, G33, n33, c33, rfl⟩ := tst_form8 hr3
        try (go_wp2_with fail)
        refine hK.out _ _ ?_ (fun hHeld => ?_)
        · exact ⟨hHeld.1.down hb4, hHeld.2.down hb4⟩
        clear hK K
        try simp only [Act.put, List.setIfInBounds_toArray, List.set_cons_zero, List.set_cons_succ]
        refine heldTo (fun V2 => (Below W.heap.size W V2) ∧ (Has V2 w.heap.size [.int .i64 x.kind, .int .i64 x.a, .int .i64 x.b, .string ⟨x.s.toArray⟩, .string ⟨x.t.toArray⟩, .slice Gx nsx cx] ∧ Has V2 (w.heap.size + 1) [.int .i64 a.kind, .int .i64 a.a, .int .i64 a.b, .string ⟨a.s.toArray⟩, .string ⟨a.t.toArray⟩, .slice Ga nsa ca]) ∧ (ElsT V2 (some C) x [.int .i64 k3, .int .i64 m3, .int .i64 p3, .slice G31 n31 c31, .slice G32 n32 c32, .bool o3, .int .i64 l3, .slice G33 n33 c33]) ∧ (Has V2 C [.int .i64 0, .slice none 0 0, .int .i64 0, .int .i64 0, .int .i64 0, .slice none 0 0, .slice none 0 0, .bool false, .int .i64 0, .slice none 0 0, .slice none 0 0, .slice none 0 0])) (fun V2 => Has V2 w.heap.size [.int .i64 x.kind, .int .i64 x.a, .int .i64 x.b, .string ⟨x.s.toArray⟩, .string ⟨x.t.toArray⟩, .slice Gx nsx cx] ∧ Has V2 (w.heap.size + 1) [.int .i64 a.kind, .int .i64 a.a, .int .i64 a.b, .string ⟨a.s.toArray⟩, .string ⟨a.t.toArray⟩, .slice Ga nsa ca]) ⟨bt hB hb4, hHeld, ElsT.ofPost hr3 hb4 (fun C' e => by obtain rfl := Option.some.inj e; exact hC.2.2), hC.down hb4⟩ (fun V2 h => h.2.1) (fun _ h => h) (fun V2 hR hHeld => ?_)
        clear hr3 hb4
        clear hB hC
        obtain ⟨hB, -, h3, hC⟩ := hR
        refine wpAnyH_ready (rs := [3]) (by kernel_rfl) (by simp) ?_
        refine AllReadyH.cons (by (simp only [List.getElem?_toArray, List.getElem?_cons_succ, List.getElem?_cons_zero]; rfl)) (fun K hK => ?_) ?_
        · go_simp
          go_at_call 14
          refine (HT.out _ _ _ _ _ HQA.out (bt HB.out hB)).mono ?_
          rintro e w4 ⟨vs4, rfl, hr4, hb4⟩
          obtain ⟨k4, m4, p4, G41, n41, c41, G42, n42, c42, o4, l4, G43, n43, c43, rfl⟩ := tst_form8 hr4
          try (go_wp2_with fail)
          refine hK.out _ _ ?_ (fun hHeld => ?_)
          · exact ⟨hHeld.1.down hb4, hHeld.2.down hb4⟩
          clear hK K
          try simp only [Act.put, List.setIfInBounds_toArray, List.set_cons_zero, List.set_cons_succ]
          refine heldTo (fun V3 => (Below W.heap.size W V3) ∧ (Has V3 w.heap.size [.int .i64 x.kind, .int .i64 x.a, .int .i64 x.b, .string ⟨x.s.toArray⟩, .string ⟨x.t.toArray⟩, .slice Gx nsx cx] ∧ Has V3 (w.heap.size + 1) [.int .i64 a.kind, .int .i64 a.a, .int .i64 a.b, .string ⟨a.s.toArray⟩, .string ⟨a.t.toArray⟩, .slice Ga nsa ca]) ∧ (ElsT V3 (some C) x [.int .i64 k3, .int .i64 m3, .int .i64 p3, .slice G31 n31 c31, .slice G32 n32 c32, .bool o3, .int .i64 l3, .slice G33 n33 c33]) ∧ (ElsT V3 (some C) a [.int .i64 k4, .int .i64 m4, .int .i64 p4, .slice G41 n41 c41, .slice G42 n42 c42, .bool o4, .int .i64 l4, .slice G43 n43 c43]) ∧ (Has V3 C [.int .i64 0, .slice none 0 0, .int .i64 0, .int .i64 0, .int .i64 0, .slice none 0 0, .slice none 0 0, .bool false, .int .i64 0, .slice none 0 0, .slice none 0 0, .slice none 0 0])) (fun V3 => Has V3 w.heap.size [.int .i64 x.kind, .int .i64 x.a, .int .i64 x.b, .string ⟨x.s.toArray⟩, .string ⟨x.t.toArray⟩, .slice Gx nsx cx] ∧ Has V3 (w.heap.size + 1) [.int .i64 a.kind, .int .i64 a.a, .int .i64 a.b, .string ⟨a.s.toArray⟩, .string ⟨a.t.toArray⟩, .slice Ga nsa ca]) ⟨bt hB hb4, hHeld, h3.down hb4, ElsT.ofPost hr4 hb4 (fun C' e => by obtain rfl := Option.some.inj e; exact hC.2.2), hC.down hb4⟩ (fun V3 h => h.2.1) (fun _ h => h) (fun V3 hR hHeld => ?_)
          clear hr4 hb4
          clear hB h3 hC
          obtain ⟨hB, -, h3, h4, hC⟩ := hR
          refine wpAnyH_take (i := 4) (v := ?_) (by (simp only [List.getElem?_toArray, List.getElem?_cons_succ, List.getElem?_cons_zero]; rfl)) (by kernel_rfl) (by kernel_rfl) (by kernel_rfl) (fun _ _ _ h => h) (Or.inl ⟨by rfl, ?_⟩) (by assumption) ?_
          rotate_left 1
          · intro w' hSw; (go_simp) <;> with_reducible rfl
          try simp only [Act.put, List.setIfInBounds_toArray, List.set_cons_zero, List.set_cons_succ]
          refine wpAnyH_ready (rs := [5]) (by kernel_rfl) (by simp) ?_
          refine AllReadyH.cons (by (simp only [List.getElem?_toArray, List.getElem?_cons_succ, List.getElem?_cons_zero]; rfl)) (fun K hK => ?_) ?_
          · go_simp
            refine hK.out _ _ ?_ (fun hHeld => ?_)
            · exact ⟨hHeld.1.down (ba (Below.refl _ _) _), hHeld.2.down (ba (Below.refl _ _) _)⟩
            clear hK K
            try simp only [Act.put, List.setIfInBounds_toArray, List.set_cons_zero, List.set_cons_succ]
            refine heldTo (fun V4 => (Below W.heap.size W V4) ∧ (Has V4 w.heap.size [.int .i64 x.kind, .int .i64 x.a, .int .i64 x.b, .string ⟨x.s.toArray⟩, .string ⟨x.t.toArray⟩, .slice Gx nsx cx] ∧ Has V4 (w.heap.size + 1) [.int .i64 a.kind, .int .i64 a.a, .int .i64 a.b, .string ⟨a.s.toArray⟩, .string ⟨a.t.toArray⟩, .slice Ga nsa ca]) ∧ (ElsT V4 (some C) x [.int .i64 k3, .int .i64 m3, .int .i64 p3, .slice G31 n31 c31, .slice G32 n32 c32, .bool o3, .int .i64 l3, .slice G33 n33 c33]) ∧ (ElsT V4 (some C) a [.int .i64 k4, .int .i64 m4, .int .i64 p4, .slice G41 n41 c41, .slice G42 n42 c42, .bool o4, .int .i64 l4, .slice G43 n43 c43]) ∧ (Has V4 V3.heap.size [.int .i64 2, .slice none 0 0, .int .i64 k4, .int .i64 m4, .int .i64 p4, .slice G41 n41 c41, .slice G42 n42 c42, .bool o4, .int .i64 l4, .slice G43 n43 c43, .slice none 0 0, .slice none 0 0]) ∧ (Has V4 C [.int .i64 0, .slice none 0 0, .int .i64 0, .int .i64 0, .int .i64 0, .slice none 0 0, .slice none 0 0, .bool false, .int .i64 0, .slice none 0 0, .slice none 0 0, .slice none 0 0])) (fun V4 => Has V4 w.heap.size [.int .i64 x.kind, .int .i64 x.a, .int .i64 x.b, .string ⟨x.s.toArray⟩, .string ⟨x.t.toArray⟩, .slice Gx nsx cx] ∧ Has V4 (w.heap.size + 1) [.int .i64 a.kind, .int .i64 a.a, .int .i64 a.b, .string ⟨a.s.toArray⟩, .string ⟨a.t.toArray⟩, .slice Ga nsa ca]) ⟨ba hB _, hHeld, h3.down (ba (Below.refl _ _) _), h4.down (ba (Below.refl _ _) _), Has.alloc V3 _ _, hC.down (ba (Below.refl _ _) _)⟩ (fun V4 h => h.2.1) (fun _ h => h) (fun V4 hR hHeld => ?_)
            have hCE : V3.heap.size ≠ C := by have := hC.2.2; omega
            clear hB h3 h4 hC
            obtain ⟨hB, -, h3, h4, hE, hC⟩ := hR
            generalize V3.heap.size = E at hE hCE ⊢
            refine wpAnyH_take (i := 6) (v := ?_) (by (simp only [List.getElem?_toArray, List.getElem?_cons_succ, List.getElem?_cons_zero]; rfl)) (by kernel_rfl) (by kernel_rfl) (by kernel_rfl) (fun _ _ _ h => h) (Or.inl ⟨by rfl, ?_⟩) (by assumption) ?_
            rotate_left 1
            · intro w' hSw; (go_simp) <;> with_reducible rfl
            try simp only [Act.put, List.setIfInBounds_toArray, List.set_cons_zero, List.set_cons_succ]
            refine wpAnyH_ready (rs := [8]) (by kernel_rfl) (by simp) ?_
            refine AllReadyH.cons (by (simp only [List.getElem?_toArray, List.getElem?_cons_succ, List.getElem?_cons_zero]; rfl)) (fun K hK => ?_) ?_
            · obtain ⟨e0, e1, e2, e3, e4, e5, e6, e7, e8, e9, e10, e11⟩ := has_12 hC
              obtain ⟨f0, f1, f2, f3, f4, f5, f6, f7, f8, f9, f10, f11⟩ := has_free hC
              go_simp
              refine hK.out _ _ ?_ (fun hHeld => ?_)
              · exact ⟨else12 hHeld.1 (by omega) _ _ _ _ _ _ _ _ _ _ _ _, else12 hHeld.2 (by omega) _ _ _ _ _ _ _ _ _ _ _ _⟩
              clear hK K
              try simp only [Act.put, List.setIfInBounds_toArray, List.set_cons_zero, List.set_cons_succ]
              refine wpAnyH_done (by kernel_rfl) ?_ _
              refine NoPanic.normal ?_
              go_wp2_with fail
              go_meet
              case rel => exact els_at (wrote12 hC _ _ _ _ _ _ _ _ _ _ _ _) h3 h4 hE hCE hCW hB
            exact AllReadyH.nil
          exact AllReadyH.nil
        exact AllReadyH.nil
      exact AllReadyH.nil
    exact AllReadyH.nil
  case rest =>
    obtain ⟨C, vs, rfl, hC, hrep, hCW, hb⟩ := hcut
    obtain ⟨m, Gx', cx', Gn, cn, Gk, ck, Gt, ct, Gh, ch, Ge, ce, hm, rfl, -, htr, -, hel⟩ := cmd_open hrep
    obtain rfl : m = 5 := by omega
    obtain ⟨t, htt⟩ : ∃ t, t = testS 0 x := ⟨_, rfl⟩
    have hel' : SAt (cCmd 5) wc (fun b => b < wc.heap.size) (.slice Ge 1 ce) [elsI a] := hel
    have hC' : Has wc C [.int .i64 2, .slice Gx' 0 cx', .int .i64 t.kind, .int .i64 t.mat, .int .i64 t.part, .slice Gn t.names.length cn, .slice Gk t.keys.length ck, .bool t.over, .int .i64 t.limit, .slice Gt t.tests.length ct, .slice Gh 0 ch, .slice Ge 1 ce] := by rw [htt]; exact hC
    have hrep' : (cCmd 6).rep wc (fun b => b < wc.heap.size) (elsC x a) [.int .i64 2, .slice Gx' 0 cx', .int .i64 t.kind, .int .i64 t.mat, .int .i64 t.part, .slice Gn t.names.length cn, .slice Gk t.keys.length ck, .bool t.over, .int .i64 t.limit, .slice Gt t.tests.length ct, .slice Gh 0 ch, .slice Ge 1 ce] := by rw [htt]; exact hrep
    have htr' : (cTst 6).rep wc (fun b => b < wc.heap.size) (testS 0 x) [.int .i64 t.kind, .int .i64 t.mat, .int .i64 t.part, .slice Gn t.names.length cn, .slice Gk t.keys.length ck, .bool t.over, .int .i64 t.limit, .slice Gt t.tests.length ct] := by rw [htt]; exact htr
    obtain ⟨ge, oe, us, rfl, -, hge, hur, huc⟩ := hel'.get 0 (by simp)
    obtain ⟨k9, G0, n0, d0, k1, m1, p1, G1, n1, d1, G2, n2, d2, o1, l9, G3, n3, d3, G4, n4, d4, G5, n5, d5, rfl⟩ := cmd_form12 hur
    obtain ⟨c0, c1, c2, c3, c4, c5, c6, c7, c8, c9, c10, c11⟩ := has_12 hC'
    have hal := ba (Below.refl wc.heap.size wc) (.cells #[.int .i64 2, .slice Gx' 0 cx', .int .i64 t.kind, .int .i64 t.mat, .int .i64 t.part, .slice Gn t.names.length cn, .slice Gk t.keys.length ck, .bool t.over, .int .i64 t.limit, .slice Gt t.tests.length ct, .slice Gh 0 ch, .slice (some ⟨ge, oe, none⟩) 1 ce] 29)
    have hwc : Below w.heap.size w wc := bt HB.out hb
    have HT0 : Hid (∀ w', Below w.heap.size w w' → Tabs w' w'.heap.size) := fun w' hb' => (htab.down (Nat.le_refl _) hb').up hb'.size
    have hN := Has.alloc wc [.int .i64 2, .slice Gx' 0 cx', .int .i64 t.kind, .int .i64 t.mat, .int .i64 t.part, .slice Gn t.names.length cn, .slice Gk t.keys.length ck, .bool t.over, .int .i64 t.limit, .slice Gt t.tests.length ct, .slice Gh 0 ch, .slice (some ⟨ge, oe, none⟩) 1 ce] 29
    have hsh := show_ok 6 [elsC x a] _ (fun b => b < wc.heap.size + 1) _ (sat_lone ((cCmd 6).mono ((cCmd 6).stable hrep' (Same.of_below hal) hal.size) (fun b hb => by omega)) hN (by omega)) (fun c hc => by rw [List.mem_singleton] at hc; rw [hc]; exact elsC_form x a) (fun b hb => by rw [World.size_alloc]; exact hb) (HT0.out _ (bt hwc hal)) (by have := (els_small x a).1; omega) (elsC_check x a)
    obtain ⟨q1, q2⟩ := elsC_cnt x a
    have hlen := (els_small x a).1
    have HL0 := Lib.hid (rfl : [elsC x a].flatMap wC = [elsC x a].flatMap wC)
    obtain ⟨l1, hl1⟩ : ∃ l1, l1 = [elsC x a].flatMap wC := ⟨_, rfl⟩
    rw [← hl1] at hsh q1 q2 hlen
    have HQ1 := Lib.hid q1; have HQ2 := Lib.hid q2; have HSH := Lib.hid hsh
    have HWC := Lib.hid hwc; have HC := Lib.hid hC'; have HEL := Lib.hid hur; have HEC := Lib.hid huc; have HTR := Lib.hid htr'; have HAL := Lib.hid hal
    have HP2 := Lib.hid (elsD_form x a); have HK2 := Lib.hid (elsD_check x a); have HN2 := Lib.hid (elsD_cnt x a); have HM2 := Lib.hid (els_small x a).2
    clear htab hwc hC' hrep' hel' htr htr' hrep hC hel hur huc hN hal hsh q1 q2 hb hl1 HT HQX HQA HP htt
    go_wp2_with fail
    refine HSH.out.mono ?_
    intro e w1 h1
    obtain ⟨⟨Gr, cr, rfl, hs1⟩, hb1⟩ := h1
    have HS1 := Lib.hid hs1
    have hwc1 := bt HAL.out hb1
    have HB1 := Lib.hid hwc1
    clear hs1 hb1 HSH c0 c1 c2 c3 c4 c5 c6 c7 c8 c9 c10 c11 HAL
    go_wp2_with fail
    go_loop [8, 9] (fun o i => ∃ j : Nat, j ≤ l1.length ∧ i = .int .i64 j ∧ o = .int .i64 (cnt elsifW (l1.take j) : Nat)) (fun _ i => l1.length - (intOf i).toNat)
    case atStart => exact ⟨0, Nat.zero_le _, rfl, rfl⟩
    case round =>
      obtain ⟨j, hj, rfl, rfl⟩ := hrel
      have hcl := cnt_le elsifW l1 j
      by_cases hlt : j < l1.length
      · obtain ⟨g, off, rfl, t0, t1⟩ := tok_get HS1.out (Below.refl _ _) j hlt
        have hst := cnt_take elsifW l1 j hlt
        have hno := cnt_none HQ2.out j hlt
        have hways := tok_ways elsifW l1[j]
        generalize l1[j] = tk at t0 t1 hst hno hways
        obtain ⟨tkk, tks, tkn⟩ := tk
        simp only at t0 t1 hways
        obtain ⟨o, ho⟩ : ∃ o, o = cnt elsifW (l1.take j) := ⟨_, rfl⟩
        rw [← ho] at hst hcl
        rw [← ho]
        have HST := Lib.hid hst
        clear ho hst
        rcases hways with ⟨y1, rfl, rfl⟩ | ⟨y1, y2⟩ | ⟨y1, rfl, y3⟩
        · rw [y1, if_pos rfl] at HST
          clear hno y1
          go_wp2_with fail
          go_round
          case rel => exact ⟨j + 1, hlt, by go_num, by rw [HST.out]; go_num⟩
          case measure => simp [intOf]; omega
        · rw [y1] at HST
          have e1 : (tkk == (1 : Int)) = false := by simpa using y2
          clear hno y1 y2
          go_wp2_with fail
          go_round
          case rel => exact ⟨j + 1, hlt, by go_num, by rw [HST.out]; rfl⟩
          case measure => simp [intOf]; omega
        · rw [y1] at HST
          have e2 := not_wd hno rfl
          unfold elsifW at y3
          unfold elseW at e2
          clear hno y1
          go_wp2_with fail
          go_round
          case rel => exact ⟨j + 1, hlt, by go_num, by rw [HST.out]; rfl⟩
          case measure => simp [intOf]; omega
      · obtain rfl : j = l1.length := by omega
        rw [List.take_length, HQ1.out]
        obtain ⟨c0, c1, c2, c3, c4, c5, c6, c7, c8, c9, c10, c11⟩ := has_12 (HC.out.down HB1.out)
        have hCz : C < w1.heap.size := Nat.lt_of_lt_of_le HC.out.2.2 HB1.out.size
        have hz1 : wc.heap.size ≤ w1.heap.size := HB1.out.size
        -- d, and the row of one command
        have hD2 := Has.alloc w1 [.int .i64 2, .slice Gx' 0 cx', .int .i64 t.kind, .int .i64 t.mat, .int .i64 t.part, .slice Gn t.names.length cn, .slice Gk t.keys.length ck, .bool t.over, .int .i64 t.limit, .slice Gt t.tests.length ct, .slice Gh 0 ch, .slice (some ⟨ge, oe, none⟩) 1 ce] 29
        have hal2 := ba (Below.refl w1.heap.size w1) (.cells #[.int .i64 2, .slice Gx' 0 cx', .int .i64 t.kind, .int .i64 t.mat, .int .i64 t.part, .slice Gn t.names.length cn, .slice Gk t.keys.length ck, .bool t.over, .int .i64 t.limit, .slice Gt t.tests.length ct, .slice Gh 0 ch, .slice (some ⟨ge, oe, none⟩) 1 ce] 29)
        have hal3 := ba hal2 (.cells #[.int .i64 3, .slice none 0 0, .int .i64 0, .int .i64 0, .int .i64 0, .slice none 0 0, .slice none 0 0, .bool false, .int .i64 0, .slice none 0 0, .slice none 0 0, .slice none 0 0] 29)
        have hD3 := hD2.down (ba (Below.refl _ _) (.cells #[.int .i64 3, .slice none 0 0, .int .i64 0, .int .i64 0, .int .i64 0, .slice none 0 0, .slice none 0 0, .bool false, .int .i64 0, .slice none 0 0, .slice none 0 0, .slice none 0 0] 29))
        have hown3 := World.ownsRow_lit (base := w1.heap.size + 1) (e := 29) (size := 12) (w1.alloc (.cells #[.int .i64 2, .slice Gx' 0 cx', .int .i64 t.kind, .int .i64 t.mat, .int .i64 t.part, .slice Gn t.names.length cn, .slice Gk t.keys.length ck, .bool t.over, .int .i64 t.limit, .slice Gt t.tests.length ct, .slice Gh 0 ch, .slice (some ⟨ge, oe, none⟩) 1 ce] 29)) #[.int .i64 3, .slice none 0 0, .int .i64 0, .int .i64 0, .int .i64 0, .slice none 0 0, .slice none 0 0, .bool false, .int .i64 0, .slice none 0 0, .slice none 0 0, .slice none 0 0] 1 (by rw [World.size_alloc]; exact Nat.le_refl _) (by decide) rfl
        rw [World.size_alloc] at hown3
        have hnews : ∀ j u, ([.int .i64 k9, .slice G0 n0 d0, .int .i64 k1, .int .i64 m1, .int .i64 p1, .slice G1 n1 d1, .slice G2 n2 d2, .bool o1, .int .i64 l9, .slice G3 n3 d3, .slice G4 n4 d4, .slice G5 n5 d5] : List Value)[j]? = some u → ((w1.alloc (.cells #[.int .i64 2, .slice Gx' 0 cx', .int .i64 t.kind, .int .i64 t.mat, .int .i64 t.part, .slice Gn t.names.length cn, .slice Gk t.keys.length ck, .bool t.over, .int .i64 t.limit, .slice Gt t.tests.length ct, .slice Gh 0 ch, .slice (some ⟨ge, oe, none⟩) 1 ce] 29)).alloc (.cells #[.int .i64 3, .slice none 0 0, .int .i64 0, .int .i64 0, .int .i64 0, .slice none 0 0, .slice none 0 0, .bool false, .int .i64 0, .slice none 0 0, .slice none 0 0, .slice none 0 0] 29)).cell? (Addr.add ⟨ge, oe, none⟩ j) = some u := by
          intro j u hj
          have := HEC.out j u hj
          rw [Addr.add_lit]
          exact moved (by simpa using this) (bt HB1.out hal3) (Nat.le_refl _)
        have c11' := moved c11 hal3 (Nat.le_refl _)
        have HD3 := Lib.hid hD3; have HOWN3 := Lib.hid hown3; have HNEWS := Lib.hid hnews; have HA3 := Lib.hid (bt HB1.out hal3)
        obtain ⟨i0, hi, hzi0, hzi1, hzi2⟩ := info_three info_cmd
        have HI0 := Lib.hid hi; have HZ0 := Lib.hid hzi0; have HZ1 := Lib.hid hzi1; have HZ2 := Lib.hid hzi2
        clear hD2 hal2 hal3 hD3 hown3 hnews hi hzi0 hzi1 hzi2
        go_wp2_with (at_builtin; refine wpList_append_lies _ (by rfl) _ _ _ (by rfl) (w1.heap.size + 1) 29 i0 _ 12 192 Tryd.underlying27 HI0.out HZ0.out HZ1.out HZ2.out rfl (by omega) (.slice (some ⟨w1.heap.size + 1, 0, none⟩) 1 1) 1 [.int .i64 3, .slice none 0 0, .int .i64 0, .int .i64 0, .int .i64 0, .slice none 0 0, .slice none 0 0, .bool false, .int .i64 0, .slice none 0 0, .slice none 0 0, .slice none 0 0] (by rfl) HOWN3.out ⟨ge, oe, none⟩ 1 ce [.int .i64 k9, .slice G0 n0 d0, .int .i64 k1, .int .i64 m1, .int .i64 p1, .slice G1 n1 d1, .slice G2 n2 d2, .bool o1, .int .i64 l9, .slice G3 n3 d3, .slice G4 n4 d4, .slice G5 n5 d5] (by rfl) (by rfl) HNEWS.out (by simp [Value.oneCell']) (by omega) (by unfold maxLen; omega) (by omega) (by simp) (w1.heap.size + 2) (by simp) ?_)
        intro g5 cap5 w5 hown5 hgrow5 hat5 hlt5
        have hgl : w1.heap.size + 1 ≤ g5 := by
          rcases hat5 with h | h
          · have h' : w1.heap.size + 1 = g5 := Option.some.inj h
            omega
          · omega
        have hD5 := has_far HD3.out hgrow5 (fun e => by have e' : w1.heap.size = w1.heap.size + 1 := Option.some.inj e; omega)
        have hb5 : Below wc.heap.size wc w5 := below_far HA3.out hgrow5 (fun b e => by have e' : w1.heap.size + 1 = b := Option.some.inj e; omega) HA3.out.size
        obtain ⟨e0, e1, e2, e3, e4, e5, e6, e7, e8, e9, e10, e11⟩ := has_12 hD5
        have ef := hD5.2.1 11 (by simp)
        have hb6 := hb5.setCell (p := ⟨w1.heap.size, 11, none⟩) (show wc.heap.size ≤ w1.heap.size from hz1) (.slice (some ⟨g5, 0, none⟩) 2 cap5)
        have hD6 := hD5.set' (i := 11) (.slice (some ⟨g5, 0, none⟩) 2 cap5) (by simp)
        have hown6 := row_off hown5 (b := w1.heap.size) (fun e => by have e' : g5 = w1.heap.size := Option.some.inj e; omega) 11 (.slice (some ⟨g5, 0, none⟩) 2 cap5)
        have HB6 := Lib.hid hb6; have HD6 := Lib.hid hD6; have HOWN6 := Lib.hid hown6
        clear hown5 hgrow5 hat5 hlt5 hD5 hb5 hb6 hD6 hown6 c0 c1 c2 c3 c4 c5 c6 c7 c8 c9 c10 c11 c11'
        go_upto_region 13 with fail
        refine wp_at (R := fun W => Has W w1.heap.size [.int .i64 2, .slice Gx' 0 cx', .int .i64 t.kind, .int .i64 t.mat, .int .i64 t.part, .slice Gn t.names.length cn, .slice Gk t.keys.length ck, .bool t.over, .int .i64 t.limit, .slice Gt t.tests.length ct, .slice Gh 0 ch, .slice (some ⟨g5, 0, none⟩) 2 cap5] ∧ Below wc.heap.size wc W ∧ World.ownsRow W (w1.heap.size + 1) 29 12 (.slice (some ⟨g5, 0, none⟩) 2 cap5) 2 ([.int .i64 3, .slice none 0 0, .int .i64 0, .int .i64 0, .int .i64 0, .slice none 0 0, .slice none 0 0, .bool false, .int .i64 0, .slice none 0 0, .slice none 0 0, .slice none 0 0] ++ [.int .i64 k9, .slice G0 n0 d0, .int .i64 k1, .int .i64 m1, .int .i64 p1, .slice G1 n1 d1, .slice G2 n2 d2, .bool o1, .int .i64 l9, .slice G3 n3 d3, .slice G4 n4 d4, .slice G5 n5 d5])) ⟨HD6.out, HB6.out, HOWN6.out⟩ (fun W6 hW6 => ?_)
        clear HB6 HD6 HOWN6 e0 e1 e2 e3 e4 e5 e6 e7 e8 e9 e10 e11 ef
        obtain ⟨hD6, hb6, hown6⟩ := hW6
        obtain ⟨e0, e1, e2, e3, e4, e5, e6, e7, e8, e9, e10, e11⟩ := has_12 hD6
        have hal7 := ba (Below.refl W6.heap.size W6) (.cells #[.int .i64 2, .slice Gx' 0 cx', .int .i64 t.kind, .int .i64 t.mat, .int .i64 t.part, .slice Gn t.names.length cn, .slice Gk t.keys.length ck, .bool t.over, .int .i64 t.limit, .slice Gt t.tests.length ct, .slice Gh 0 ch, .slice (some ⟨g5, 0, none⟩) 2 cap5] 29)
        have hN7 := Has.alloc W6 [.int .i64 2, .slice Gx' 0 cx', .int .i64 t.kind, .int .i64 t.mat, .int .i64 t.part, .slice Gn t.names.length cn, .slice Gk t.keys.length ck, .bool t.over, .int .i64 t.limit, .slice Gt t.tests.length ct, .slice Gh 0 ch, .slice (some ⟨g5, 0, none⟩) 2 cap5] 29
        have hb7 : Below wc.heap.size wc (W6.alloc (.cells #[.int .i64 2, .slice Gx' 0 cx', .int .i64 t.kind, .int .i64 t.mat, .int .i64 t.part, .slice Gn t.names.length cn, .slice Gk t.keys.length ck, .bool t.over, .int .i64 t.limit, .slice Gt t.tests.length ct, .slice Gh 0 ch, .slice (some ⟨g5, 0, none⟩) 2 cap5] 29)) := bt hb6 hal7
        have hown7 := row_down hown6 hal7
        have hels : SAt (cCmd 5) (W6.alloc (.cells #[.int .i64 2, .slice Gx' 0 cx', .int .i64 t.kind, .int .i64 t.mat, .int .i64 t.part, .slice Gn t.names.length cn, .slice Gk t.keys.length ck, .bool t.over, .int .i64 t.limit, .slice Gt t.tests.length ct, .slice Gh 0 ch, .slice (some ⟨g5, 0, none⟩) 2 cap5] 29)) (fun _ => True) (.slice (some ⟨g5, 0, none⟩) 2 cap5) [keepC, elsI a] :=
          ORow.sat (ps := [(keepC, [.int .i64 3, .slice none 0 0, .int .i64 0, .int .i64 0, .int .i64 0, .slice none 0 0, .slice none 0 0, .bool false, .int .i64 0, .slice none 0 0, .slice none 0 0, .slice none 0 0]), (elsI a, [.int .i64 k9, .slice G0 n0 d0, .int .i64 k1, .int .i64 m1, .int .i64 p1, .slice G1 n1 d1, .slice G2 n2 d2, .bool o1, .int .i64 l9, .slice G3 n3 d3, .slice G4 n4 d4, .slice G5 n5 d5])]) (base := w1.heap.size + 1) (S := fun b => b < wc.heap.size) (e := 29) ⟨hown7, fun p hp => by
            rcases List.mem_cons.1 hp with rfl | hp
            · exact keep_rep _ _
            · rw [List.mem_singleton] at hp
              subst hp
              exact (cCmd 5).stable HEL.out (Same.of_below hb7) hb7.size, fun b hb hh => by
            have e' : g5 = b := Option.some.inj hb
            omega⟩ (fun _ _ => trivial) (fun _ _ => trivial)
        have hrep7 : (cCmd 6).rep (W6.alloc (.cells #[.int .i64 2, .slice Gx' 0 cx', .int .i64 t.kind, .int .i64 t.mat, .int .i64 t.part, .slice Gn t.names.length cn, .slice Gk t.keys.length ck, .bool t.over, .int .i64 t.limit, .slice Gt t.tests.length ct, .slice Gh 0 ch, .slice (some ⟨g5, 0, none⟩) 2 cap5] 29)) (fun b => b < (W6.alloc (.cells #[.int .i64 2, .slice Gx' 0 cx', .int .i64 t.kind, .int .i64 t.mat, .int .i64 t.part, .slice Gn t.names.length cn, .slice Gk t.keys.length ck, .bool t.over, .int .i64 t.limit, .slice Gt t.tests.length ct, .slice Gh 0 ch, .slice (some ⟨g5, 0, none⟩) 2 cap5] 29)).heap.size) (elsD x a) [.int .i64 2, .slice Gx' 0 cx', .int .i64 t.kind, .int .i64 t.mat, .int .i64 t.part, .slice Gn t.names.length cn, .slice Gk t.keys.length ck, .bool t.over, .int .i64 t.limit, .slice Gt t.tests.length ct, .slice Gh 0 ch, .slice (some ⟨g5, 0, none⟩) 2 cap5] :=
          (cCmd 6).mono (cmd_bd 6 (F := fun _ => True) ⟨_, [.int .i64 t.kind, .int .i64 t.mat, .int .i64 t.part, .slice Gn t.names.length cn, .slice Gk t.keys.length ck, .bool t.over, .int .i64 t.limit, .slice Gt t.tests.length ct], _, _, rfl, sat_none _ _ _ _ _, (cTst 6).mono ((cTst 6).stable HTR.out (Same.of_below hb7) hb7.size) (fun _ _ => trivial), sat_none _ _ _ _ _, hels⟩) (fun b hb => hb.2)
        have hsh := show_ok 6 [elsD x a] _ (fun b => b < (W6.alloc (.cells #[.int .i64 2, .slice Gx' 0 cx', .int .i64 t.kind, .int .i64 t.mat, .int .i64 t.part, .slice Gn t.names.length cn, .slice Gk t.keys.length ck, .bool t.over, .int .i64 t.limit, .slice Gt t.tests.length ct, .slice Gh 0 ch, .slice (some ⟨g5, 0, none⟩) 2 cap5] 29)).heap.size) _ (sat_lone hrep7 hN7 hN7.2.2) (fun c hc => by rw [List.mem_singleton] at hc; rw [hc]; exact HP2.out) (fun b hb => hb) (HT0.out _ (bt HWC.out hb7)) (by have := HM2.out; omega) HK2.out
        obtain ⟨l2, hl2⟩ : ∃ l2, l2 = [elsD x a].flatMap wC := ⟨_, rfl⟩
        rw [← hl2] at hsh HN2 HM2
        have hm2 := HM2.out
        have HSH := Lib.hid hsh; have HB7 := Lib.hid (bt HWC.out hb7)
        clear hD6 hb6 hown6 hal7 hN7 hb7 hown7 hels hrep7 hsh hl2
        go_wp2_with fail
        refine HSH.out.mono ?_
        intro e w8 h8
        obtain ⟨⟨Gq, cq, rfl, hs8⟩, hb8⟩ := h8
        have HS8 := Lib.hid hs8; have HB8 := Lib.hid (bt HB7.out hb8)
        clear hs8 hb8 HSH e0 e1 e2 e3 e4 e5 e6 e7 e8 e9 e10 e11
        go_wp2_with fail
        go_loop [13, 14] (fun o i => ∃ j : Nat, j ≤ l2.length ∧ i = .int .i64 j ∧ o = .int .i64 (cnt elseW (l2.take j) : Nat)) (fun _ i => l2.length - (intOf i).toNat)
        case atStart => exact ⟨0, Nat.zero_le _, rfl, rfl⟩
        case round =>
          obtain ⟨j, hj, rfl, rfl⟩ := hrel
          have hcl := cnt_le elseW l2 j
          by_cases hlt : j < l2.length
          · obtain ⟨g, off, rfl, t0, t1⟩ := tok_get HS8.out (Below.refl _ _) j hlt
            have hst := cnt_take elseW l2 j hlt
            have hways := tok_ways elseW l2[j]
            generalize l2[j] = tk at t0 t1 hst hways
            obtain ⟨tkk, tks, tkn⟩ := tk
            simp only at t0 t1 hways
            obtain ⟨o, ho⟩ : ∃ o, o = cnt elseW (l2.take j) := ⟨_, rfl⟩
            rw [← ho] at hst hcl
            rw [← ho]
            have HST := Lib.hid hst
            clear ho hst
            rcases hways with ⟨y1, rfl, rfl⟩ | ⟨y1, y2⟩ | ⟨y1, rfl, y3⟩
            · rw [y1, if_pos rfl] at HST
              clear y1
              go_wp2_with fail
              go_round
              case rel => exact ⟨j + 1, hlt, by go_num, by rw [HST.out]; go_num⟩
              case measure => simp [intOf]; omega
            · rw [y1] at HST
              have e1 : (tkk == (1 : Int)) = false := by simpa using y2
              clear y1 y2
              go_wp2_with fail
              go_round
              case rel => exact ⟨j + 1, hlt, by go_num, by rw [HST.out]; rfl⟩
              case measure => simp [intOf]; omega
            · rw [y1] at HST
              unfold elseW at y3
              clear y1
              go_wp2_with fail
              go_round
              case rel => exact ⟨j + 1, hlt, by go_num, by rw [HST.out]; rfl⟩
              case measure => simp [intOf]; omega
          · obtain rfl : j = l2.length := by omega
            rw [List.take_length, HN2.out]
            go_wp2_with fail
            go_ret
            exact ⟨rfl, HB8.out⟩
theorem scriptElse_walk (us0 : List Value) (n0 : Nat) (z0 : Stk) (us1 : List Value) (n1 : Nat) (z1 : Stk) (W : World) (h0 : (cStk n0).rep W (fun _ => True) z0 us0) (h1 : (cStk n1).rep W (fun _ => True) z1 us1) (htab : Tabs W W.heap.size) :
    Calls Tryd.prog 4 #[.agg us0.toArray, .agg us1.toArray] W fun e w' => e = .returned (.bool true) ∧ Below W.heap.size W w' := by
  obtain ⟨_, _, _, -, rfl, -⟩ := stk_open h0
  obtain ⟨_, _, _, -, rfl, -⟩ := stk_open h1
  exact scriptElse_any z0 z1 n0 n1 _ _ _ _ W h0 h1 htab
end Go.Proofs.YtobdokabelilmaaDoor.Sc
