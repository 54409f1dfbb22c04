/-
  DERIVED. Of: JdJask.
-/
import Derived.Test.YtpfbkdbblpppdaaGreatDoorDJdA
import Derived.Test.YtpfbkdbblpppdaaGreatDoorKJdTest
import Derived.Test.YtpfbkdbblpppdaaGreatDoorProg
import Derived.Test.YtpfbkdbblpppdaaGreatDoorShelf
import Derived.Shelf.Strings.SlTrimAscii
import Derived.Deep.AppendLies
import Derived.Deep.RegionLaw
import Derived.Deep.DeepCutAuto
import Derived.Deep.CutBlock
import Derived.BigQuiet
import Derived.BigRegion
import Derived.Handy
import Derived.Lib.IndexLaws
import Derived.Lib.SplitLaws
import Derived.WalkKit
import Derived.WalkLawsBesides
import Derived.WalkSpells
import Derived.Outline
import Derived.LoopTactic
import Derived.Lib.Hide
import Derived.Maps.AppendAt
import Derived.Lib.ConvBytes
import Derived.Lib.IndexMore
import Derived.Lib.SlTrimSet
import Derived.Lib.IndexBytes
import Derived.Lib.BufferOwn
set_option linter.unusedVariables false
set_option linter.unusedSimpArgs false
namespace Go.Proofs.YtpfbkdbblpppdaaGreatDoor.Jd
open Go.RowKit
open Sc (Str Tst Cmd cStr strC tstC cTst cCmd cmdC T0 envW RW ruleS RulePost)

abbrev nilS : Value := .slice none 0 0
theorem T0_rep (n : Nat) (w : World) (F : Dom) : (cTst (n + 1)).rep w F T0 (tstC T0 nilS nilS nilS) := ⟨_, _, _, rfl, SAt.nil _ _ _, SAt.nil _ _ _, SAt.nil _ _ _⟩
theorem envS_at (w : World) (N c : Nat) (hN : w.cell? ⟨N, 0, none⟩ = some (.string ⟨envW.toArray⟩)) (F : Dom) (hF : F N) (hc : 1 ≤ c) : SAt cStr w F (.slice (some ⟨N, 0, none⟩) 1 c) [envW] := by
  refine ⟨_, c, rfl, hc, fun i x hi => ?_⟩
  match i, hi with
  | 0, hi =>
    obtain rfl : envW = x := Option.some.inj hi
    refine ⟨N, 0, rfl, hF, World.block_lt_of_cell? _ _ hN, _, rfl, fun j u hj => ?_⟩
    match j, hj with
    | 0, hj => obtain rfl := Option.some.inj hj; exact hN
    | j + 1, hj => simp [strC] at hj
  | i + 1, hi => exact absurd hi (by simp)
/-- the script that Ask makes, in memory -/
def askCs (N c : Nat) (vs : List Value) : List Value := (.int .i64 1 :: .slice (some ⟨N, 0, none⟩) 1 c :: (tstC T0 nilS nilS nilS ++ [nilS, nilS])) ++ (.int .i64 2 :: nilS :: (vs ++ [nilS, nilS]))
theorem cmds_two (W : World) (n : Nat) (t : Tst) (vs : List Value) (N c : Nat) (hrep : (cTst n).rep W (fun b => b < W.heap.size) t vs) (hN : W.cell? ⟨N, 0, none⟩ = some (.string ⟨envW.toArray⟩)) (hc : 1 ≤ c) :
    SAt (cCmd n) (W.alloc (.cells (askCs N c vs).toArray 50)) (fun b => b < (W.alloc (.cells (askCs N c vs).toArray 50)).heap.size) (.slice (some ⟨W.heap.size, 0, none⟩) 2 2) [reqE, ifC t] := by
  have hh := Has.alloc W (askCs N c vs) 50
  have hb := ba (Below.refl W.heap.size W) (.cells (askCs N c vs).toArray 50)
  obtain ⟨W2, hW2⟩ : ∃ W2, W2 = W.alloc (.cells (askCs N c vs).toArray 50) := ⟨_, rfl⟩
  rw [← hW2] at hh hb ⊢
  have hl8 : vs.length = 8 := (cTst n).len hrep
  have hrep2 : (cTst n).rep W2 (fun b => b < W2.heap.size) t vs := (cTst n).mono ((cTst n).stable hrep (Same.of_below hb) hb.size) (fun b h => Nat.lt_of_lt_of_le h hb.size)
  have hN2 := moved hN hb (Nat.le_refl _)
  have hNl : N < W2.heap.size := World.block_lt_of_cell? _ _ hN2
  cases n with
  | zero => exact hrep.elim
  | succ k =>
    refine ⟨_, 2, rfl, Nat.le_refl _, fun i x hi => ?_⟩
    match i, hi with
    | 0, hi =>
      obtain rfl : reqE = x := Option.some.inj hi
      refine ⟨W.heap.size, 0, rfl, hh.2.2, hh.2.2, .int .i64 1 :: .slice (some ⟨N, 0, none⟩) 1 c :: (tstC T0 nilS nilS nilS ++ [nilS, nilS]), ⟨_, _, _, _, rfl, envS_at _ _ _ hN2 _ hNl hc, T0_rep k _ _, SAt.nil _ _ _, SAt.nil _ _ _⟩, fun j u hj => ?_⟩
      have hj12 : j < 12 := by have := (List.getElem?_eq_some_iff.1 hj).1; simpa [tstC] using this
      have := hh.1 j u (by unfold askCs; rw [List.getElem?_append_left (by simp [tstC]; omega)]; exact hj)
      simpa using this
    | 1, hi =>
      obtain rfl : ifC t = x := Option.some.inj hi
      refine ⟨W.heap.size, 0, rfl, hh.2.2, hh.2.2, .int .i64 2 :: nilS :: (vs ++ [nilS, nilS]), ⟨_, _, _, _, rfl, SAt.nil _ _ _, hrep2, SAt.nil _ _ _, SAt.nil _ _ _⟩, fun j u hj => ?_⟩
      have := hh.1 (12 + j) u (by unfold askCs; rw [List.getElem?_append_right (by simp [tstC])]; simpa [tstC] using hj)
      have e : (0 + 1 * (cCmd (k + 1)).size + j : Nat) = 12 + j := by show 0 + 1 * 12 + j = _; omega
      rw [e]
      exact this
    | i + 2, hi => exact absurd hi (by simp)
theorem ask_small (t : Tst) : ∀ c ∈ [reqE, ifC t], ∀ s ∈ c.texts, s.length ≤ 1000000 := by
  intro c hc s hs
  rcases List.mem_cons.1 hc with rfl | hc
  · obtain rfl := List.mem_singleton.1 hs; decide
  · obtain rfl := List.mem_singleton.1 hc; cases hs
def AskR (b : Bool) (w : World) (e : Ending) (w' : World) : Prop := e = .returned (.tuple #[.bool b, .int .i64 0]) ∧ Below w.heap.size w w'
set_option maxHeartbeats 4000000 in
set_option maxRecDepth 20000 in
theorem jask_any (n B : Nat) (t : Tst) (vs : List Value) (F : Dom) (x : Ltt) (fs : List Fld) (body : Str) (m : Int) (w : World) (hr : (cTst n).rep w F t vs) (hFl : ∀ b, F b → b < w.heap.size) (hf : Fine 1 B t) (hB : B ≤ 300) (hx : LetOK x fs body) (hW : RW w m) :
    Calls Tryz.prog 17 #[.agg vs.toArray, .agg (lttC x).toArray] w (AskR (tstJ x fs t) w) := by
  have HRC : Hid (∀ V N c, Below w.heap.size w V → V.cell? ⟨N, 0, none⟩ = some (.string ⟨envW.toArray⟩) → 1 ≤ c → Calls Tryz.prog 33 #[.slice (some ⟨V.heap.size, 0, none⟩) 2 2] (V.alloc (.cells (askCs N c vs).toArray 50)) fun e w' => e = .returned (.int .i64 0) ∧ Below (V.alloc (.cells (askCs N c vs).toArray 50)).heap.size (V.alloc (.cells (askCs N c vs).toArray 50)) w') := fun V N c hV hN hc => by
    have hrV : (cTst n).rep V (fun b => b < V.heap.size) t vs := (cTst n).mono ((cTst n).stable hr (Same.of_below hV) hV.size) (fun b h => Nat.lt_of_lt_of_le (hFl b h) hV.size)
    have h := Sc.rule_any n [reqE, ifC t] _ _ m _ (cmds_two V n t vs N c hrV hN hc) (fun c hc => by rcases List.mem_cons.1 hc with rfl | hc; (exact reqE_form); (obtain rfl := List.mem_singleton.1 hc; exact ifC_form hf.form)) (fun c hc => by rcases List.mem_cons.1 hc with rfl | hc; (exact reqE_good); (obtain rfl := List.mem_singleton.1 hc; exact ifC_good hf.len)) (ask_small t) (fun _ h => h) (hW.down (bt hV (ba (Below.refl _ V) _))) (by rw [ask_flat]; have := hf.few; omega)
    unfold RulePost at h
    rw [ask_rule hf hB] at h
    exact h
  have HCK : Hid (∀ V, Below w.heap.size w V → Calls Tryz.prog 43 #[.agg (lttC x).toArray] V (ChkP fs body V)) := fun V hV => jcheck_any x fs body m V hx (hW.down hV).max
  have HTE : Hid (∀ V v, Below w.heap.size w V → FldsAt V v fs → Calls Tryz.prog 44 #[.agg vs.toArray, .agg (lttC x).toArray, .agg #[v, .string ⟨body.toArray⟩]] V (AskP (tstJ x fs t) V)) := fun V v hV hv =>
    test_every n t vs F x v ⟨body.toArray⟩ fs m V ((cTst n).stable hr (Same.of_below hV) hV.size) hf.good ⟨hx.ltt, ⟨hv, hx.flds⟩, (hW.down hV).max⟩
  obtain ⟨_, Gn, cn, Gk, ck, Gt, ct, -, rfl, -⟩ := Sc.tst_open hr
  obtain ⟨b, hb⟩ : ∃ b, b = tstJ x fs t := ⟨_, rfl⟩
  rw [← hb] at HTE ⊢
  have hA1 := ba (Below.refl w.heap.size w) (.cells (tstC t (.slice Gn t.names.length cn) (.slice Gk t.keys.length ck) (.slice Gt t.tests.length ct)).toArray 40)
  have hA2 := ba (Below.refl (w.alloc (.cells (tstC t (.slice Gn t.names.length cn) (.slice Gk t.keys.length ck) (.slice Gt t.tests.length ct)).toArray 40)).heap.size (w.alloc (.cells (tstC t (.slice Gn t.names.length cn) (.slice Gk t.keys.length ck) (.slice Gt t.tests.length ct)).toArray 40))) (.cells (lttC x).toArray 33)
  have HT0 := Lib.hid ((Has.alloc w (tstC t (.slice Gn t.names.length cn) (.slice Gk t.keys.length ck) (.slice Gt t.tests.length ct)) 40).down hA2)
  have hL0 := Has.alloc (w.alloc (.cells (tstC t (.slice Gn t.names.length cn) (.slice Gk t.keys.length ck) (.slice Gt t.tests.length ct)).toArray 40)) (lttC x) 33
  rw [World.size_alloc] at hL0
  have HL0 := Lib.hid hL0
  have HA0 := Lib.hid (bt hA1 hA2)
  clear hb hr hFl hf hx hW hA1 hA2 hL0
  obtain ⟨k, mt, p, ns, ks, o, lim, ts⟩ := t
  simp only at HRC HCK HTE HT0 HL0 HA0 ⊢
  unfold tstC lttC at HTE HT0 HL0 HA0 ⊢
  unfold lttC at HCK
  simp only at HTE HT0 HL0 HA0 ⊢
  go_enter Tryz.func17, Tryz.ntmps17
  go_upto_region 1 with fail
  refine wp_here (R := fun W => Has W w.heap.size (tstC ⟨k, mt, p, ns, ks, o, lim, ts⟩ (.slice Gn ns.length cn) (.slice Gk ks.length ck) (.slice Gt ts.length ct)) ∧ Has W (w.heap.size + 1) (lttC x) ∧ Below w.heap.size w W) ⟨HT0.out, HL0.out, HA0.out⟩ (fun W hW => ?_)
  obtain ⟨hT, hL, hBW⟩ := hW
  clear HT0 HL0 HA0
  obtain ⟨T, hTe⟩ : ∃ T, T = w.heap.size := ⟨_, rfl⟩
  obtain ⟨L, hLe⟩ : ∃ L, L = w.heap.size + 1 := ⟨_, rfl⟩
  rw [← hTe] at hT
  rw [← hLe] at hL
  rw [← hLe, ← hTe]
  have HT := Lib.hid hT; have HL := Lib.hid hL; have HBW := Lib.hid hBW
  have hA := ba (Below.refl W.heap.size W) (.cells #[.string ⟨#[101, 110, 118, 101, 108, 111, 112, 101]⟩] 9)
  have hE : (W.alloc (.cells #[.string ⟨#[101, 110, 118, 101, 108, 111, 112, 101]⟩] 9)).cell? ⟨W.heap.size, 0, none⟩ = some (.string ⟨envW.toArray⟩) := alloc_cell W #[.string ⟨#[101, 110, 118, 101, 108, 111, 112, 101]⟩] 9 0 _ rfl
  have HRC1 := Lib.hid (HRC.out _ W.heap.size 1 (bt hBW hA) hE (Nat.le_refl _))
  have HB2 := Lib.hid (ba hA (.cells (askCs W.heap.size 1 (tstC ⟨k, mt, p, ns, ks, o, lim, ts⟩ (.slice Gn ns.length cn) (.slice Gk ks.length ck) (.slice Gt ts.length ct))).toArray 50))
  obtain ⟨t0, t1, t2, t3, t4, t5, t6, t7⟩ := tst_cells (hT.down hA)
  simp only at t0 t1 t2 t3 t4 t5 t6 t7
  unfold askCs tstC at HRC1 HB2
  simp only [T0, nilS, List.cons_append, List.nil_append, World.size_alloc] at HRC1 HB2
  clear HRC hT hL hBW hTe hLe hA hE
  go_wp2_with fail
  refine HRC1.out.mono ?_
  rintro e w1 ⟨rfl, hb1⟩
  have HB1 := Lib.hid (HB2.out.trans (hb1.mono (show W.heap.size ≤ W.heap.size + 1 + 1 by omega)))
  clear t0 t1 t2 t3 t4 t5 t6 t7 hb1 HRC1
  obtain ⟨l0, l1, l2, l3, l4⟩ := ltt_get (HL.out.down HB1.out)
  have HC := Lib.hid (HCK.out w1 (bt HBW.out HB1.out))
  go_wp2_with fail
  refine HC.out.mono ?_
  intro e w3 hp
  obtain ⟨v, rfl, hf3, hb3⟩ := hp
  obtain ⟨G, cap, rfl, -⟩ := id hf3
  have hA := ba (Below.refl w3.heap.size w3) (.cells #[.slice G fs.length cap, .string ⟨body.toArray⟩] 100)
  have hB4 := bt (bt HB1.out hb3) hA
  have HTC := Lib.hid (HTE.out _ (.slice G fs.length cap) (bt HBW.out hB4) (hf3.down hA))
  obtain ⟨c0, c1, -⟩ := (Has.alloc w3 [.slice G fs.length cap, .string ⟨body.toArray⟩] 100).two
  have HB4 := Lib.hid (bt HBW.out hB4)
  clear l0 l1 l2 l3 l4
  obtain ⟨t0, t1, t2, t3, t4, t5, t6, t7⟩ := tst_cells (HT.out.down hB4)
  simp only at t0 t1 t2 t3 t4 t5 t6 t7
  obtain ⟨l0, l1, l2, l3, l4⟩ := ltt_get (HL.out.down hB4)
  clear hf3 hb3 hA hB4 HC
  go_wp2_with fail
  refine HTC.out.mono ?_
  rintro e w5 ⟨rfl, hb5⟩
  have HB5 := Lib.hid (bt HB4.out hb5)
  clear hb5 HTC
  go_wp2_with fail
  go_ret2
  exact ⟨rfl, HB5.out⟩
end Go.Proofs.YtpfbkdbblpppdaaGreatDoor.Jd
