/-
  DERIVED. Of: DeliverNone.
-/
import Derived.Test.YtpfbkdbblpppdaaGreatDoorDDvScr
import Derived.Test.YtpfbkdbblpppdaaGreatDoorProg
import Derived.Test.YtpfbkdbblpppdaaGreatDoorShelf
import Derived.Test.YtpfbkdbblpppdaaGreatDoorRows
import Derived.Deep.DeepCutAuto
import Derived.Deep.RegionHeld3
import Derived.Deep.RegionLaw
import Derived.Deep.AppendLies
import Derived.Lib.IndexMore
import Derived.Deep.QuietTactic
import Derived.BigQuiet
import Derived.WalkKit
import Derived.WalkLawsBesides
import Derived.WalkSpells
import Derived.Outline
import Derived.LoopTactic
import Derived.Lib.Hide
import Derived.Deep.CutBlock
import Derived.Tactics
import Derived.Tactics2
import Derived.Defers
import Derived.Recover
import Derived.BigRegion
import Derived.StillTailTactics
import Derived.Lib.BufferOwn
import Derived.Lib.HexFns2
import Derived.Handy
import Derived.Lib.IndexLaws
import Derived.Lib.SplitLaws
import Derived.Maps.AppendAt
import Derived.Lib.ConvBytes
import Derived.Laws.EntriesVeiled
import Derived.Lib.Index
import Derived.Lib.AtoiAll
import Derived.Lib.ItoaNum
import Derived.Lib.SlTrimSet
import Derived.Lib.IndexBytes
import Derived.RangeFuncNested
import Derived.RangeFuncBound
import Derived.RangeFuncCalls
import Derived.RangeFuncLeaves
import Derived.RangeFuncBox
import Derived.Shelf.Abstract
import Derived.OwnWalkIn
import Derived.TacticsInMore
import Derived.LoopNIn
import Derived.LoopIn
import Derived.RegionIn
import Derived.BigRegionIn
import Derived.RegionTactic
import Derived.ChangeAlike
import Derived.OwnWalk
import Derived.Lib.Strings
import Derived.Lib.UnsafeStr
import Derived.Lib.Builder
import Derived.Lib.AppendStr
import Derived.Laws.Externs
import Derived.IntWalk
import Derived.Maps.Own
import Derived.Maps.OwnSet
import Derived.StringKeys
import Derived.Deep.Slices
import Derived.Deep.Fields
import Derived.ChangeSame
import Derived.SizedLaws
import Derived.Lib.SmallJoins
import Derived.OpenShut
import Derived.HandedShaped
import Derived.Handed
import Derived.Shelf.Vars
import Derived.Lay
import Derived.MakeChecks
import Derived.Lib.LaidU8
import Derived.ProofKit
import Derived.Shelf.Strings.SlTrimAscii
import Derived.Lib.SliceRun
import Derived.Laws.IdiomCopy
import Derived.Laws.StructEq
import Derived.Deep.Cut
set_option linter.unusedVariables false
set_option linter.unusedSimpArgs false
namespace Go.Proofs.YtpfbkdbblpppdaaGreatDoor.Dv
open Go.RowKit
open Sc (Str cStr strC RW cCmd Cmd reqC reqV strs)
open Jd (Ltt partL lttC keepA endJ cmdsJ C0 LetOK LetterP ltrX ltrX_ok letterX_any PostIn ltt_get)

theorem gB {α : Type} {l : List α} {i : Nat} {o : α} (h : l[i]? = some o) : l.toArray[i]? = some o := by rw [List.getElem?_toArray]; exact h
theorem tkH {P : Program} {md : Region.Mode} {ops : Array Oper} {Q : Exit → Act → World → Prop} {S : World → Prop} (i : Nat) {oi : Oper} {v : Value} {fuel : Nat} {listed : Array Bool} {a : Act} {w : World} (hi : ops[i]? = some oi)
 (hy : ∀ w, S w → (execOp a.eval oi).run P w = .ok (.value v) w) (h : wpAnyH P md ops Q S fuel (listed.setIfInBounds i true) (a.put oi.dst v) w)
 (hs : Region.noSelect ops = true := by kernel_rfl) (hf : Region.free md ops listed i = true := by kernel_rfl) (hr : (Region.ready md ops listed).contains i = true := by kernel_rfl) (hQ : ∀ c a w, Q (.panic c) (a.put oi.dst v) w → Q (.panic c) a w := by exact fun _ _ _ h => h)
 (hw : Region.wanted oi (yielded ops a.tmps) = true := by rfl) (hS : S w := by assumption) : wpAnyH P md ops Q S (fuel + 1) listed a w := wpAnyH_take hi hs hf hr hQ (Or.inl ⟨hw, hy⟩) hS h
theorem hTo {P : Program} {md : Region.Mode} {ops : Array Oper} {Q : Exit → Act → World → Prop} {B : World} {fuel : Nat} {listed : Array Bool} {a : Act} {w : World} (R : World → Prop) (hR : R w) (hS : ∀ V, R V → Below B.heap.size B V) (h : ∀ V, R V → Below B.heap.size B V → wpAnyH P md ops Q (fun X => Below B.heap.size B X) fuel listed a V) : wpAnyH P md ops Q (fun X => Below B.heap.size B X) fuel listed a w :=
 heldTo R (fun X => Below B.heap.size B X) hR hS (fun _ h => h) h
theorem rdH {P : Program} {md : Region.Mode} {ops : Array Oper} {Q : Exit → Act → World → Prop} {S : World → Prop} (rs : List Nat) {fuel : Nat} {listed : Array Bool} {a : Act} {w : World} (h : AllReadyH P md ops Q S fuel listed a w rs) (hr : Region.ready md ops listed = rs := by kernel_rfl) (hne : rs ≠ [] := by simp) : wpAnyH P md ops Q S (fuel + 1) listed a w := wpAnyH_ready hr hne h
theorem disc_lit (V : World) : SAt (cCmd 15) (V.alloc (.cells #[.int .i64 4, .slice none 0 0, .int .i64 0, .int .i64 0, .int .i64 0, .slice none 0 0, .slice none 0 0, .bool false, .int .i64 0, .slice none 0 0, .slice none 0 0, .slice none 0 0] 50)) (fun _ => True) (.slice (some ⟨V.heap.size, 0, none⟩) 1 1) [plainC 4 []] :=
 (Sc.lit_sat (F := fun _ => True) V [(plainC 4 [], [.int .i64 4, .slice none 0 0, .int .i64 0, .int .i64 0, .int .i64 0, .slice none 0 0, .slice none 0 0, .bool false, .int .i64 0, .slice none 0 0, .slice none 0 0, .slice none 0 0])] (fun p hp => by
  rw [List.mem_singleton] at hp; subst hp; exact Sc.bare_rep 4 _ _) (by show 1 ≤ 100; omega)).mono fun _ _ => trivial
theorem red_lit (V : World) (A : Nat) (h : Has V A [.string ⟨#[65, 110, 110, 32, 60, 97, 64, 98, 46, 99, 62]⟩]) :
  SAt (cCmd 15) (V.alloc (.cells #[.int .i64 6, .slice (some ⟨A, 0, none⟩) 1 1, .int .i64 0, .int .i64 0, .int .i64 0, .slice none 0 0, .slice none 0 0, .bool false, .int .i64 0, .slice none 0 0, .slice none 0 0, .slice none 0 0] 50)) (fun _ => True) (.slice (some ⟨V.heap.size, 0, none⟩) 1 1) [plainC 6 [annW]] :=
 (Sc.lit_sat (F := fun _ => True) V [(plainC 6 [annW], [.int .i64 6, .slice (some ⟨A, 0, none⟩) 1 1, .int .i64 0, .int .i64 0, .int .i64 0, .slice none 0 0, .slice none 0 0, .bool false, .int .i64 0, .slice none 0 0, .slice none 0 0, .slice none 0 0])] (fun p hp => by
  rw [List.mem_singleton] at hp
  subst hp
  have hs : SAt cStr V (fun _ => True) (.slice (some ⟨A, 0, none⟩) 1 1) [annW] := Sc.sat_strs (l := [annW]) h trivial
  exact Sc.cmd_le (by omega) (Sc.rep_text (k := 6) hs)) (by show 1 ≤ 100; omega)).mono fun _ _ => trivial
theorem one_cs {c : Cmd} (h : Jd.CmdOk c) : ∀ d ∈ [c], Jd.CmdOk d := fun d hd => by rw [List.mem_singleton] at hd; subst hd; exact h
theorem spool_all (s : St) (e : Ent) (hf : formV e = 0) (hk : e.kind = 6) : (s.spool.length = 20 ∧ (allS s [e]).2 = 5) ∨ (s.spool.length ≠ 20 ∧ (allS s [e]).2 = 0 ∧ (allS s [e]).1 = ⟨s.boxes, s.spool ++ [e]⟩) := by
 have ha : applyS s e = if s.spool.length = 20 then (s, 5) else (⟨s.boxes, s.spool ++ [e]⟩, 0) := by unfold applyS; rw [if_pos hk]
 rw [allS_one s e hf, ha]
 by_cases h : s.spool.length = 20
 ·
  rw [if_pos h]; exact .inl ⟨h, rfl⟩
 ·
  rw [if_neg h]; exact .inr ⟨h, rfl, rfl⟩
set_option maxHeartbeats 8000000 in
set_option maxRecDepth 20000 in
theorem deliverNone_walk (la : Option Addr) (cap : Nat) (cs : List Raw) (a0 a1 a2 b0 b1 b2 : ByteArray) (G : Option Addr) (n c : Nat) (z : Nat → Nat → ByteArray) (bo : ByteArray) (m : Int) (w : World)
  (hl : RawsAt w la cs) (hlen : cs.length ≤ 9223372036854775807) (h0 : a0.size ≤ maxLen) (h1 : a1.size ≤ maxLen) (_h2 : a2.size ≤ maxLen) (j0 : b0.size ≤ maxLen) (j1 : b1.size ≤ maxLen) (_j2 : b2.size ≤ maxLen) (hx : StrRows w G n 2 z ∧ n ≤ maxLen) (hbo : bo.size ≤ maxLen)
  (hT : Sc.Tabs w w.heap.size) (hE : Sc.ExtAt w ∧ 0 < w.heap.size) (hN : NamesAt w ∧ 2 < w.heap.size) (hmx : w.cell? ⟨6, 0, none⟩ = some (.int .i64 m)) :
  Calls Tryz.prog 10 #[.slice la cs.length cap, .agg #[.string a0, .string a1, .string a2, .string b0, .string b1, .string b2, .slice G n c, .string bo]] w fun e w' => e = .returned (.bool true) ∧ Below w.heap.size w w' := by
 have h : PostIn w a0 a1 a2 b0 b1 b2 G n c z bo := ⟨h0, h1, j0, j1, hx, hbo⟩
 have hW : RW w m := ⟨hT, hE, hN, hmx⟩
 clear h0 h1 _h2 j0 j1 _j2 hx hbo hT hE hN hmx
 have hD := ltr_ok a0 a1 b0 b1 z n bo cs
 obtain ⟨x, hx⟩ : ∃ x, x = ltrX a0 a1 b0 b1 z n bo := ⟨_, rfl⟩
 have hok := ltrX_ok a0 a1 b0 b1 z n bo
 rw [← hx] at hok hD
 have HLT : Hid (∀ V, Below w.heap.size w V → Calls Tryz.prog 14 #[.agg #[.string a0, .string a1, .string a2, .string b0, .string b1, .string b2, .slice G n c, .string bo]] V (LetterP x V)) := fun V hV => by
  rw [hx]
  exact letterX_any a0 a1 a2 b0 b1 b2 G n c z bo m V (h.down hV) (hW.down hV).max
 obtain ⟨s, hs⟩ : ∃ s, s = stBx cs := ⟨_, rfl⟩
 have hg := stBx_good cs
 rw [← hs] at hg hD
 have HST : Hid (∀ V, Below w.heap.size w V → Calls Tryz.prog 26 #[.slice la cs.length cap] V (StPost s V)) := fun V hV => by
  rw [hs]
  exact state_any la cap cs m V (hl.down hV) hlen (hW.down hV).max
 obtain ⟨e0, he0⟩ : ∃ e : Ent, e = ⟨6, 0, 0, [], abcW, x.text⟩ := ⟨_, rfl⟩
 have hef : formV e0 = 0 := by rw [he0]; exact spool_form _ _ red_one (by decide) hD.text
 obtain ⟨r, hr⟩ : ∃ r, r = allS s [e0] := ⟨_, rfl⟩
 have hr2 := spool_all s e0 hef (by rw [he0])
 rw [← hr] at hr2
 have ea : allS s [] = (s, 0) := by rw [allS]
 have HDL1 : Hid (∀ V vB vS v F F', SAt cBox V F vB s.boxes → SAt cEnt V F vS s.spool → SAt (cCmd 15) V F' v [plainC 4 []] → Below w.heap.size w V → Calls Tryz.prog 27 #[.agg #[vB, vS], .agg (lttC x).toArray, v] V (DelR [] (s, 0) V)) := fun V vB vS v F F' hB hS hv hV => by
  have := deliver_list s x _ _ _ _ _ [] vB vS v m V F F' hB hS hg (hW.down hV) hok (one_cs (plain_ok (.inl ⟨rfl, rfl⟩))) (by show 1 ≤ 100; omega) disc_rule (disc_crs x _) (oneA_ok disc_act) (oneA_end _) (disc_plan x _) hD hv
  rw [ea] at this
  exact this
 have HDL2 : Hid (∀ V vB vS v F F', SAt cBox V F vB s.boxes → SAt cEnt V F vS s.spool → SAt (cCmd 15) V F' v [plainC 6 [annW]] → Below w.heap.size w V → Calls Tryz.prog 27 #[.agg #[vB, vS], .agg (lttC x).toArray, v] V (DelR [e0] r V)) := fun V vB vS v F F' hB hS hv hV => by
  rw [hr]
  exact deliver_list s x _ _ _ _ _ _ vB vS v m V F F' hB hS hg (hW.down hV) hok (one_cs (plain_ok (.inr (.inr (.inl ⟨rfl, rfl⟩))))) (by show 1 ≤ 100; omega) red_rule (red_crs x _) (oneA_ok red_act) (oneA_end _) (by rw [red_plan, he0]) hD hv
 obtain ⟨ns, hns⟩ : ∃ ns, ns = s.spool.length := ⟨_, rfl⟩
 rw [← hns] at hr2
 have HR2 := Lib.hid hr2
 have HNS := Lib.hid hns
 have HN20 : Hid (ns ≤ 20) := by unfold Hid; rw [hns]; exact hg.spool
 have HE0 : Hid (entC e0 = [.int .i64 6, .string ⟨#[]⟩, .int .i64 0, .int .i64 0, .string ⟨#[97, 64, 98, 46, 99]⟩, .string ⟨x.text.toArray⟩]) := by unfold Hid; rw [he0]; rfl
 have HSM : Hid (∀ V v1 u1 v2 u2 F1 F2, SAt cBox V F1 v1 s.boxes → SAt cEnt V F1 u1 s.spool → SAt cBox V F2 v2 s.boxes → SAt cEnt V F2 u2 s.spool → Calls Tryz.prog 30 #[.agg #[v1, u1], .agg #[v2, u2]] V fun e w' => e = .returned (.bool true) ∧ Below V.heap.size V w') := fun V v1 u1 v2 u2 F1 F2 k1 k2 k3 k4 =>
  same_any s v1 u1 v2 u2 F1 F2 V k1 k2 k3 k4 (by have := hg.boxes; omega) (by have := hg.spool; omega) (fun b hb => by have := (hg.ok b hb).2.2.2.1; omega)
 have hA1 := ba (Below.refl w.heap.size w) (.cells #[.string a0, .string a1, .string a2, .string b0, .string b1, .string b2, .slice G n c, .string bo] 26)
 have HX1 := Lib.hid (Has.alloc w [.string a0, .string a1, .string a2, .string b0, .string b1, .string b2, .slice G n c, .string bo] 26)
 have HA := Lib.hid hA1
 have HC := Lib.hid (HST.out _ hA1)
 clear hx h hW hok hA1 HST hl hlen hs hg hr hD he0 hef hr2 hns ea
 go_enter Tryz.func10, Tryz.ntmps10
 go_wp2_with fail
 refine HC.out.mono ?_
 rintro e w1 ⟨⟨G1, c1, G2, c2, rfl, h1, h2⟩, hb1⟩
 rw [← HNS.out] at h2 ⊢
 have hA := ba (Below.refl w1.heap.size w1) (.cells #[.slice G1 s.boxes.length c1, .slice G2 ns c2] 73)
 obtain ⟨S0, hS0⟩ : ∃ S0, S0 = w1.heap.size := ⟨_, rfl⟩
 obtain ⟨W2, hW2⟩ : ∃ W, W = w1.alloc (.cells #[.slice G1 s.boxes.length c1, .slice G2 ns c2] 73) := ⟨_, rfl⟩
 have hs2 : Has W2 S0 [.slice G1 s.boxes.length c1, .slice G2 ns c2] := by rw [hW2, hS0]; exact Has.alloc w1 _ _
 rw [← hW2] at hA
 have HSV := Lib.hid (And.intro hs2 (And.intro (h1.down hA) (h2.down hA)))
 have HB2 := Lib.hid (bt (bt HA.out hb1) hA)
 obtain ⟨p0, p1, p2, p3, p4, p5, p6, p7⟩ := Sc.has_oct' (HX1.out.down (bt hb1 hA))
 have HC2 := Lib.hid (HLT.out _ HB2.out)
 have HWe := Lib.hid hW2; have HSe := Lib.hid hS0
 clear hA hb1 h1 h2 hs2 hS0 hW2 HC HX1 HA HLT
 go_upto_region 2 with fail
 rw [← HWe.out, ← HSe.out]
 clear HWe HSe
 go_wp2_with fail
 refine HC2.out.mono ?_
 rintro e w3 ⟨rfl, hb3⟩
 have hA := ba (Below.refl w3.heap.size w3) (.cells (lttC x).toArray 33)
 have HL := Has.alloc w3 (lttC x) 33
 obtain ⟨L, hLe⟩ : ∃ L, L = w3.heap.size := ⟨_, rfl⟩
 obtain ⟨W3, hW3⟩ : ∃ W, W = w3.alloc (.cells (lttC x).toArray 33) := ⟨_, rfl⟩
 rw [← hW3, ← hLe] at HL
 rw [← hW3] at hA
 have hb := bt hb3 hA
 have HL3 := Lib.hid HL
 have HSV3 := Lib.hid (And.intro (HSV.out.1.down hb) (And.intro (HSV.out.2.1.down hb) (HSV.out.2.2.down hb)))
 have HB3 := Lib.hid (bt HB2.out hb)
 have HWe := Lib.hid hW3; have HLe := Lib.hid hLe
 unfold lttC at HWe HDL1 HDL2 ⊢
 clear hA hb hb3 HL hLe hW3 HC2 HSV HB2 p0 p1 p2 p3 p4 p5 p6 p7
 go_upto_region 3 with fail
 rw [← HWe.out, ← HLe.out]
 clear HWe HLe
 obtain ⟨s0, s1, -, -⟩ := HSV3.out.1.two
 obtain ⟨l0, l1, l2, l3, l4⟩ := ltt_get HL3.out
 have hA3 := ba (Below.refl W3.heap.size W3) (.cells #[.int .i64 4, .slice none 0 0, .int .i64 0, .int .i64 0, .int .i64 0, .slice none 0 0, .slice none 0 0, .bool false, .int .i64 0, .slice none 0 0, .slice none 0 0, .slice none 0 0] 50)
 have HC3 := Lib.hid (HDL1.out _ _ _ _ _ _ (HSV3.out.2.1.down hA3) (HSV3.out.2.2.down hA3) (disc_lit W3) (bt HB3.out hA3))
 have HA3 := Lib.hid hA3
 clear hA3 HDL1
 go_wp2_with fail
 refine HC3.out.mono ?_
 rintro e w4 ⟨Go, no, co, H1, n1, d1, H2, n2, d2, rfl, hgood, -, hb4⟩
 obtain ⟨hno, -, hB1, hS1⟩ := hgood rfl
 have hno0 : no = 0 := hno
 subst hno0
 have hA := ba (Below.refl w4.heap.size w4) (.cells #[.slice H1 n1 d1, .slice H2 n2 d2] 73)
 have hT := Has.alloc w4 [.slice H1 n1 d1, .slice H2 n2 d2] 73
 obtain ⟨T1, hT1⟩ : ∃ T, T = w4.heap.size := ⟨_, rfl⟩
 obtain ⟨W5, hW5⟩ : ∃ W, W = w4.alloc (.cells #[.slice H1 n1 d1, .slice H2 n2 d2] 73) := ⟨_, rfl⟩
 rw [← hT1, ← hW5] at hT
 rw [← hW5] at hA
 have hb := bt (bt HA3.out hb4) hA
 have HT5 := Lib.hid hT
 have HBS5 := Lib.hid (And.intro (hB1.down hA) (hS1.down hA))
 have HSV5 := Lib.hid (And.intro (HSV3.out.1.down hb) (And.intro (HSV3.out.2.1.down hb) (HSV3.out.2.2.down hb)))
 have HL5 := Lib.hid (HL3.out.down hb)
 have HB5 := Lib.hid (bt HB3.out hb)
 have HWe := Lib.hid hW5; have HTe := Lib.hid hT1
 clear hA hT hT1 hW5 hb hb4 hgood hno hB1 hS1 HC3 HA3 HSV3 HL3 HB3 s0 s1 l0 l1 l2 l3 l4
 go_upto_region 4 with fail
 rw [← HWe.out, ← HTe.out]
 clear HWe HTe
 obtain ⟨s0, s1, -, -⟩ := HSV5.out.1.two
 obtain ⟨l0, l1, l2, l3, l4⟩ := ltt_get HL5.out
 have hA0 := Has.alloc W5 [.string ⟨#[65, 110, 110, 32, 60, 97, 64, 98, 46, 99, 62]⟩] 9
 have hF := red_lit (W5.alloc (.cells #[.string ⟨#[65, 110, 110, 32, 60, 97, 64, 98, 46, 99, 62]⟩] 9)) W5.heap.size hA0
 have hbF := ba (ba (Below.refl W5.heap.size W5) (.cells #[.string ⟨#[65, 110, 110, 32, 60, 97, 64, 98, 46, 99, 62]⟩] 9)) (.cells #[.int .i64 6, .slice (some ⟨W5.heap.size, 0, none⟩) 1 1, .int .i64 0, .int .i64 0, .int .i64 0, .slice none 0 0, .slice none 0 0, .bool false, .int .i64 0, .slice none 0 0, .slice none 0 0, .slice none 0 0] 50)
 rw [World.size_alloc] at hF
 have HC4 := Lib.hid (HDL2.out _ _ _ _ _ _ (HSV5.out.2.1.down hbF) (HSV5.out.2.2.down hbF) hF (bt HB5.out hbF))
 have HBF := Lib.hid hbF
 clear hA0 hF hbF HDL2
 go_wp2_with fail
 refine HC4.out.mono ?_
 rintro e w6 ⟨Gy, ny, cy, J1, m1, q1, J2, m2, q2, rfl, hgood, -, hb6⟩
 have hA := ba (Below.refl w6.heap.size w6) (.cells #[.slice J1 m1 q1, .slice J2 m2 q2] 73)
 have hT := Has.alloc w6 [.slice J1 m1 q1, .slice J2 m2 q2] 73
 obtain ⟨T2, hT2⟩ : ∃ T, T = w6.heap.size := ⟨_, rfl⟩
 obtain ⟨W7, hW7⟩ : ∃ W, W = w6.alloc (.cells #[.slice J1 m1 q1, .slice J2 m2 q2] 73) := ⟨_, rfl⟩
 rw [← hT2, ← hW7] at hT
 rw [← hW7] at hA
 have hb := bt HBF.out hb6
 have hne : ∀ {F : Dom} (b : Nat), F b ∧ b < w6.heap.size → b ≠ T2 := fun b hb => by have := hb.2; omega
 have HBS7 := Lib.hid (And.intro (((box_bd (HBS5.out.1.down hb)).mono hne).down hA) (((flat_bd (HBS5.out.2.down hb)).mono hne).down hA))
 have HSX7 := Lib.hid (And.intro (((box_bd (HSV5.out.2.1.down hb)).mono hne).down hA) (((flat_bd (HSV5.out.2.2.down hb)).mono hne).down hA))
 have HG7 := Lib.hid (fun h0 => And.intro (hgood h0).1 (And.intro (((flat_bd (hgood h0).2.1).mono hne).down hA) (And.intro (((box_bd (hgood h0).2.2.1).mono hne).down hA) (((flat_bd (hgood h0).2.2.2).mono hne).down hA))))
 have HS7 := Lib.hid (HSV5.out.1.down (bt hb hA))
 have HT17 := Lib.hid (HT5.out.down (bt hb hA))
 have HL7 := Lib.hid (HL5.out.down (bt hb hA))
 have HB7 := Lib.hid (bt HB5.out (bt hb hA))
 have HT27 := Lib.hid hT
 have HST : Hid (S0 ≠ T2 ∧ T1 ≠ T2 ∧ L ≠ T2 ∧ w.heap.size ≤ T2) := by
  have i1 := HSV5.out.1.2.2; have i2 := HT5.out.2.2; have i3 := HL5.out.2.2; have i4 := hb.size; have i5 := HB5.out.size
  exact ⟨by omega, by omega, by omega, by omega⟩
 have HWe := Lib.hid hW7; have HTe := Lib.hid hT2
 clear hA hT hT2 hW7 hb hb6 hgood hne HC4 HBF HBS5 HSV5 HT5 HL5 HB5 s0 s1 l0 l1 l2 l3 l4
 go_upto_region 5 with fail
 rw [← HWe.out, ← HTe.out]
 clear HWe HTe
 obtain ⟨s0, s1, -, -⟩ := HS7.out.two
 rcases HR2.out with ⟨h20, h5⟩ | ⟨h20, h0, h1⟩
 ·
  have hq : decide ((ns : Int) = 20) = true := decide_eq_true (by omega)
  have hq2 : ((ns : Int) == 20) = true := beq_iff_eq.2 (by omega)
  rw [h5]
  clear HR2 h20 h5 HSM HG7 HE0
  go_wp2_with fail
  go_ret
  exact ⟨rfl, HB7.out⟩
 ·
  have hq : decide ((ns : Int) = 20) = false := decide_eq_false (by omega)
  have hq2 : ((ns : Int) == 20) = false := beq_eq_false_iff_ne.2 (by omega)
  obtain ⟨hno, hO, hBx, hSp⟩ := HG7.out h0
  rw [h1] at hBx hSp
  have hno1 : ny = 1 := hno
  subst hno1
  have hn2 : m2 = ns + 1 := by
   have := sat_len hSp
   rw [HNS.out, ← this]
   simp
  subst hn2
  have hcp : ns + 1 ≤ q2 := by
   obtain ⟨_, _, e, hcc⟩ := hSp.form
   have := sat_len hSp
   injection e with _ e2 e3
   omega
  have hTk : SAt cEnt W7 (fun b => b ≠ T2) (.slice J2 ns q2) s.spool := by
   have := SAt.take (cap := q2) (n := ns + 1) hSp ns q2 (by rw [List.length_append, ← HNS.out]; exact Nat.le_add_right _ _) (by omega)
   rw [HNS.out, List.take_left] at this
   rw [HNS.out]
   exact this
  obtain ⟨g, off, vs, rfl, hgT, hgl, hrr, hcc⟩ := hO.get 0 (by show 0 < 1; omega)
  obtain rfl : vs = entC e0 := hrr
  rw [HE0.out] at hcc
  have hgT' : g ≠ T2 := hgT
  have hx7 : ∀ (k : Nat) (v : Value), W7.cell? ⟨g, k, none⟩ = some v → (W7.setCell ⟨T2, 1, none⟩ (.slice J2 ns q2)).cell? ⟨g, k, none⟩ = some v := fun k v hv => by
   rw [World.cell?_setCell_other _ _ _ _ (by intro e; exact hgT' (congrArg Addr.block e).symm)]
   exact hv
  have x0 : W7.cell? ⟨g, off, none⟩ = some (.int .i64 6) := by have := hcc 0 _ rfl; simpa using this
  have x1 : W7.cell? ⟨g, off + 1, none⟩ = some (.string ⟨#[]⟩) := by have := hcc 1 _ rfl; simpa using this
  have x2 : W7.cell? ⟨g, off + 2, none⟩ = some (.int .i64 0) := by have := hcc 2 _ rfl; simpa using this
  have x3 : W7.cell? ⟨g, off + 3, none⟩ = some (.int .i64 0) := by have := hcc 3 _ rfl; simpa using this
  have x4 : W7.cell? ⟨g, off + 4, none⟩ = some (.string ⟨#[97, 64, 98, 46, 99]⟩) := by have := hcc 4 _ rfl; simpa using this
  have x5 : W7.cell? ⟨g, off + 5, none⟩ = some (.string ⟨x.text.toArray⟩) := by have := hcc 5 _ rfl; simpa using this
  have hT9 := HT27.out.set' (i := 1) (.slice J2 ns q2) (by simp)
  have hS9 := HS7.out.else' (i := 1) HST.out.1 (.slice J2 ns q2)
  have hT19 := HT17.out.else' (i := 1) HST.out.2.1 (.slice J2 ns q2)
  have hL9 := HL7.out.else' (i := 1) HST.out.2.2.1 (.slice J2 ns q2)
  have hX9 := And.intro (off_box (u := .slice J2 ns q2) (i := 1) HSX7.out.1) (off_ent (u := .slice J2 ns q2) (i := 1) HSX7.out.2)
  have hY9 := And.intro (off_box (u := .slice J2 ns q2) (i := 1) HBS7.out.1) (off_ent (u := .slice J2 ns q2) (i := 1) HBS7.out.2)
  have hZ9 := And.intro (off_box (u := .slice J2 ns q2) (i := 1) hBx) (off_ent (u := .slice J2 ns q2) (i := 1) hTk)
  have hb9 := HB7.out.setCell (p := ⟨T2, 1, none⟩) HST.out.2.2.2 (.slice J2 ns q2)
  have hx9 := And.intro (hx7 _ _ x0) (And.intro (hx7 _ _ x1) (And.intro (hx7 _ _ x2) (And.intro (hx7 _ _ x3) (And.intro (hx7 _ _ x4) (hx7 _ _ x5)))))
  obtain ⟨W9, hW9⟩ : ∃ W, W = W7.setCell ⟨T2, 1, none⟩ (.slice J2 ns q2) := ⟨_, rfl⟩
  rw [← hW9] at hT9 hS9 hT19 hL9 hX9 hY9 hZ9 hb9 hx9
  have HT9 := Lib.hid hT9; have HS9 := Lib.hid hS9; have HT19 := Lib.hid hT19; have HL9 := Lib.hid hL9; have HX9 := Lib.hid hX9; have HY9 := Lib.hid hY9; have HZ9 := Lib.hid hZ9; have HB9 := Lib.hid hb9
  have HE9 : Hid (∀ V, Below W9.heap.size W9 V → V.cell? ⟨g, off, none⟩ = some (.int .i64 6) ∧ V.cell? ⟨g, off + 1, none⟩ = some (.string ⟨#[]⟩) ∧ V.cell? ⟨g, off + 2, none⟩ = some (.int .i64 0) ∧ V.cell? ⟨g, off + 3, none⟩ = some (.int .i64 0) ∧ V.cell? ⟨g, off + 4, none⟩ = some (.string ⟨#[97, 64, 98, 46, 99]⟩) ∧ V.cell? ⟨g, off + 5, none⟩ = some (.string ⟨x.text.toArray⟩)) := fun V hV =>
   ⟨moved hx9.1 hV (Nat.le_refl _), moved hx9.2.1 hV (Nat.le_refl _), moved hx9.2.2.1 hV (Nat.le_refl _), moved hx9.2.2.2.1 hV (Nat.le_refl _), moved hx9.2.2.2.2.1 hV (Nat.le_refl _), moved hx9.2.2.2.2.2 hV (Nat.le_refl _)⟩
  have HWe := Lib.hid hW9
  have hc1 : (((ns + 1 : Nat) : Int) - 1) = (ns : Int) := by omega
  have hc2 : max (ns : Int) 0 = (ns : Int) := by omega
  have hn20 := HN20.out
  obtain ⟨t0, t1, f0, f1⟩ := HT27.out.two
  rw [h0]
  clear HR2 h20 h0 h1 HG7 hno hO hBx hSp hTk hgT hgT' hgl hcc hx7 x0 x1 x2 x3 x4 x5 hT9 hS9 hT19 hL9 hX9 hY9 hZ9 hb9 hx9 hW9 HE0 HS7 HT17 HL7 HSX7 HBS7 HB7 HST
  go_upto_region 8 with fail
  rw [← HWe.out]
  clear HWe t0 t1 f0 f1 s0 s1 HT27
  have hd := Below.drew (Below.refl W9.heap.size W9)
  refine wp_region_noPanic ?_
  refine wp_region_held_drew (S := fun wx => Below W9.heap.size W9 wx) (by kernel_rfl) hd (fun hHeld => ?_)
  refine hTo (B := W9) (fun X => Below W9.heap.size W9 X) hd (fun X h => h) (fun V0 hR hHeld => ?_)
  clear hR
  refine tkH 0 (v := ?_) (gB rfl) ?_ ?_
  rotate_left 1
  ·
   intro w' hSw; (go_simp) <;> with_reducible rfl
  try simp only [Act.put, List.setIfInBounds_toArray, List.set_cons_zero, List.set_cons_succ]
  refine tkH 1 (v := ?_) (gB rfl) ?_ ?_
  rotate_left 1
  ·
   intro w' hSw; (go_simp) <;> with_reducible rfl
  try simp only [Act.put, List.setIfInBounds_toArray, List.set_cons_zero, List.set_cons_succ]
  refine tkH 2 (v := ?_) (gB rfl) ?_ ?_
  rotate_left 1
  ·
   intro w' hSw; (go_simp) <;> with_reducible rfl
  try simp only [Act.put, List.setIfInBounds_toArray, List.set_cons_zero, List.set_cons_succ]
  refine tkH 3 (v := ?_) (gB rfl) ?_ ?_
  rotate_left 1
  ·
   intro w' hSw; (go_simp) <;> with_reducible rfl
  try simp only [Act.put, List.setIfInBounds_toArray, List.set_cons_zero, List.set_cons_succ]
  refine tkH 4 (v := ?_) (gB rfl) ?_ ?_
  rotate_left 1
  ·
   intro w' hSw; (go_simp) <;> with_reducible rfl
  try simp only [Act.put, List.setIfInBounds_toArray, List.set_cons_zero, List.set_cons_succ]
  refine tkH 5 (v := ?_) (gB rfl) ?_ ?_
  rotate_left 1
  ·
   intro w' hSw; (go_simp) <;> with_reducible rfl
  try simp only [Act.put, List.setIfInBounds_toArray, List.set_cons_zero, List.set_cons_succ]
  refine tkH 6 (v := ?_) (gB rfl) ?_ ?_
  rotate_left 1
  ·
   intro w' hSw; (go_simp) <;> with_reducible rfl
  try simp only [Act.put, List.setIfInBounds_toArray, List.set_cons_zero, List.set_cons_succ]
  refine tkH 7 (v := ?_) (gB rfl) ?_ ?_
  rotate_left 1
  ·
   intro w' hSw; (go_simp) <;> with_reducible rfl
  try simp only [Act.put, List.setIfInBounds_toArray, List.set_cons_zero, List.set_cons_succ]
  refine tkH 8 (v := ?_) (gB rfl) ?_ ?_
  rotate_left 1
  ·
   intro w' hSw; (go_simp) <;> with_reducible rfl
  try simp only [Act.put, List.setIfInBounds_toArray, List.set_cons_zero, List.set_cons_succ]
  refine tkH 9 (v := ?_) (gB rfl) ?_ ?_
  rotate_left 1
  ·
   intro w' hSw; (go_simp) <;> with_reducible rfl
  try simp only [Act.put, List.setIfInBounds_toArray, List.set_cons_zero, List.set_cons_succ]
  refine tkH 10 (v := ?_) (gB rfl) ?_ ?_
  rotate_left 1
  ·
   intro w' hSw; (go_simp) <;> with_reducible rfl
  try simp only [Act.put, List.setIfInBounds_toArray, List.set_cons_zero, List.set_cons_succ]
  refine tkH 11 (v := ?_) (gB rfl) ?_ ?_
  rotate_left 1
  ·
   intro w' hSw; (go_simp) <;> with_reducible rfl
  try simp only [Act.put, List.setIfInBounds_toArray, List.set_cons_zero, List.set_cons_succ]
  refine tkH 12 (v := ?_) (gB rfl) ?_ ?_
  rotate_left 1
  ·
   intro w' hSw; (go_simp) <;> with_reducible rfl
  try simp only [Act.put, List.setIfInBounds_toArray, List.set_cons_zero, List.set_cons_succ]
  refine tkH 13 (v := ?_) (gB rfl) ?_ ?_
  rotate_left 1
  ·
   intro w' hSw; (go_simp) <;> with_reducible rfl
  try simp only [Act.put, List.setIfInBounds_toArray, List.set_cons_zero, List.set_cons_succ]
  refine tkH 14 (v := ?_) (gB rfl) ?_ ?_
  rotate_left 1
  ·
   intro w' hSw; (go_simp) <;> with_reducible rfl
  try simp only [Act.put, List.setIfInBounds_toArray, List.set_cons_zero, List.set_cons_succ]
  refine tkH 15 (v := ?_) (gB rfl) ?_ ?_
  rotate_left 1
  ·
   intro w' hSw; obtain ⟨s0, s1, -, -⟩ := (HS9.out.down hSw).two; (go_simp) <;> with_reducible rfl
  try simp only [Act.put, List.setIfInBounds_toArray, List.set_cons_zero, List.set_cons_succ]
  refine tkH 16 (v := ?_) (gB rfl) ?_ ?_
  rotate_left 1
  ·
   intro w' hSw; obtain ⟨t0, t1, -, -⟩ := (HT19.out.down hSw).two; (go_simp) <;> with_reducible rfl
  try simp only [Act.put, List.setIfInBounds_toArray, List.set_cons_zero, List.set_cons_succ]
  refine rdH [17] ?_
  refine AllReadyH.cons (gB rfl) (fun K hK => ?_) ?_
  ·
   go_simp
   go_at_call 30
   refine (HSM.out _ _ _ _ _ _ _ (HX9.out.1.down hHeld) (HX9.out.2.down hHeld) (HY9.out.1.down hHeld) (HY9.out.2.down hHeld)).mono ?_
   rintro e w7 ⟨rfl, hb7⟩
   try (go_wp2_with fail)
   refine hK.out _ _ (bt hHeld hb7) (fun hHeld => ?_)
   clear hK K
   try simp only [Act.put, List.setIfInBounds_toArray, List.set_cons_zero, List.set_cons_succ]
   refine hTo (B := W9) (fun V1 => Below W9.heap.size W9 V1) hHeld (fun V1 h => h) (fun V1 hR hHeld => ?_)
   clear hR hb7
   refine tkH 18 (v := ?_) (gB rfl) ?_ ?_
   rotate_left 1
   ·
    intro w' hSw; (go_simp) <;> with_reducible rfl
   try simp only [Act.put, List.setIfInBounds_toArray, List.set_cons_zero, List.set_cons_succ]
   refine tkH 19 (v := ?_) (gB rfl) ?_ ?_
   rotate_left 1
   ·
    intro w' hSw; (go_simp) <;> with_reducible rfl
   try simp only [Act.put, List.setIfInBounds_toArray, List.set_cons_zero, List.set_cons_succ]
   refine tkH 20 (v := ?_) (gB rfl) ?_ ?_
   rotate_left 1
   ·
    intro w' hSw; (go_simp) <;> with_reducible rfl
   try simp only [Act.put, List.setIfInBounds_toArray, List.set_cons_zero, List.set_cons_succ]
   refine tkH 21 (v := ?_) (gB rfl) ?_ ?_
   rotate_left 1
   ·
    intro w' hSw; (go_simp) <;> with_reducible rfl
   try simp only [Act.put, List.setIfInBounds_toArray, List.set_cons_zero, List.set_cons_succ]
   refine tkH 22 (v := ?_) (gB rfl) ?_ ?_
   rotate_left 1
   ·
    intro w' hSw; (go_simp) <;> with_reducible rfl
   try simp only [Act.put, List.setIfInBounds_toArray, List.set_cons_zero, List.set_cons_succ]
   refine tkH 23 (v := ?_) (gB rfl) ?_ ?_
   rotate_left 1
   ·
    intro w' hSw; (go_simp) <;> with_reducible rfl
   try simp only [Act.put, List.setIfInBounds_toArray, List.set_cons_zero, List.set_cons_succ]
   refine tkH 24 (v := ?_) (gB rfl) ?_ ?_
   rotate_left 1
   ·
    intro w' hSw; (go_simp) <;> with_reducible rfl
   try simp only [Act.put, List.setIfInBounds_toArray, List.set_cons_zero, List.set_cons_succ]
   refine tkH 25 (v := ?_) (gB rfl) ?_ ?_
   rotate_left 1
   ·
    intro w' hSw; (go_simp) <;> with_reducible rfl
   try simp only [Act.put, List.setIfInBounds_toArray, List.set_cons_zero, List.set_cons_succ]
   refine tkH 26 (v := ?_) (gB rfl) ?_ ?_
   rotate_left 1
   ·
    intro w' hSw; (go_simp) <;> with_reducible rfl
   try simp only [Act.put, List.setIfInBounds_toArray, List.set_cons_zero, List.set_cons_succ]
   refine tkH 27 (v := ?_) (gB rfl) ?_ ?_
   rotate_left 1
   ·
    intro w' hSw; obtain ⟨x0, x1, x2, x3, x4, x5⟩ := HE9.out w' hSw; (go_simp) <;> with_reducible rfl
   try simp only [Act.put, List.setIfInBounds_toArray, List.set_cons_zero, List.set_cons_succ]
   refine tkH 28 (v := ?_) (gB rfl) ?_ ?_
   rotate_left 1
   ·
    intro w' hSw; (go_simp) <;> with_reducible rfl
   try simp only [Act.put, List.setIfInBounds_toArray, List.set_cons_zero, List.set_cons_succ]
   refine tkH 29 (v := ?_) (gB rfl) ?_ ?_
   rotate_left 1
   ·
    intro w' hSw; obtain ⟨l0, l1, l2, l3, l4⟩ := ltt_get (HL9.out.down hSw); (go_simp) <;> with_reducible rfl
   try simp only [Act.put, List.setIfInBounds_toArray, List.set_cons_zero, List.set_cons_succ]
   refine tkH 30 (v := ?_) (gB rfl) ?_ ?_
   rotate_left 1
   ·
    intro w' hSw; (go_simp) <;> with_reducible rfl
   try simp only [Act.put, List.setIfInBounds_toArray, List.set_cons_zero, List.set_cons_succ]
   refine tkH 31 (v := ?_) (gB rfl) ?_ ?_
   rotate_left 1
   ·
    intro w' hSw; (go_simp) <;> with_reducible rfl
   try simp only [Act.put, List.setIfInBounds_toArray, List.set_cons_zero, List.set_cons_succ]
   refine tkH 32 (v := ?_) (gB rfl) ?_ ?_
   rotate_left 1
   ·
    intro w' hSw; (go_simp) <;> with_reducible rfl
   try simp only [Act.put, List.setIfInBounds_toArray, List.set_cons_zero, List.set_cons_succ]
   refine tkH 33 (v := ?_) (gB rfl) ?_ ?_
   rotate_left 1
   ·
    intro w' hSw; (go_simp) <;> with_reducible rfl
   try simp only [Act.put, List.setIfInBounds_toArray, List.set_cons_zero, List.set_cons_succ]
   refine tkH 34 (v := ?_) (gB rfl) ?_ ?_
   rotate_left 1
   ·
    intro w' hSw; obtain ⟨s0, s1, -, -⟩ := (HS9.out.down hSw).two; (go_simp) <;> with_reducible rfl
   try simp only [Act.put, List.setIfInBounds_toArray, List.set_cons_zero, List.set_cons_succ]
   refine tkH 35 (v := ?_) (gB rfl) ?_ ?_
   rotate_left 1
   ·
    intro w' hSw; obtain ⟨t0, t1, -, -⟩ := (HT9.out.down hSw).two; (go_simp) <;> with_reducible rfl
   try simp only [Act.put, List.setIfInBounds_toArray, List.set_cons_zero, List.set_cons_succ]
   refine rdH [36] ?_
   refine AllReadyH.cons (gB rfl) (fun K hK => ?_) ?_
   ·
    go_simp
    go_at_call 30
    refine (HSM.out _ _ _ _ _ _ _ (HX9.out.1.down hHeld) (HX9.out.2.down hHeld) (HZ9.out.1.down hHeld) (HZ9.out.2.down hHeld)).mono ?_
    rintro e w7 ⟨rfl, hb7⟩
    try (go_wp2_with fail)
    refine hK.out _ _ (bt hHeld hb7) (fun hHeld => ?_)
    clear hK K
    try simp only [Act.put, List.setIfInBounds_toArray, List.set_cons_zero, List.set_cons_succ]
    refine hTo (B := W9) (fun V2 => Below W9.heap.size W9 V2) hHeld (fun V2 h => h) (fun V2 hR hHeld => ?_)
    clear hR hb7
    refine tkH 37 (v := ?_) (gB rfl) ?_ ?_
    rotate_left 1
    ·
     intro w' hSw; (go_simp) <;> with_reducible rfl
    try simp only [Act.put, List.setIfInBounds_toArray, List.set_cons_zero, List.set_cons_succ]
    refine tkH 38 (v := ?_) (gB rfl) ?_ ?_
    rotate_left 1
    ·
     intro w' hSw; (go_simp) <;> with_reducible rfl
    try simp only [Act.put, List.setIfInBounds_toArray, List.set_cons_zero, List.set_cons_succ]
    refine wpAnyH_done (by kernel_rfl) ?_ _
    refine NoPanic.normal ?_
    go_wp2_with fail
    go_ret
    exact ⟨rfl, bt HB9.out hHeld⟩
   exact AllReadyH.nil
  exact AllReadyH.nil
end Go.Proofs.YtpfbkdbblpppdaaGreatDoor.Dv
