/-
  DERIVED. Of: DeliverNew.
-/
import Derived.Test.YtpfbkdbblpppdaaGreatDoorDDvScr
import Derived.Test.YtpfbkdbblpppdaaGreatDoorProg
import Derived.Test.YtpfbkdbblpppdaaGreatDoorShelf
import Derived.Test.YtpfbkdbblpppdaaGreatDoorRows
import Derived.Test.YtpfbkdbblpppdaaGreatDoorDBoxFnd
import Derived.Deep.RegionLaw
import Derived.Deep.RegionHeld3
import Derived.Deep.AppendLies
import Derived.Lib.IndexMore
import Derived.Deep.QuietTactic
import Derived.BigQuiet
import Derived.WalkKit
import Derived.WalkLawsBesides
import Derived.WalkSpells
import Derived.Outline
import Derived.LoopTactic
import Derived.Lib.Hide
import Derived.Deep.DeepCutAuto
import Derived.Deep.CutBlock
import Derived.Tactics
import Derived.Tactics2
import Derived.Defers
import Derived.Recover
import Derived.BigRegion
import Derived.StillTailTactics
import Derived.Lib.BufferOwn
import Derived.Lib.HexFns2
import Derived.Handy
import Derived.Lib.IndexLaws
import Derived.Lib.SplitLaws
import Derived.Maps.AppendAt
import Derived.Lib.ConvBytes
import Derived.Laws.EntriesVeiled
import Derived.Lib.Index
import Derived.Lib.AtoiAll
import Derived.Lib.ItoaNum
import Derived.Lib.SlTrimSet
import Derived.Lib.IndexBytes
import Derived.RangeFuncNested
import Derived.RangeFuncBound
import Derived.RangeFuncCalls
import Derived.RangeFuncLeaves
import Derived.RangeFuncBox
import Derived.Shelf.Abstract
import Derived.OwnWalkIn
import Derived.TacticsInMore
import Derived.LoopNIn
import Derived.LoopIn
import Derived.RegionIn
import Derived.BigRegionIn
import Derived.RegionTactic
import Derived.ChangeAlike
import Derived.OwnWalk
import Derived.Lib.Strings
import Derived.Lib.UnsafeStr
import Derived.Lib.Builder
import Derived.Lib.AppendStr
import Derived.Laws.Externs
import Derived.IntWalk
import Derived.Maps.Own
import Derived.Maps.OwnSet
import Derived.StringKeys
import Derived.Deep.Slices
import Derived.Deep.Fields
import Derived.ChangeSame
import Derived.SizedLaws
import Derived.Lib.SmallJoins
import Derived.OpenShut
import Derived.HandedShaped
import Derived.Handed
import Derived.Shelf.Vars
import Derived.Lay
import Derived.MakeChecks
import Derived.Lib.LaidU8
import Derived.ProofKit
import Derived.Shelf.Strings.SlTrimAscii
import Derived.Lib.SliceRun
import Derived.Laws.IdiomCopy
import Derived.Laws.StructEq
import Derived.Deep.Cut
set_option linter.unusedVariables false
set_option linter.unusedSimpArgs false
namespace Go.Proofs.YtpfbkdbblpppdaaGreatDoor.Dv
open Go.RowKit
open Sc (Str cStr strC RW cCmd Cmd reqC reqV strs)
open Jd (Ltt partL lttC keepA endJ cmdsJ C0 LetOK LetterP ltrX ltrX_ok letterX_any PostIn ltt_get)

theorem find_code {s : St} {n : Str} : idx (findB s.boxes n) < 0 ↔ (s.boxes.map Bx.name).contains n = false := by
  constructor
  · intro h
    cases e : findB s.boxes n with
    | none =>
      have := findB_none e
      rw [← Bool.not_eq_true]
      intro hc
      obtain ⟨b, hb, rfl⟩ := List.mem_map.1 (by simpa using hc)
      exact this b hb rfl
    | some i => rw [e] at h; exact absurd h (by show ¬ (i : Int) < 0; omega)
  · intro h
    cases e : findB s.boxes n with
    | none => show (-1 : Int) < 0; decide
    | some i =>
      obtain ⟨hi, hn⟩ := findB_some e
      exfalso
      rw [← Bool.not_eq_true] at h
      refine h ?_
      have : n ∈ s.boxes.map Bx.name := List.mem_map.2 ⟨_, List.getElem_mem hi, hn⟩
      simpa using this
set_option maxHeartbeats 8000000 in
set_option maxRecDepth 20000 in
theorem deliverNew_any (la : Option Addr) (cap : Nat) (cs : List Raw) (a0 a1 a2 b0 b1 b2 : ByteArray) (G : Option Addr) (n c : Nat) (z : Nat → Nat → ByteArray) (bo nm : ByteArray) (m : Int) (w : World)
    (hl : RawsAt w la cs) (hlen : cs.length ≤ 9223372036854775807) (h : PostIn w a0 a1 a2 b0 b1 b2 G n c z bo) (hnm : nm.size ≤ 9223372036854775807) (hW : RW w m) :
    Calls Tryz.prog 11 #[.slice la cs.length cap, .agg #[.string a0, .string a1, .string a2, .string b0, .string b1, .string b2, .slice G n c, .string bo], .string nm] w fun e w' => e = .returned (.bool true) ∧ Below w.heap.size w w' := by
  have hD := ltr_ok a0 a1 b0 b1 z n bo cs
  obtain ⟨x, hx⟩ : ∃ x, x = ltrX a0 a1 b0 b1 z n bo := ⟨_, rfl⟩
  have hok := ltrX_ok a0 a1 b0 b1 z n bo
  rw [← hx] at hok hD
  have HLT : Hid (∀ V, Below w.heap.size w V → Calls Tryz.prog 14 #[.agg #[.string a0, .string a1, .string a2, .string b0, .string b1, .string b2, .slice G n c, .string bo]] V (LetterP x V)) := fun V hV => by
    rw [hx]
    exact letterX_any a0 a1 a2 b0 b1 b2 G n c z bo m V (h.down hV) (hW.down hV).max
  obtain ⟨s, hs⟩ : ∃ s, s = stBx cs := ⟨_, rfl⟩
  have hg := stBx_good cs
  rw [← hs] at hg hD
  have HST : Hid (∀ V, Below w.heap.size w V → Calls Tryz.prog 26 #[.slice la cs.length cap] V (StPost s V)) := fun V hV => by
    rw [hs]
    exact state_any la cap cs m V (hl.down hV) hlen (hW.down hV).max
  have hwn := word_name nm.data.toList
  obtain ⟨nw, hnw⟩ : ∃ b : ByteArray, b = addrL nm.data.toList := ⟨_, rfl⟩
  have hnl : nw.data.toList = wordL nm.data.toList := by rw [hnw]; rfl
  have HWD : Hid (∀ V, Calls Tryz.prog 32 #[.string nm] V fun e w' => e = .returned (.string nw) ∧ Below V.heap.size V w') := fun V => by
    rw [hnw]
    exact word_any nm V hnm
  rw [← hnl] at hwn
  have hlen8 : nw.data.toList.length ≤ 100 := by
    rw [hnl]
    have := wordL_le nm.data.toList
    omega
  obtain ⟨nb, hnb⟩ : ∃ nb, nb = nmD (s.boxes.map Bx.name) nw.data.toList := ⟨_, rfl⟩
  obtain ⟨r, hr⟩ : ∃ r, r = allS s [⟨2, 0, 0, nb, [], x.text⟩] := ⟨_, rfl⟩
  have hz : Sc.ruleS [reqC, plainC 5 [nw.data.toList]] = 0 := file_rule hwn
  have hcok := two_ok (plain_ok (.inr (.inl ⟨rfl, nw.data.toList, rfl, hlen8⟩)) : Jd.CmdOk (plainC 5 [nw.data.toList]))
  have HDL : Hid (∀ V vB vS v F F', SAt cBox V F vB s.boxes → SAt cEnt V F vS s.spool → SAt (cCmd 15) V F' v [reqC, plainC 5 [nw.data.toList]] → Below w.heap.size w V → Calls Tryz.prog 27 #[.agg #[vB, vS], .agg (lttC x).toArray, v] V (DelR [⟨2, 0, 0, nb, [], x.text⟩] r V)) := fun V vB vS v F F' hB hS hv hV => by
    rw [hr]
    exact deliver_list s x _ _ _ _ _ _ vB vS v m V F F' hB hS hg (hW.down hV) hok hcok (by show 2 ≤ 100; omega) hz (file_crs x _ _) (oneA_ok (file_act _)) (oneA_end _) (by rw [file_plan, hnb]) hD hv
  have HRC : Hid (∀ V v F', SAt (cCmd 15) V F' v [reqC, plainC 5 [nw.data.toList]] → Below w.heap.size w V → Calls Tryz.prog 33 #[v] V (Sc.RulePost 0 V)) := fun V v F' hv hV => by
    have := Jd.rule_ok _ v F' m V hcok (by show 2 ≤ 100; omega) hv (hW.down hV) V (Below.refl _ _)
    rw [show Sc.ruleS [reqC, plainC 5 [nw.data.toList]] = 0 from hz] at this
    exact this
  have H5 : Hid (r.2 = 0 ∨ r.2 = 5) := by
    unfold Hid
    rw [hr]
    refine allS_five _ s fun e he => ?_
    rw [List.mem_singleton] at he
    subst he
    have hm : nb ∈ s.boxes.map Bx.name := by rw [hnb]; exact nmD_mem hD.inbox _
    exact ⟨append_form 0 nb x.text (by omega) (hD.names _ hm) hD.text, .inr ⟨rfl, hm⟩⟩
  have HFD : Hid (∀ V v a' n' c' F, SAt cBox V F v s.boxes → Calls Tryz.prog 29 #[.agg #[v, .slice a' n' c'], .string nw] V fun e w' => e = .returned (.int .i64 (idx (findB s.boxes nw.data.toList))) ∧ Below V.heap.size V w') := fun V v a' n' c' F hv => by
    have := kfind_any v a' n' c' s.boxes F nw.data.toList V hv (by have := hg.boxes; omega)
    rwa [Array.toArray_toList] at this
  have HNB : Hid ((idx (findB s.boxes nw.data.toList) < 0 ∧ nb = inboxW) ∨ (¬ idx (findB s.boxes nw.data.toList) < 0 ∧ nb = nw.data.toList)) := by
    unfold Hid
    by_cases hi : idx (findB s.boxes nw.data.toList) < 0
    · refine .inl ⟨hi, ?_⟩
      rw [hnb]; unfold nmD; rw [find_code.1 hi]; rfl
    · refine .inr ⟨hi, ?_⟩
      have : (s.boxes.map Bx.name).contains nw.data.toList = true := by
        cases e : (s.boxes.map Bx.name).contains nw.data.toList with
        | true => rfl
        | false => exact absurd (find_code.2 e) hi
      rw [hnb]; unfold nmD; rw [if_pos this]
  have hA1 := ba (Below.refl w.heap.size w) (.cells #[.string a0, .string a1, .string a2, .string b0, .string b1, .string b2, .slice G n c, .string bo] 26)
  have HX1 := Lib.hid (Has.alloc w [.string a0, .string a1, .string a2, .string b0, .string b1, .string b2, .slice G n c, .string bo] 26)
  have HA := Lib.hid hA1
  have HC := Lib.hid (HST.out _ hA1)
  obtain ⟨fi, hfi⟩ : ∃ fi, fi = idx (findB s.boxes nw.data.toList) := ⟨_, rfl⟩
  rw [← hfi] at HFD HNB
  clear hx h hW hok hA1 HST hl hlen hs hg hr hD hwn hnw hnl hlen8 hz hcok hnb hfi hnm
  go_enter Tryz.func11, Tryz.ntmps11
  go_wp2_with fail
  refine HC.out.mono ?_
  rintro e w1 ⟨⟨G1, c1, G2, c2, rfl, h1, h2⟩, hb1⟩
  have hA := ba (Below.refl w1.heap.size w1) (.cells #[.slice G1 s.boxes.length c1, .slice G2 s.spool.length c2] 73)
  obtain ⟨S0, hS0⟩ : ∃ S0, S0 = w1.heap.size := ⟨_, rfl⟩
  obtain ⟨W2, hW2⟩ : ∃ W, W = w1.alloc (.cells #[.slice G1 s.boxes.length c1, .slice G2 s.spool.length c2] 73) := ⟨_, rfl⟩
  have hs2 : Has W2 S0 [.slice G1 s.boxes.length c1, .slice G2 s.spool.length c2] := by rw [hW2, hS0]; exact Has.alloc w1 _ _
  rw [← hW2] at hA
  have HSV := Lib.hid (And.intro hs2 (And.intro (h1.down hA) (h2.down hA)))
  have HB2 := Lib.hid (bt (bt HA.out hb1) hA)
  obtain ⟨p0, p1, p2, p3, p4, p5, p6, p7⟩ := Sc.has_oct' (HX1.out.down (bt hb1 hA))
  have HC2 := Lib.hid (HLT.out _ HB2.out)
  have HWe := Lib.hid hW2; have HSe := Lib.hid hS0
  clear hA hb1 h1 h2 hs2 hS0 hW2 HC HX1 HA HLT
  go_upto_region 2 with fail
  rw [← HWe.out, ← HSe.out]
  clear HWe HSe
  go_wp2_with fail
  refine HC2.out.mono ?_
  rintro e w3 ⟨rfl, hb3⟩
  have hA := ba (Below.refl w3.heap.size w3) (.cells (lttC x).toArray 33)
  have HL := Has.alloc w3 (lttC x) 33
  obtain ⟨L, hLe⟩ : ∃ L, L = w3.heap.size := ⟨_, rfl⟩
  obtain ⟨W4, hW4⟩ : ∃ W, W = w3.alloc (.cells (lttC x).toArray 33) := ⟨_, rfl⟩
  rw [← hW4, ← hLe] at HL
  rw [← hW4] at hA
  have hb := bt hb3 hA
  have HL4 := Lib.hid HL
  have HSV4 := Lib.hid (And.intro (HSV.out.1.down hb) (And.intro (HSV.out.2.1.down hb) (HSV.out.2.2.down hb)))
  have HB4 := Lib.hid (bt HB2.out hb)
  have HWe := Lib.hid hW4; have HLe := Lib.hid hLe
  unfold lttC at HWe HDL ⊢
  clear hA hb hb3 HL hLe hW4 HC2 HSV HB2 p0 p1 p2 p3 p4 p5 p6 p7
  go_upto_region 3 with fail
  rw [← HWe.out, ← HLe.out]
  clear HWe HLe
  go_wp2_with fail
  refine (HWD.out W4).mono ?_
  rintro e w5 ⟨rfl, hb5⟩
  have HL5 := Lib.hid (HL4.out.down hb5)
  have HSV5 := Lib.hid (And.intro (HSV4.out.1.down hb5) (And.intro (HSV4.out.2.1.down hb5) (HSV4.out.2.2.down hb5)))
  have HB5 := Lib.hid (bt HB4.out hb5)
  clear hb5 HL4 HSV4 HB4 HWD
  go_wp2_with fail
  refine (Sc.requires_any w5).mono ?_
  rintro e w6 ⟨N, rfl, hN6, -, hb6⟩
  have hA1 := ba (Below.refl w6.heap.size w6) (.cells #[.string nw] 9)
  have hA := Has.alloc w6 [.string nw] 9
  have hN7 := hN6.down hA1
  obtain ⟨A0, hA0⟩ : ∃ A0, A0 = w6.heap.size := ⟨_, rfl⟩
  obtain ⟨W7, hW7⟩ : ∃ W, W = w6.alloc (.cells #[.string nw] 9) := ⟨_, rfl⟩
  rw [← hW7, ← hA0] at hA
  rw [← hW7] at hN7 hA1
  have hs8 := two_lit (k := 5) hN7 hA
  have hA2 := ba (Below.refl W7.heap.size W7) (.cells (reqV N ++ ([.int .i64 5, .slice (some ⟨A0, 0, none⟩) 1 1, .int .i64 0, .int .i64 0, .int .i64 0, .slice none 0 0, .slice none 0 0, .bool false, .int .i64 0, .slice none 0 0, .slice none 0 0, .slice none 0 0] : List Value)).toArray 50)
  obtain ⟨K0, hK0⟩ : ∃ K0, K0 = W7.heap.size := ⟨_, rfl⟩
  obtain ⟨W8, hW8⟩ : ∃ W, W = W7.alloc (.cells (reqV N ++ ([.int .i64 5, .slice (some ⟨A0, 0, none⟩) 1 1, .int .i64 0, .int .i64 0, .int .i64 0, .slice none 0 0, .slice none 0 0, .bool false, .int .i64 0, .slice none 0 0, .slice none 0 0, .slice none 0 0] : List Value)).toArray 50) := ⟨_, rfl⟩
  rw [← hW8, ← hK0] at hs8
  rw [← hW8] at hA2
  have hb8 := bt (bt hb6 hA1) hA2
  have HCS := Lib.hid hs8
  have HL8 := Lib.hid (HL5.out.down hb8)
  have HSV8 := Lib.hid (And.intro (HSV5.out.1.down hb8) (And.intro (HSV5.out.2.1.down hb8) (HSV5.out.2.2.down hb8)))
  have HB8 := Lib.hid (bt HB5.out hb8)
  have hKA : K0 = A0 + 1 := by rw [hK0, hW7, World.size_alloc, hA0]
  have HWe7 := Lib.hid hW7; have HAe := Lib.hid hA0; have HWe8 := Lib.hid hW8; have HKe := Lib.hid hKA
  unfold reqV at HWe8 ⊢
  clear hb6 hN6 hA1 hA hN7 hA0 hW7 hs8 hA2 hK0 hKA hW8 hb8 HL5 HSV5 HB5
  go_upto_region 5 with fail
  rw [← HWe7.out, ← HAe.out]
  have hW8' := HWe8.out
  simp only [List.cons_append, List.nil_append] at hW8'
  rw [← hW8', ← HKe.out]
  clear HWe7 HAe HWe8 HKe hW8'
  obtain ⟨l0, l1, l2, l3, l4⟩ := ltt_get HL8.out
  obtain ⟨s0, s1, -, -⟩ := HSV8.out.1.two
  have HC3 := Lib.hid (HDL.out W8 _ _ _ _ _ HSV8.out.2.1 HSV8.out.2.2 HCS.out HB8.out)
  go_wp2_with fail
  refine HC3.out.mono ?_
  rintro e w9 ⟨Go, no, co, H1, n1, d1, H2, n2, d2, rfl, hgood, hbad, hb9⟩
  have hA := ba (Below.refl w9.heap.size w9) (.cells #[.slice H1 n1 d1, .slice H2 n2 d2] 73)
  obtain ⟨W10, hW10⟩ : ∃ W, W = w9.alloc (.cells #[.slice H1 n1 d1, .slice H2 n2 d2] 73) := ⟨_, rfl⟩
  rw [← hW10] at hA
  have hb := bt hb9 hA
  have HGD := Lib.hid (fun h0 => And.intro (hgood h0).1 ((hgood h0).2.1.down hA))
  have HSV10 := Lib.hid (And.intro (HSV8.out.1.down hb) (HSV8.out.2.1.down hb))
  have HCS10 := Lib.hid (HCS.out.down hb)
  have HB10 := Lib.hid (bt HB8.out hb)
  have HWe := Lib.hid hW10
  clear hA hb hb9 hgood hbad hW10 HC3 HL8 HSV8 HB8 HDL HCS l0 l1 l2 l3 l4 s0 s1
  go_upto_region 6 with fail
  rw [← HWe.out]
  clear HWe
  obtain ⟨s0, s1, -, -⟩ := HSV10.out.1.two
  have HC4 := Lib.hid (HFD.out W10 _ (G2) (s.spool.length) (c2) _ HSV10.out.2)
  go_wp2_with fail
  refine HC4.out.mono ?_
  rintro e w11 ⟨rfl, hb11⟩
  have HG11 := Lib.hid (fun h0 => And.intro (HGD.out h0).1 ((HGD.out h0).2.down hb11))
  have HCS11 := Lib.hid (HCS10.out.down hb11)
  have HB11 := Lib.hid (bt HB10.out hb11)
  have HC5 := Lib.hid (HRC.out w11 _ _ HCS11.out HB11.out)
  clear hb11 HC4 HFD HGD HSV10 HCS10 HB10 HRC s0 s1
  rcases H5.out with h0 | h5
  · obtain ⟨hno, hout⟩ := HG11.out h0
    have hno1 : no = 1 := hno
    subst hno1
    obtain ⟨g, off, vs, rfl, -, hgl, hr, hc⟩ := hout.get 0 (by show 0 < 1; omega)
    obtain rfl : vs = entC ⟨2, 0, 0, nb, [], x.text⟩ := hr
    have c0 : w11.cell? ⟨g, off, none⟩ = some (.int .i64 2) := by have := hc 0 _ rfl; simpa using this
    have c1 : w11.cell? ⟨g, off + 1, none⟩ = some (.string ⟨nb.toArray⟩) := by have := hc 1 _ rfl; simpa using this
    rw [h0]
    clear hno hout hgl hc HG11 H5 h0
    rcases HNB.out with ⟨hi, hn⟩ | ⟨hi, hn⟩
    · have hq : decide (fi < 0) = true := decide_eq_true (by omega)
      have c1' : w11.cell? ⟨g, off + 1, none⟩ = some (.string ⟨#[73, 78, 66, 79, 88]⟩) := by rw [c1, hn]; rfl
      clear HNB hn c1
      go_wp2_with fail
      refine HC5.out.mono ?_
      rintro e w12 ⟨rfl, hb12⟩
      have HB12 := Lib.hid (bt HB11.out hb12)
      clear hb12 HC5
      go_wp2_with fail
      go_ret
      exact ⟨rfl, HB12.out⟩
    · have hq : decide (fi < 0) = false := decide_eq_false (by omega)
      have c1' : w11.cell? ⟨g, off + 1, none⟩ = some (.string nw) := by rw [c1, hn, Array.toArray_toList]
      clear HNB hn c1
      go_wp2_with fail
      refine HC5.out.mono ?_
      rintro e w12 ⟨rfl, hb12⟩
      have HB12 := Lib.hid (bt HB11.out hb12)
      clear hb12 HC5
      go_wp2_with fail
      go_ret
      exact ⟨rfl, HB12.out⟩
  · rw [h5]
    clear HG11 H5 h5
    rcases HNB.out with ⟨hi, hn⟩ | ⟨hi, hn⟩
    · have hq : decide (fi < 0) = true := decide_eq_true (by omega)
      clear HNB hn
      go_wp2_with fail
      go_ret
      exact ⟨rfl, HB11.out⟩
    · have hq : decide (fi < 0) = false := decide_eq_false (by omega)
      clear HNB hn
      go_wp2_with fail
      go_ret
      exact ⟨rfl, HB11.out⟩
theorem deliverNew_walk (la : Option Addr) (cap : Nat) (cs : List Raw) (a0 a1 a2 b0 b1 b2 : ByteArray) (G : Option Addr) (n c : Nat) (z : Nat → Nat → ByteArray) (bo nm : ByteArray) (mx : Int) (W : World)
    (hl : RawsAt W la cs) (hlen : cs.length ≤ 9223372036854775807) (h0 : a0.size ≤ maxLen) (h1 : a1.size ≤ maxLen) (_h2 : a2.size ≤ maxLen) (j0 : b0.size ≤ maxLen) (j1 : b1.size ≤ maxLen) (_j2 : b2.size ≤ maxLen) (hx : StrRows W G n 2 z ∧ n ≤ maxLen) (hbo : bo.size ≤ maxLen) (hnm : nm.size ≤ maxLen)
    (hT : Sc.Tabs W W.heap.size) (hE : Sc.ExtAt W ∧ 0 < W.heap.size) (hN : NamesAt W ∧ 2 < W.heap.size) (hmx : W.cell? ⟨6, 0, none⟩ = some (.int .i64 mx)) :
    Calls Tryz.prog 11 #[.slice la cs.length cap, .agg #[.string a0, .string a1, .string a2, .string b0, .string b1, .string b2, .slice G n c, .string bo], .string nm] W fun e w' => e = .returned (.bool true) ∧ Below W.heap.size W w' :=
  deliverNew_any la cap cs a0 a1 a2 b0 b1 b2 G n c z bo nm mx W hl hlen ⟨h0, h1, j0, j1, hx, hbo⟩ hnm ⟨hT, hE, hN, hmx⟩
end Go.Proofs.YtpfbkdbblpppdaaGreatDoor.Dv
