/-
  DERIVED. Of: DeliverReject.
-/
import Derived.Test.YtpfbkdbblpppdaaGreatDoorDDvScr
import Derived.Test.YtpfbkdbblpppdaaGreatDoorProg
import Derived.Test.YtpfbkdbblpppdaaGreatDoorShelf
import Derived.Test.YtpfbkdbblpppdaaGreatDoorRows
import Derived.Deep.DeepCutAuto
import Derived.Deep.RegionHeld3
import Derived.Deep.RegionLaw
import Derived.Deep.AppendLies
import Derived.Lib.IndexMore
import Derived.Deep.QuietTactic
import Derived.BigQuiet
import Derived.WalkKit
import Derived.WalkLawsBesides
import Derived.WalkSpells
import Derived.Outline
import Derived.LoopTactic
import Derived.Lib.Hide
import Derived.Deep.CutBlock
import Derived.Tactics
import Derived.Tactics2
import Derived.Defers
import Derived.Recover
import Derived.BigRegion
import Derived.StillTailTactics
import Derived.Lib.BufferOwn
import Derived.Lib.HexFns2
import Derived.Handy
import Derived.Lib.IndexLaws
import Derived.Lib.SplitLaws
import Derived.Maps.AppendAt
import Derived.Lib.ConvBytes
import Derived.Laws.EntriesVeiled
import Derived.Lib.Index
import Derived.Lib.AtoiAll
import Derived.Lib.ItoaNum
import Derived.Lib.SlTrimSet
import Derived.Lib.IndexBytes
import Derived.RangeFuncNested
import Derived.RangeFuncBound
import Derived.RangeFuncCalls
import Derived.RangeFuncLeaves
import Derived.RangeFuncBox
import Derived.Shelf.Abstract
import Derived.OwnWalkIn
import Derived.TacticsInMore
import Derived.LoopNIn
import Derived.LoopIn
import Derived.RegionIn
import Derived.BigRegionIn
import Derived.RegionTactic
import Derived.ChangeAlike
import Derived.OwnWalk
import Derived.Lib.Strings
import Derived.Lib.UnsafeStr
import Derived.Lib.Builder
import Derived.Lib.AppendStr
import Derived.Laws.Externs
import Derived.IntWalk
import Derived.Maps.Own
import Derived.Maps.OwnSet
import Derived.StringKeys
import Derived.Deep.Slices
import Derived.Deep.Fields
import Derived.ChangeSame
import Derived.SizedLaws
import Derived.Lib.SmallJoins
import Derived.OpenShut
import Derived.HandedShaped
import Derived.Handed
import Derived.Shelf.Vars
import Derived.Lay
import Derived.MakeChecks
import Derived.Lib.LaidU8
import Derived.ProofKit
import Derived.Shelf.Strings.SlTrimAscii
import Derived.Lib.SliceRun
import Derived.Laws.IdiomCopy
import Derived.Laws.StructEq
import Derived.Deep.Cut
set_option linter.unusedVariables false
set_option linter.unusedSimpArgs false
namespace Go.Proofs.YtpfbkdbblpppdaaGreatDoor.Dv
open Go.RowKit
open Sc (Str cStr strC RW cCmd Cmd reqC reqV strs)
open Jd (Ltt partL lttC keepA endJ cmdsJ C0 LetOK LetterP ltrX ltrX_ok letterX_any PostIn ltt_get)

theorem gB {α : Type} {l : List α} {i : Nat} {o : α} (h : l[i]? = some o) : l.toArray[i]? = some o := by rw [List.getElem?_toArray]; exact h
theorem tkH {P : Program} {md : Region.Mode} {ops : Array Oper} {Q : Exit → Act → World → Prop} {S : World → Prop} (i : Nat) {oi : Oper} {v : Value} {fuel : Nat} {listed : Array Bool} {a : Act} {w : World} (hi : ops[i]? = some oi)
 (hy : ∀ w, S w → (execOp a.eval oi).run P w = .ok (.value v) w) (h : wpAnyH P md ops Q S fuel (listed.setIfInBounds i true) (a.put oi.dst v) w)
 (hs : Region.noSelect ops = true := by kernel_rfl) (hf : Region.free md ops listed i = true := by kernel_rfl) (hr : (Region.ready md ops listed).contains i = true := by kernel_rfl) (hQ : ∀ c a w, Q (.panic c) (a.put oi.dst v) w → Q (.panic c) a w := by exact fun _ _ _ h => h)
 (hw : Region.wanted oi (yielded ops a.tmps) = true := by rfl) (hS : S w := by assumption) : wpAnyH P md ops Q S (fuel + 1) listed a w := wpAnyH_take hi hs hf hr hQ (Or.inl ⟨hw, hy⟩) hS h
theorem hTo {P : Program} {md : Region.Mode} {ops : Array Oper} {Q : Exit → Act → World → Prop} {B : World} {fuel : Nat} {listed : Array Bool} {a : Act} {w : World} (R : World → Prop) (hR : R w) (hS : ∀ V, R V → Below B.heap.size B V) (h : ∀ V, R V → Below B.heap.size B V → wpAnyH P md ops Q (fun X => Below B.heap.size B X) fuel listed a V) : wpAnyH P md ops Q (fun X => Below B.heap.size B X) fuel listed a w :=
 heldTo R (fun X => Below B.heap.size B X) hR hS (fun _ h => h) h
theorem rdH {P : Program} {md : Region.Mode} {ops : Array Oper} {Q : Exit → Act → World → Prop} {S : World → Prop} (rs : List Nat) {fuel : Nat} {listed : Array Bool} {a : Act} {w : World} (h : AllReadyH P md ops Q S fuel listed a w rs) (hr : Region.ready md ops listed = rs := by kernel_rfl) (hne : rs ≠ [] := by simp) : wpAnyH P md ops Q S (fuel + 1) listed a w := wpAnyH_ready hr hne h
abbrev RC (t : ByteArray) : List Cmd := List.cons reqC [plainC 7 [t.data.toList]]
theorem spool_all (s : St) (e : Ent) (hf : formV e = 0) (hk : e.kind = 6) : (s.spool.length = 20 ∧ (allS s [e]).2 = 5) ∨ (s.spool.length ≠ 20 ∧ (allS s [e]).2 = 0 ∧ (allS s [e]).1 = ⟨s.boxes, s.spool ++ [e]⟩) := by
 have ha : applyS s e = if s.spool.length = 20 then (s, 5) else (⟨s.boxes, s.spool ++ [e]⟩, 0) := by unfold applyS; rw [if_pos hk]
 rw [allS_one s e hf, ha]
 by_cases h : s.spool.length = 20
 ·
  rw [if_pos h]; exact .inl ⟨h, rfl⟩
 ·
  rw [if_neg h]; exact .inr ⟨h, rfl, rfl⟩
set_option maxHeartbeats 8000000 in
set_option maxRecDepth 20000 in
theorem deliverReject_walk (la : Option Addr) (cap : Nat) (cs : List Raw) (a0 a1 a2 b0 b1 b2 : ByteArray) (G : Option Addr) (n c : Nat) (z : Nat → Nat → ByteArray) (bo why : ByteArray) (m : Int) (w : World)
  (hl : RawsAt w la cs) (hlen : cs.length ≤ 9223372036854775807) (h0 : a0.size ≤ maxLen) (h1 : a1.size ≤ maxLen) (_h2 : a2.size ≤ maxLen) (j0 : b0.size ≤ maxLen) (j1 : b1.size ≤ maxLen) (_j2 : b2.size ≤ maxLen) (hx : StrRows w G n 2 z ∧ n ≤ maxLen) (hbo : bo.size ≤ maxLen) (hwy : why.size ≤ maxLen)
  (hT : Sc.Tabs w w.heap.size) (hE : Sc.ExtAt w ∧ 0 < w.heap.size) (hN : NamesAt w ∧ 2 < w.heap.size) (hmx : w.cell? ⟨6, 0, none⟩ = some (.int .i64 m)) :
  Calls Tryz.prog 12 #[.slice la cs.length cap, .agg #[.string a0, .string a1, .string a2, .string b0, .string b1, .string b2, .slice G n c, .string bo], .string why] w fun e w' => e = .returned (.bool true) ∧ Below w.heap.size w w' := by
 have h : PostIn w a0 a1 a2 b0 b1 b2 G n c z bo := ⟨h0, h1, j0, j1, hx, hbo⟩
 have hW : RW w m := ⟨hT, hE, hN, hmx⟩
 clear h0 h1 _h2 j0 j1 _j2 hx hbo hT hE hN hmx
 have hD := ltr_ok a0 a1 b0 b1 z n bo cs
 obtain ⟨x, hx⟩ : ∃ x, x = ltrX a0 a1 b0 b1 z n bo := ⟨_, rfl⟩
 have hok := ltrX_ok a0 a1 b0 b1 z n bo
 rw [← hx] at hok hD
 have HLT : Hid (∀ V, Below w.heap.size w V → Calls Tryz.prog 14 #[.agg #[.string a0, .string a1, .string a2, .string b0, .string b1, .string b2, .slice G n c, .string bo]] V (LetterP x V)) := fun V hV => by
  rw [hx]
  exact letterX_any a0 a1 a2 b0 b1 b2 G n c z bo m V (h.down hV) (hW.down hV).max
 obtain ⟨s, hs⟩ : ∃ s, s = stBx cs := ⟨_, rfl⟩
 have hg := stBx_good cs
 rw [← hs] at hg hD
 have HST : Hid (∀ V, Below w.heap.size w V → Calls Tryz.prog 26 #[.slice la cs.length cap] V (StPost s V)) := fun V hV => by
  rw [hs]
  exact state_any la cap cs m V (hl.down hV) hlen (hW.down hV).max
 obtain ⟨tx, htx⟩ : ∃ b : ByteArray, b = ⟨(why.data.toList.take 12).toArray⟩ := ⟨_, rfl⟩
 have HSHT : Hid (∀ V, Calls Tryz.prog 18 #[.string why] V fun e w' => e = .returned (.string tx) ∧ V = w') := fun V => by
  have := Sc.short_any why.data.toList V (by rw [Array.length_toList]; exact hwy)
  rw [Array.toArray_toList] at this
  rw [htx]; exact this
 have hl12 : tx.data.toList.length ≤ 12 := by rw [htx]; simp [List.length_take]; omega
 obtain ⟨fr, hfr⟩ : ∃ b : ByteArray, b = ⟨(partL 1 x.fa x.fd).toArray⟩ := ⟨_, rfl⟩
 have hxl : x.fa.length ≤ 1000000 ∧ x.fd.length ≤ 1000000 := by have := hok.ltt; exact this.1
 have HPT : Hid (∀ V, Below w.heap.size w V → Calls Tryz.prog 34 #[.int .i64 1, .agg #[.string ⟨x.fa.toArray⟩, .string ⟨x.fd.toArray⟩]] V fun e w' => e = .returned (.tuple #[.string fr, .int .i64 0]) ∧ Below V.heap.size V w') := fun V hV => by
  have := part_any 1 ⟨x.fa.toArray⟩ ⟨x.fd.toArray⟩ m V (by show x.fa.toArray.size ≤ _; rw [List.size_toArray]; exact hxl.1) (by show x.fd.toArray.size ≤ _; rw [List.size_toArray]; exact hxl.2) (hW.down hV).max
  rw [Jd.part_str] at this
  have e2 : (partV 1 ⟨x.fa.toArray⟩ ⟨x.fd.toArray⟩).2 = 0 := by
   unfold partV
   rw [if_neg (by rw [show chk (⟨x.fa.toArray⟩ : ByteArray).data.toList (⟨x.fd.toArray⟩ : ByteArray).data.toList = chk x.fa x.fd from by simp, hok.from_]; decide), if_pos rfl]
  rw [e2] at this
  rw [hfr]; exact this
 obtain ⟨e0, he0⟩ : ∃ e : Ent, e = ⟨6, 0, 0, [], partL 1 x.fa x.fd, tx.data.toList⟩ := ⟨_, rfl⟩
 have hef : formV e0 = 0 := by rw [he0]; exact spool_form _ _ hD.one hD.len (by omega)
 obtain ⟨r, hr⟩ : ∃ r, r = allS s [e0] := ⟨_, rfl⟩
 have hr2 := spool_all s e0 hef (by rw [he0])
 rw [← hr] at hr2
 have hcok := two_ok (plain_ok (.inr (.inr (.inr ⟨rfl, tx.data.toList, rfl, by omega⟩))) : Jd.CmdOk (plainC 7 [tx.data.toList]))
 obtain ⟨out, hout⟩ : ∃ out, out = [e0] := ⟨_, rfl⟩
 have HDL : Hid (∀ V vB vS v F F', SAt cBox V F vB s.boxes → SAt cEnt V F vS s.spool → SAt (cCmd 15) V F' v (RC tx) → Below w.heap.size w V → Calls Tryz.prog 27 #[.agg #[vB, vS], .agg (lttC x).toArray, v] V (DelR out r V)) := fun V vB vS v F F' hB hS hv hV => by
  rw [hr, hout]
  exact deliver_list s x _ _ _ _ _ _ vB vS v m V F F' hB hS hg (hW.down hV) hok hcok (by show 2 ≤ 100; omega) (rej_rule _) (rej_crs x _ _) (oneA_ok (rej_act (by omega))) (oneA_end _) (by rw [rej_plan, he0]) hD hv
 obtain ⟨ns, hns⟩ : ∃ ns, ns = s.spool.length := ⟨_, rfl⟩
 rw [← hns] at hr2
 have HR2 := Lib.hid hr2
 have HNS := Lib.hid hns
 have HN20 : Hid (ns ≤ 20) := by unfold Hid; rw [hns]; exact hg.spool
 have HOUT : Hid (out = [e0]) := hout
 have HE0 : Hid (entC e0 = [.int .i64 6, .string ⟨#[]⟩, .int .i64 0, .int .i64 0, .string fr, .string tx]) := by
  unfold Hid
  rw [he0, hfr]
  show [Value.int .i64 6, .string ⟨#[]⟩, .int .i64 0, .int .i64 0, .string ⟨(partL 1 x.fa x.fd).toArray⟩, .string ⟨tx.data.toList.toArray⟩] = _
  rw [Array.toArray_toList]
 have HSM : Hid (∀ V v1 u1 v2 u2 F1 F2, SAt cBox V F1 v1 s.boxes → SAt cEnt V F1 u1 s.spool → SAt cBox V F2 v2 s.boxes → SAt cEnt V F2 u2 s.spool → Calls Tryz.prog 30 #[.agg #[v1, u1], .agg #[v2, u2]] V fun e w' => e = .returned (.bool true) ∧ Below V.heap.size V w') := fun V v1 u1 v2 u2 F1 F2 k1 k2 k3 k4 =>
  same_any s v1 u1 v2 u2 F1 F2 V k1 k2 k3 k4 (by have := hg.boxes; omega) (by have := hg.spool; omega) (fun b hb => by have := (hg.ok b hb).2.2.2.1; omega)
 have hA1 := ba (Below.refl w.heap.size w) (.cells #[.string a0, .string a1, .string a2, .string b0, .string b1, .string b2, .slice G n c, .string bo] 26)
 have HX1 := Lib.hid (Has.alloc w [.string a0, .string a1, .string a2, .string b0, .string b1, .string b2, .slice G n c, .string bo] 26)
 have HA := Lib.hid hA1
 have HC := Lib.hid (HST.out _ hA1)
 clear hx h hW hok hA1 HST hl hlen hs hg hr hD htx hl12 hfr hxl he0 hef hr2 hcok hout hns hwy
 go_enter Tryz.func12, Tryz.ntmps12
 go_wp2_with fail
 refine HC.out.mono ?_
 rintro e w1 ⟨⟨G1, c1, G2, c2, rfl, h1, h2⟩, hb1⟩
 rw [← HNS.out] at h2 ⊢
 have hA := ba (Below.refl w1.heap.size w1) (.cells #[.slice G1 s.boxes.length c1, .slice G2 ns c2] 73)
 obtain ⟨S0, hS0⟩ : ∃ S0, S0 = w1.heap.size := ⟨_, rfl⟩
 obtain ⟨W2, hW2⟩ : ∃ W, W = w1.alloc (.cells #[.slice G1 s.boxes.length c1, .slice G2 ns c2] 73) := ⟨_, rfl⟩
 have hs2 : Has W2 S0 [.slice G1 s.boxes.length c1, .slice G2 ns c2] := by rw [hW2, hS0]; exact Has.alloc w1 _ _
 rw [← hW2] at hA
 have HSV := Lib.hid (And.intro hs2 (And.intro (h1.down hA) (h2.down hA)))
 have HB2 := Lib.hid (bt (bt HA.out hb1) hA)
 obtain ⟨p0, p1, p2, p3, p4, p5, p6, p7⟩ := Sc.has_oct' (HX1.out.down (bt hb1 hA))
 have HC2 := Lib.hid (HLT.out _ HB2.out)
 have HWe := Lib.hid hW2; have HSe := Lib.hid hS0
 clear hA hb1 h1 h2 hs2 hS0 hW2 HC HX1 HA HLT
 go_upto_region 2 with fail
 rw [← HWe.out, ← HSe.out]
 clear HWe HSe
 go_wp2_with fail
 refine HC2.out.mono ?_
 rintro e w3 ⟨rfl, hb3⟩
 have hA := ba (Below.refl w3.heap.size w3) (.cells (lttC x).toArray 33)
 have HL := Has.alloc w3 (lttC x) 33
 obtain ⟨L, hLe⟩ : ∃ L, L = w3.heap.size := ⟨_, rfl⟩
 obtain ⟨W3, hW3⟩ : ∃ W, W = w3.alloc (.cells (lttC x).toArray 33) := ⟨_, rfl⟩
 rw [← hW3, ← hLe] at HL
 rw [← hW3] at hA
 have hb := bt hb3 hA
 have HL3 := Lib.hid HL
 have HSV3 := Lib.hid (And.intro (HSV.out.1.down hb) (And.intro (HSV.out.2.1.down hb) (HSV.out.2.2.down hb)))
 have HB3 := Lib.hid (bt HB2.out hb)
 have HWe := Lib.hid hW3; have HLe := Lib.hid hLe
 unfold lttC at HWe HDL ⊢
 clear hA hb hb3 HL hLe hW3 HC2 HSV HB2 p0 p1 p2 p3 p4 p5 p6 p7
 go_upto_region 3 with fail
 rw [← HWe.out, ← HLe.out]
 clear HWe HLe
 go_wp2_with fail
 refine (HSHT.out W3).mono ?_
 rintro e W4 ⟨rfl, rfl⟩
 have HL4 := HL3; have HSV4 := HSV3; have HB4 := HB3
 clear HL3 HSV3 HB3 HSHT
 go_upto_region 4 with fail
 go_cut [11, 12, 13] (fun vo vt ve wx => ∃ (Tb : Nat) (Go : Option Addr) (no co : Nat) (H1 : Option Addr) (n1 d1 : Nat) (H2 : Option Addr) (n2 d2 : Nat), vo = .slice Go no co ∧ vt = .pointer (some ⟨Tb, 0, none⟩) ∧ ve = .int .i64 r.2 ∧ Has wx Tb [.slice H1 n1 d1, .slice H2 n2 d2] ∧ W3.heap.size ≤ Tb ∧ DelM out r (fun b => b ≠ Tb) wx Go no co H1 n1 d1 H2 n2 d2 ∧ Below W3.heap.size W3 wx)
 case first =>
  clear HSM HPT HR2 HNS HOUT HE0
  have hd := Below.drew (Below.refl W3.heap.size W3)
  refine wp_region_noPanic ?_
  refine wp_region_held_drew (S := fun wx => Below W3.heap.size W3 wx) (by kernel_rfl) hd (fun hHeld => ?_)
  refine hTo (B := W3) (fun X => Below W3.heap.size W3 X) hd (fun X h => h) (fun V0 hR hHeld => ?_)
  clear hR
  refine tkH 0 (v := ?_) (gB rfl) ?_ ?_
  rotate_left 1
  ·
   intro w' hSw; obtain ⟨s0, s1, -, -⟩ := (HSV4.out.1.down hSw).two; (go_simp) <;> with_reducible rfl
  refine tkH 1 (v := ?_) (gB rfl) ?_ ?_
  rotate_left 1
  ·
   intro w' hSw; obtain ⟨l0, l1, l2, l3, l4⟩ := ltt_get (HL4.out.down hSw); (go_simp) <;> with_reducible rfl
  refine tkH 3 (v := ?_) (gB rfl) ?_ ?_
  rotate_left 1
  ·
   intro w' hSw; (go_simp) <;> with_reducible rfl
  try simp only [Act.put, List.setIfInBounds_toArray, List.set_cons_zero, List.set_cons_succ]
  refine rdH [2, 4, 12] ?_
  refine AllReadyH.cons (gB rfl) (fun K hK => ?_) ?_
  ·
   go_simp
   go_at_call 21
   refine (Sc.requires_any _).mono ?_
   rintro e w6 ⟨N, rfl, hN6, -, hb6⟩
   unfold reqV
   try (go_wp2_with fail)
   refine hK.out _ _ (bt hHeld hb6) (fun hHeld => ?_)
   clear hK K
   try simp only [Act.put, List.setIfInBounds_toArray, List.set_cons_zero, List.set_cons_succ]
   refine hTo (B := W3) (fun V1 => (Below W3.heap.size W3 V1) ∧ (Has V1 N (strs reqC.texts))) ⟨hHeld, hN6⟩ (fun V1 h => h.1) (fun V1 hR hHeld => ?_)
   clear hb6 hN6
   obtain ⟨-, hN⟩ := hR
   refine rdH [4, 12] ?_
   refine AllReadyH.cons (gB rfl) (fun K hK => ?_) ?_
   ·
    go_simp
    refine hK.out _ _ (ba hHeld _) (fun hHeld => ?_)
    clear hK K
    refine hTo (B := W3) (fun V2 => (Below W3.heap.size W3 V2) ∧ (Has V2 N (strs reqC.texts)) ∧ (Has V2 V1.heap.size [.string tx])) ⟨hHeld, hN.down (ba (Below.refl _ _) _), Has.alloc V1 _ _⟩ (fun V2 h => h.1) (fun V2 hR hHeld => ?_)
    clear hN
    obtain ⟨-, hN, hA⟩ := hR
    generalize V1.heap.size = A0 at hA ⊢
    refine tkH 5 (v := ?_) (gB rfl) ?_ ?_
    rotate_left 1
    ·
     intro w' hSw; (go_simp) <;> with_reducible rfl
    try simp only [Act.put, List.setIfInBounds_toArray, List.set_cons_zero, List.set_cons_succ]
    refine rdH [6, 12] ?_
    refine AllReadyH.cons (gB rfl) (fun K hK => ?_) ?_
    ·
     go_simp
     refine hK.out _ _ (ba hHeld _) (fun hHeld => ?_)
     clear hK K
     try simp only [Act.put, List.setIfInBounds_toArray, List.set_cons_zero, List.set_cons_succ]
     refine hTo (B := W3) (fun V3 => (Below W3.heap.size W3 V3) ∧ (SAt (cCmd 15) V3 (fun _ => True) (.slice (some ⟨V2.heap.size, 0, none⟩) 2 2) (RC tx))) ⟨hHeld, two_lit hN hA⟩ (fun V3 h => h.1) (fun V3 hR hHeld => ?_)
     clear hA hN
     obtain ⟨-, hs⟩ := hR
     generalize V2.heap.size = K1 at hs ⊢
     refine rdH [7, 12] ?_
     refine AllReadyH.cons (gB rfl) (fun K hK => ?_) ?_
     ·
      go_simp
      go_at_call 27
      refine (HDL.out _ _ _ _ _ _ (HSV4.out.2.1.down hHeld) (HSV4.out.2.2.down hHeld) hs (bt HB4.out hHeld)).mono ?_
      rintro e w7 ⟨Go, no, co, H1, n1, d1, H2, n2, d2, rfl, hgood, hbad, hb7⟩
      try (go_wp2_with fail)
      refine hK.out _ _ (bt hHeld hb7) (fun hHeld => ?_)
      clear hK K
      refine hTo (B := W3) (fun V4 => (Below W3.heap.size W3 V4) ∧ (DelM out r (fun _ => True) V4 Go no co H1 n1 d1 H2 n2 d2)) ⟨hHeld, DelM.mono (DelM.of hgood hbad) (fun _ _ => trivial)⟩ (fun V4 h => h.1) (fun V4 hR hHeld => ?_)
      clear hb7 hbad hgood hs
      obtain ⟨-, hD⟩ := hR
      refine tkH 8 (v := ?_) (gB rfl) ?_ ?_
      rotate_left 1
      ·
       intro w' hSw; (go_simp) <;> with_reducible rfl
      refine tkH 9 (v := ?_) (gB rfl) ?_ ?_
      rotate_left 1
      ·
       intro w' hSw; (go_simp) <;> with_reducible rfl
      refine tkH 10 (v := ?_) (gB rfl) ?_ ?_
      rotate_left 1
      ·
       intro w' hSw; (go_simp) <;> with_reducible rfl
      refine tkH 11 (v := ?_) (gB rfl) ?_ ?_
      rotate_left 1
      ·
       intro w' hSw; (go_simp) <;> with_reducible rfl
      try simp only [Act.put, List.setIfInBounds_toArray, List.set_cons_zero, List.set_cons_succ]
      refine rdH [12] ?_
      refine AllReadyH.cons (gB rfl) (fun K hK => ?_) ?_
      ·
       go_simp
       have hHeld0 := hHeld
       refine hK.out _ _ (ba hHeld _) (fun hHeld => ?_)
       clear hK K
       have hKW : W3.heap.size ≤ V4.heap.size := hHeld0.size
       refine hTo (B := W3) (fun V5 => (Below W3.heap.size W3 V5) ∧ (DelM out r (fun b => b ≠ V4.heap.size) V5 Go no co H1 n1 d1 H2 n2 d2) ∧ (Has V5 V4.heap.size [.slice none 0 0, .slice none 0 0])) ⟨hHeld, ((DelM.bd hD).mono (fun b hb => Nat.ne_of_lt hb.2)).down (ba (Below.refl _ _) _), Has.alloc V4 _ _⟩ (fun V5 h => h.1) (fun V5 hR hHeld => ?_)
       clear hD hHeld0
       obtain ⟨-, hD, hC⟩ := hR
       generalize V4.heap.size = Tb at hC hKW hD ⊢
       refine tkH 13 (v := ?_) (gB rfl) ?_ ?_
       rotate_left 1
       ·
        intro w' hSw; (go_simp) <;> with_reducible rfl
       try simp only [Act.put, List.setIfInBounds_toArray, List.set_cons_zero, List.set_cons_succ]
       refine rdH [14] ?_
       refine AllReadyH.cons (gB rfl) (fun K hK => ?_) ?_
       ·
        obtain ⟨e0, e1, f0, f1⟩ := hC.two
        go_simp
        refine hK.out _ _ (Below.setCell (Below.setCell hHeld hKW _) hKW _) (fun hHeld => ?_)
        clear hK K
        refine tkH 15 (v := ?_) (gB rfl) ?_ ?_
        rotate_left 1
        ·
         intro w' hSw; (go_simp) <;> with_reducible rfl
        try simp only [Act.put, List.setIfInBounds_toArray, List.set_cons_zero, List.set_cons_succ]
        refine wpAnyH_done (by kernel_rfl) ?_ _
        refine NoPanic.normal ?_
        go_wp2_with fail
        go_meet
        case rel => exact ⟨Tb, Go, no, co, H1, n1, d1, H2, n2, d2, rfl, rfl, rfl, (hC.set' (i := 0) _ (by simp)).set' (i := 1) _ (by simp), hKW, hD.put, hHeld⟩
       exact AllReadyH.nil
      exact AllReadyH.nil
     refine AllReadyH.cons (gB rfl) (fun K hK => ?_) ?_
     ·
      go_simp
      have hHeld0 := hHeld
      refine hK.out _ _ (ba hHeld _) (fun hHeld => ?_)
      clear hK K
      try simp only [Act.put, List.setIfInBounds_toArray, List.set_cons_zero, List.set_cons_succ]
      have hKW : W3.heap.size ≤ V3.heap.size := hHeld0.size
      refine hTo (B := W3) (fun V4 => (Below W3.heap.size W3 V4) ∧ (SAt (cCmd 15) V4 (fun _ => True) (.slice (some ⟨K1, 0, none⟩) 2 2) (RC tx)) ∧ (Has V4 V3.heap.size [.slice none 0 0, .slice none 0 0])) ⟨hHeld, hs.down (ba (Below.refl _ _) _), Has.alloc V3 _ _⟩ (fun V4 h => h.1) (fun V4 hR hHeld => ?_)
      clear hs hHeld0
      obtain ⟨-, hs, hC⟩ := hR
      generalize V3.heap.size = Tb at hC hKW ⊢
      refine rdH [7] ?_
      refine AllReadyH.cons (gB rfl) (fun K hK => ?_) ?_
      ·
       go_simp
       go_at_call 27
       refine (HDL.out _ _ _ _ _ _ (HSV4.out.2.1.down hHeld) (HSV4.out.2.2.down hHeld) hs (bt HB4.out hHeld)).mono ?_
       rintro e w7 ⟨Go, no, co, H1, n1, d1, H2, n2, d2, rfl, hgood, hbad, hb7⟩
       try (go_wp2_with fail)
       refine hK.out _ _ (bt hHeld hb7) (fun hHeld => ?_)
       clear hK K
       refine hTo (B := W3) (fun V5 => (Below W3.heap.size W3 V5) ∧ (DelM out r (fun b => b ≠ Tb) V5 Go no co H1 n1 d1 H2 n2 d2) ∧ (Has V5 Tb [.slice none 0 0, .slice none 0 0])) ⟨hHeld, DelM.mono (DelM.of hgood hbad) (fun b hb => by have := hC.2.2; omega), hC.down hb7⟩ (fun V5 h => h.1) (fun V5 hR hHeld => ?_)
       clear hb7 hbad hgood hC hs
       obtain ⟨-, hD, hC⟩ := hR
       refine tkH 8 (v := ?_) (gB rfl) ?_ ?_
       rotate_left 1
       ·
        intro w' hSw; (go_simp) <;> with_reducible rfl
       refine tkH 9 (v := ?_) (gB rfl) ?_ ?_
       rotate_left 1
       ·
        intro w' hSw; (go_simp) <;> with_reducible rfl
       refine tkH 10 (v := ?_) (gB rfl) ?_ ?_
       rotate_left 1
       ·
        intro w' hSw; (go_simp) <;> with_reducible rfl
       refine tkH 11 (v := ?_) (gB rfl) ?_ ?_
       rotate_left 1
       ·
        intro w' hSw; (go_simp) <;> with_reducible rfl
       refine tkH 13 (v := ?_) (gB rfl) ?_ ?_
       rotate_left 1
       ·
        intro w' hSw; (go_simp) <;> with_reducible rfl
       try simp only [Act.put, List.setIfInBounds_toArray, List.set_cons_zero, List.set_cons_succ]
       refine rdH [14] ?_
       refine AllReadyH.cons (gB rfl) (fun K hK => ?_) ?_
       ·
        obtain ⟨e0, e1, f0, f1⟩ := hC.two
        go_simp
        refine hK.out _ _ (Below.setCell (Below.setCell hHeld hKW _) hKW _) (fun hHeld => ?_)
        clear hK K
        refine tkH 15 (v := ?_) (gB rfl) ?_ ?_
        rotate_left 1
        ·
         intro w' hSw; (go_simp) <;> with_reducible rfl
        try simp only [Act.put, List.setIfInBounds_toArray, List.set_cons_zero, List.set_cons_succ]
        refine wpAnyH_done (by kernel_rfl) ?_ _
        refine NoPanic.normal ?_
        go_wp2_with fail
        go_meet
        case rel => exact ⟨Tb, Go, no, co, H1, n1, d1, H2, n2, d2, rfl, rfl, rfl, (hC.set' (i := 0) _ (by simp)).set' (i := 1) _ (by simp), hKW, hD.put, hHeld⟩
       exact AllReadyH.nil
      exact AllReadyH.nil
     exact AllReadyH.nil
    refine AllReadyH.cons (gB rfl) (fun K hK => ?_) ?_
    ·
     go_simp
     have hHeld0 := hHeld
     refine hK.out _ _ (ba hHeld _) (fun hHeld => ?_)
     clear hK K
     try simp only [Act.put, List.setIfInBounds_toArray, List.set_cons_zero, List.set_cons_succ]
     have hKW : W3.heap.size ≤ V2.heap.size := hHeld0.size
     refine hTo (B := W3) (fun V3 => (Below W3.heap.size W3 V3) ∧ (Has V3 N (strs reqC.texts)) ∧ (Has V3 A0 [.string tx]) ∧ (Has V3 V2.heap.size [.slice none 0 0, .slice none 0 0])) ⟨hHeld, hN.down (ba (Below.refl _ _) _), hA.down (ba (Below.refl _ _) _), Has.alloc V2 _ _⟩ (fun V3 h => h.1) (fun V3 hR hHeld => ?_)
     clear hA hN hHeld0
     obtain ⟨-, hN, hA, hC⟩ := hR
     generalize V2.heap.size = Tb at hC hKW ⊢
     refine rdH [6] ?_
     refine AllReadyH.cons (gB rfl) (fun K hK => ?_) ?_
     ·
      go_simp
      refine hK.out _ _ (ba hHeld _) (fun hHeld => ?_)
      clear hK K
      try simp only [Act.put, List.setIfInBounds_toArray, List.set_cons_zero, List.set_cons_succ]
      refine hTo (B := W3) (fun V4 => (Below W3.heap.size W3 V4) ∧ (SAt (cCmd 15) V4 (fun _ => True) (.slice (some ⟨V3.heap.size, 0, none⟩) 2 2) (RC tx)) ∧ (Has V4 Tb [.slice none 0 0, .slice none 0 0])) ⟨hHeld, two_lit hN hA, hC.down (ba (Below.refl _ _) _)⟩ (fun V4 h => h.1) (fun V4 hR hHeld => ?_)
      clear hC hA hN
      obtain ⟨-, hs, hC⟩ := hR
      generalize V3.heap.size = K1 at hs ⊢
      refine rdH [7] ?_
      refine AllReadyH.cons (gB rfl) (fun K hK => ?_) ?_
      ·
       go_simp
       go_at_call 27
       refine (HDL.out _ _ _ _ _ _ (HSV4.out.2.1.down hHeld) (HSV4.out.2.2.down hHeld) hs (bt HB4.out hHeld)).mono ?_
       rintro e w7 ⟨Go, no, co, H1, n1, d1, H2, n2, d2, rfl, hgood, hbad, hb7⟩
       try (go_wp2_with fail)
       refine hK.out _ _ (bt hHeld hb7) (fun hHeld => ?_)
       clear hK K
       refine hTo (B := W3) (fun V5 => (Below W3.heap.size W3 V5) ∧ (DelM out r (fun b => b ≠ Tb) V5 Go no co H1 n1 d1 H2 n2 d2) ∧ (Has V5 Tb [.slice none 0 0, .slice none 0 0])) ⟨hHeld, DelM.mono (DelM.of hgood hbad) (fun b hb => by have := hC.2.2; omega), hC.down hb7⟩ (fun V5 h => h.1) (fun V5 hR hHeld => ?_)
       clear hb7 hbad hgood hC hs
       obtain ⟨-, hD, hC⟩ := hR
       refine tkH 8 (v := ?_) (gB rfl) ?_ ?_
       rotate_left 1
       ·
        intro w' hSw; (go_simp) <;> with_reducible rfl
       refine tkH 9 (v := ?_) (gB rfl) ?_ ?_
       rotate_left 1
       ·
        intro w' hSw; (go_simp) <;> with_reducible rfl
       refine tkH 10 (v := ?_) (gB rfl) ?_ ?_
       rotate_left 1
       ·
        intro w' hSw; (go_simp) <;> with_reducible rfl
       refine tkH 11 (v := ?_) (gB rfl) ?_ ?_
       rotate_left 1
       ·
        intro w' hSw; (go_simp) <;> with_reducible rfl
       refine tkH 13 (v := ?_) (gB rfl) ?_ ?_
       rotate_left 1
       ·
        intro w' hSw; (go_simp) <;> with_reducible rfl
       try simp only [Act.put, List.setIfInBounds_toArray, List.set_cons_zero, List.set_cons_succ]
       refine rdH [14] ?_
       refine AllReadyH.cons (gB rfl) (fun K hK => ?_) ?_
       ·
        obtain ⟨e0, e1, f0, f1⟩ := hC.two
        go_simp
        refine hK.out _ _ (Below.setCell (Below.setCell hHeld hKW _) hKW _) (fun hHeld => ?_)
        clear hK K
        refine tkH 15 (v := ?_) (gB rfl) ?_ ?_
        rotate_left 1
        ·
         intro w' hSw; (go_simp) <;> with_reducible rfl
        try simp only [Act.put, List.setIfInBounds_toArray, List.set_cons_zero, List.set_cons_succ]
        refine wpAnyH_done (by kernel_rfl) ?_ _
        refine NoPanic.normal ?_
        go_wp2_with fail
        go_meet
        case rel => exact ⟨Tb, Go, no, co, H1, n1, d1, H2, n2, d2, rfl, rfl, rfl, (hC.set' (i := 0) _ (by simp)).set' (i := 1) _ (by simp), hKW, hD.put, hHeld⟩
       exact AllReadyH.nil
      exact AllReadyH.nil
     exact AllReadyH.nil
    exact AllReadyH.nil
   refine AllReadyH.cons (gB rfl) (fun K hK => ?_) ?_
   ·
    go_simp
    have hHeld0 := hHeld
    refine hK.out _ _ (ba hHeld _) (fun hHeld => ?_)
    clear hK K
    try simp only [Act.put, List.setIfInBounds_toArray, List.set_cons_zero, List.set_cons_succ]
    have hKW : W3.heap.size ≤ V1.heap.size := hHeld0.size
    refine hTo (B := W3) (fun V2 => (Below W3.heap.size W3 V2) ∧ (Has V2 N (strs reqC.texts)) ∧ (Has V2 V1.heap.size [.slice none 0 0, .slice none 0 0])) ⟨hHeld, hN.down (ba (Below.refl _ _) _), Has.alloc V1 _ _⟩ (fun V2 h => h.1) (fun V2 hR hHeld => ?_)
    clear hN hHeld0
    obtain ⟨-, hN, hC⟩ := hR
    generalize V1.heap.size = Tb at hC hKW ⊢
    refine rdH [4] ?_
    refine AllReadyH.cons (gB rfl) (fun K hK => ?_) ?_
    ·
     go_simp
     refine hK.out _ _ (ba hHeld _) (fun hHeld => ?_)
     clear hK K
     refine hTo (B := W3) (fun V3 => (Below W3.heap.size W3 V3) ∧ (Has V3 N (strs reqC.texts)) ∧ (Has V3 V2.heap.size [.string tx]) ∧ (Has V3 Tb [.slice none 0 0, .slice none 0 0])) ⟨hHeld, hN.down (ba (Below.refl _ _) _), Has.alloc V2 _ _, hC.down (ba (Below.refl _ _) _)⟩ (fun V3 h => h.1) (fun V3 hR hHeld => ?_)
     clear hC hN
     obtain ⟨-, hN, hA, hC⟩ := hR
     generalize V2.heap.size = A0 at hA ⊢
     refine tkH 5 (v := ?_) (gB rfl) ?_ ?_
     rotate_left 1
     ·
      intro w' hSw; (go_simp) <;> with_reducible rfl
     try simp only [Act.put, List.setIfInBounds_toArray, List.set_cons_zero, List.set_cons_succ]
     refine rdH [6] ?_
     refine AllReadyH.cons (gB rfl) (fun K hK => ?_) ?_
     ·
      go_simp
      refine hK.out _ _ (ba hHeld _) (fun hHeld => ?_)
      clear hK K
      try simp only [Act.put, List.setIfInBounds_toArray, List.set_cons_zero, List.set_cons_succ]
      refine hTo (B := W3) (fun V4 => (Below W3.heap.size W3 V4) ∧ (SAt (cCmd 15) V4 (fun _ => True) (.slice (some ⟨V3.heap.size, 0, none⟩) 2 2) (RC tx)) ∧ (Has V4 Tb [.slice none 0 0, .slice none 0 0])) ⟨hHeld, two_lit hN hA, hC.down (ba (Below.refl _ _) _)⟩ (fun V4 h => h.1) (fun V4 hR hHeld => ?_)
      clear hC hA hN
      obtain ⟨-, hs, hC⟩ := hR
      generalize V3.heap.size = K1 at hs ⊢
      refine rdH [7] ?_
      refine AllReadyH.cons (gB rfl) (fun K hK => ?_) ?_
      ·
       go_simp
       go_at_call 27
       refine (HDL.out _ _ _ _ _ _ (HSV4.out.2.1.down hHeld) (HSV4.out.2.2.down hHeld) hs (bt HB4.out hHeld)).mono ?_
       rintro e w7 ⟨Go, no, co, H1, n1, d1, H2, n2, d2, rfl, hgood, hbad, hb7⟩
       try (go_wp2_with fail)
       refine hK.out _ _ (bt hHeld hb7) (fun hHeld => ?_)
       clear hK K
       refine hTo (B := W3) (fun V5 => (Below W3.heap.size W3 V5) ∧ (DelM out r (fun b => b ≠ Tb) V5 Go no co H1 n1 d1 H2 n2 d2) ∧ (Has V5 Tb [.slice none 0 0, .slice none 0 0])) ⟨hHeld, DelM.mono (DelM.of hgood hbad) (fun b hb => by have := hC.2.2; omega), hC.down hb7⟩ (fun V5 h => h.1) (fun V5 hR hHeld => ?_)
       clear hb7 hbad hgood hC hs
       obtain ⟨-, hD, hC⟩ := hR
       refine tkH 8 (v := ?_) (gB rfl) ?_ ?_
       rotate_left 1
       ·
        intro w' hSw; (go_simp) <;> with_reducible rfl
       refine tkH 9 (v := ?_) (gB rfl) ?_ ?_
       rotate_left 1
       ·
        intro w' hSw; (go_simp) <;> with_reducible rfl
       refine tkH 10 (v := ?_) (gB rfl) ?_ ?_
       rotate_left 1
       ·
        intro w' hSw; (go_simp) <;> with_reducible rfl
       refine tkH 11 (v := ?_) (gB rfl) ?_ ?_
       rotate_left 1
       ·
        intro w' hSw; (go_simp) <;> with_reducible rfl
       refine tkH 13 (v := ?_) (gB rfl) ?_ ?_
       rotate_left 1
       ·
        intro w' hSw; (go_simp) <;> with_reducible rfl
       try simp only [Act.put, List.setIfInBounds_toArray, List.set_cons_zero, List.set_cons_succ]
       refine rdH [14] ?_
       refine AllReadyH.cons (gB rfl) (fun K hK => ?_) ?_
       ·
        obtain ⟨e0, e1, f0, f1⟩ := hC.two
        go_simp
        refine hK.out _ _ (Below.setCell (Below.setCell hHeld hKW _) hKW _) (fun hHeld => ?_)
        clear hK K
        refine tkH 15 (v := ?_) (gB rfl) ?_ ?_
        rotate_left 1
        ·
         intro w' hSw; (go_simp) <;> with_reducible rfl
        try simp only [Act.put, List.setIfInBounds_toArray, List.set_cons_zero, List.set_cons_succ]
        refine wpAnyH_done (by kernel_rfl) ?_ _
        refine NoPanic.normal ?_
        go_wp2_with fail
        go_meet
        case rel => exact ⟨Tb, Go, no, co, H1, n1, d1, H2, n2, d2, rfl, rfl, rfl, (hC.set' (i := 0) _ (by simp)).set' (i := 1) _ (by simp), hKW, hD.put, hHeld⟩
       exact AllReadyH.nil
      exact AllReadyH.nil
     exact AllReadyH.nil
    exact AllReadyH.nil
   exact AllReadyH.nil
  refine AllReadyH.cons (gB rfl) (fun K hK => ?_) ?_
  ·
   go_simp
   refine hK.out _ _ (ba hHeld _) (fun hHeld => ?_)
   clear hK K
   refine hTo (B := W3) (fun V1 => (Below W3.heap.size W3 V1) ∧ (Has V1 V0.heap.size [.string tx])) ⟨hHeld, Has.alloc V0 _ _⟩ (fun V1 h => h.1) (fun V1 hR hHeld => ?_)
   obtain ⟨-, hA⟩ := hR
   generalize V0.heap.size = A0 at hA ⊢
   refine tkH 5 (v := ?_) (gB rfl) ?_ ?_
   rotate_left 1
   ·
    intro w' hSw; (go_simp) <;> with_reducible rfl
   try simp only [Act.put, List.setIfInBounds_toArray, List.set_cons_zero, List.set_cons_succ]
   refine rdH [2, 12] ?_
   refine AllReadyH.cons (gB rfl) (fun K hK => ?_) ?_
   ·
    go_simp
    go_at_call 21
    refine (Sc.requires_any _).mono ?_
    rintro e w6 ⟨N, rfl, hN6, -, hb6⟩
    unfold reqV
    try (go_wp2_with fail)
    refine hK.out _ _ (bt hHeld hb6) (fun hHeld => ?_)
    clear hK K
    try simp only [Act.put, List.setIfInBounds_toArray, List.set_cons_zero, List.set_cons_succ]
    refine hTo (B := W3) (fun V2 => (Below W3.heap.size W3 V2) ∧ (Has V2 N (strs reqC.texts)) ∧ (Has V2 A0 [.string tx])) ⟨hHeld, hN6, hA.down hb6⟩ (fun V2 h => h.1) (fun V2 hR hHeld => ?_)
    clear hb6 hN6 hA
    obtain ⟨-, hN, hA⟩ := hR
    refine rdH [6, 12] ?_
    refine AllReadyH.cons (gB rfl) (fun K hK => ?_) ?_
    ·
     go_simp
     refine hK.out _ _ (ba hHeld _) (fun hHeld => ?_)
     clear hK K
     try simp only [Act.put, List.setIfInBounds_toArray, List.set_cons_zero, List.set_cons_succ]
     refine hTo (B := W3) (fun V3 => (Below W3.heap.size W3 V3) ∧ (SAt (cCmd 15) V3 (fun _ => True) (.slice (some ⟨V2.heap.size, 0, none⟩) 2 2) (RC tx))) ⟨hHeld, two_lit hN hA⟩ (fun V3 h => h.1) (fun V3 hR hHeld => ?_)
     clear hA hN
     obtain ⟨-, hs⟩ := hR
     generalize V2.heap.size = K1 at hs ⊢
     refine rdH [7, 12] ?_
     refine AllReadyH.cons (gB rfl) (fun K hK => ?_) ?_
     ·
      go_simp
      go_at_call 27
      refine (HDL.out _ _ _ _ _ _ (HSV4.out.2.1.down hHeld) (HSV4.out.2.2.down hHeld) hs (bt HB4.out hHeld)).mono ?_
      rintro e w7 ⟨Go, no, co, H1, n1, d1, H2, n2, d2, rfl, hgood, hbad, hb7⟩
      try (go_wp2_with fail)
      refine hK.out _ _ (bt hHeld hb7) (fun hHeld => ?_)
      clear hK K
      refine hTo (B := W3) (fun V4 => (Below W3.heap.size W3 V4) ∧ (DelM out r (fun _ => True) V4 Go no co H1 n1 d1 H2 n2 d2)) ⟨hHeld, DelM.mono (DelM.of hgood hbad) (fun _ _ => trivial)⟩ (fun V4 h => h.1) (fun V4 hR hHeld => ?_)
      clear hb7 hbad hgood hs
      obtain ⟨-, hD⟩ := hR
      refine tkH 8 (v := ?_) (gB rfl) ?_ ?_
      rotate_left 1
      ·
       intro w' hSw; (go_simp) <;> with_reducible rfl
      refine tkH 9 (v := ?_) (gB rfl) ?_ ?_
      rotate_left 1
      ·
       intro w' hSw; (go_simp) <;> with_reducible rfl
      refine tkH 10 (v := ?_) (gB rfl) ?_ ?_
      rotate_left 1
      ·
       intro w' hSw; (go_simp) <;> with_reducible rfl
      refine tkH 11 (v := ?_) (gB rfl) ?_ ?_
      rotate_left 1
      ·
       intro w' hSw; (go_simp) <;> with_reducible rfl
      try simp only [Act.put, List.setIfInBounds_toArray, List.set_cons_zero, List.set_cons_succ]
      refine rdH [12] ?_
      refine AllReadyH.cons (gB rfl) (fun K hK => ?_) ?_
      ·
       go_simp
       have hHeld0 := hHeld
       refine hK.out _ _ (ba hHeld _) (fun hHeld => ?_)
       clear hK K
       have hKW : W3.heap.size ≤ V4.heap.size := hHeld0.size
       refine hTo (B := W3) (fun V5 => (Below W3.heap.size W3 V5) ∧ (DelM out r (fun b => b ≠ V4.heap.size) V5 Go no co H1 n1 d1 H2 n2 d2) ∧ (Has V5 V4.heap.size [.slice none 0 0, .slice none 0 0])) ⟨hHeld, ((DelM.bd hD).mono (fun b hb => Nat.ne_of_lt hb.2)).down (ba (Below.refl _ _) _), Has.alloc V4 _ _⟩ (fun V5 h => h.1) (fun V5 hR hHeld => ?_)
       clear hD hHeld0
       obtain ⟨-, hD, hC⟩ := hR
       generalize V4.heap.size = Tb at hC hKW hD ⊢
       refine tkH 13 (v := ?_) (gB rfl) ?_ ?_
       rotate_left 1
       ·
        intro w' hSw; (go_simp) <;> with_reducible rfl
       try simp only [Act.put, List.setIfInBounds_toArray, List.set_cons_zero, List.set_cons_succ]
       refine rdH [14] ?_
       refine AllReadyH.cons (gB rfl) (fun K hK => ?_) ?_
       ·
        obtain ⟨e0, e1, f0, f1⟩ := hC.two
        go_simp
        refine hK.out _ _ (Below.setCell (Below.setCell hHeld hKW _) hKW _) (fun hHeld => ?_)
        clear hK K
        refine tkH 15 (v := ?_) (gB rfl) ?_ ?_
        rotate_left 1
        ·
         intro w' hSw; (go_simp) <;> with_reducible rfl
        try simp only [Act.put, List.setIfInBounds_toArray, List.set_cons_zero, List.set_cons_succ]
        refine wpAnyH_done (by kernel_rfl) ?_ _
        refine NoPanic.normal ?_
        go_wp2_with fail
        go_meet
        case rel => exact ⟨Tb, Go, no, co, H1, n1, d1, H2, n2, d2, rfl, rfl, rfl, (hC.set' (i := 0) _ (by simp)).set' (i := 1) _ (by simp), hKW, hD.put, hHeld⟩
       exact AllReadyH.nil
      exact AllReadyH.nil
     refine AllReadyH.cons (gB rfl) (fun K hK => ?_) ?_
     ·
      go_simp
      have hHeld0 := hHeld
      refine hK.out _ _ (ba hHeld _) (fun hHeld => ?_)
      clear hK K
      try simp only [Act.put, List.setIfInBounds_toArray, List.set_cons_zero, List.set_cons_succ]
      have hKW : W3.heap.size ≤ V3.heap.size := hHeld0.size
      refine hTo (B := W3) (fun V4 => (Below W3.heap.size W3 V4) ∧ (SAt (cCmd 15) V4 (fun _ => True) (.slice (some ⟨K1, 0, none⟩) 2 2) (RC tx)) ∧ (Has V4 V3.heap.size [.slice none 0 0, .slice none 0 0])) ⟨hHeld, hs.down (ba (Below.refl _ _) _), Has.alloc V3 _ _⟩ (fun V4 h => h.1) (fun V4 hR hHeld => ?_)
      clear hs hHeld0
      obtain ⟨-, hs, hC⟩ := hR
      generalize V3.heap.size = Tb at hC hKW ⊢
      refine rdH [7] ?_
      refine AllReadyH.cons (gB rfl) (fun K hK => ?_) ?_
      ·
       go_simp
       go_at_call 27
       refine (HDL.out _ _ _ _ _ _ (HSV4.out.2.1.down hHeld) (HSV4.out.2.2.down hHeld) hs (bt HB4.out hHeld)).mono ?_
       rintro e w7 ⟨Go, no, co, H1, n1, d1, H2, n2, d2, rfl, hgood, hbad, hb7⟩
       try (go_wp2_with fail)
       refine hK.out _ _ (bt hHeld hb7) (fun hHeld => ?_)
       clear hK K
       refine hTo (B := W3) (fun V5 => (Below W3.heap.size W3 V5) ∧ (DelM out r (fun b => b ≠ Tb) V5 Go no co H1 n1 d1 H2 n2 d2) ∧ (Has V5 Tb [.slice none 0 0, .slice none 0 0])) ⟨hHeld, DelM.mono (DelM.of hgood hbad) (fun b hb => by have := hC.2.2; omega), hC.down hb7⟩ (fun V5 h => h.1) (fun V5 hR hHeld => ?_)
       clear hb7 hbad hgood hC hs
       obtain ⟨-, hD, hC⟩ := hR
       refine tkH 8 (v := ?_) (gB rfl) ?_ ?_
       rotate_left 1
       ·
        intro w' hSw; (go_simp) <;> with_reducible rfl
       refine tkH 9 (v := ?_) (gB rfl) ?_ ?_
       rotate_left 1
       ·
        intro w' hSw; (go_simp) <;> with_reducible rfl
       refine tkH 10 (v := ?_) (gB rfl) ?_ ?_
       rotate_left 1
       ·
        intro w' hSw; (go_simp) <;> with_reducible rfl
       refine tkH 11 (v := ?_) (gB rfl) ?_ ?_
       rotate_left 1
       ·
        intro w' hSw; (go_simp) <;> with_reducible rfl
       refine tkH 13 (v := ?_) (gB rfl) ?_ ?_
       rotate_left 1
       ·
        intro w' hSw; (go_simp) <;> with_reducible rfl
       try simp only [Act.put, List.setIfInBounds_toArray, List.set_cons_zero, List.set_cons_succ]
       refine rdH [14] ?_
       refine AllReadyH.cons (gB rfl) (fun K hK => ?_) ?_
       ·
        obtain ⟨e0, e1, f0, f1⟩ := hC.two
        go_simp
        refine hK.out _ _ (Below.setCell (Below.setCell hHeld hKW _) hKW _) (fun hHeld => ?_)
        clear hK K
        refine tkH 15 (v := ?_) (gB rfl) ?_ ?_
        rotate_left 1
        ·
         intro w' hSw; (go_simp) <;> with_reducible rfl
        try simp only [Act.put, List.setIfInBounds_toArray, List.set_cons_zero, List.set_cons_succ]
        refine wpAnyH_done (by kernel_rfl) ?_ _
        refine NoPanic.normal ?_
        go_wp2_with fail
        go_meet
        case rel => exact ⟨Tb, Go, no, co, H1, n1, d1, H2, n2, d2, rfl, rfl, rfl, (hC.set' (i := 0) _ (by simp)).set' (i := 1) _ (by simp), hKW, hD.put, hHeld⟩
       exact AllReadyH.nil
      exact AllReadyH.nil
     exact AllReadyH.nil
    refine AllReadyH.cons (gB rfl) (fun K hK => ?_) ?_
    ·
     go_simp
     have hHeld0 := hHeld
     refine hK.out _ _ (ba hHeld _) (fun hHeld => ?_)
     clear hK K
     try simp only [Act.put, List.setIfInBounds_toArray, List.set_cons_zero, List.set_cons_succ]
     have hKW : W3.heap.size ≤ V2.heap.size := hHeld0.size
     refine hTo (B := W3) (fun V3 => (Below W3.heap.size W3 V3) ∧ (Has V3 N (strs reqC.texts)) ∧ (Has V3 A0 [.string tx]) ∧ (Has V3 V2.heap.size [.slice none 0 0, .slice none 0 0])) ⟨hHeld, hN.down (ba (Below.refl _ _) _), hA.down (ba (Below.refl _ _) _), Has.alloc V2 _ _⟩ (fun V3 h => h.1) (fun V3 hR hHeld => ?_)
     clear hA hN hHeld0
     obtain ⟨-, hN, hA, hC⟩ := hR
     generalize V2.heap.size = Tb at hC hKW ⊢
     refine rdH [6] ?_
     refine AllReadyH.cons (gB rfl) (fun K hK => ?_) ?_
     ·
      go_simp
      refine hK.out _ _ (ba hHeld _) (fun hHeld => ?_)
      clear hK K
      try simp only [Act.put, List.setIfInBounds_toArray, List.set_cons_zero, List.set_cons_succ]
      refine hTo (B := W3) (fun V4 => (Below W3.heap.size W3 V4) ∧ (SAt (cCmd 15) V4 (fun _ => True) (.slice (some ⟨V3.heap.size, 0, none⟩) 2 2) (RC tx)) ∧ (Has V4 Tb [.slice none 0 0, .slice none 0 0])) ⟨hHeld, two_lit hN hA, hC.down (ba (Below.refl _ _) _)⟩ (fun V4 h => h.1) (fun V4 hR hHeld => ?_)
      clear hC hA hN
      obtain ⟨-, hs, hC⟩ := hR
      generalize V3.heap.size = K1 at hs ⊢
      refine rdH [7] ?_
      refine AllReadyH.cons (gB rfl) (fun K hK => ?_) ?_
      ·
       go_simp
       go_at_call 27
       refine (HDL.out _ _ _ _ _ _ (HSV4.out.2.1.down hHeld) (HSV4.out.2.2.down hHeld) hs (bt HB4.out hHeld)).mono ?_
       rintro e w7 ⟨Go, no, co, H1, n1, d1, H2, n2, d2, rfl, hgood, hbad, hb7⟩
       try (go_wp2_with fail)
       refine hK.out _ _ (bt hHeld hb7) (fun hHeld => ?_)
       clear hK K
       refine hTo (B := W3) (fun V5 => (Below W3.heap.size W3 V5) ∧ (DelM out r (fun b => b ≠ Tb) V5 Go no co H1 n1 d1 H2 n2 d2) ∧ (Has V5 Tb [.slice none 0 0, .slice none 0 0])) ⟨hHeld, DelM.mono (DelM.of hgood hbad) (fun b hb => by have := hC.2.2; omega), hC.down hb7⟩ (fun V5 h => h.1) (fun V5 hR hHeld => ?_)
       clear hb7 hbad hgood hC hs
       obtain ⟨-, hD, hC⟩ := hR
       refine tkH 8 (v := ?_) (gB rfl) ?_ ?_
       rotate_left 1
       ·
        intro w' hSw; (go_simp) <;> with_reducible rfl
       refine tkH 9 (v := ?_) (gB rfl) ?_ ?_
       rotate_left 1
       ·
        intro w' hSw; (go_simp) <;> with_reducible rfl
       refine tkH 10 (v := ?_) (gB rfl) ?_ ?_
       rotate_left 1
       ·
        intro w' hSw; (go_simp) <;> with_reducible rfl
       refine tkH 11 (v := ?_) (gB rfl) ?_ ?_
       rotate_left 1
       ·
        intro w' hSw; (go_simp) <;> with_reducible rfl
       refine tkH 13 (v := ?_) (gB rfl) ?_ ?_
       rotate_left 1
       ·
        intro w' hSw; (go_simp) <;> with_reducible rfl
       try simp only [Act.put, List.setIfInBounds_toArray, List.set_cons_zero, List.set_cons_succ]
       refine rdH [14] ?_
       refine AllReadyH.cons (gB rfl) (fun K hK => ?_) ?_
       ·
        obtain ⟨e0, e1, f0, f1⟩ := hC.two
        go_simp
        refine hK.out _ _ (Below.setCell (Below.setCell hHeld hKW _) hKW _) (fun hHeld => ?_)
        clear hK K
        refine tkH 15 (v := ?_) (gB rfl) ?_ ?_
        rotate_left 1
        ·
         intro w' hSw; (go_simp) <;> with_reducible rfl
        try simp only [Act.put, List.setIfInBounds_toArray, List.set_cons_zero, List.set_cons_succ]
        refine wpAnyH_done (by kernel_rfl) ?_ _
        refine NoPanic.normal ?_
        go_wp2_with fail
        go_meet
        case rel => exact ⟨Tb, Go, no, co, H1, n1, d1, H2, n2, d2, rfl, rfl, rfl, (hC.set' (i := 0) _ (by simp)).set' (i := 1) _ (by simp), hKW, hD.put, hHeld⟩
       exact AllReadyH.nil
      exact AllReadyH.nil
     exact AllReadyH.nil
    exact AllReadyH.nil
   refine AllReadyH.cons (gB rfl) (fun K hK => ?_) ?_
   ·
    go_simp
    have hHeld0 := hHeld
    refine hK.out _ _ (ba hHeld _) (fun hHeld => ?_)
    clear hK K
    try simp only [Act.put, List.setIfInBounds_toArray, List.set_cons_zero, List.set_cons_succ]
    have hKW : W3.heap.size ≤ V1.heap.size := hHeld0.size
    refine hTo (B := W3) (fun V2 => (Below W3.heap.size W3 V2) ∧ (Has V2 A0 [.string tx]) ∧ (Has V2 V1.heap.size [.slice none 0 0, .slice none 0 0])) ⟨hHeld, hA.down (ba (Below.refl _ _) _), Has.alloc V1 _ _⟩ (fun V2 h => h.1) (fun V2 hR hHeld => ?_)
    clear hA hHeld0
    obtain ⟨-, hA, hC⟩ := hR
    generalize V1.heap.size = Tb at hC hKW ⊢
    refine rdH [2] ?_
    refine AllReadyH.cons (gB rfl) (fun K hK => ?_) ?_
    ·
     go_simp
     go_at_call 21
     refine (Sc.requires_any _).mono ?_
     rintro e w6 ⟨N, rfl, hN6, -, hb6⟩
     unfold reqV
     try (go_wp2_with fail)
     refine hK.out _ _ (bt hHeld hb6) (fun hHeld => ?_)
     clear hK K
     try simp only [Act.put, List.setIfInBounds_toArray, List.set_cons_zero, List.set_cons_succ]
     refine hTo (B := W3) (fun V3 => (Below W3.heap.size W3 V3) ∧ (Has V3 N (strs reqC.texts)) ∧ (Has V3 A0 [.string tx]) ∧ (Has V3 Tb [.slice none 0 0, .slice none 0 0])) ⟨hHeld, hN6, hA.down hb6, hC.down hb6⟩ (fun V3 h => h.1) (fun V3 hR hHeld => ?_)
     clear hb6 hN6 hC hA
     obtain ⟨-, hN, hA, hC⟩ := hR
     refine rdH [6] ?_
     refine AllReadyH.cons (gB rfl) (fun K hK => ?_) ?_
     ·
      go_simp
      refine hK.out _ _ (ba hHeld _) (fun hHeld => ?_)
      clear hK K
      try simp only [Act.put, List.setIfInBounds_toArray, List.set_cons_zero, List.set_cons_succ]
      refine hTo (B := W3) (fun V4 => (Below W3.heap.size W3 V4) ∧ (SAt (cCmd 15) V4 (fun _ => True) (.slice (some ⟨V3.heap.size, 0, none⟩) 2 2) (RC tx)) ∧ (Has V4 Tb [.slice none 0 0, .slice none 0 0])) ⟨hHeld, two_lit hN hA, hC.down (ba (Below.refl _ _) _)⟩ (fun V4 h => h.1) (fun V4 hR hHeld => ?_)
      clear hC hA hN
      obtain ⟨-, hs, hC⟩ := hR
      generalize V3.heap.size = K1 at hs ⊢
      refine rdH [7] ?_
      refine AllReadyH.cons (gB rfl) (fun K hK => ?_) ?_
      ·
       go_simp
       go_at_call 27
       refine (HDL.out _ _ _ _ _ _ (HSV4.out.2.1.down hHeld) (HSV4.out.2.2.down hHeld) hs (bt HB4.out hHeld)).mono ?_
       rintro e w7 ⟨Go, no, co, H1, n1, d1, H2, n2, d2, rfl, hgood, hbad, hb7⟩
       try (go_wp2_with fail)
       refine hK.out _ _ (bt hHeld hb7) (fun hHeld => ?_)
       clear hK K
       refine hTo (B := W3) (fun V5 => (Below W3.heap.size W3 V5) ∧ (DelM out r (fun b => b ≠ Tb) V5 Go no co H1 n1 d1 H2 n2 d2) ∧ (Has V5 Tb [.slice none 0 0, .slice none 0 0])) ⟨hHeld, DelM.mono (DelM.of hgood hbad) (fun b hb => by have := hC.2.2; omega), hC.down hb7⟩ (fun V5 h => h.1) (fun V5 hR hHeld => ?_)
       clear hb7 hbad hgood hC hs
       obtain ⟨-, hD, hC⟩ := hR
       refine tkH 8 (v := ?_) (gB rfl) ?_ ?_
       rotate_left 1
       ·
        intro w' hSw; (go_simp) <;> with_reducible rfl
       refine tkH 9 (v := ?_) (gB rfl) ?_ ?_
       rotate_left 1
       ·
        intro w' hSw; (go_simp) <;> with_reducible rfl
       refine tkH 10 (v := ?_) (gB rfl) ?_ ?_
       rotate_left 1
       ·
        intro w' hSw; (go_simp) <;> with_reducible rfl
       refine tkH 11 (v := ?_) (gB rfl) ?_ ?_
       rotate_left 1
       ·
        intro w' hSw; (go_simp) <;> with_reducible rfl
       refine tkH 13 (v := ?_) (gB rfl) ?_ ?_
       rotate_left 1
       ·
        intro w' hSw; (go_simp) <;> with_reducible rfl
       try simp only [Act.put, List.setIfInBounds_toArray, List.set_cons_zero, List.set_cons_succ]
       refine rdH [14] ?_
       refine AllReadyH.cons (gB rfl) (fun K hK => ?_) ?_
       ·
        obtain ⟨e0, e1, f0, f1⟩ := hC.two
        go_simp
        refine hK.out _ _ (Below.setCell (Below.setCell hHeld hKW _) hKW _) (fun hHeld => ?_)
        clear hK K
        refine tkH 15 (v := ?_) (gB rfl) ?_ ?_
        rotate_left 1
        ·
         intro w' hSw; (go_simp) <;> with_reducible rfl
        try simp only [Act.put, List.setIfInBounds_toArray, List.set_cons_zero, List.set_cons_succ]
        refine wpAnyH_done (by kernel_rfl) ?_ _
        refine NoPanic.normal ?_
        go_wp2_with fail
        go_meet
        case rel => exact ⟨Tb, Go, no, co, H1, n1, d1, H2, n2, d2, rfl, rfl, rfl, (hC.set' (i := 0) _ (by simp)).set' (i := 1) _ (by simp), hKW, hD.put, hHeld⟩
       exact AllReadyH.nil
      exact AllReadyH.nil
     exact AllReadyH.nil
    exact AllReadyH.nil
   exact AllReadyH.nil
  refine AllReadyH.cons (gB rfl) (fun K hK => ?_) ?_
  ·
   go_simp
   have hHeld0 := hHeld
   refine hK.out _ _ (ba hHeld _) (fun hHeld => ?_)
   clear hK K
   try simp only [Act.put, List.setIfInBounds_toArray, List.set_cons_zero, List.set_cons_succ]
   have hKW : W3.heap.size ≤ V0.heap.size := hHeld0.size
   refine hTo (B := W3) (fun V1 => (Below W3.heap.size W3 V1) ∧ (Has V1 V0.heap.size [.slice none 0 0, .slice none 0 0])) ⟨hHeld, Has.alloc V0 _ _⟩ (fun V1 h => h.1) (fun V1 hR hHeld => ?_)
   clear hHeld0
   obtain ⟨-, hC⟩ := hR
   generalize V0.heap.size = Tb at hC hKW ⊢
   refine rdH [2, 4] ?_
   refine AllReadyH.cons (gB rfl) (fun K hK => ?_) ?_
   ·
    go_simp
    go_at_call 21
    refine (Sc.requires_any _).mono ?_
    rintro e w6 ⟨N, rfl, hN6, -, hb6⟩
    unfold reqV
    try (go_wp2_with fail)
    refine hK.out _ _ (bt hHeld hb6) (fun hHeld => ?_)
    clear hK K
    try simp only [Act.put, List.setIfInBounds_toArray, List.set_cons_zero, List.set_cons_succ]
    refine hTo (B := W3) (fun V2 => (Below W3.heap.size W3 V2) ∧ (Has V2 N (strs reqC.texts)) ∧ (Has V2 Tb [.slice none 0 0, .slice none 0 0])) ⟨hHeld, hN6, hC.down hb6⟩ (fun V2 h => h.1) (fun V2 hR hHeld => ?_)
    clear hb6 hN6 hC
    obtain ⟨-, hN, hC⟩ := hR
    refine rdH [4] ?_
    refine AllReadyH.cons (gB rfl) (fun K hK => ?_) ?_
    ·
     go_simp
     refine hK.out _ _ (ba hHeld _) (fun hHeld => ?_)
     clear hK K
     refine hTo (B := W3) (fun V3 => (Below W3.heap.size W3 V3) ∧ (Has V3 N (strs reqC.texts)) ∧ (Has V3 V2.heap.size [.string tx]) ∧ (Has V3 Tb [.slice none 0 0, .slice none 0 0])) ⟨hHeld, hN.down (ba (Below.refl _ _) _), Has.alloc V2 _ _, hC.down (ba (Below.refl _ _) _)⟩ (fun V3 h => h.1) (fun V3 hR hHeld => ?_)
     clear hC hN
     obtain ⟨-, hN, hA, hC⟩ := hR
     generalize V2.heap.size = A0 at hA ⊢
     refine tkH 5 (v := ?_) (gB rfl) ?_ ?_
     rotate_left 1
     ·
      intro w' hSw; (go_simp) <;> with_reducible rfl
     try simp only [Act.put, List.setIfInBounds_toArray, List.set_cons_zero, List.set_cons_succ]
     refine rdH [6] ?_
     refine AllReadyH.cons (gB rfl) (fun K hK => ?_) ?_
     ·
      go_simp
      refine hK.out _ _ (ba hHeld _) (fun hHeld => ?_)
      clear hK K
      try simp only [Act.put, List.setIfInBounds_toArray, List.set_cons_zero, List.set_cons_succ]
      refine hTo (B := W3) (fun V4 => (Below W3.heap.size W3 V4) ∧ (SAt (cCmd 15) V4 (fun _ => True) (.slice (some ⟨V3.heap.size, 0, none⟩) 2 2) (RC tx)) ∧ (Has V4 Tb [.slice none 0 0, .slice none 0 0])) ⟨hHeld, two_lit hN hA, hC.down (ba (Below.refl _ _) _)⟩ (fun V4 h => h.1) (fun V4 hR hHeld => ?_)
      clear hC hA hN
      obtain ⟨-, hs, hC⟩ := hR
      generalize V3.heap.size = K1 at hs ⊢
      refine rdH [7] ?_
      refine AllReadyH.cons (gB rfl) (fun K hK => ?_) ?_
      ·
       go_simp
       go_at_call 27
       refine (HDL.out _ _ _ _ _ _ (HSV4.out.2.1.down hHeld) (HSV4.out.2.2.down hHeld) hs (bt HB4.out hHeld)).mono ?_
       rintro e w7 ⟨Go, no, co, H1, n1, d1, H2, n2, d2, rfl, hgood, hbad, hb7⟩
       try (go_wp2_with fail)
       refine hK.out _ _ (bt hHeld hb7) (fun hHeld => ?_)
       clear hK K
       refine hTo (B := W3) (fun V5 => (Below W3.heap.size W3 V5) ∧ (DelM out r (fun b => b ≠ Tb) V5 Go no co H1 n1 d1 H2 n2 d2) ∧ (Has V5 Tb [.slice none 0 0, .slice none 0 0])) ⟨hHeld, DelM.mono (DelM.of hgood hbad) (fun b hb => by have := hC.2.2; omega), hC.down hb7⟩ (fun V5 h => h.1) (fun V5 hR hHeld => ?_)
       clear hb7 hbad hgood hC hs
       obtain ⟨-, hD, hC⟩ := hR
       refine tkH 8 (v := ?_) (gB rfl) ?_ ?_
       rotate_left 1
       ·
        intro w' hSw; (go_simp) <;> with_reducible rfl
       refine tkH 9 (v := ?_) (gB rfl) ?_ ?_
       rotate_left 1
       ·
        intro w' hSw; (go_simp) <;> with_reducible rfl
       refine tkH 10 (v := ?_) (gB rfl) ?_ ?_
       rotate_left 1
       ·
        intro w' hSw; (go_simp) <;> with_reducible rfl
       refine tkH 11 (v := ?_) (gB rfl) ?_ ?_
       rotate_left 1
       ·
        intro w' hSw; (go_simp) <;> with_reducible rfl
       refine tkH 13 (v := ?_) (gB rfl) ?_ ?_
       rotate_left 1
       ·
        intro w' hSw; (go_simp) <;> with_reducible rfl
       try simp only [Act.put, List.setIfInBounds_toArray, List.set_cons_zero, List.set_cons_succ]
       refine rdH [14] ?_
       refine AllReadyH.cons (gB rfl) (fun K hK => ?_) ?_
       ·
        obtain ⟨e0, e1, f0, f1⟩ := hC.two
        go_simp
        refine hK.out _ _ (Below.setCell (Below.setCell hHeld hKW _) hKW _) (fun hHeld => ?_)
        clear hK K
        refine tkH 15 (v := ?_) (gB rfl) ?_ ?_
        rotate_left 1
        ·
         intro w' hSw; (go_simp) <;> with_reducible rfl
        try simp only [Act.put, List.setIfInBounds_toArray, List.set_cons_zero, List.set_cons_succ]
        refine wpAnyH_done (by kernel_rfl) ?_ _
        refine NoPanic.normal ?_
        go_wp2_with fail
        go_meet
        case rel => exact ⟨Tb, Go, no, co, H1, n1, d1, H2, n2, d2, rfl, rfl, rfl, (hC.set' (i := 0) _ (by simp)).set' (i := 1) _ (by simp), hKW, hD.put, hHeld⟩
       exact AllReadyH.nil
      exact AllReadyH.nil
     exact AllReadyH.nil
    exact AllReadyH.nil
   refine AllReadyH.cons (gB rfl) (fun K hK => ?_) ?_
   ·
    go_simp
    refine hK.out _ _ (ba hHeld _) (fun hHeld => ?_)
    clear hK K
    refine hTo (B := W3) (fun V2 => (Below W3.heap.size W3 V2) ∧ (Has V2 V1.heap.size [.string tx]) ∧ (Has V2 Tb [.slice none 0 0, .slice none 0 0])) ⟨hHeld, Has.alloc V1 _ _, hC.down (ba (Below.refl _ _) _)⟩ (fun V2 h => h.1) (fun V2 hR hHeld => ?_)
    clear hC
    obtain ⟨-, hA, hC⟩ := hR
    generalize V1.heap.size = A0 at hA ⊢
    refine tkH 5 (v := ?_) (gB rfl) ?_ ?_
    rotate_left 1
    ·
     intro w' hSw; (go_simp) <;> with_reducible rfl
    try simp only [Act.put, List.setIfInBounds_toArray, List.set_cons_zero, List.set_cons_succ]
    refine rdH [2] ?_
    refine AllReadyH.cons (gB rfl) (fun K hK => ?_) ?_
    ·
     go_simp
     go_at_call 21
     refine (Sc.requires_any _).mono ?_
     rintro e w6 ⟨N, rfl, hN6, -, hb6⟩
     unfold reqV
     try (go_wp2_with fail)
     refine hK.out _ _ (bt hHeld hb6) (fun hHeld => ?_)
     clear hK K
     try simp only [Act.put, List.setIfInBounds_toArray, List.set_cons_zero, List.set_cons_succ]
     refine hTo (B := W3) (fun V3 => (Below W3.heap.size W3 V3) ∧ (Has V3 N (strs reqC.texts)) ∧ (Has V3 A0 [.string tx]) ∧ (Has V3 Tb [.slice none 0 0, .slice none 0 0])) ⟨hHeld, hN6, hA.down hb6, hC.down hb6⟩ (fun V3 h => h.1) (fun V3 hR hHeld => ?_)
     clear hb6 hN6 hC hA
     obtain ⟨-, hN, hA, hC⟩ := hR
     refine rdH [6] ?_
     refine AllReadyH.cons (gB rfl) (fun K hK => ?_) ?_
     ·
      go_simp
      refine hK.out _ _ (ba hHeld _) (fun hHeld => ?_)
      clear hK K
      try simp only [Act.put, List.setIfInBounds_toArray, List.set_cons_zero, List.set_cons_succ]
      refine hTo (B := W3) (fun V4 => (Below W3.heap.size W3 V4) ∧ (SAt (cCmd 15) V4 (fun _ => True) (.slice (some ⟨V3.heap.size, 0, none⟩) 2 2) (RC tx)) ∧ (Has V4 Tb [.slice none 0 0, .slice none 0 0])) ⟨hHeld, two_lit hN hA, hC.down (ba (Below.refl _ _) _)⟩ (fun V4 h => h.1) (fun V4 hR hHeld => ?_)
      clear hC hA hN
      obtain ⟨-, hs, hC⟩ := hR
      generalize V3.heap.size = K1 at hs ⊢
      refine rdH [7] ?_
      refine AllReadyH.cons (gB rfl) (fun K hK => ?_) ?_
      ·
       go_simp
       go_at_call 27
       refine (HDL.out _ _ _ _ _ _ (HSV4.out.2.1.down hHeld) (HSV4.out.2.2.down hHeld) hs (bt HB4.out hHeld)).mono ?_
       rintro e w7 ⟨Go, no, co, H1, n1, d1, H2, n2, d2, rfl, hgood, hbad, hb7⟩
       try (go_wp2_with fail)
       refine hK.out _ _ (bt hHeld hb7) (fun hHeld => ?_)
       clear hK K
       refine hTo (B := W3) (fun V5 => (Below W3.heap.size W3 V5) ∧ (DelM out r (fun b => b ≠ Tb) V5 Go no co H1 n1 d1 H2 n2 d2) ∧ (Has V5 Tb [.slice none 0 0, .slice none 0 0])) ⟨hHeld, DelM.mono (DelM.of hgood hbad) (fun b hb => by have := hC.2.2; omega), hC.down hb7⟩ (fun V5 h => h.1) (fun V5 hR hHeld => ?_)
       clear hb7 hbad hgood hC hs
       obtain ⟨-, hD, hC⟩ := hR
       refine tkH 8 (v := ?_) (gB rfl) ?_ ?_
       rotate_left 1
       ·
        intro w' hSw; (go_simp) <;> with_reducible rfl
       refine tkH 9 (v := ?_) (gB rfl) ?_ ?_
       rotate_left 1
       ·
        intro w' hSw; (go_simp) <;> with_reducible rfl
       refine tkH 10 (v := ?_) (gB rfl) ?_ ?_
       rotate_left 1
       ·
        intro w' hSw; (go_simp) <;> with_reducible rfl
       refine tkH 11 (v := ?_) (gB rfl) ?_ ?_
       rotate_left 1
       ·
        intro w' hSw; (go_simp) <;> with_reducible rfl
       refine tkH 13 (v := ?_) (gB rfl) ?_ ?_
       rotate_left 1
       ·
        intro w' hSw; (go_simp) <;> with_reducible rfl
       try simp only [Act.put, List.setIfInBounds_toArray, List.set_cons_zero, List.set_cons_succ]
       refine rdH [14] ?_
       refine AllReadyH.cons (gB rfl) (fun K hK => ?_) ?_
       ·
        obtain ⟨e0, e1, f0, f1⟩ := hC.two
        go_simp
        refine hK.out _ _ (Below.setCell (Below.setCell hHeld hKW _) hKW _) (fun hHeld => ?_)
        clear hK K
        refine tkH 15 (v := ?_) (gB rfl) ?_ ?_
        rotate_left 1
        ·
         intro w' hSw; (go_simp) <;> with_reducible rfl
        try simp only [Act.put, List.setIfInBounds_toArray, List.set_cons_zero, List.set_cons_succ]
        refine wpAnyH_done (by kernel_rfl) ?_ _
        refine NoPanic.normal ?_
        go_wp2_with fail
        go_meet
        case rel => exact ⟨Tb, Go, no, co, H1, n1, d1, H2, n2, d2, rfl, rfl, rfl, (hC.set' (i := 0) _ (by simp)).set' (i := 1) _ (by simp), hKW, hD.put, hHeld⟩
       exact AllReadyH.nil
      exact AllReadyH.nil
     exact AllReadyH.nil
    exact AllReadyH.nil
   exact AllReadyH.nil
  exact AllReadyH.nil
 case rest =>
  obtain ⟨Tb, Go, no, co, H1, n1, d1, H2, n2, d2, rfl, rfl, rfl, hT, hTb, hM, hb5⟩ := hcut
  have HT := Lib.hid hT
  have HSX := Lib.hid (And.intro ((box_bd HSV4.out.2.1).mono fun b hb => (show b ≠ Tb by have := hb.2; omega)) ((flat_bd HSV4.out.2.2).mono fun b hb => (show b ≠ Tb by have := hb.2; omega)))
  have HSX5 := Lib.hid (And.intro (HSX.out.1.down hb5) (HSX.out.2.down hb5))
  clear HSX
  have HL5 := Lib.hid (HL4.out.down hb5)
  have HSV5 := Lib.hid (And.intro (HSV4.out.1.down hb5) (And.intro (HSV4.out.2.1.down hb5) (HSV4.out.2.2.down hb5)))
  have HB5 := Lib.hid (bt HB4.out hb5)
  have hwT : w.heap.size ≤ Tb := Nat.le_trans HB4.out.size hTb
  have HTb := Lib.hid hwT
  have hS0T : S0 ≠ Tb := by have := HSV4.out.1.2.2; omega
  have HST := Lib.hid hS0T
  obtain ⟨s0, s1, -, -⟩ := HSV5.out.1.two
  rcases HR2.out with ⟨h20, h5⟩ | ⟨h20, h0, h1⟩
  ·
   have hq : decide ((ns : Int) = 20) = true := decide_eq_true (by omega)
   have hq2 : ((ns : Int) == 20) = true := beq_iff_eq.2 (by omega)
   rw [h5]
   clear hT hTb hM hb5 HL4 HSV4 HB4 HDL hwT hS0T HR2 h20 h5 HPT HSM
   go_wp2_with fail
   go_ret
   exact ⟨rfl, HB5.out⟩
  ·
   have hq : decide ((ns : Int) = 20) = false := decide_eq_false (by omega)
   have hq2 : ((ns : Int) == 20) = false := beq_eq_false_iff_ne.2 (by omega)
   obtain ⟨hno, hO, hBx, hSp⟩ := hM.1 h0
   rw [h1] at hBx hSp
   rw [HOUT.out] at hno hO
   have hno1 : no = 1 := hno
   subst hno1
   have hn2 : n2 = ns + 1 := by
    have := sat_len hSp
    rw [HNS.out, ← this]
    simp
   subst hn2
   have hcp : ns + 1 ≤ d2 := by
    obtain ⟨_, _, e, hcc⟩ := hSp.form
    have := sat_len hSp
    injection e with _ e2 e3
    omega
   have hTk : SAt cEnt wc (fun b => b ≠ Tb) (.slice H2 ns d2) s.spool := by
    have := SAt.take (cap := d2) (n := ns + 1) hSp ns d2 (by rw [List.length_append, ← HNS.out]; exact Nat.le_add_right _ _) (by omega)
    rw [HNS.out, List.take_left] at this
    rw [HNS.out]
    exact this
   obtain ⟨g, off, vs, rfl, hgT, hgl, hrr, hcc⟩ := hO.get 0 (by show 0 < 1; omega)
   obtain rfl : vs = entC e0 := hrr
   rw [HE0.out] at hcc
   have x0 : wc.cell? ⟨g, off, none⟩ = some (.int .i64 6) := by have := hcc 0 _ rfl; simpa using this
   have x1 : wc.cell? ⟨g, off + 1, none⟩ = some (.string ⟨#[]⟩) := by have := hcc 1 _ rfl; simpa using this
   have x2 : wc.cell? ⟨g, off + 2, none⟩ = some (.int .i64 0) := by have := hcc 2 _ rfl; simpa using this
   have x3 : wc.cell? ⟨g, off + 3, none⟩ = some (.int .i64 0) := by have := hcc 3 _ rfl; simpa using this
   have x4 : wc.cell? ⟨g, off + 4, none⟩ = some (.string fr) := by have := hcc 4 _ rfl; simpa using this
   have x5 : wc.cell? ⟨g, off + 5, none⟩ = some (.string tx) := by have := hcc 5 _ rfl; simpa using this
   have HXS := Lib.hid (And.intro x0 (And.intro x1 (And.intro x2 (And.intro x3 (And.intro x4 x5)))))
   have HBX := Lib.hid hBx; have HTK := Lib.hid hTk
   have hgT' : g ≠ Tb := hgT
   have HGT := Lib.hid hgT'
   have HCP := Lib.hid hcp
   rw [h0]
   obtain ⟨l0, l1, l2, l3, l4⟩ := ltt_get HL5.out
   have HC3 := Lib.hid (HPT.out wc HB5.out)
   clear hT hTb hM hb5 HL4 HSV4 HB4 HDL hwT hS0T HR2 h20 h0 h1 hno hO hBx hSp hTk hgT hgT' hgl hcc x0 x1 x2 x3 x4 x5 hcp HPT HOUT HE0
   go_wp2_with fail
   refine HC3.out.mono ?_
   rintro e w6 ⟨rfl, hb6⟩
   have HT6 := Lib.hid (HT.out.down hb6)
   obtain ⟨t0, t1, f0, f1⟩ := HT6.out.two
   have HS6 := Lib.hid (HSV5.out.1.down hb6)
   have HX6 := Lib.hid (And.intro (HSX5.out.1.down hb6) (HSX5.out.2.down hb6))
   have HBX6 := Lib.hid (HBX.out.down hb6); have HTK6 := Lib.hid (HTK.out.down hb6)
   have HXS6 := Lib.hid (And.intro (moved HXS.out.1 hb6 (Nat.le_refl _)) (And.intro (moved HXS.out.2.1 hb6 (Nat.le_refl _)) (And.intro (moved HXS.out.2.2.1 hb6 (Nat.le_refl _)) (And.intro (moved HXS.out.2.2.2.1 hb6 (Nat.le_refl _)) (And.intro (moved HXS.out.2.2.2.2.1 hb6 (Nat.le_refl _)) (moved HXS.out.2.2.2.2.2 hb6 (Nat.le_refl _)))))))
   have HB6 := Lib.hid (bt HB5.out hb6)
   have hc1 : (((ns + 1 : Nat) : Int) - 1) = (ns : Int) := by omega
   have hcp := HCP.out
   have hn20 := HN20.out
   clear hb6 HC3 HT HSV5 HSX5 HBX HTK HXS HB5 HL5 s0 s1 l0 l1 l2 l3 l4
   have hT7 := HT6.out.set' (i := 1) (.slice H2 ns d2) (by simp)
   have hS7 := HS6.out.else' (i := 1) HST.out (.slice H2 ns d2)
   have hX7 := And.intro (off_box (u := .slice H2 ns d2) (i := 1) HX6.out.1) (off_ent (u := .slice H2 ns d2) (i := 1) HX6.out.2)
   have hBX7 := off_box (u := .slice H2 ns d2) (i := 1) HBX6.out
   have hTK7 := off_ent (u := .slice H2 ns d2) (i := 1) HTK6.out
   have hb7 := HB6.out.setCell (p := ⟨Tb, 1, none⟩) HTb.out (.slice H2 ns d2)
   have hx7 : ∀ (k : Nat) (v : Value), w6.cell? ⟨g, k, none⟩ = some v → (w6.setCell ⟨Tb, 1, none⟩ (.slice H2 ns d2)).cell? ⟨g, k, none⟩ = some v := fun k v hv => by
    rw [World.cell?_setCell_other _ _ _ _ (by intro e; exact HGT.out (congrArg Addr.block e).symm)]
    exact hv
   obtain ⟨W7, hW7⟩ : ∃ W, W = w6.setCell ⟨Tb, 1, none⟩ (.slice H2 ns d2) := ⟨_, rfl⟩
   rw [← hW7] at hT7 hS7 hX7 hBX7 hTK7 hb7 hx7
   have HWe := Lib.hid hW7
   have HS7 := Lib.hid hS7; have HT7 := Lib.hid hT7; have HB7 := Lib.hid hb7
   have HX7 := Lib.hid (And.intro (hx7 _ _ HXS6.out.1) (And.intro (hx7 _ _ HXS6.out.2.1) (And.intro (hx7 _ _ HXS6.out.2.2.1) (And.intro (hx7 _ _ HXS6.out.2.2.2.1) (And.intro (hx7 _ _ HXS6.out.2.2.2.2.1) (hx7 _ _ HXS6.out.2.2.2.2.2))))))
   have HC4 := Lib.hid (HSM.out W7 _ _ _ _ _ _ hX7.1 hX7.2 hBX7 hTK7)
   clear hT7 hS7 hX7 hBX7 hTK7 hb7 hx7 hW7 HSM
   go_upto_region 11 with fail
   rw [← HWe.out]
   clear HWe t0 t1 f0 f1 HS6 HT6 HX6 HBX6 HTK6 HXS6 HB6
   obtain ⟨x0, x1, x2, x3, x4, x5⟩ := HX7.out
   obtain ⟨s0, s1, -, -⟩ := HS7.out.two
   obtain ⟨t0, t1, -, -⟩ := HT7.out.two
   go_wp2_with fail
   refine HC4.out.mono ?_
   rintro e w8 ⟨rfl, hb8⟩
   have HB8 := Lib.hid (bt HB7.out hb8)
   clear hb8 HC4
   go_wp2_with fail
   go_ret
   exact ⟨rfl, HB8.out⟩
end Go.Proofs.YtpfbkdbblpppdaaGreatDoor.Dv
