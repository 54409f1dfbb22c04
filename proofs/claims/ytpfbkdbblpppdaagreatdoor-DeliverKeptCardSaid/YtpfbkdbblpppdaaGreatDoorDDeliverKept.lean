/-
  DERIVED. Of: DeliverKept.
-/
import Derived.Test.YtpfbkdbblpppdaaGreatDoorDDvG
set_option linter.unusedVariables false
set_option linter.unusedSimpArgs false
namespace Go.Proofs.YtpfbkdbblpppdaaGreatDoor.Dv
open Go.RowKit
open Sc (Str cStr strC RW cStk Stk scriptS)
open Jd (Ltt partL lttC keepA endJ cmdsJ C0 LetOK LetterP ltrX ltrX_ok letterX_any PostIn ltt_get)

set_option maxHeartbeats 8000000 in
set_option maxRecDepth 20000 in
theorem deliverKept_any (la : Option Addr) (cap : Nat) (cs : List Raw) (a0 a1 a2 b0 b1 b2 : ByteArray) (G : Option Addr) (n c : Nat) (z : Nat → Nat → ByteArray) (bo : ByteArray) (m : Int) (w : World)
    (hl : RawsAt w la cs) (hlen : cs.length ≤ 9223372036854775807) (h : PostIn w a0 a1 a2 b0 b1 b2 G n c z bo) (hW : RW w m) :
    Calls Tryz.prog 9 #[.slice la cs.length cap, .agg #[.string a0, .string a1, .string a2, .string b0, .string b1, .string b2, .slice G n c, .string bo]] w fun e w' => e = .returned (.bool true) ∧ Below w.heap.size w w' := by
  obtain ⟨x, hx⟩ : ∃ x, x = ltrX a0 a1 b0 b1 z n bo := ⟨_, rfl⟩
  have hok := ltrX_ok a0 a1 b0 b1 z n bo
  rw [← hx] at hok
  have HLT : Hid (∀ V, Below w.heap.size w V → Calls Tryz.prog 14 #[.agg #[.string a0, .string a1, .string a2, .string b0, .string b1, .string b2, .slice G n c, .string bo]] V (LetterP x V)) := fun V hV => by
    rw [hx]
    exact letterX_any a0 a1 a2 b0 b1 b2 G n c z bo m V (h.down hV) (hW.down hV).max
  obtain ⟨s, hs⟩ : ∃ s, s = stBx cs := ⟨_, rfl⟩
  have hg := stBx_good cs
  rw [← hs] at hg
  have HST : Hid (∀ V, Below w.heap.size w V → Calls Tryz.prog 26 #[.slice la cs.length cap] V (StPost s V)) := fun V hV => by
    rw [hs]
    exact state_any la cap cs m V (hl.down hV) hlen (hW.down hV).max
  obtain ⟨r, hr⟩ : ∃ r, r = allS s [keptE x] := ⟨_, rfl⟩
  have HDL : Hid (∀ V vB vS F, SAt cBox V F vB s.boxes → SAt cEnt V F vS s.spool → Below w.heap.size w V → Calls Tryz.prog 27 #[.agg #[vB, vS], .agg (lttC x).toArray, .slice none 0 0] V (DelR [keptE x] r V)) := fun V vB vS F hB hS hV => by
    rw [hr]
    exact deliver_nil s x _ _ vB vS m V F hB hS hg (hW.down hV) hok
  have HAP : Hid (∀ V vB vS F, SAt cBox V F vB s.boxes → SAt cEnt V F vS s.spool → Below w.heap.size w V → Calls Tryz.prog 31 #[.agg #[vB, vS], .agg #[.int .i64 2, .string ⟨#[73, 78, 66, 79, 88]⟩, .int .i64 0, .int .i64 0, .string ⟨#[]⟩, .string ⟨x.text.toArray⟩]] V (AllR r V)) := fun V vB vS F hB hS hV => by
    rw [hr]
    refine Calls.mono ?_ fun _ _ h => ApPost.r h
    exact Apply_any s (keptE x) vB vS F m V hB hS hg (small_of_form (kept_form x hok.size)) (hW.down hV).max
  have HSM : Hid (r.2 = 0 → ∀ V v1 u1 v2 u2 F1 F2, SAt cBox V F1 v1 r.1.boxes → SAt cEnt V F1 u1 r.1.spool → SAt cBox V F2 v2 r.1.boxes → SAt cEnt V F2 u2 r.1.spool → Calls Tryz.prog 30 #[.agg #[v1, u1], .agg #[v2, u2]] V fun e w' => e = .returned (.bool true) ∧ Below V.heap.size V w') := fun h0 V v1 u1 v2 u2 F1 F2 k1 k2 k3 k4 => by
    have hgr : GoodS r.1 := by rw [hr]; exact allS_one_good hg (kept_form x hok.size)
    exact same_any r.1 v1 u1 v2 u2 F1 F2 V k1 k2 k3 k4 (by have := hgr.boxes; omega) (by have := hgr.spool; omega) (fun b hb => by have := (hgr.ok b hb).2.2.2.1; omega)
  have hA1 := ba (Below.refl w.heap.size w) (.cells #[.string a0, .string a1, .string a2, .string b0, .string b1, .string b2, .slice G n c, .string bo] 26)
  have HX1 := Lib.hid (Has.alloc w [.string a0, .string a1, .string a2, .string b0, .string b1, .string b2, .slice G n c, .string bo] 26)
  have HA := Lib.hid hA1
  have HC := Lib.hid (HST.out _ hA1)
  clear hx h hW hok hA1 HST hl hlen hs hg hr
  go_enter Tryz.func9, Tryz.ntmps9
  go_wp2_with fail
  refine HC.out.mono ?_
  rintro e w1 ⟨⟨G1, c1, G2, c2, rfl, h1, h2⟩, hb1⟩
  have hA := ba (Below.refl w1.heap.size w1) (.cells #[.slice G1 s.boxes.length c1, .slice G2 s.spool.length c2] 73)
  obtain ⟨S0, hS0⟩ : ∃ S0, S0 = w1.heap.size := ⟨_, rfl⟩
  obtain ⟨W2, hW2⟩ : ∃ W, W = w1.alloc (.cells #[.slice G1 s.boxes.length c1, .slice G2 s.spool.length c2] 73) := ⟨_, rfl⟩
  have hs2 : Has W2 S0 [.slice G1 s.boxes.length c1, .slice G2 s.spool.length c2] := by rw [hW2, hS0]; exact Has.alloc w1 _ _
  rw [← hW2] at hA
  have HSV := Lib.hid (And.intro hs2 (And.intro (h1.down hA) (h2.down hA)))
  have HB2 := Lib.hid (bt (bt HA.out hb1) hA)
  obtain ⟨p0, p1, p2, p3, p4, p5, p6, p7⟩ := Sc.has_oct' (HX1.out.down (bt hb1 hA))
  have HC2 := Lib.hid (HLT.out _ HB2.out)
  have HWe := Lib.hid hW2; have HSe := Lib.hid hS0
  clear hA hb1 h1 h2 hs2 hS0 hW2 HC HX1 HA HLT
  go_upto_region 2 with fail
  rw [← HWe.out, ← HSe.out]
  clear HWe HSe
  go_wp2_with fail
  refine HC2.out.mono ?_
  rintro e w3 ⟨rfl, hb3⟩
  have hA := ba (Below.refl w3.heap.size w3) (.cells (lttC x).toArray 33)
  have HL := Has.alloc w3 (lttC x) 33
  obtain ⟨L, hLe⟩ : ∃ L, L = w3.heap.size := ⟨_, rfl⟩
  obtain ⟨W4, hW4⟩ : ∃ W, W = w3.alloc (.cells (lttC x).toArray 33) := ⟨_, rfl⟩
  rw [← hW4, ← hLe] at HL
  rw [← hW4] at hA
  have hb := bt hb3 hA
  have HL4 := Lib.hid HL
  have HSV4 := Lib.hid (And.intro (HSV.out.1.down hb) (And.intro (HSV.out.2.1.down hb) (HSV.out.2.2.down hb)))
  have HB4 := Lib.hid (bt HB2.out hb)
  have HC3 := Lib.hid (HDL.out W4 _ _ _ HSV4.out.2.1 HSV4.out.2.2 HB4.out)
  have HWe := Lib.hid hW4; have HLe := Lib.hid hLe
  unfold lttC at HWe HC3 ⊢
  clear hA hb hb3 HL hLe hW4 HC2 HSV HB2 HDL p0 p1 p2 p3 p4 p5 p6 p7
  go_upto_region 3 with fail
  rw [← HWe.out, ← HLe.out]
  clear HWe HLe
  obtain ⟨l0, l1, l2, l3, l4⟩ := ltt_get HL4.out
  obtain ⟨s0, s1, -, -⟩ := HSV4.out.1.two
  go_wp2_with fail
  refine HC3.out.mono ?_
  rintro e w5 ⟨Go, no, co, H1, n1, d1, H2, n2, d2, rfl, hgood, hbad, hb5⟩
  have hA := ba (Below.refl w5.heap.size w5) (.cells #[.slice H1 n1 d1, .slice H2 n2 d2] 73)
  obtain ⟨T, hT⟩ : ∃ T, T = w5.heap.size := ⟨_, rfl⟩
  obtain ⟨W6, hW6⟩ : ∃ W, W = w5.alloc (.cells #[.slice H1 n1 d1, .slice H2 n2 d2] 73) := ⟨_, rfl⟩
  have hT6 : Has W6 T [.slice H1 n1 d1, .slice H2 n2 d2] := by rw [hW6, hT]; exact Has.alloc w5 _ _
  rw [← hW6] at hA
  have hb := bt hb5 hA
  have HT6 := Lib.hid hT6
  have HGD := Lib.hid (fun h0 => And.intro (hgood h0).1 (And.intro ((hgood h0).2.2.1.down hA) ((hgood h0).2.2.2.down hA)))
  have HBD := Lib.hid hbad
  have HL6 := Lib.hid (HL4.out.down hb)
  have HSV6 := Lib.hid (And.intro (HSV4.out.1.down hb) (And.intro (HSV4.out.2.1.down hb) (HSV4.out.2.2.down hb)))
  have HB6 := Lib.hid (bt HB4.out hb)
  have HC4 := Lib.hid (HAP.out W6 _ _ _ HSV6.out.2.1 HSV6.out.2.2 HB6.out)
  have HWe := Lib.hid hW6; have HTe := Lib.hid hT
  clear hA hb hb5 hgood hbad hT6 hW6 hT HC3 HL4 HSV4 HB4 HAP l0 l1 l2 l3 l4 s0 s1
  go_upto_region 4 with fail
  rw [← HWe.out, ← HTe.out]
  clear HWe HTe
  obtain ⟨l0, l1, l2, l3, l4⟩ := ltt_get HL6.out
  obtain ⟨s0, s1, -, -⟩ := HSV6.out.1.two
  go_wp2_with fail
  refine HC4.out.mono ?_
  rintro e w7 ⟨K1, m1, e1, K2, m2, e2, rfl, hg7, hb7⟩
  have hA := ba (Below.refl w7.heap.size w7) (.cells #[.slice K1 m1 e1, .slice K2 m2 e2] 73)
  obtain ⟨U, hU⟩ : ∃ U, U = w7.heap.size := ⟨_, rfl⟩
  obtain ⟨W8, hW8⟩ : ∃ W, W = w7.alloc (.cells #[.slice K1 m1 e1, .slice K2 m2 e2] 73) := ⟨_, rfl⟩
  have hU8 : Has W8 U [.slice K1 m1 e1, .slice K2 m2 e2] := by rw [hW8, hU]; exact Has.alloc w7 _ _
  rw [← hW8] at hA
  have hb := bt hb7 hA
  have HU8 := Lib.hid hU8
  have HT8 := Lib.hid (HT6.out.down hb)
  have HG8 := Lib.hid (fun h0 => And.intro (HGD.out h0).1 (And.intro (And.intro ((HGD.out h0).2.1.down hb) ((HGD.out h0).2.2.down hb)) (And.intro ((hg7 h0).1.down hA) ((hg7 h0).2.down hA))))
  have HB8 := Lib.hid (bt HB6.out hb)
  have HWe := Lib.hid hW8; have HUe := Lib.hid hU
  clear hA hb hb7 hg7 hU8 hW8 hU HC4 HL6 HSV6 HB6 HGD HT6 l0 l1 l2 l3 l4 s0 s1
  go_upto_region 5 with fail
  rw [← HWe.out, ← HUe.out]
  clear HWe HUe
  by_cases h0 : r.2 = 0
  · obtain ⟨hno, ⟨k1, k2⟩, k3, k4⟩ := HG8.out h0
    have hno1 : no = 1 := hno
    subst hno1
    have HC5 := Lib.hid (HSM.out h0 W8 _ _ _ _ _ _ k1 k2 k3 k4)
    obtain ⟨t0, t1, -, -⟩ := HT8.out.two
    obtain ⟨u0, u1, -, -⟩ := HU8.out.two
    rw [h0]
    clear hno k1 k2 k3 k4 HSM HG8 HBD h0
    go_wp2_with fail
    refine HC5.out.mono ?_
    rintro e w9 ⟨rfl, hb9⟩
    have HB9 := Lib.hid (bt HB8.out hb9)
    clear hb9 HC5
    go_wp2_with fail
    go_ret
    exact ⟨rfl, HB9.out⟩
  · obtain ⟨hno, -, -⟩ := HBD.out h0
    subst hno
    have hq : (r.2 == 0) = false := beq_eq_false_iff_ne.2 h0
    have hq2 : decide (r.2 = 0) = false := decide_eq_false h0
    clear HSM HG8 HBD h0
    go_wp2_with fail
    go_ret
    exact ⟨rfl, HB8.out⟩
theorem deliverKept_walk (la : Option Addr) (cap : Nat) (cs : List Raw) (a0 a1 a2 b0 b1 b2 : ByteArray) (G : Option Addr) (n c : Nat) (z : Nat → Nat → ByteArray) (bo : ByteArray) (mx : Int) (W : World)
    (hl : RawsAt W la cs) (hlen : cs.length ≤ 9223372036854775807) (h0 : a0.size ≤ maxLen) (h1 : a1.size ≤ maxLen) (_h2 : a2.size ≤ maxLen) (j0 : b0.size ≤ maxLen) (j1 : b1.size ≤ maxLen) (_j2 : b2.size ≤ maxLen) (hx : StrRows W G n 2 z ∧ n ≤ maxLen) (hbo : bo.size ≤ maxLen)
    (hT : Sc.Tabs W W.heap.size) (hE : Sc.ExtAt W ∧ 0 < W.heap.size) (hN : NamesAt W ∧ 2 < W.heap.size) (hmx : W.cell? ⟨6, 0, none⟩ = some (.int .i64 mx)) :
    Calls Tryz.prog 9 #[.slice la cs.length cap, .agg #[.string a0, .string a1, .string a2, .string b0, .string b1, .string b2, .slice G n c, .string bo]] W fun e w' => e = .returned (.bool true) ∧ Below W.heap.size W w' :=
  deliverKept_any la cap cs a0 a1 a2 b0 b1 b2 G n c z bo mx W hl hlen ⟨h0, h1, j0, j1, hx, hbo⟩ ⟨hT, hE, hN, hmx⟩
end Go.Proofs.YtpfbkdbblpppdaaGreatDoor.Dv
