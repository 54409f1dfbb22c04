/-
  DERIVED. The law AskSize: its walk.
-/
import Derived.Test.YtkbbepienmpibaaGreatDoorJdA
namespace Go.Proofs.YtkbbepienmpibaaGreatDoor.Jd
open Go.RowKit
open Sc (Str Tst Cmd cStr strC tstC cTst cCmd RW Stk cStk)

def sizeT (o : Bool) (k : Int) : Tst := ⟨10, 0, 0, [], [], o, k, []⟩
theorem sizeT_fine (o : Bool) (k : Int) (h : 0 ≤ k ∧ k ≤ 2147483647) : Fine 1 13 (sizeT o k) := by
  refine ⟨Sc.FormT.mk' (by unfold Sc.Form1 sizeT; simp; omega) (fun s hs => by cases hs), Sc.niceT_mk (fun h => absurd h (by show ¬ (10 : Int) = 8; decide)) rfl (fun s hs => by cases hs), Sc.LenTs_mk Sc.nilStr Sc.nilStr ⟨Nat.zero_le _, Nat.zero_le _, Nat.zero_le _⟩ Sc.nilT, ?_, ?_⟩
  · rw [Sc.fitT_eq]; simp [sizeT]
  · rw [Sc.wT_eq]; simp [sizeT, Sc.bodyT]
theorem sizeT_says (x : Ltt) (fs : List Fld) (o : Bool) (k : Int) : tstJ x fs (sizeT o k) = if o = true then decide (k < x.text.length) else decide ((x.text.length : Int) < k) := by
  rw [tstJ_eq, if_neg (by show ¬ (10 : Int) = 3; decide), if_neg (by show ¬ (10 : Int) = 5; decide), if_neg (by show ¬ (10 : Int) = 4; decide)]
  unfold askL sizeT
  dsimp only
  rw [if_neg (by decide), if_pos rfl]
theorem sizeT_tv (w : World) (o : Bool) (k : Int) : TV w 1 (sizeT o k) [.int .i64 10, .int .i64 0, .int .i64 0, .slice none 0 0, .slice none 0 0, .bool o, .int .i64 k, .slice none 0 0] := ⟨_, _, _, rfl, SAt.nil _ _ _, SAt.nil _ _ _, SAt.nil _ _ _⟩
set_option maxHeartbeats 8000000 in
set_option maxRecDepth 20000 in
theorem askSize_any (a0 a1 a2 b0 b1 b2 : ByteArray) (G : Option Addr) (n c : Nat) (z : Nat → Nat → ByteArray) (bo : ByteArray) (q m : Int) (w : World)
    (h : PostIn w a0 a1 a2 b0 b1 b2 G n c z bo) (hq : -9223372036854775808 ≤ q ∧ q ≤ 9223372036854775807) (hW : RW w m) :
    Calls Tryz.prog 5 #[.agg #[.string a0, .string a1, .string a2, .string b0, .string b1, .string b2, .slice G n c, .string bo], .int .i64 q] w fun e w' => e = .returned (.bool true) ∧ Below w.heap.size w w' := by
  obtain ⟨x, hx⟩ : ∃ x, x = ltrX a0 a1 b0 b1 z n bo := ⟨_, rfl⟩
  have hok := ltrX_ok a0 a1 b0 b1 z n bo
  rw [← hx] at hok
  obtain ⟨fs, hfs⟩ : ∃ fs, fs = ltrFs z n := ⟨_, rfl⟩
  rw [← hfs] at hok
  have HLT : Hid (∀ V, Below w.heap.size w V → Calls Tryz.prog 11 #[.agg #[.string a0, .string a1, .string a2, .string b0, .string b1, .string b2, .slice G n c, .string bo]] V (LetterP x V)) := fun V hV => by
    rw [hx]
    exact letterX_any a0 a1 a2 b0 b1 b2 G n c z bo m V (h.down hV) (hW.down hV).max
  have HPK : Hid (∀ w, Calls Tryz.prog 15 #[.int .i64 q, .int .i64 700] w fun e w' => e = .returned (.int .i64 (pick q (700 : Nat))) ∧ w = w') := fun w => picked_any q 700 w hq.1 hq.2 (by omega) (by omega)
  have hk := pick_lt q 700 (by omega)
  generalize pick q (700 : Nat) = k at HPK hk
  have HASK : Hid (∀ (o : Bool) (V : World), Below w.heap.size w V → Calls Tryz.prog 14 #[.agg #[.int .i64 10, .int .i64 0, .int .i64 0, .slice none 0 0, .slice none 0 0, .bool o, .int .i64 k, .slice none 0 0], .agg (lttC x).toArray] V (AskR (if o = true then decide ((k : Int) < x.text.length) else decide ((x.text.length : Int) < k)) V)) := fun o V hV => by
    rw [← sizeT_says x fs o k]
    exact jask_tv 1 13 (sizeT o k) _ x fs _ m V (sizeT_tv V o k) (sizeT_fine o k (by omega)) (by omega) hok (hW.down hV)
  have HK1 := Lib.hid (HASK.out true); have HK2 := Lib.hid (HASK.out false)
  rw [if_pos rfl] at HK1
  rw [if_neg (by decide)] at HK2
  have hA1 := ba (Below.refl w.heap.size w) (.cells #[.string a0, .string a1, .string a2, .string b0, .string b1, .string b2, .slice G n c, .string bo] 26)
  have HX1 := Lib.hid (Has.alloc w [.string a0, .string a1, .string a2, .string b0, .string b1, .string b2, .slice G n c, .string bo] 26)
  have HA := Lib.hid hA1
  have HC := Lib.hid (HLT.out _ hA1)
  obtain ⟨p0, p1, p2, p3, p4, p5, p6, p7⟩ := Sc.has_oct' HX1.out
  clear hx hfs h hq hW hok hA1 HASK HLT
  go_enter Tryz.func5, Tryz.ntmps5
  go_wp2_with fail
  refine HC.out.mono ?_
  rintro e w1 ⟨rfl, hb1⟩
  have hA := ba (Below.refl w1.heap.size w1) (.cells (lttC x).toArray 33)
  have HL := Lib.hid (Has.alloc w1 (lttC x) 33)
  have HB2 := Lib.hid (bt (bt HA.out hb1) hA)
  obtain ⟨L, hLe⟩ : ∃ L, L = w1.heap.size := ⟨_, rfl⟩
  obtain ⟨W2, hW2⟩ : ∃ W2, W2 = w1.alloc (.cells (lttC x).toArray 33) := ⟨_, rfl⟩
  have HL2 : Hid (Has W2 L (lttC x)) := by unfold Hid; rw [hW2, hLe]; exact HL.out
  have HBW : Hid (Below w.heap.size w W2) := by unfold Hid; rw [hW2]; exact HB2.out
  have HWe := Lib.hid hW2; have HLe := Lib.hid hLe
  unfold lttC at HWe HK1 HK2 ⊢
  clear hA hb1 HC p0 p1 p2 p3 p4 p5 p6 p7 HX1 HA HL HB2 hW2 hLe
  go_wp2_with fail
  rw [← HWe.out, ← HLe.out]
  refine (HPK.out _).mono ?_
  rintro e w2 ⟨rfl, rfl⟩
  obtain ⟨l0, l1, l2, l3, l4⟩ := ltt_get HL2.out
  have HC := Lib.hid (HK1.out W2 HBW.out)
  clear HWe HLe HPK
  go_wp2_with fail
  refine HC.out.mono ?_
  rintro e w3 ⟨rfl, hb3⟩
  have HB3 := Lib.hid (bt HBW.out hb3)
  have HC := Lib.hid (HK2.out w3 HB3.out)
  obtain ⟨l0', l1', l2', l3', l4'⟩ := ltt_get (HL2.out.down hb3)
  have HL3 := Lib.hid (HL2.out.down hb3)
  clear l0 l1 l2 l3 l4 hb3
  go_wp2_with fail
  refine HC.out.mono ?_
  rintro e w4 ⟨rfl, hb4⟩
  have HB4 := Lib.hid (bt HB3.out hb4)
  obtain ⟨l0, l1, l2, l3, l4⟩ := ltt_get (HL3.out.down hb4)
  clear l0' l1' l2' l3' l4' hb4 HC HK1 HK2
  go_wp2_with fail
  go_ret
  exact ⟨rfl, HB4.out⟩
theorem askSize_walk (a0 a1 a2 b0 b1 b2 : ByteArray) (G : Option Addr) (n c : Nat) (z : Nat → Nat → ByteArray) (bo : ByteArray) (q mx : Int) (W : World) (h0 : a0.size ≤ maxLen) (h1 : a1.size ≤ maxLen) (_h2 : a2.size ≤ maxLen) (j0 : b0.size ≤ maxLen) (j1 : b1.size ≤ maxLen) (_j2 : b2.size ≤ maxLen) (hx : StrRows W G n 2 z ∧ n ≤ maxLen) (hbo : bo.size ≤ maxLen)
    (hq : -9223372036854775808 ≤ q ∧ q ≤ 9223372036854775807) (hT : Sc.Tabs W W.heap.size) (hE : Sc.ExtAt W ∧ 0 < W.heap.size) (hN : NamesAt W ∧ 2 < W.heap.size) (hmx : W.cell? ⟨3, 0, none⟩ = some (.int .i64 mx)) :
    Calls Tryz.prog 5 #[.agg #[.string a0, .string a1, .string a2, .string b0, .string b1, .string b2, .slice G n c, .string bo], .int .i64 q] W fun e w' => e = .returned (.bool true) ∧ Below W.heap.size W w' :=
  askSize_any a0 a1 a2 b0 b1 b2 G n c z bo q mx W ⟨h0, h1, j0, j1, hx, hbo⟩ hq ⟨hT, hE, hN, hmx⟩
end Go.Proofs.YtkbbepienmpibaaGreatDoor.Jd
