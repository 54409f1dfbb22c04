/-
  DERIVED. Of: JudgeFlags.
-/
import Derived.Test.YtpfbkdbblpppdaaGreatDoorDJdA
import Derived.Test.YtpfbkdbblpppdaaGreatDoorDJdFlagP
import Derived.Test.YtpfbkdbblpppdaaGreatDoorDIntsAt
import Derived.Deep.DeepCutAuto
import Derived.Deep.RegionHeld3
set_option linter.unusedVariables false
set_option linter.unusedSimpArgs false
namespace Go.Proofs.YtpfbkdbblpppdaaGreatDoor.Jd
open Go.RowKit
open Sc (Str Tst Cmd cStr strC tstC cTst cCmd RW Stk cStk scriptS ruleS CRow bareV reqC T0 reqV strs flagL)

/-- the letter's cells in block L -/
abbrev HL (x : Ltt) (L : Nat) (w : World) : Prop := Has w L [.string ⟨x.fa.toArray⟩, .string ⟨x.fd.toArray⟩, .string ⟨x.ta.toArray⟩, .string ⟨x.td.toArray⟩, .string ⟨x.text.toArray⟩]
theorem gA {α : Type} {l : List α} {i : Nat} {o : α} (h : l[i]? = some o) : l.toArray[i]? = some o := by rw [List.getElem?_toArray]; exact h
theorem IntsAt.down {w w' : World} {a : Option Addr} {n : Nat} {z : Nat → Int} (h : IntsAt w a n z) (hb : Below w.heap.size w w') : IntsAt w' a n z := fun i hi => by
  obtain ⟨b, o, h1, h2, h3, h4⟩ := h i hi
  exact ⟨b, o, h1, Nat.lt_of_lt_of_le h2 hb.size, moved h3 hb (Nat.le_refl _), h4⟩
/-- the commands' numbers -/
def ksOf (n : Nat) (z : Nat → Int) : List Nat := (List.range (min n 10)).map fun i => pick (z i) 10
theorem ksOf_len (n : Nat) (z : Nat → Int) : (ksOf n z).length = min n 10 := by unfold ksOf; rw [List.length_map, List.length_range]
theorem ksOf_lt (n : Nat) (z : Nat → Int) : ∀ k ∈ ksOf n z, k < 10 := fun k hk => by
  obtain ⟨i, -, rfl⟩ := List.mem_map.1 hk
  have := pick_lt (z i) 10 (by omega)
  exact_mod_cast this
/-- at the head of each round -/
def FlR (ks : List Nat) (w4 : World) (v8 v9 v10 : Value) (wr : World) : Prop := ∃ (j g cap : Nat), j ≤ ks.length ∧ v10 = .int .i64 j ∧ v9 = .int .i64 (wants (ks.take j) : Nat) ∧ v8 = .slice (some ⟨g, 0, none⟩) (j + 1) cap ∧ CRow w4.heap.size wr (.slice (some ⟨g, 0, none⟩) (j + 1) cap) (j + 1) (reqC :: (ks.take j).map fcC) ∧ Below w4.heap.size w4 wr
theorem first_sat {V : World} {A : Nat} (h : Has V A (strs flagL)) : SAt cStr V (fun b => b = A) (.slice (some ⟨A, 0, none⟩) 1 5) [flagL.getD 0 []] := by
  refine ⟨_, 5, rfl, by show 1 ≤ 5; omega, fun i x hi => ?_⟩
  match i, hi with
  | 0, hi =>
    obtain rfl : flagL.getD 0 [] = x := Option.some.inj hi
    refine ⟨A, 0, rfl, rfl, h.2.2, _, rfl, fun j u hj => ?_⟩
    have hj0 : j = 0 := by
      have := (List.getElem?_eq_some_iff.1 hj).1
      have e : (strC (flagL.getD 0 [])).length = 1 := rfl
      omega
    subst hj0
    obtain rfl : Value.string ⟨(flagL.getD 0 []).toArray⟩ = u := Option.some.inj hj
    exact h.1 0 _ rfl
theorem flag_lit (V : World) (A : Nat) (h : Has V A (strs flagL)) : SAt (cCmd 15) (V.alloc (.cells #[.int .i64 3, .slice none 0 0, .int .i64 0, .int .i64 0, .int .i64 0, .slice none 0 0, .slice none 0 0, .bool false, .int .i64 0, .slice none 0 0, .slice none 0 0, .slice none 0 0, .int .i64 8, .slice (some ⟨A, 0, none⟩) 1 5, .int .i64 0, .int .i64 0, .int .i64 0, .slice none 0 0, .slice none 0 0, .bool false, .int .i64 0, .slice none 0 0, .slice none 0 0, .slice none 0 0] 50)) (fun b => b = V.heap.size ∨ b = A) (.slice (some ⟨V.heap.size, 0, none⟩) 2 2) [Sc.keepA, fcC 1] := by
  have h1 := Sc.lit_sat (F := fun b => b = A) V [(Sc.keepA, bareV 3), (fcC 1, [.int .i64 8, .slice (some ⟨A, 0, none⟩) 1 5, .int .i64 0, .int .i64 0, .int .i64 0, .slice none 0 0, .slice none 0 0, .bool false, .int .i64 0, .slice none 0 0, .slice none 0 0, .slice none 0 0])] (fun p hp => by
    rcases List.mem_cons.1 hp with rfl | hp
    · exact Sc.bare_rep 3 _ _
    · rw [List.mem_singleton] at hp
      subst hp
      exact Sc.cmd_le (by omega) (Sc.rep_text (k := 8) (first_sat h))) (by show 2 ≤ 100; omega)
  have h2 := Sc.SAt.bd (fun _ _ hr => Sc.cmd_bd 15 hr) h1
  refine h2.mono fun b hb => ?_
  have := hb.2
  rw [World.size_alloc] at this
  rcases hb.1 with h | h
  · exact .inl (by omega)
  · exact .inr h
set_option maxHeartbeats 8000000 in
set_option maxRecDepth 20000 in
theorem judgeFlags_any (a0 a1 a2 b0 b1 b2 : ByteArray) (G : Option Addr) (n c : Nat) (z : Nat → Nat → ByteArray) (bo : ByteArray) (ia : Option Addr) (ln cp : Nat) (zf : Nat → Int) (m : Int) (w : World)
  (h : PostIn w a0 a1 a2 b0 b1 b2 G n c z bo) (hi : IntsAt w ia ln zf) (hln : ln ≤ maxLen) (hW : RW w m) :
  Calls Tryz.prog 7 #[.agg #[.string a0, .string a1, .string a2, .string b0, .string b1, .string b2, .slice G n c, .string bo], .slice ia ln cp] w fun e w' => e = .returned (.bool true) ∧ Below w.heap.size w w' := by
 obtain ⟨x, hx⟩ : ∃ x, x = ltrX a0 a1 b0 b1 z n bo := ⟨_, rfl⟩
 have hok := ltrX_ok a0 a1 b0 b1 z n bo
 rw [← hx] at hok
 obtain ⟨fs, hfs⟩ : ∃ fs, fs = ltrFs z n := ⟨_, rfl⟩
 rw [← hfs] at hok
 have HLT : Hid (∀ V, Below w.heap.size w V → Calls Tryz.prog 14 #[.agg #[.string a0, .string a1, .string a2, .string b0, .string b1, .string b2, .slice G n c, .string bo]] V (LetterP x V)) := fun V hV => by
  rw [hx]
  exact letterX_any a0 a1 a2 b0 b1 b2 G n c z bo m V (h.down hV) (hW.down hV).max
 obtain ⟨ks, hks⟩ : ∃ ks, ks = ksOf ln zf := ⟨_, rfl⟩
 have hkl := ksOf_len ln zf
 have hk10 := ksOf_lt ln zf
 rw [← hks] at hkl hk10
 have HPK : Hid (∀ i (hi : i < ks.length) V, Calls Tryz.prog 15 #[.int .i64 (zf i), .int .i64 10] V fun e w' => e = .returned (.int .i64 (ks[i] : Nat)) ∧ V = w') := fun i hi' V => by
  have hil : i < ln := by omega
  obtain ⟨_, _, _, _, _, h4, h5⟩ := hi i hil
  have := picked_any (zf i) 10 V h4 h5 (by omega) (by omega)
  have e : ks[i] = pick (zf i) 10 := by subst hks; simp [ksOf]
  rw [e]
  exact this
 have HIN : Hid (∀ V, Below w.heap.size w V → IntsAt V ia ln zf) := fun V hV => IntsAt.down hi hV
 have HRW : Hid (∀ V, Below w.heap.size w V → RW V m) := fun V hV => hW.down hV
 have HOK := Lib.hid hok; have HK10 := Lib.hid hk10; have HKL := Lib.hid hkl
 have hA1 := ba (Below.refl w.heap.size w) (.cells #[.string a0, .string a1, .string a2, .string b0, .string b1, .string b2, .slice G n c, .string bo] 26)
 have HX1 := Lib.hid (Has.alloc w [.string a0, .string a1, .string a2, .string b0, .string b1, .string b2, .slice G n c, .string bo] 26)
 have HA := Lib.hid hA1
 have HC := Lib.hid (HLT.out _ hA1)
 obtain ⟨p0, p1, p2, p3, p4, p5, p6, p7⟩ := Sc.has_oct' HX1.out
 unfold maxLen at hln
 clear hx hfs h hW hok hA1 HLT hi hks hkl hk10
 go_enter Tryz.func7, Tryz.ntmps7
 go_wp2_with fail
 refine HC.out.mono ?_
 rintro e w1 ⟨rfl, hb1⟩
 have hA := ba (Below.refl w1.heap.size w1) (.cells (lttC x).toArray 33)
 have HL := Has.alloc w1 (lttC x) 33
 obtain ⟨L, hLe⟩ : ∃ L, L = w1.heap.size := ⟨_, rfl⟩
 obtain ⟨W2, hW2⟩ : ∃ W2, W2 = w1.alloc (.cells (lttC x).toArray 33) := ⟨_, rfl⟩
 rw [← hW2, ← hLe] at HL
 rw [← hW2] at hA
 have HL2 := Lib.hid HL
 have HBW := Lib.hid (bt (bt HA.out hb1) hA)
 have HWe := Lib.hid hW2; have HLe := Lib.hid hLe
 unfold lttC at HWe ⊢
 clear hA hb1 HC p0 p1 p2 p3 p4 p5 p6 p7 HX1 HA HL hW2 hLe
 go_upto_region 2 with fail
 rw [← HWe.out, ← HLe.out]
 clear HWe HLe
 have hA := ba (Below.refl W2.heap.size W2) (.cells (strs flagL).toArray 9)
 have hS := Has.alloc W2 (strs flagL) 9
 obtain ⟨A, hAe⟩ : ∃ A, A = W2.heap.size := ⟨_, rfl⟩
 obtain ⟨W3, hW3⟩ : ∃ W, W = W2.alloc (.cells (strs flagL).toArray 9) := ⟨_, rfl⟩
 rw [← hW3, ← hAe] at hS
 rw [← hW3] at hA
 have HS3 := Lib.hid hS
 have HL3 := Lib.hid (HL2.out.down hA)
 have HB3 := Lib.hid (bt HBW.out hA)
 have HC := Lib.hid (Sc.requires_any W3)
 have HWe := Lib.hid hW3; have HAe := Lib.hid hAe
 clear hA hS hW3 hAe HL2 HBW
 have hfl : (strs flagL).toArray = #[.string ⟨#[92, 83, 101, 101, 110]⟩, .string ⟨#[92, 65, 110, 115, 119, 101, 114, 101, 100]⟩, .string ⟨#[92, 70, 108, 97, 103, 103, 101, 100]⟩, .string ⟨#[92, 68, 101, 108, 101, 116, 101, 100]⟩, .string ⟨#[92, 68, 114, 97, 102, 116]⟩] := rfl
 rw [hfl] at HWe
 clear hfl
 go_upto_region 3 with fail
 rw [← HWe.out, ← HAe.out]
 clear HWe HAe
 go_wp2_with fail
 refine HC.out.mono ?_
 rintro e w4 ⟨N, rfl, hN, hzN, hb4⟩
 have hB4 := bt HB3.out hb4
 have hA := ba (Below.refl w4.heap.size w4) (.cells (reqV N).toArray 50)
 have hrow : CRow w4.heap.size (w4.alloc (.cells (reqV N).toArray 50)) (.slice (some ⟨w4.heap.size, 0, none⟩) 1 1) 1 [reqC] :=
  CRow.lit w4 [(reqC, reqV N)] (Nat.le_refl _) (fun p hp => by rw [List.mem_singleton] at hp; subst hp; exact Sc.cmd_le (by omega) (Sc.req_rep hN hN.2.2)) (by show 1 ≤ 100; omega)
 have HS4 := Lib.hid (HS3.out.down hb4); have HL4 := Lib.hid (HL3.out.down hb4)
 have HB4 := Lib.hid hB4
 have H0 := Lib.hid (And.intro hrow (show Below w4.heap.size w4 (w4.alloc (.cells (reqV N).toArray 50)) from hA))
 unfold reqV at H0 ⊢
 clear hA hrow hb4 hB4 hN hzN HC HS3 HL3 HB3
 go_upto_region 4 with fail
 refine Sc.wp_at (R := fun W => CRow w4.heap.size W (.slice (some ⟨w4.heap.size, 0, none⟩) 1 1) 1 [reqC] ∧ Below w4.heap.size w4 W) H0.out (fun W5 hW5 => ?_)
 have H5 := Lib.hid hW5
 clear hW5 H0
 go_wp2_with fail
 go_loopw [8, 9, 10] (FlR ks w4) (fun _ _ i _ => ks.length - (intOf i).toNat)
 case atStart => exact ⟨0, w4.heap.size, 1, Nat.zero_le _, rfl, rfl, rfl, H5.out.1, H5.out.2⟩
 case round =>
  obtain ⟨j, g, cap, hj, rfl, rfl, rfl, hrow, hb⟩ := hrel
  clear H5
  by_cases hlt : j < ks.length
  ·have hln' : j < ln := by have := HKL.out; omega
   have hj10 : j < 10 := by have := HKL.out; omega
   obtain ⟨ib, io, hia, -, hic, -⟩ := HIN.out wr (HB4.out.trans (hb.mono HB4.out.size)) j hln'
   subst hia
   have HC := Lib.hid (HPK.out j hlt wr)
   have hkm := HK10.out ks[j] (List.getElem_mem _)
   have HW1 : Hid (wants (ks.take (j + 1)) = wantJ (wants (ks.take j)) ks[j] ∧ (ks.take (j + 1)).map fcC = (ks.take j).map fcC ++ [fcC ks[j]]) := by
    unfold Hid wants
    rw [List.take_succ_eq_append_getElem hlt, List.foldl_append, List.map_append]
    exact ⟨rfl, rfl⟩
   have how := wants_lt (ks.take j) (fun k hk => HK10.out k (List.mem_of_mem_take hk))
   obtain ⟨k, hk⟩ : ∃ k, k = ks[j] := ⟨_, rfl⟩
   rw [← hk] at HC hkm HW1
   obtain ⟨ow, hoe⟩ : ∃ ow, ow = wants (ks.take j) := ⟨_, rfl⟩
   rw [← hoe] at HW1 how ⊢
   have hsr := HS4.out.below hb HS4.out.2.2
   obtain ⟨a0', a1', a2', a3', a4'⟩ : wr.cell? ⟨A, 0, none⟩ = some (.string ⟨#[92, 83, 101, 101, 110]⟩) ∧ wr.cell? ⟨A, 1, none⟩ = some (.string ⟨#[92, 65, 110, 115, 119, 101, 114, 101, 100]⟩) ∧ wr.cell? ⟨A, 2, none⟩ = some (.string ⟨#[92, 70, 108, 97, 103, 103, 101, 100]⟩) ∧ wr.cell? ⟨A, 3, none⟩ = some (.string ⟨#[92, 68, 101, 108, 101, 116, 101, 100]⟩) ∧ wr.cell? ⟨A, 4, none⟩ = some (.string ⟨#[92, 68, 114, 97, 102, 116]⟩) := ⟨hsr.1 0 _ rfl, hsr.1 1 _ rfl, hsr.1 2 _ rfl, hsr.1 3 _ rfl, hsr.1 4 _ rfl⟩
   have HOR : Hid (∀ a q : Nat, a < 32 → q < 32 → bits .or .i64 (a : Int) (q : Int) = ((a ||| q : Nat) : Int)) := fun a q h1 h2 => or_i64 a q h1 h2
   have HROW := Lib.hid hrow; have HB := Lib.hid hb
   have HJL := Lib.hid hlt
   have hjn : (j : Int) < ln := by omega
   have hd1 : decide (j < ln) = true := decide_eq_true hln'
   have hd2 : decide (j < 10) = true := decide_eq_true hj10
   have hkc : k = 0 ∨ k = 1 ∨ k = 2 ∨ k = 3 ∨ k = 4 ∨ k = 5 ∨ k = 6 ∨ k = 7 ∨ k = 8 ∨ k = 9 := by omega
   have HOW := Lib.hid how
   have hz4 : w4.heap.size ≤ wr.heap.size := hb.size
   clear hk hoe hkm hsr hrow hb hj how hlt
   rcases hkc with rfl | rfl | rfl | rfl | rfl | rfl | rfl | rfl | rfl | rfl
   ·have hor1 : bits .or .i64 (ow : Int) 1 = ((ow ||| 1 : Nat) : Int) := HOR.out ow 1 HOW.out (by decide)
    have hor0 : bits .or .i64 0 1 = 1 := by decide
    have hb3 : Below wr.heap.size wr (((wr.alloc (.cells #[.string ⟨#[92, 83, 101, 101, 110]⟩] 9)).alloc (.cells #[.int .i64 9, .slice (some ⟨wr.heap.size, 0, none⟩) 1 1, .int .i64 0, .int .i64 0, .int .i64 0, .slice none 0 0, .slice none 0 0, .bool false, .int .i64 0, .slice none 0 0, .slice none 0 0, .slice none 0 0] 50)).alloc (.cells #[.int .i64 9, .slice (some ⟨wr.heap.size, 0, none⟩) 1 1, .int .i64 0, .int .i64 0, .int .i64 0, .slice none 0 0, .slice none 0 0, .bool false, .int .i64 0, .slice none 0 0, .slice none 0 0, .slice none 0 0] 50)) := ba (ba (ba (Below.refl _ _) _) _) _
    have HB3' := Lib.hid hb3
    have HROW3 := Lib.hid (HROW.out.down hb3)
    have hz3 : w4.heap.size ≤ (((wr.alloc (.cells #[.string ⟨#[92, 83, 101, 101, 110]⟩] 9)).alloc (.cells #[.int .i64 9, .slice (some ⟨wr.heap.size, 0, none⟩) 1 1, .int .i64 0, .int .i64 0, .int .i64 0, .slice none 0 0, .slice none 0 0, .bool false, .int .i64 0, .slice none 0 0, .slice none 0 0, .slice none 0 0] 50)).alloc (.cells #[.int .i64 9, .slice (some ⟨wr.heap.size, 0, none⟩) 1 1, .int .i64 0, .int .i64 0, .int .i64 0, .slice none 0 0, .slice none 0 0, .bool false, .int .i64 0, .slice none 0 0, .slice none 0 0, .slice none 0 0] 50)).heap.size := Nat.le_trans hz4 hb3.size
    have hT : Has ((wr.alloc (.cells #[.string ⟨#[92, 83, 101, 101, 110]⟩] 9)).alloc (.cells #[.int .i64 9, .slice (some ⟨wr.heap.size, 0, none⟩) 1 1, .int .i64 0, .int .i64 0, .int .i64 0, .slice none 0 0, .slice none 0 0, .bool false, .int .i64 0, .slice none 0 0, .slice none 0 0, .slice none 0 0] 50)) wr.heap.size [.string ⟨#[92, 83, 101, 101, 110]⟩] := (Has.alloc wr [.string ⟨#[92, 83, 101, 101, 110]⟩] 9).down (ba (Below.refl _ _) _)
    have HSX : Hid (SAt (cCmd 15) (((wr.alloc (.cells #[.string ⟨#[92, 83, 101, 101, 110]⟩] 9)).alloc (.cells #[.int .i64 9, .slice (some ⟨wr.heap.size, 0, none⟩) 1 1, .int .i64 0, .int .i64 0, .int .i64 0, .slice none 0 0, .slice none 0 0, .bool false, .int .i64 0, .slice none 0 0, .slice none 0 0, .slice none 0 0] 50)).alloc (.cells #[.int .i64 9, .slice (some ⟨wr.heap.size, 0, none⟩) 1 1, .int .i64 0, .int .i64 0, .int .i64 0, .slice none 0 0, .slice none 0 0, .bool false, .int .i64 0, .slice none 0 0, .slice none 0 0, .slice none 0 0] 50)) (fun b => (Value.slice (some ⟨g, 0, none⟩) (j + 1) cap).ownBlock ≠ some b) (.slice (some ⟨wr.heap.size + 1 + 1, 0, none⟩) 1 1) [fcC 0]) := by
     have h1 := Sc.lit_sat (F := fun b => b = wr.heap.size) ((wr.alloc (.cells #[.string ⟨#[92, 83, 101, 101, 110]⟩] 9)).alloc (.cells #[.int .i64 9, .slice (some ⟨wr.heap.size, 0, none⟩) 1 1, .int .i64 0, .int .i64 0, .int .i64 0, .slice none 0 0, .slice none 0 0, .bool false, .int .i64 0, .slice none 0 0, .slice none 0 0, .slice none 0 0] 50)) [(fcC 0, [.int .i64 9, .slice (some ⟨wr.heap.size, 0, none⟩) 1 1, .int .i64 0, .int .i64 0, .int .i64 0, .slice none 0 0, .slice none 0 0, .bool false, .int .i64 0, .slice none 0 0, .slice none 0 0, .slice none 0 0])] (fun p hp => by rw [List.mem_singleton] at hp; subst hp; exact Sc.cmd_le (by omega) (Sc.rep_text (k := 9) (Sc.sat_str (s := [92, 83, 101, 101, 110]) hT rfl))) (by show 1 ≤ 100; omega)
     rw [World.size_alloc, World.size_alloc] at h1
     refine h1.mono fun b hb e => ?_
     have hlow := (HROW.out.low e).2
     rcases hb with hb | hb <;> omega
    clear hb3 hT
    go_upto_region 14 with (go_at_call 15; refine HC.out.mono ?_; rintro e w' ⟨rfl, rfl⟩)
    clear HC hic a0' a1' a2' a3' a4'
    go_wp2_with (at_builtin; refine Sc.wpList_cmds (by rfl) _ _ (by rfl) (by rfl) HROW3.out hz3 (by rfl) HSX.out (by omega) (by omega) (rfl : j + 1 + 1 = j + 1 + 1) (List.cons_append ..) ?_)
    intro g9 cap9 w9 hr9 hB9
    have hbw : Below w4.heap.size w4 w9 := hB9 w4 (HB.out.trans (HB3'.out.mono hz4)) (Nat.le_refl _)
    have HR9 := Lib.hid hr9; have HB9 := Lib.hid hbw
    clear hr9 hB9 hbw HROW3 HSX hz3 HB3'
    go_wp2_with fail
    go_roundw
    case rel => exact ⟨j + 1, g9, cap9, HJL.out, by go_num, by rw [HW1.out.1]; rfl, rfl, by rw [HW1.out.2, List.map_take]; exact HR9.out, HB9.out⟩
    case measure => have := HJL.out; simp [intOf]; omega
   ·have hor1 : bits .or .i64 (ow : Int) 1 = ((ow ||| 1 : Nat) : Int) := HOR.out ow 1 HOW.out (by decide)
    have hor0 : bits .or .i64 0 1 = 1 := by decide
    have hb3 : Below wr.heap.size wr (((wr.alloc (.cells #[.string ⟨#[92, 83, 101, 101, 110]⟩] 9)).alloc (.cells #[.int .i64 8, .slice (some ⟨wr.heap.size, 0, none⟩) 1 1, .int .i64 0, .int .i64 0, .int .i64 0, .slice none 0 0, .slice none 0 0, .bool false, .int .i64 0, .slice none 0 0, .slice none 0 0, .slice none 0 0] 50)).alloc (.cells #[.int .i64 8, .slice (some ⟨wr.heap.size, 0, none⟩) 1 1, .int .i64 0, .int .i64 0, .int .i64 0, .slice none 0 0, .slice none 0 0, .bool false, .int .i64 0, .slice none 0 0, .slice none 0 0, .slice none 0 0] 50)) := ba (ba (ba (Below.refl _ _) _) _) _
    have HB3' := Lib.hid hb3
    have HROW3 := Lib.hid (HROW.out.down hb3)
    have hz3 : w4.heap.size ≤ (((wr.alloc (.cells #[.string ⟨#[92, 83, 101, 101, 110]⟩] 9)).alloc (.cells #[.int .i64 8, .slice (some ⟨wr.heap.size, 0, none⟩) 1 1, .int .i64 0, .int .i64 0, .int .i64 0, .slice none 0 0, .slice none 0 0, .bool false, .int .i64 0, .slice none 0 0, .slice none 0 0, .slice none 0 0] 50)).alloc (.cells #[.int .i64 8, .slice (some ⟨wr.heap.size, 0, none⟩) 1 1, .int .i64 0, .int .i64 0, .int .i64 0, .slice none 0 0, .slice none 0 0, .bool false, .int .i64 0, .slice none 0 0, .slice none 0 0, .slice none 0 0] 50)).heap.size := Nat.le_trans hz4 hb3.size
    have hT : Has ((wr.alloc (.cells #[.string ⟨#[92, 83, 101, 101, 110]⟩] 9)).alloc (.cells #[.int .i64 8, .slice (some ⟨wr.heap.size, 0, none⟩) 1 1, .int .i64 0, .int .i64 0, .int .i64 0, .slice none 0 0, .slice none 0 0, .bool false, .int .i64 0, .slice none 0 0, .slice none 0 0, .slice none 0 0] 50)) wr.heap.size [.string ⟨#[92, 83, 101, 101, 110]⟩] := (Has.alloc wr [.string ⟨#[92, 83, 101, 101, 110]⟩] 9).down (ba (Below.refl _ _) _)
    have HSX : Hid (SAt (cCmd 15) (((wr.alloc (.cells #[.string ⟨#[92, 83, 101, 101, 110]⟩] 9)).alloc (.cells #[.int .i64 8, .slice (some ⟨wr.heap.size, 0, none⟩) 1 1, .int .i64 0, .int .i64 0, .int .i64 0, .slice none 0 0, .slice none 0 0, .bool false, .int .i64 0, .slice none 0 0, .slice none 0 0, .slice none 0 0] 50)).alloc (.cells #[.int .i64 8, .slice (some ⟨wr.heap.size, 0, none⟩) 1 1, .int .i64 0, .int .i64 0, .int .i64 0, .slice none 0 0, .slice none 0 0, .bool false, .int .i64 0, .slice none 0 0, .slice none 0 0, .slice none 0 0] 50)) (fun b => (Value.slice (some ⟨g, 0, none⟩) (j + 1) cap).ownBlock ≠ some b) (.slice (some ⟨wr.heap.size + 1 + 1, 0, none⟩) 1 1) [fcC 1]) := by
     have h1 := Sc.lit_sat (F := fun b => b = wr.heap.size) ((wr.alloc (.cells #[.string ⟨#[92, 83, 101, 101, 110]⟩] 9)).alloc (.cells #[.int .i64 8, .slice (some ⟨wr.heap.size, 0, none⟩) 1 1, .int .i64 0, .int .i64 0, .int .i64 0, .slice none 0 0, .slice none 0 0, .bool false, .int .i64 0, .slice none 0 0, .slice none 0 0, .slice none 0 0] 50)) [(fcC 1, [.int .i64 8, .slice (some ⟨wr.heap.size, 0, none⟩) 1 1, .int .i64 0, .int .i64 0, .int .i64 0, .slice none 0 0, .slice none 0 0, .bool false, .int .i64 0, .slice none 0 0, .slice none 0 0, .slice none 0 0])] (fun p hp => by rw [List.mem_singleton] at hp; subst hp; exact Sc.cmd_le (by omega) (Sc.rep_text (k := 8) (Sc.sat_str (s := [92, 83, 101, 101, 110]) hT rfl))) (by show 1 ≤ 100; omega)
     rw [World.size_alloc, World.size_alloc] at h1
     refine h1.mono fun b hb e => ?_
     have hlow := (HROW.out.low e).2
     rcases hb with hb | hb <;> omega
    clear hb3 hT
    go_upto_region 14 with (go_at_call 15; refine HC.out.mono ?_; rintro e w' ⟨rfl, rfl⟩)
    clear HC hic a0' a1' a2' a3' a4'
    go_wp2_with (at_builtin; refine Sc.wpList_cmds (by rfl) _ _ (by rfl) (by rfl) HROW3.out hz3 (by rfl) HSX.out (by omega) (by omega) (rfl : j + 1 + 1 = j + 1 + 1) (List.cons_append ..) ?_)
    intro g9 cap9 w9 hr9 hB9
    have hbw : Below w4.heap.size w4 w9 := hB9 w4 (HB.out.trans (HB3'.out.mono hz4)) (Nat.le_refl _)
    have HR9 := Lib.hid hr9; have HB9 := Lib.hid hbw
    clear hr9 hB9 hbw HROW3 HSX hz3 HB3'
    go_wp2_with fail
    go_roundw
    case rel => exact ⟨j + 1, g9, cap9, HJL.out, by go_num, by rw [HW1.out.1, show ∀ o, wantJ o 1 = 1 from fun o => by unfold wantJ; rw [if_pos (by decide)]; rfl]; rfl, rfl, by rw [HW1.out.2, List.map_take]; exact HR9.out, HB9.out⟩
    case measure => have := HJL.out; simp [intOf]; omega
   ·have hor1 : bits .or .i64 (ow : Int) 2 = ((ow ||| 2 : Nat) : Int) := HOR.out ow 2 HOW.out (by decide)
    have hor0 : bits .or .i64 0 2 = 2 := by decide
    have hb3 : Below wr.heap.size wr (((wr.alloc (.cells #[.string ⟨#[92, 65, 110, 115, 119, 101, 114, 101, 100]⟩] 9)).alloc (.cells #[.int .i64 9, .slice (some ⟨wr.heap.size, 0, none⟩) 1 1, .int .i64 0, .int .i64 0, .int .i64 0, .slice none 0 0, .slice none 0 0, .bool false, .int .i64 0, .slice none 0 0, .slice none 0 0, .slice none 0 0] 50)).alloc (.cells #[.int .i64 9, .slice (some ⟨wr.heap.size, 0, none⟩) 1 1, .int .i64 0, .int .i64 0, .int .i64 0, .slice none 0 0, .slice none 0 0, .bool false, .int .i64 0, .slice none 0 0, .slice none 0 0, .slice none 0 0] 50)) := ba (ba (ba (Below.refl _ _) _) _) _
    have HB3' := Lib.hid hb3
    have HROW3 := Lib.hid (HROW.out.down hb3)
    have hz3 : w4.heap.size ≤ (((wr.alloc (.cells #[.string ⟨#[92, 65, 110, 115, 119, 101, 114, 101, 100]⟩] 9)).alloc (.cells #[.int .i64 9, .slice (some ⟨wr.heap.size, 0, none⟩) 1 1, .int .i64 0, .int .i64 0, .int .i64 0, .slice none 0 0, .slice none 0 0, .bool false, .int .i64 0, .slice none 0 0, .slice none 0 0, .slice none 0 0] 50)).alloc (.cells #[.int .i64 9, .slice (some ⟨wr.heap.size, 0, none⟩) 1 1, .int .i64 0, .int .i64 0, .int .i64 0, .slice none 0 0, .slice none 0 0, .bool false, .int .i64 0, .slice none 0 0, .slice none 0 0, .slice none 0 0] 50)).heap.size := Nat.le_trans hz4 hb3.size
    have hT : Has ((wr.alloc (.cells #[.string ⟨#[92, 65, 110, 115, 119, 101, 114, 101, 100]⟩] 9)).alloc (.cells #[.int .i64 9, .slice (some ⟨wr.heap.size, 0, none⟩) 1 1, .int .i64 0, .int .i64 0, .int .i64 0, .slice none 0 0, .slice none 0 0, .bool false, .int .i64 0, .slice none 0 0, .slice none 0 0, .slice none 0 0] 50)) wr.heap.size [.string ⟨#[92, 65, 110, 115, 119, 101, 114, 101, 100]⟩] := (Has.alloc wr [.string ⟨#[92, 65, 110, 115, 119, 101, 114, 101, 100]⟩] 9).down (ba (Below.refl _ _) _)
    have HSX : Hid (SAt (cCmd 15) (((wr.alloc (.cells #[.string ⟨#[92, 65, 110, 115, 119, 101, 114, 101, 100]⟩] 9)).alloc (.cells #[.int .i64 9, .slice (some ⟨wr.heap.size, 0, none⟩) 1 1, .int .i64 0, .int .i64 0, .int .i64 0, .slice none 0 0, .slice none 0 0, .bool false, .int .i64 0, .slice none 0 0, .slice none 0 0, .slice none 0 0] 50)).alloc (.cells #[.int .i64 9, .slice (some ⟨wr.heap.size, 0, none⟩) 1 1, .int .i64 0, .int .i64 0, .int .i64 0, .slice none 0 0, .slice none 0 0, .bool false, .int .i64 0, .slice none 0 0, .slice none 0 0, .slice none 0 0] 50)) (fun b => (Value.slice (some ⟨g, 0, none⟩) (j + 1) cap).ownBlock ≠ some b) (.slice (some ⟨wr.heap.size + 1 + 1, 0, none⟩) 1 1) [fcC 2]) := by
     have h1 := Sc.lit_sat (F := fun b => b = wr.heap.size) ((wr.alloc (.cells #[.string ⟨#[92, 65, 110, 115, 119, 101, 114, 101, 100]⟩] 9)).alloc (.cells #[.int .i64 9, .slice (some ⟨wr.heap.size, 0, none⟩) 1 1, .int .i64 0, .int .i64 0, .int .i64 0, .slice none 0 0, .slice none 0 0, .bool false, .int .i64 0, .slice none 0 0, .slice none 0 0, .slice none 0 0] 50)) [(fcC 2, [.int .i64 9, .slice (some ⟨wr.heap.size, 0, none⟩) 1 1, .int .i64 0, .int .i64 0, .int .i64 0, .slice none 0 0, .slice none 0 0, .bool false, .int .i64 0, .slice none 0 0, .slice none 0 0, .slice none 0 0])] (fun p hp => by rw [List.mem_singleton] at hp; subst hp; exact Sc.cmd_le (by omega) (Sc.rep_text (k := 9) (Sc.sat_str (s := [92, 65, 110, 115, 119, 101, 114, 101, 100]) hT rfl))) (by show 1 ≤ 100; omega)
     rw [World.size_alloc, World.size_alloc] at h1
     refine h1.mono fun b hb e => ?_
     have hlow := (HROW.out.low e).2
     rcases hb with hb | hb <;> omega
    clear hb3 hT
    go_upto_region 14 with (go_at_call 15; refine HC.out.mono ?_; rintro e w' ⟨rfl, rfl⟩)
    clear HC hic a0' a1' a2' a3' a4'
    go_wp2_with (at_builtin; refine Sc.wpList_cmds (by rfl) _ _ (by rfl) (by rfl) HROW3.out hz3 (by rfl) HSX.out (by omega) (by omega) (rfl : j + 1 + 1 = j + 1 + 1) (List.cons_append ..) ?_)
    intro g9 cap9 w9 hr9 hB9
    have hbw : Below w4.heap.size w4 w9 := hB9 w4 (HB.out.trans (HB3'.out.mono hz4)) (Nat.le_refl _)
    have HR9 := Lib.hid hr9; have HB9 := Lib.hid hbw
    clear hr9 hB9 hbw HROW3 HSX hz3 HB3'
    go_wp2_with fail
    go_roundw
    case rel => exact ⟨j + 1, g9, cap9, HJL.out, by go_num, by rw [HW1.out.1]; rfl, rfl, by rw [HW1.out.2, List.map_take]; exact HR9.out, HB9.out⟩
    case measure => have := HJL.out; simp [intOf]; omega
   ·have hor1 : bits .or .i64 (ow : Int) 2 = ((ow ||| 2 : Nat) : Int) := HOR.out ow 2 HOW.out (by decide)
    have hor0 : bits .or .i64 0 2 = 2 := by decide
    have hb3 : Below wr.heap.size wr (((wr.alloc (.cells #[.string ⟨#[92, 65, 110, 115, 119, 101, 114, 101, 100]⟩] 9)).alloc (.cells #[.int .i64 8, .slice (some ⟨wr.heap.size, 0, none⟩) 1 1, .int .i64 0, .int .i64 0, .int .i64 0, .slice none 0 0, .slice none 0 0, .bool false, .int .i64 0, .slice none 0 0, .slice none 0 0, .slice none 0 0] 50)).alloc (.cells #[.int .i64 8, .slice (some ⟨wr.heap.size, 0, none⟩) 1 1, .int .i64 0, .int .i64 0, .int .i64 0, .slice none 0 0, .slice none 0 0, .bool false, .int .i64 0, .slice none 0 0, .slice none 0 0, .slice none 0 0] 50)) := ba (ba (ba (Below.refl _ _) _) _) _
    have HB3' := Lib.hid hb3
    have HROW3 := Lib.hid (HROW.out.down hb3)
    have hz3 : w4.heap.size ≤ (((wr.alloc (.cells #[.string ⟨#[92, 65, 110, 115, 119, 101, 114, 101, 100]⟩] 9)).alloc (.cells #[.int .i64 8, .slice (some ⟨wr.heap.size, 0, none⟩) 1 1, .int .i64 0, .int .i64 0, .int .i64 0, .slice none 0 0, .slice none 0 0, .bool false, .int .i64 0, .slice none 0 0, .slice none 0 0, .slice none 0 0] 50)).alloc (.cells #[.int .i64 8, .slice (some ⟨wr.heap.size, 0, none⟩) 1 1, .int .i64 0, .int .i64 0, .int .i64 0, .slice none 0 0, .slice none 0 0, .bool false, .int .i64 0, .slice none 0 0, .slice none 0 0, .slice none 0 0] 50)).heap.size := Nat.le_trans hz4 hb3.size
    have hT : Has ((wr.alloc (.cells #[.string ⟨#[92, 65, 110, 115, 119, 101, 114, 101, 100]⟩] 9)).alloc (.cells #[.int .i64 8, .slice (some ⟨wr.heap.size, 0, none⟩) 1 1, .int .i64 0, .int .i64 0, .int .i64 0, .slice none 0 0, .slice none 0 0, .bool false, .int .i64 0, .slice none 0 0, .slice none 0 0, .slice none 0 0] 50)) wr.heap.size [.string ⟨#[92, 65, 110, 115, 119, 101, 114, 101, 100]⟩] := (Has.alloc wr [.string ⟨#[92, 65, 110, 115, 119, 101, 114, 101, 100]⟩] 9).down (ba (Below.refl _ _) _)
    have HSX : Hid (SAt (cCmd 15) (((wr.alloc (.cells #[.string ⟨#[92, 65, 110, 115, 119, 101, 114, 101, 100]⟩] 9)).alloc (.cells #[.int .i64 8, .slice (some ⟨wr.heap.size, 0, none⟩) 1 1, .int .i64 0, .int .i64 0, .int .i64 0, .slice none 0 0, .slice none 0 0, .bool false, .int .i64 0, .slice none 0 0, .slice none 0 0, .slice none 0 0] 50)).alloc (.cells #[.int .i64 8, .slice (some ⟨wr.heap.size, 0, none⟩) 1 1, .int .i64 0, .int .i64 0, .int .i64 0, .slice none 0 0, .slice none 0 0, .bool false, .int .i64 0, .slice none 0 0, .slice none 0 0, .slice none 0 0] 50)) (fun b => (Value.slice (some ⟨g, 0, none⟩) (j + 1) cap).ownBlock ≠ some b) (.slice (some ⟨wr.heap.size + 1 + 1, 0, none⟩) 1 1) [fcC 3]) := by
     have h1 := Sc.lit_sat (F := fun b => b = wr.heap.size) ((wr.alloc (.cells #[.string ⟨#[92, 65, 110, 115, 119, 101, 114, 101, 100]⟩] 9)).alloc (.cells #[.int .i64 8, .slice (some ⟨wr.heap.size, 0, none⟩) 1 1, .int .i64 0, .int .i64 0, .int .i64 0, .slice none 0 0, .slice none 0 0, .bool false, .int .i64 0, .slice none 0 0, .slice none 0 0, .slice none 0 0] 50)) [(fcC 3, [.int .i64 8, .slice (some ⟨wr.heap.size, 0, none⟩) 1 1, .int .i64 0, .int .i64 0, .int .i64 0, .slice none 0 0, .slice none 0 0, .bool false, .int .i64 0, .slice none 0 0, .slice none 0 0, .slice none 0 0])] (fun p hp => by rw [List.mem_singleton] at hp; subst hp; exact Sc.cmd_le (by omega) (Sc.rep_text (k := 8) (Sc.sat_str (s := [92, 65, 110, 115, 119, 101, 114, 101, 100]) hT rfl))) (by show 1 ≤ 100; omega)
     rw [World.size_alloc, World.size_alloc] at h1
     refine h1.mono fun b hb e => ?_
     have hlow := (HROW.out.low e).2
     rcases hb with hb | hb <;> omega
    clear hb3 hT
    go_upto_region 14 with (go_at_call 15; refine HC.out.mono ?_; rintro e w' ⟨rfl, rfl⟩)
    clear HC hic a0' a1' a2' a3' a4'
    go_wp2_with (at_builtin; refine Sc.wpList_cmds (by rfl) _ _ (by rfl) (by rfl) HROW3.out hz3 (by rfl) HSX.out (by omega) (by omega) (rfl : j + 1 + 1 = j + 1 + 1) (List.cons_append ..) ?_)
    intro g9 cap9 w9 hr9 hB9
    have hbw : Below w4.heap.size w4 w9 := hB9 w4 (HB.out.trans (HB3'.out.mono hz4)) (Nat.le_refl _)
    have HR9 := Lib.hid hr9; have HB9 := Lib.hid hbw
    clear hr9 hB9 hbw HROW3 HSX hz3 HB3'
    go_wp2_with fail
    go_roundw
    case rel => exact ⟨j + 1, g9, cap9, HJL.out, by go_num, by rw [HW1.out.1, show ∀ o, wantJ o 3 = 2 from fun o => by unfold wantJ; rw [if_pos (by decide)]; rfl]; rfl, rfl, by rw [HW1.out.2, List.map_take]; exact HR9.out, HB9.out⟩
    case measure => have := HJL.out; simp [intOf]; omega
   ·have hor1 : bits .or .i64 (ow : Int) 4 = ((ow ||| 4 : Nat) : Int) := HOR.out ow 4 HOW.out (by decide)
    have hor0 : bits .or .i64 0 4 = 4 := by decide
    have hb3 : Below wr.heap.size wr (((wr.alloc (.cells #[.string ⟨#[92, 70, 108, 97, 103, 103, 101, 100]⟩] 9)).alloc (.cells #[.int .i64 9, .slice (some ⟨wr.heap.size, 0, none⟩) 1 1, .int .i64 0, .int .i64 0, .int .i64 0, .slice none 0 0, .slice none 0 0, .bool false, .int .i64 0, .slice none 0 0, .slice none 0 0, .slice none 0 0] 50)).alloc (.cells #[.int .i64 9, .slice (some ⟨wr.heap.size, 0, none⟩) 1 1, .int .i64 0, .int .i64 0, .int .i64 0, .slice none 0 0, .slice none 0 0, .bool false, .int .i64 0, .slice none 0 0, .slice none 0 0, .slice none 0 0] 50)) := ba (ba (ba (Below.refl _ _) _) _) _
    have HB3' := Lib.hid hb3
    have HROW3 := Lib.hid (HROW.out.down hb3)
    have hz3 : w4.heap.size ≤ (((wr.alloc (.cells #[.string ⟨#[92, 70, 108, 97, 103, 103, 101, 100]⟩] 9)).alloc (.cells #[.int .i64 9, .slice (some ⟨wr.heap.size, 0, none⟩) 1 1, .int .i64 0, .int .i64 0, .int .i64 0, .slice none 0 0, .slice none 0 0, .bool false, .int .i64 0, .slice none 0 0, .slice none 0 0, .slice none 0 0] 50)).alloc (.cells #[.int .i64 9, .slice (some ⟨wr.heap.size, 0, none⟩) 1 1, .int .i64 0, .int .i64 0, .int .i64 0, .slice none 0 0, .slice none 0 0, .bool false, .int .i64 0, .slice none 0 0, .slice none 0 0, .slice none 0 0] 50)).heap.size := Nat.le_trans hz4 hb3.size
    have hT : Has ((wr.alloc (.cells #[.string ⟨#[92, 70, 108, 97, 103, 103, 101, 100]⟩] 9)).alloc (.cells #[.int .i64 9, .slice (some ⟨wr.heap.size, 0, none⟩) 1 1, .int .i64 0, .int .i64 0, .int .i64 0, .slice none 0 0, .slice none 0 0, .bool false, .int .i64 0, .slice none 0 0, .slice none 0 0, .slice none 0 0] 50)) wr.heap.size [.string ⟨#[92, 70, 108, 97, 103, 103, 101, 100]⟩] := (Has.alloc wr [.string ⟨#[92, 70, 108, 97, 103, 103, 101, 100]⟩] 9).down (ba (Below.refl _ _) _)
    have HSX : Hid (SAt (cCmd 15) (((wr.alloc (.cells #[.string ⟨#[92, 70, 108, 97, 103, 103, 101, 100]⟩] 9)).alloc (.cells #[.int .i64 9, .slice (some ⟨wr.heap.size, 0, none⟩) 1 1, .int .i64 0, .int .i64 0, .int .i64 0, .slice none 0 0, .slice none 0 0, .bool false, .int .i64 0, .slice none 0 0, .slice none 0 0, .slice none 0 0] 50)).alloc (.cells #[.int .i64 9, .slice (some ⟨wr.heap.size, 0, none⟩) 1 1, .int .i64 0, .int .i64 0, .int .i64 0, .slice none 0 0, .slice none 0 0, .bool false, .int .i64 0, .slice none 0 0, .slice none 0 0, .slice none 0 0] 50)) (fun b => (Value.slice (some ⟨g, 0, none⟩) (j + 1) cap).ownBlock ≠ some b) (.slice (some ⟨wr.heap.size + 1 + 1, 0, none⟩) 1 1) [fcC 4]) := by
     have h1 := Sc.lit_sat (F := fun b => b = wr.heap.size) ((wr.alloc (.cells #[.string ⟨#[92, 70, 108, 97, 103, 103, 101, 100]⟩] 9)).alloc (.cells #[.int .i64 9, .slice (some ⟨wr.heap.size, 0, none⟩) 1 1, .int .i64 0, .int .i64 0, .int .i64 0, .slice none 0 0, .slice none 0 0, .bool false, .int .i64 0, .slice none 0 0, .slice none 0 0, .slice none 0 0] 50)) [(fcC 4, [.int .i64 9, .slice (some ⟨wr.heap.size, 0, none⟩) 1 1, .int .i64 0, .int .i64 0, .int .i64 0, .slice none 0 0, .slice none 0 0, .bool false, .int .i64 0, .slice none 0 0, .slice none 0 0, .slice none 0 0])] (fun p hp => by rw [List.mem_singleton] at hp; subst hp; exact Sc.cmd_le (by omega) (Sc.rep_text (k := 9) (Sc.sat_str (s := [92, 70, 108, 97, 103, 103, 101, 100]) hT rfl))) (by show 1 ≤ 100; omega)
     rw [World.size_alloc, World.size_alloc] at h1
     refine h1.mono fun b hb e => ?_
     have hlow := (HROW.out.low e).2
     rcases hb with hb | hb <;> omega
    clear hb3 hT
    go_upto_region 14 with (go_at_call 15; refine HC.out.mono ?_; rintro e w' ⟨rfl, rfl⟩)
    clear HC hic a0' a1' a2' a3' a4'
    go_wp2_with (at_builtin; refine Sc.wpList_cmds (by rfl) _ _ (by rfl) (by rfl) HROW3.out hz3 (by rfl) HSX.out (by omega) (by omega) (rfl : j + 1 + 1 = j + 1 + 1) (List.cons_append ..) ?_)
    intro g9 cap9 w9 hr9 hB9
    have hbw : Below w4.heap.size w4 w9 := hB9 w4 (HB.out.trans (HB3'.out.mono hz4)) (Nat.le_refl _)
    have HR9 := Lib.hid hr9; have HB9 := Lib.hid hbw
    clear hr9 hB9 hbw HROW3 HSX hz3 HB3'
    go_wp2_with fail
    go_roundw
    case rel => exact ⟨j + 1, g9, cap9, HJL.out, by go_num, by rw [HW1.out.1]; rfl, rfl, by rw [HW1.out.2, List.map_take]; exact HR9.out, HB9.out⟩
    case measure => have := HJL.out; simp [intOf]; omega
   ·have hor1 : bits .or .i64 (ow : Int) 4 = ((ow ||| 4 : Nat) : Int) := HOR.out ow 4 HOW.out (by decide)
    have hor0 : bits .or .i64 0 4 = 4 := by decide
    have hb3 : Below wr.heap.size wr (((wr.alloc (.cells #[.string ⟨#[92, 70, 108, 97, 103, 103, 101, 100]⟩] 9)).alloc (.cells #[.int .i64 8, .slice (some ⟨wr.heap.size, 0, none⟩) 1 1, .int .i64 0, .int .i64 0, .int .i64 0, .slice none 0 0, .slice none 0 0, .bool false, .int .i64 0, .slice none 0 0, .slice none 0 0, .slice none 0 0] 50)).alloc (.cells #[.int .i64 8, .slice (some ⟨wr.heap.size, 0, none⟩) 1 1, .int .i64 0, .int .i64 0, .int .i64 0, .slice none 0 0, .slice none 0 0, .bool false, .int .i64 0, .slice none 0 0, .slice none 0 0, .slice none 0 0] 50)) := ba (ba (ba (Below.refl _ _) _) _) _
    have HB3' := Lib.hid hb3
    have HROW3 := Lib.hid (HROW.out.down hb3)
    have hz3 : w4.heap.size ≤ (((wr.alloc (.cells #[.string ⟨#[92, 70, 108, 97, 103, 103, 101, 100]⟩] 9)).alloc (.cells #[.int .i64 8, .slice (some ⟨wr.heap.size, 0, none⟩) 1 1, .int .i64 0, .int .i64 0, .int .i64 0, .slice none 0 0, .slice none 0 0, .bool false, .int .i64 0, .slice none 0 0, .slice none 0 0, .slice none 0 0] 50)).alloc (.cells #[.int .i64 8, .slice (some ⟨wr.heap.size, 0, none⟩) 1 1, .int .i64 0, .int .i64 0, .int .i64 0, .slice none 0 0, .slice none 0 0, .bool false, .int .i64 0, .slice none 0 0, .slice none 0 0, .slice none 0 0] 50)).heap.size := Nat.le_trans hz4 hb3.size
    have hT : Has ((wr.alloc (.cells #[.string ⟨#[92, 70, 108, 97, 103, 103, 101, 100]⟩] 9)).alloc (.cells #[.int .i64 8, .slice (some ⟨wr.heap.size, 0, none⟩) 1 1, .int .i64 0, .int .i64 0, .int .i64 0, .slice none 0 0, .slice none 0 0, .bool false, .int .i64 0, .slice none 0 0, .slice none 0 0, .slice none 0 0] 50)) wr.heap.size [.string ⟨#[92, 70, 108, 97, 103, 103, 101, 100]⟩] := (Has.alloc wr [.string ⟨#[92, 70, 108, 97, 103, 103, 101, 100]⟩] 9).down (ba (Below.refl _ _) _)
    have HSX : Hid (SAt (cCmd 15) (((wr.alloc (.cells #[.string ⟨#[92, 70, 108, 97, 103, 103, 101, 100]⟩] 9)).alloc (.cells #[.int .i64 8, .slice (some ⟨wr.heap.size, 0, none⟩) 1 1, .int .i64 0, .int .i64 0, .int .i64 0, .slice none 0 0, .slice none 0 0, .bool false, .int .i64 0, .slice none 0 0, .slice none 0 0, .slice none 0 0] 50)).alloc (.cells #[.int .i64 8, .slice (some ⟨wr.heap.size, 0, none⟩) 1 1, .int .i64 0, .int .i64 0, .int .i64 0, .slice none 0 0, .slice none 0 0, .bool false, .int .i64 0, .slice none 0 0, .slice none 0 0, .slice none 0 0] 50)) (fun b => (Value.slice (some ⟨g, 0, none⟩) (j + 1) cap).ownBlock ≠ some b) (.slice (some ⟨wr.heap.size + 1 + 1, 0, none⟩) 1 1) [fcC 5]) := by
     have h1 := Sc.lit_sat (F := fun b => b = wr.heap.size) ((wr.alloc (.cells #[.string ⟨#[92, 70, 108, 97, 103, 103, 101, 100]⟩] 9)).alloc (.cells #[.int .i64 8, .slice (some ⟨wr.heap.size, 0, none⟩) 1 1, .int .i64 0, .int .i64 0, .int .i64 0, .slice none 0 0, .slice none 0 0, .bool false, .int .i64 0, .slice none 0 0, .slice none 0 0, .slice none 0 0] 50)) [(fcC 5, [.int .i64 8, .slice (some ⟨wr.heap.size, 0, none⟩) 1 1, .int .i64 0, .int .i64 0, .int .i64 0, .slice none 0 0, .slice none 0 0, .bool false, .int .i64 0, .slice none 0 0, .slice none 0 0, .slice none 0 0])] (fun p hp => by rw [List.mem_singleton] at hp; subst hp; exact Sc.cmd_le (by omega) (Sc.rep_text (k := 8) (Sc.sat_str (s := [92, 70, 108, 97, 103, 103, 101, 100]) hT rfl))) (by show 1 ≤ 100; omega)
     rw [World.size_alloc, World.size_alloc] at h1
     refine h1.mono fun b hb e => ?_
     have hlow := (HROW.out.low e).2
     rcases hb with hb | hb <;> omega
    clear hb3 hT
    go_upto_region 14 with (go_at_call 15; refine HC.out.mono ?_; rintro e w' ⟨rfl, rfl⟩)
    clear HC hic a0' a1' a2' a3' a4'
    go_wp2_with (at_builtin; refine Sc.wpList_cmds (by rfl) _ _ (by rfl) (by rfl) HROW3.out hz3 (by rfl) HSX.out (by omega) (by omega) (rfl : j + 1 + 1 = j + 1 + 1) (List.cons_append ..) ?_)
    intro g9 cap9 w9 hr9 hB9
    have hbw : Below w4.heap.size w4 w9 := hB9 w4 (HB.out.trans (HB3'.out.mono hz4)) (Nat.le_refl _)
    have HR9 := Lib.hid hr9; have HB9 := Lib.hid hbw
    clear hr9 hB9 hbw HROW3 HSX hz3 HB3'
    go_wp2_with fail
    go_roundw
    case rel => exact ⟨j + 1, g9, cap9, HJL.out, by go_num, by rw [HW1.out.1, show ∀ o, wantJ o 5 = 4 from fun o => by unfold wantJ; rw [if_pos (by decide)]; rfl]; rfl, rfl, by rw [HW1.out.2, List.map_take]; exact HR9.out, HB9.out⟩
    case measure => have := HJL.out; simp [intOf]; omega
   ·have hor1 : bits .or .i64 (ow : Int) 8 = ((ow ||| 8 : Nat) : Int) := HOR.out ow 8 HOW.out (by decide)
    have hor0 : bits .or .i64 0 8 = 8 := by decide
    have hb3 : Below wr.heap.size wr (((wr.alloc (.cells #[.string ⟨#[92, 68, 101, 108, 101, 116, 101, 100]⟩] 9)).alloc (.cells #[.int .i64 9, .slice (some ⟨wr.heap.size, 0, none⟩) 1 1, .int .i64 0, .int .i64 0, .int .i64 0, .slice none 0 0, .slice none 0 0, .bool false, .int .i64 0, .slice none 0 0, .slice none 0 0, .slice none 0 0] 50)).alloc (.cells #[.int .i64 9, .slice (some ⟨wr.heap.size, 0, none⟩) 1 1, .int .i64 0, .int .i64 0, .int .i64 0, .slice none 0 0, .slice none 0 0, .bool false, .int .i64 0, .slice none 0 0, .slice none 0 0, .slice none 0 0] 50)) := ba (ba (ba (Below.refl _ _) _) _) _
    have HB3' := Lib.hid hb3
    have HROW3 := Lib.hid (HROW.out.down hb3)
    have hz3 : w4.heap.size ≤ (((wr.alloc (.cells #[.string ⟨#[92, 68, 101, 108, 101, 116, 101, 100]⟩] 9)).alloc (.cells #[.int .i64 9, .slice (some ⟨wr.heap.size, 0, none⟩) 1 1, .int .i64 0, .int .i64 0, .int .i64 0, .slice none 0 0, .slice none 0 0, .bool false, .int .i64 0, .slice none 0 0, .slice none 0 0, .slice none 0 0] 50)).alloc (.cells #[.int .i64 9, .slice (some ⟨wr.heap.size, 0, none⟩) 1 1, .int .i64 0, .int .i64 0, .int .i64 0, .slice none 0 0, .slice none 0 0, .bool false, .int .i64 0, .slice none 0 0, .slice none 0 0, .slice none 0 0] 50)).heap.size := Nat.le_trans hz4 hb3.size
    have hT : Has ((wr.alloc (.cells #[.string ⟨#[92, 68, 101, 108, 101, 116, 101, 100]⟩] 9)).alloc (.cells #[.int .i64 9, .slice (some ⟨wr.heap.size, 0, none⟩) 1 1, .int .i64 0, .int .i64 0, .int .i64 0, .slice none 0 0, .slice none 0 0, .bool false, .int .i64 0, .slice none 0 0, .slice none 0 0, .slice none 0 0] 50)) wr.heap.size [.string ⟨#[92, 68, 101, 108, 101, 116, 101, 100]⟩] := (Has.alloc wr [.string ⟨#[92, 68, 101, 108, 101, 116, 101, 100]⟩] 9).down (ba (Below.refl _ _) _)
    have HSX : Hid (SAt (cCmd 15) (((wr.alloc (.cells #[.string ⟨#[92, 68, 101, 108, 101, 116, 101, 100]⟩] 9)).alloc (.cells #[.int .i64 9, .slice (some ⟨wr.heap.size, 0, none⟩) 1 1, .int .i64 0, .int .i64 0, .int .i64 0, .slice none 0 0, .slice none 0 0, .bool false, .int .i64 0, .slice none 0 0, .slice none 0 0, .slice none 0 0] 50)).alloc (.cells #[.int .i64 9, .slice (some ⟨wr.heap.size, 0, none⟩) 1 1, .int .i64 0, .int .i64 0, .int .i64 0, .slice none 0 0, .slice none 0 0, .bool false, .int .i64 0, .slice none 0 0, .slice none 0 0, .slice none 0 0] 50)) (fun b => (Value.slice (some ⟨g, 0, none⟩) (j + 1) cap).ownBlock ≠ some b) (.slice (some ⟨wr.heap.size + 1 + 1, 0, none⟩) 1 1) [fcC 6]) := by
     have h1 := Sc.lit_sat (F := fun b => b = wr.heap.size) ((wr.alloc (.cells #[.string ⟨#[92, 68, 101, 108, 101, 116, 101, 100]⟩] 9)).alloc (.cells #[.int .i64 9, .slice (some ⟨wr.heap.size, 0, none⟩) 1 1, .int .i64 0, .int .i64 0, .int .i64 0, .slice none 0 0, .slice none 0 0, .bool false, .int .i64 0, .slice none 0 0, .slice none 0 0, .slice none 0 0] 50)) [(fcC 6, [.int .i64 9, .slice (some ⟨wr.heap.size, 0, none⟩) 1 1, .int .i64 0, .int .i64 0, .int .i64 0, .slice none 0 0, .slice none 0 0, .bool false, .int .i64 0, .slice none 0 0, .slice none 0 0, .slice none 0 0])] (fun p hp => by rw [List.mem_singleton] at hp; subst hp; exact Sc.cmd_le (by omega) (Sc.rep_text (k := 9) (Sc.sat_str (s := [92, 68, 101, 108, 101, 116, 101, 100]) hT rfl))) (by show 1 ≤ 100; omega)
     rw [World.size_alloc, World.size_alloc] at h1
     refine h1.mono fun b hb e => ?_
     have hlow := (HROW.out.low e).2
     rcases hb with hb | hb <;> omega
    clear hb3 hT
    go_upto_region 14 with (go_at_call 15; refine HC.out.mono ?_; rintro e w' ⟨rfl, rfl⟩)
    clear HC hic a0' a1' a2' a3' a4'
    go_wp2_with (at_builtin; refine Sc.wpList_cmds (by rfl) _ _ (by rfl) (by rfl) HROW3.out hz3 (by rfl) HSX.out (by omega) (by omega) (rfl : j + 1 + 1 = j + 1 + 1) (List.cons_append ..) ?_)
    intro g9 cap9 w9 hr9 hB9
    have hbw : Below w4.heap.size w4 w9 := hB9 w4 (HB.out.trans (HB3'.out.mono hz4)) (Nat.le_refl _)
    have HR9 := Lib.hid hr9; have HB9 := Lib.hid hbw
    clear hr9 hB9 hbw HROW3 HSX hz3 HB3'
    go_wp2_with fail
    go_roundw
    case rel => exact ⟨j + 1, g9, cap9, HJL.out, by go_num, by rw [HW1.out.1]; rfl, rfl, by rw [HW1.out.2, List.map_take]; exact HR9.out, HB9.out⟩
    case measure => have := HJL.out; simp [intOf]; omega
   ·have hor1 : bits .or .i64 (ow : Int) 8 = ((ow ||| 8 : Nat) : Int) := HOR.out ow 8 HOW.out (by decide)
    have hor0 : bits .or .i64 0 8 = 8 := by decide
    have hb3 : Below wr.heap.size wr (((wr.alloc (.cells #[.string ⟨#[92, 68, 101, 108, 101, 116, 101, 100]⟩] 9)).alloc (.cells #[.int .i64 8, .slice (some ⟨wr.heap.size, 0, none⟩) 1 1, .int .i64 0, .int .i64 0, .int .i64 0, .slice none 0 0, .slice none 0 0, .bool false, .int .i64 0, .slice none 0 0, .slice none 0 0, .slice none 0 0] 50)).alloc (.cells #[.int .i64 8, .slice (some ⟨wr.heap.size, 0, none⟩) 1 1, .int .i64 0, .int .i64 0, .int .i64 0, .slice none 0 0, .slice none 0 0, .bool false, .int .i64 0, .slice none 0 0, .slice none 0 0, .slice none 0 0] 50)) := ba (ba (ba (Below.refl _ _) _) _) _
    have HB3' := Lib.hid hb3
    have HROW3 := Lib.hid (HROW.out.down hb3)
    have hz3 : w4.heap.size ≤ (((wr.alloc (.cells #[.string ⟨#[92, 68, 101, 108, 101, 116, 101, 100]⟩] 9)).alloc (.cells #[.int .i64 8, .slice (some ⟨wr.heap.size, 0, none⟩) 1 1, .int .i64 0, .int .i64 0, .int .i64 0, .slice none 0 0, .slice none 0 0, .bool false, .int .i64 0, .slice none 0 0, .slice none 0 0, .slice none 0 0] 50)).alloc (.cells #[.int .i64 8, .slice (some ⟨wr.heap.size, 0, none⟩) 1 1, .int .i64 0, .int .i64 0, .int .i64 0, .slice none 0 0, .slice none 0 0, .bool false, .int .i64 0, .slice none 0 0, .slice none 0 0, .slice none 0 0] 50)).heap.size := Nat.le_trans hz4 hb3.size
    have hT : Has ((wr.alloc (.cells #[.string ⟨#[92, 68, 101, 108, 101, 116, 101, 100]⟩] 9)).alloc (.cells #[.int .i64 8, .slice (some ⟨wr.heap.size, 0, none⟩) 1 1, .int .i64 0, .int .i64 0, .int .i64 0, .slice none 0 0, .slice none 0 0, .bool false, .int .i64 0, .slice none 0 0, .slice none 0 0, .slice none 0 0] 50)) wr.heap.size [.string ⟨#[92, 68, 101, 108, 101, 116, 101, 100]⟩] := (Has.alloc wr [.string ⟨#[92, 68, 101, 108, 101, 116, 101, 100]⟩] 9).down (ba (Below.refl _ _) _)
    have HSX : Hid (SAt (cCmd 15) (((wr.alloc (.cells #[.string ⟨#[92, 68, 101, 108, 101, 116, 101, 100]⟩] 9)).alloc (.cells #[.int .i64 8, .slice (some ⟨wr.heap.size, 0, none⟩) 1 1, .int .i64 0, .int .i64 0, .int .i64 0, .slice none 0 0, .slice none 0 0, .bool false, .int .i64 0, .slice none 0 0, .slice none 0 0, .slice none 0 0] 50)).alloc (.cells #[.int .i64 8, .slice (some ⟨wr.heap.size, 0, none⟩) 1 1, .int .i64 0, .int .i64 0, .int .i64 0, .slice none 0 0, .slice none 0 0, .bool false, .int .i64 0, .slice none 0 0, .slice none 0 0, .slice none 0 0] 50)) (fun b => (Value.slice (some ⟨g, 0, none⟩) (j + 1) cap).ownBlock ≠ some b) (.slice (some ⟨wr.heap.size + 1 + 1, 0, none⟩) 1 1) [fcC 7]) := by
     have h1 := Sc.lit_sat (F := fun b => b = wr.heap.size) ((wr.alloc (.cells #[.string ⟨#[92, 68, 101, 108, 101, 116, 101, 100]⟩] 9)).alloc (.cells #[.int .i64 8, .slice (some ⟨wr.heap.size, 0, none⟩) 1 1, .int .i64 0, .int .i64 0, .int .i64 0, .slice none 0 0, .slice none 0 0, .bool false, .int .i64 0, .slice none 0 0, .slice none 0 0, .slice none 0 0] 50)) [(fcC 7, [.int .i64 8, .slice (some ⟨wr.heap.size, 0, none⟩) 1 1, .int .i64 0, .int .i64 0, .int .i64 0, .slice none 0 0, .slice none 0 0, .bool false, .int .i64 0, .slice none 0 0, .slice none 0 0, .slice none 0 0])] (fun p hp => by rw [List.mem_singleton] at hp; subst hp; exact Sc.cmd_le (by omega) (Sc.rep_text (k := 8) (Sc.sat_str (s := [92, 68, 101, 108, 101, 116, 101, 100]) hT rfl))) (by show 1 ≤ 100; omega)
     rw [World.size_alloc, World.size_alloc] at h1
     refine h1.mono fun b hb e => ?_
     have hlow := (HROW.out.low e).2
     rcases hb with hb | hb <;> omega
    clear hb3 hT
    go_upto_region 14 with (go_at_call 15; refine HC.out.mono ?_; rintro e w' ⟨rfl, rfl⟩)
    clear HC hic a0' a1' a2' a3' a4'
    go_wp2_with (at_builtin; refine Sc.wpList_cmds (by rfl) _ _ (by rfl) (by rfl) HROW3.out hz3 (by rfl) HSX.out (by omega) (by omega) (rfl : j + 1 + 1 = j + 1 + 1) (List.cons_append ..) ?_)
    intro g9 cap9 w9 hr9 hB9
    have hbw : Below w4.heap.size w4 w9 := hB9 w4 (HB.out.trans (HB3'.out.mono hz4)) (Nat.le_refl _)
    have HR9 := Lib.hid hr9; have HB9 := Lib.hid hbw
    clear hr9 hB9 hbw HROW3 HSX hz3 HB3'
    go_wp2_with fail
    go_roundw
    case rel => exact ⟨j + 1, g9, cap9, HJL.out, by go_num, by rw [HW1.out.1, show ∀ o, wantJ o 7 = 8 from fun o => by unfold wantJ; rw [if_pos (by decide)]; rfl]; rfl, rfl, by rw [HW1.out.2, List.map_take]; exact HR9.out, HB9.out⟩
    case measure => have := HJL.out; simp [intOf]; omega
   ·have hor1 : bits .or .i64 (ow : Int) 16 = ((ow ||| 16 : Nat) : Int) := HOR.out ow 16 HOW.out (by decide)
    have hor0 : bits .or .i64 0 16 = 16 := by decide
    have hb3 : Below wr.heap.size wr (((wr.alloc (.cells #[.string ⟨#[92, 68, 114, 97, 102, 116]⟩] 9)).alloc (.cells #[.int .i64 9, .slice (some ⟨wr.heap.size, 0, none⟩) 1 1, .int .i64 0, .int .i64 0, .int .i64 0, .slice none 0 0, .slice none 0 0, .bool false, .int .i64 0, .slice none 0 0, .slice none 0 0, .slice none 0 0] 50)).alloc (.cells #[.int .i64 9, .slice (some ⟨wr.heap.size, 0, none⟩) 1 1, .int .i64 0, .int .i64 0, .int .i64 0, .slice none 0 0, .slice none 0 0, .bool false, .int .i64 0, .slice none 0 0, .slice none 0 0, .slice none 0 0] 50)) := ba (ba (ba (Below.refl _ _) _) _) _
    have HB3' := Lib.hid hb3
    have HROW3 := Lib.hid (HROW.out.down hb3)
    have hz3 : w4.heap.size ≤ (((wr.alloc (.cells #[.string ⟨#[92, 68, 114, 97, 102, 116]⟩] 9)).alloc (.cells #[.int .i64 9, .slice (some ⟨wr.heap.size, 0, none⟩) 1 1, .int .i64 0, .int .i64 0, .int .i64 0, .slice none 0 0, .slice none 0 0, .bool false, .int .i64 0, .slice none 0 0, .slice none 0 0, .slice none 0 0] 50)).alloc (.cells #[.int .i64 9, .slice (some ⟨wr.heap.size, 0, none⟩) 1 1, .int .i64 0, .int .i64 0, .int .i64 0, .slice none 0 0, .slice none 0 0, .bool false, .int .i64 0, .slice none 0 0, .slice none 0 0, .slice none 0 0] 50)).heap.size := Nat.le_trans hz4 hb3.size
    have hT : Has ((wr.alloc (.cells #[.string ⟨#[92, 68, 114, 97, 102, 116]⟩] 9)).alloc (.cells #[.int .i64 9, .slice (some ⟨wr.heap.size, 0, none⟩) 1 1, .int .i64 0, .int .i64 0, .int .i64 0, .slice none 0 0, .slice none 0 0, .bool false, .int .i64 0, .slice none 0 0, .slice none 0 0, .slice none 0 0] 50)) wr.heap.size [.string ⟨#[92, 68, 114, 97, 102, 116]⟩] := (Has.alloc wr [.string ⟨#[92, 68, 114, 97, 102, 116]⟩] 9).down (ba (Below.refl _ _) _)
    have HSX : Hid (SAt (cCmd 15) (((wr.alloc (.cells #[.string ⟨#[92, 68, 114, 97, 102, 116]⟩] 9)).alloc (.cells #[.int .i64 9, .slice (some ⟨wr.heap.size, 0, none⟩) 1 1, .int .i64 0, .int .i64 0, .int .i64 0, .slice none 0 0, .slice none 0 0, .bool false, .int .i64 0, .slice none 0 0, .slice none 0 0, .slice none 0 0] 50)).alloc (.cells #[.int .i64 9, .slice (some ⟨wr.heap.size, 0, none⟩) 1 1, .int .i64 0, .int .i64 0, .int .i64 0, .slice none 0 0, .slice none 0 0, .bool false, .int .i64 0, .slice none 0 0, .slice none 0 0, .slice none 0 0] 50)) (fun b => (Value.slice (some ⟨g, 0, none⟩) (j + 1) cap).ownBlock ≠ some b) (.slice (some ⟨wr.heap.size + 1 + 1, 0, none⟩) 1 1) [fcC 8]) := by
     have h1 := Sc.lit_sat (F := fun b => b = wr.heap.size) ((wr.alloc (.cells #[.string ⟨#[92, 68, 114, 97, 102, 116]⟩] 9)).alloc (.cells #[.int .i64 9, .slice (some ⟨wr.heap.size, 0, none⟩) 1 1, .int .i64 0, .int .i64 0, .int .i64 0, .slice none 0 0, .slice none 0 0, .bool false, .int .i64 0, .slice none 0 0, .slice none 0 0, .slice none 0 0] 50)) [(fcC 8, [.int .i64 9, .slice (some ⟨wr.heap.size, 0, none⟩) 1 1, .int .i64 0, .int .i64 0, .int .i64 0, .slice none 0 0, .slice none 0 0, .bool false, .int .i64 0, .slice none 0 0, .slice none 0 0, .slice none 0 0])] (fun p hp => by rw [List.mem_singleton] at hp; subst hp; exact Sc.cmd_le (by omega) (Sc.rep_text (k := 9) (Sc.sat_str (s := [92, 68, 114, 97, 102, 116]) hT rfl))) (by show 1 ≤ 100; omega)
     rw [World.size_alloc, World.size_alloc] at h1
     refine h1.mono fun b hb e => ?_
     have hlow := (HROW.out.low e).2
     rcases hb with hb | hb <;> omega
    clear hb3 hT
    go_upto_region 14 with (go_at_call 15; refine HC.out.mono ?_; rintro e w' ⟨rfl, rfl⟩)
    clear HC hic a0' a1' a2' a3' a4'
    go_wp2_with (at_builtin; refine Sc.wpList_cmds (by rfl) _ _ (by rfl) (by rfl) HROW3.out hz3 (by rfl) HSX.out (by omega) (by omega) (rfl : j + 1 + 1 = j + 1 + 1) (List.cons_append ..) ?_)
    intro g9 cap9 w9 hr9 hB9
    have hbw : Below w4.heap.size w4 w9 := hB9 w4 (HB.out.trans (HB3'.out.mono hz4)) (Nat.le_refl _)
    have HR9 := Lib.hid hr9; have HB9 := Lib.hid hbw
    clear hr9 hB9 hbw HROW3 HSX hz3 HB3'
    go_wp2_with fail
    go_roundw
    case rel => exact ⟨j + 1, g9, cap9, HJL.out, by go_num, by rw [HW1.out.1]; rfl, rfl, by rw [HW1.out.2, List.map_take]; exact HR9.out, HB9.out⟩
    case measure => have := HJL.out; simp [intOf]; omega
   ·have hor1 : bits .or .i64 (ow : Int) 16 = ((ow ||| 16 : Nat) : Int) := HOR.out ow 16 HOW.out (by decide)
    have hor0 : bits .or .i64 0 16 = 16 := by decide
    have hb3 : Below wr.heap.size wr (((wr.alloc (.cells #[.string ⟨#[92, 68, 114, 97, 102, 116]⟩] 9)).alloc (.cells #[.int .i64 8, .slice (some ⟨wr.heap.size, 0, none⟩) 1 1, .int .i64 0, .int .i64 0, .int .i64 0, .slice none 0 0, .slice none 0 0, .bool false, .int .i64 0, .slice none 0 0, .slice none 0 0, .slice none 0 0] 50)).alloc (.cells #[.int .i64 8, .slice (some ⟨wr.heap.size, 0, none⟩) 1 1, .int .i64 0, .int .i64 0, .int .i64 0, .slice none 0 0, .slice none 0 0, .bool false, .int .i64 0, .slice none 0 0, .slice none 0 0, .slice none 0 0] 50)) := ba (ba (ba (Below.refl _ _) _) _) _
    have HB3' := Lib.hid hb3
    have HROW3 := Lib.hid (HROW.out.down hb3)
    have hz3 : w4.heap.size ≤ (((wr.alloc (.cells #[.string ⟨#[92, 68, 114, 97, 102, 116]⟩] 9)).alloc (.cells #[.int .i64 8, .slice (some ⟨wr.heap.size, 0, none⟩) 1 1, .int .i64 0, .int .i64 0, .int .i64 0, .slice none 0 0, .slice none 0 0, .bool false, .int .i64 0, .slice none 0 0, .slice none 0 0, .slice none 0 0] 50)).alloc (.cells #[.int .i64 8, .slice (some ⟨wr.heap.size, 0, none⟩) 1 1, .int .i64 0, .int .i64 0, .int .i64 0, .slice none 0 0, .slice none 0 0, .bool false, .int .i64 0, .slice none 0 0, .slice none 0 0, .slice none 0 0] 50)).heap.size := Nat.le_trans hz4 hb3.size
    have hT : Has ((wr.alloc (.cells #[.string ⟨#[92, 68, 114, 97, 102, 116]⟩] 9)).alloc (.cells #[.int .i64 8, .slice (some ⟨wr.heap.size, 0, none⟩) 1 1, .int .i64 0, .int .i64 0, .int .i64 0, .slice none 0 0, .slice none 0 0, .bool false, .int .i64 0, .slice none 0 0, .slice none 0 0, .slice none 0 0] 50)) wr.heap.size [.string ⟨#[92, 68, 114, 97, 102, 116]⟩] := (Has.alloc wr [.string ⟨#[92, 68, 114, 97, 102, 116]⟩] 9).down (ba (Below.refl _ _) _)
    have HSX : Hid (SAt (cCmd 15) (((wr.alloc (.cells #[.string ⟨#[92, 68, 114, 97, 102, 116]⟩] 9)).alloc (.cells #[.int .i64 8, .slice (some ⟨wr.heap.size, 0, none⟩) 1 1, .int .i64 0, .int .i64 0, .int .i64 0, .slice none 0 0, .slice none 0 0, .bool false, .int .i64 0, .slice none 0 0, .slice none 0 0, .slice none 0 0] 50)).alloc (.cells #[.int .i64 8, .slice (some ⟨wr.heap.size, 0, none⟩) 1 1, .int .i64 0, .int .i64 0, .int .i64 0, .slice none 0 0, .slice none 0 0, .bool false, .int .i64 0, .slice none 0 0, .slice none 0 0, .slice none 0 0] 50)) (fun b => (Value.slice (some ⟨g, 0, none⟩) (j + 1) cap).ownBlock ≠ some b) (.slice (some ⟨wr.heap.size + 1 + 1, 0, none⟩) 1 1) [fcC 9]) := by
     have h1 := Sc.lit_sat (F := fun b => b = wr.heap.size) ((wr.alloc (.cells #[.string ⟨#[92, 68, 114, 97, 102, 116]⟩] 9)).alloc (.cells #[.int .i64 8, .slice (some ⟨wr.heap.size, 0, none⟩) 1 1, .int .i64 0, .int .i64 0, .int .i64 0, .slice none 0 0, .slice none 0 0, .bool false, .int .i64 0, .slice none 0 0, .slice none 0 0, .slice none 0 0] 50)) [(fcC 9, [.int .i64 8, .slice (some ⟨wr.heap.size, 0, none⟩) 1 1, .int .i64 0, .int .i64 0, .int .i64 0, .slice none 0 0, .slice none 0 0, .bool false, .int .i64 0, .slice none 0 0, .slice none 0 0, .slice none 0 0])] (fun p hp => by rw [List.mem_singleton] at hp; subst hp; exact Sc.cmd_le (by omega) (Sc.rep_text (k := 8) (Sc.sat_str (s := [92, 68, 114, 97, 102, 116]) hT rfl))) (by show 1 ≤ 100; omega)
     rw [World.size_alloc, World.size_alloc] at h1
     refine h1.mono fun b hb e => ?_
     have hlow := (HROW.out.low e).2
     rcases hb with hb | hb <;> omega
    clear hb3 hT
    go_upto_region 14 with (go_at_call 15; refine HC.out.mono ?_; rintro e w' ⟨rfl, rfl⟩)
    clear HC hic a0' a1' a2' a3' a4'
    go_wp2_with (at_builtin; refine Sc.wpList_cmds (by rfl) _ _ (by rfl) (by rfl) HROW3.out hz3 (by rfl) HSX.out (by omega) (by omega) (rfl : j + 1 + 1 = j + 1 + 1) (List.cons_append ..) ?_)
    intro g9 cap9 w9 hr9 hB9
    have hbw : Below w4.heap.size w4 w9 := hB9 w4 (HB.out.trans (HB3'.out.mono hz4)) (Nat.le_refl _)
    have HR9 := Lib.hid hr9; have HB9 := Lib.hid hbw
    clear hr9 hB9 hbw HROW3 HSX hz3 HB3'
    go_wp2_with fail
    go_roundw
    case rel => exact ⟨j + 1, g9, cap9, HJL.out, by go_num, by rw [HW1.out.1, show ∀ o, wantJ o 9 = 16 from fun o => by unfold wantJ; rw [if_pos (by decide)]; rfl]; rfl, rfl, by rw [HW1.out.2, List.map_take]; exact HR9.out, HB9.out⟩
    case measure => have := HJL.out; simp [intOf]; omega
  ·obtain ⟨n0, hn0e⟩ : ∃ n0, n0 = j + 1 := ⟨_, rfl⟩
   have hje : j = ks.length := by omega
   have hjl : j ≤ 10 := by have := HKL.out; omega
   have htk : ks.take j = ks := by rw [hje, List.take_length]
   rw [htk] at hrow ⊢
   rw [← hn0e] at hrow ⊢
   have hn1 : n0 ≤ 11 := by omega
   have hn0 : 0 < n0 := by omega
   have hcond : j < ln → j < 10 → False := by have := HKL.out; intro h1 h2; omega
   obtain ⟨C1, hC1⟩ : ∃ C1 : Crs, C1 = ⟨[], (wants ks : Nat), false, 0⟩ := ⟨_, rfl⟩
   obtain ⟨C2, hC2⟩ : ∃ C2 : Crs, C2 = ⟨[⟨3, [], (wants ks : Nat)⟩], 1, true, 0⟩ := ⟨_, rfl⟩
   obtain ⟨cs, hcs⟩ : ∃ cs, cs = reqC :: ks.map fcC := ⟨_, rfl⟩
   have hok1 : ∀ c ∈ cs, CmdOk c := by
    intro c hc
    rw [hcs] at hc
    rcases List.mem_cons.1 hc with rfl | hc
    ·exact req_ok
    ·obtain ⟨k, hk, rfl⟩ := List.mem_map.1 hc
     exact fc_ok k (HK10.out k hk)
   have hkeep : CmdOk Sc.keepA := keep_ok
   have hcl : cs.length ≤ 11 := by rw [hcs, List.length_cons, List.length_map]; omega
   have hr1 : ruleS cs = 0 := by
    rw [hcs]
    refine flags_rule _ (fun c hc => ?_) (by rw [List.length_map]; omega)
    obtain ⟨k, hk, rfl⟩ := List.mem_map.1 hc
    exact .inl ⟨k, HK10.out k hk, rfl⟩
   have hr2 : ruleS (cs ++ [Sc.keepA, fcC 1]) = 0 := by
    rw [hcs, List.cons_append]
    refine flags_rule _ (fun c hc => ?_) (by rw [List.length_append, List.length_map]; show ks.length + 2 ≤ 12; omega)
    rcases List.mem_append.1 hc with hc | hc
    ·obtain ⟨k, hk, rfl⟩ := List.mem_map.1 hc
     exact .inl ⟨k, HK10.out k hk, rfl⟩
    ·rcases List.mem_cons.1 hc with rfl | hc
     ·exact .inr rfl
     ·rw [List.mem_singleton] at hc; exact .inl ⟨1, by omega, hc⟩
   have HJ1 : Hid (∀ V u F', SAt (cCmd 15) V F' u cs → Below w.heap.size w V → Calls Tryz.prog 20 #[u, .agg (lttC x).toArray] V (JudgeQ 0 C1 V)) := fun V u F' hu hV =>
    judge_q cs u F' x fs _ m V 0 C1 hok1 (by omega) hr1 (.inl ⟨rfl, by rw [hC1, hcs]; exact (flags_crs x fs ks HK10.out).symm⟩) hu (HRW.out V hV) HOK.out
   have HJ2 : Hid (∀ V u F', SAt (cCmd 15) V F' u (cs ++ [Sc.keepA, fcC 1]) → Below w.heap.size w V → Calls Tryz.prog 20 #[u, .agg (lttC x).toArray] V (JudgeP C2 V)) := fun V u F' hu hV => by
    have h2 : C2 = (cmdsJ x fs (cs ++ [Sc.keepA, fcC 1]) C0).1 := by rw [hC2, hcs]; exact (flags_two x fs ks HK10.out).symm
    rw [h2]
    exact judge_list (cs ++ [Sc.keepA, fcC 1]) u F' x fs _ m V (app_okk hok1 (fun c hc => (List.mem_cons.1 hc).elim (fun e => e ▸ hkeep) (fun h => by rw [List.mem_singleton] at h; rw [h]; exact fc_ok 1 (by omega)))) (by rw [List.length_append]; show cs.length + 2 ≤ 100; omega) hr2 hu (HRW.out V hV) HOK.out
   have hwl := wants_lt ks HK10.out
   obtain ⟨wt, hwt⟩ : ∃ wt, wt = wants ks := ⟨_, rfl⟩
   rw [← hwt] at hC1 hC2 hwl ⊢
   have HEND : Hid (∀ V F u, SAt cAct V F u C1.acts → Calls Tryz.prog 24 #[.agg #[u, .int .i64 C1.flags, .bool C1.asked, .int .i64 C1.fault]] V (EndS [keepA wt] 1 V)) := fun V F u h => (end_any u C1 F V h (by rw [hC1]; show 0 ≤ 6; omega) ⟨wt, hwl, by rw [hC1]⟩).mono fun e w' h => by
    have e1 : endJ C1 = [keepA wt] := by rw [hC1]; exact endJ_quiet rfl rfl
    rw [e1] at h
    exact h.s rfl
   rw [← hcs] at hrow
   have HROW := Lib.hid hrow
   have HB5 := Lib.hid (HB4.out.trans (hb.mono HB4.out.size))
   have HL5 := Lib.hid (HL4.out.below hb HL4.out.2.2)
   have HA5 := Lib.hid (HS4.out.below hb HS4.out.2.2)
   have HC1 := Lib.hid hC1; have HC2 := Lib.hid hC2
   have hdd : (decide ((j : Int) < ln) = false ∧ ¬ j < ln) ∨ (j < ln ∧ decide ((j : Int) < 10) = false ∧ ¬ j < 10) := by
    by_cases h1 : j < ln
    ·exact .inr ⟨h1, decide_eq_false (by have h3 : ¬ j < 10 := hcond h1; omega), hcond h1⟩
    ·exact .inl ⟨decide_eq_false (by omega), h1⟩
   clear hn0e hje htk hcs hok1 hkeep hcl hr1 hr2 hC1 hC2 hwt hrow hb hj hlt hwl hcond
   rcases hdd with ⟨h1, h2⟩ | ⟨h1, h2, h3⟩
   case' inl => go_upto_region 15 with fail
   case' inr => go_upto_region 15 with fail
   all_goals
    clear h1 h2
    obtain ⟨l0, l1, l2, l3, l4⟩ := ltt_get HL5.out
    have HC := Lib.hid (HJ1.out _ _ _ HROW.out.sat HB5.out)
    go_wp2_with fail
    refine HC.out.mono ?_
    rintro e w6 ⟨G6, k6, rfl, hs6, hb6⟩
    have hA := ba (Below.refl w6.heap.size w6) (.cells #[.slice G6 C1.acts.length k6, .int .i64 C1.flags, .bool C1.asked, .int .i64 C1.fault] 53)
    have hK := crsq_alloc hs6 53
    obtain ⟨X1, hX1⟩ : ∃ X1, X1 = w6.heap.size := ⟨_, rfl⟩
    obtain ⟨W7, hW7⟩ : ∃ W, W = w6.alloc (.cells #[.slice G6 C1.acts.length k6, .int .i64 C1.flags, .bool C1.asked, .int .i64 C1.fault] 53) := ⟨_, rfl⟩
    rw [← hX1, ← hW7] at hK
    rw [← hW7] at hA
    have hb := bt hb6 hA
    have HK1 := Lib.hid hK
    have HB7 := Lib.hid (bt HB5.out hb)
    have HL7 := Lib.hid (HL5.out.down hb); have HA7 := Lib.hid (HA5.out.down hb); have HROW7 := Lib.hid (HROW.out.down hb)
    have HWe := Lib.hid hW7; have HXe := Lib.hid hX1
    clear l0 l1 l2 l3 l4 HC hs6 hb6 hA hK hX1 hW7 hb HB5 HL5 HA5 HROW HJ1
    go_upto_region 16 with fail
    rw [← HWe.out, ← HXe.out]
    clear HWe HXe
    obtain ⟨Gk, kk, hk, hks⟩ := HK1.out
    obtain ⟨c0, c1, c2, c3⟩ := has_quad hk
    have HC := Lib.hid (HEND.out _ _ _ hks)
    clear hk hks HEND
    go_wp2_with fail
    refine HC.out.mono ?_
    rintro e W6 ⟨G8, k8, rfl, hs8, hb8⟩
    have HS8 := Lib.hid hs8
    have HB6 := Lib.hid (bt HB7.out hb8)
    have HL6 := Lib.hid (HL7.out.down hb8); have HA6 := Lib.hid (HA7.out.down hb8); have HROW6 := Lib.hid (HROW7.out.down hb8)
    clear c0 c1 c2 c3 HC hs8 hb8 HK1 HB7 HL7 HA7 HROW7
    go_upto_region 17 with fail
    go_cut [17, 18] (JAt x C2 L W6)
    case first =>
     have hd := Below.drew (Below.refl W6.heap.size W6)
     refine wp_region_noPanic ?_
     refine wp_region_held_drew (S := HL x L) (by kernel_rfl) (HL6.out.down hd) (fun hHeld => ?_)
     refine heldTo (fun X => Below W6.heap.size W6 X ∧ HL x L X ∧ Has X A (strs flagL) ∧ SAt (cCmd 15) X (fun b => b < X.heap.size) (.slice (some ⟨g, 0, none⟩) n0 cap) cs) (HL x L) ⟨hd, hHeld, HA6.out.down hd, HROW6.out.sat.down hd⟩ (fun X h => h.2.1) (fun _ h => h) (fun V0 hR hHeld => ?_)
     clear hd
     obtain ⟨hB, -, hA, hcs⟩ := hR

     refine wpAnyH_take (i := 0) (v := ?_) (by (simp only [List.getElem?_toArray, List.getElem?_cons_zero]; rfl)) (by kernel_rfl) (by kernel_rfl) (by kernel_rfl) (fun _ _ _ h => h) (Or.inl ⟨by rfl, ?_⟩) (by assumption) ?_
     rotate_left 1
     ·intro w' hSw; (go_simp) <;> with_reducible rfl
     try simp only [Act.put, List.setIfInBounds_toArray, List.set_cons_zero, List.set_cons_succ]
     refine wpAnyH_take (i := 2) (v := ?_) (gA rfl) (by kernel_rfl) (by kernel_rfl) (by kernel_rfl) (fun _ _ _ h => h) (Or.inl ⟨by rfl, ?_⟩) (by assumption) ?_
     rotate_left 1
     ·intro w' hSw; (go_simp) <;> with_reducible rfl
     try simp only [Act.put, List.setIfInBounds_toArray, List.set_cons_zero, List.set_cons_succ]
     refine wpAnyH_take (i := 3) (v := ?_) (gA rfl) (by kernel_rfl) (by kernel_rfl) (by kernel_rfl) (fun _ _ _ h => h) (Or.inl ⟨by rfl, ?_⟩) (by assumption) ?_
     rotate_left 1
     ·intro w' hSw; (go_simp) <;> with_reducible rfl
     try simp only [Act.put, List.setIfInBounds_toArray, List.set_cons_zero, List.set_cons_succ]
     refine wpAnyH_take (i := 4) (v := ?_) (gA rfl) (by kernel_rfl) (by kernel_rfl) (by kernel_rfl) (fun _ _ _ h => h) (Or.inl ⟨by rfl, ?_⟩) (by assumption) ?_
     rotate_left 1
     ·intro w' hSw; (go_simp) <;> with_reducible rfl
     try simp only [Act.put, List.setIfInBounds_toArray, List.set_cons_zero, List.set_cons_succ]
     refine wpAnyH_take (i := 5) (v := ?_) (gA rfl) (by kernel_rfl) (by kernel_rfl) (by kernel_rfl) (fun _ _ _ h => h) (Or.inl ⟨by rfl, ?_⟩) (by assumption) ?_
     rotate_left 1
     ·intro w' hSw; (go_simp) <;> with_reducible rfl
     try simp only [Act.put, List.setIfInBounds_toArray, List.set_cons_zero, List.set_cons_succ]
     refine wpAnyH_take (i := 8) (v := ?_) (gA rfl) (by kernel_rfl) (by kernel_rfl) (by kernel_rfl) (fun _ _ _ h => h) (Or.inl ⟨by rfl, ?_⟩) (by assumption) ?_
     rotate_left 1
     ·intro w' hSw; obtain ⟨l0, l1, l2, l3, l4⟩ := ltt_get hSw; (go_simp) <;> with_reducible rfl
     try simp only [Act.put, List.setIfInBounds_toArray, List.set_cons_zero, List.set_cons_succ]
     refine wpAnyH_ready (rs := [1, 6, 13]) (by kernel_rfl) (by simp) ?_
     refine AllReadyH.cons (gA rfl) (fun K hK => ?_) ?_
     ·refine Sc.step_cmds (by rfl) _ _ (by rfl) (by rfl) (CRow.nil _ _) (Nat.le_refl _) (by rfl) (hcs.mono fun b _ e => by cases e) hn0 (by omega) (Nat.zero_add n0) (List.nil_append cs) (fun g1 cap1 w1' hr1' hf1 _ => ?_)
      have hb1' := hf1 _ (Below.refl _ _) (Nat.le_refl _)
      have hHeld0 := hHeld
      refine hK.out _ _ ?_ (fun hHeld => ?_)
      ·exact hHeld.down hb1'
      clear hK K
      try simp only [Act.put, List.setIfInBounds_toArray, List.set_cons_zero, List.set_cons_succ]
      have hBW : W6.heap.size ≤ V0.heap.size := hB.size
      refine heldTo (fun V1 => (Below W6.heap.size W6 V1) ∧ HL x L V1 ∧ (Has V1 A (strs flagL)) ∧ (CRow V0.heap.size V1 (.slice (some ⟨g1, 0, none⟩) n0 cap1) n0 cs)) (HL x L) ⟨bt hB hb1', hHeld, hA.down hb1', hr1'⟩ (fun V1 h => h.2.1) (fun _ h => h) (fun V1 hR hHeld => ?_)
      clear hr1' hf1 hb1'
      clear hB hA hcs
      obtain ⟨hB, -, hA, hr1⟩ := hR
      generalize V0.heap.size = B1 at hr1 hBW
      refine wpAnyH_ready (rs := [6, 13]) (by kernel_rfl) (by simp) ?_
      refine AllReadyH.cons (gA rfl) (fun K hK => ?_) ?_
      ·go_simp
       have hHeld0 := hHeld
       refine hK.out _ _ ?_ (fun hHeld => ?_)
       ·exact hHeld.down (ba (Below.refl _ _) _)
       clear hK K
       try simp only [Act.put, List.setIfInBounds_toArray, List.set_cons_zero, List.set_cons_succ]
       refine heldTo (fun V2 => (Below W6.heap.size W6 V2) ∧ HL x L V2 ∧ (CRow B1 V2 (.slice (some ⟨g1, 0, none⟩) n0 cap1) n0 cs) ∧ (SAt (cCmd 15) V2 (fun b => b = V1.heap.size ∨ b = A) (.slice (some ⟨V1.heap.size, 0, none⟩) 2 2) [Sc.keepA, fcC 1]) ∧ (V1.heap.size < V2.heap.size) ∧ (g1 ≠ V1.heap.size)) (HL x L) ⟨ba hB _, hHeld, hr1.down (ba (Below.refl _ _) _), flag_lit V1 A hA, by rw [World.size_alloc]; omega, by have h1 := (hr1.low rfl).2; dsimp only at h1; omega⟩ (fun V2 h => h.2.1) (fun _ h => h) (fun V2 hR hHeld => ?_)
       clear hB hA hr1
       obtain ⟨hB, -, hr1, hk, hKs, hne1⟩ := hR
       generalize V1.heap.size = K6 at hk hKs hne1 ⊢
       refine wpAnyH_ready (rs := [7, 13]) (by kernel_rfl) (by simp) ?_
       refine AllReadyH.cons (gA rfl) (fun K hK => ?_) ?_
       ·have hlow := hr1.low rfl
        dsimp only at hlow
        have hAW := HA6.out.2.2
        refine Sc.step_cmds (by rfl) _ _ (by rfl) (by rfl) hr1 (by omega) (by rfl) (hk.mono fun b hb e => by have e' : g1 = b := Option.some.inj e; rcases hb with hb | hb <;> omega) (by omega) (by omega) (rfl : n0 + 2 = n0 + 2) rfl (fun g2 cap2 w2' hr2' hf2 hg2 => ?_)
        have hb2' := hf2 W6 hB hBW
        have hHeld0 := hHeld
        refine hK.out _ _ ?_ (fun hHeld => ?_)
        ·exact HL6.out.down hb2'
        clear hK K
        try simp only [Act.put, List.setIfInBounds_toArray, List.set_cons_zero, List.set_cons_succ]
        refine heldTo (fun V3 => (Below W6.heap.size W6 V3) ∧ HL x L V3 ∧ (CRow B1 V3 (.slice (some ⟨g2, 0, none⟩) (n0 + 2) cap2) (n0 + 2) (cs ++ [Sc.keepA, fcC 1]))) (HL x L) ⟨hb2', hHeld, hr2'⟩ (fun V3 h => h.2.1) (fun _ h => h) (fun V3 hR hHeld => ?_)
        clear hr2' hf2 hg2 hb2' hlow hAW
        clear hB hr1 hk hKs hne1
        obtain ⟨hB, -, hr2⟩ := hR
        refine wpAnyH_ready (rs := [9, 13]) (by kernel_rfl) (by simp) ?_
        refine AllReadyH.cons (gA rfl) (fun K hK => ?_) ?_
        ·go_simp
         go_at_call 20
         refine (HJ2.out _ _ _ hr2.sat (HB6.out.trans (hB.mono HB6.out.size))).mono ?_
         rintro e w7' ⟨u7, rfl, hr7', hb7'⟩
         obtain ⟨G7, c7, rfl⟩ := Sc.row_slice hr7'
         try (go_wp2_with fail)
         have hHeld0 := hHeld
         refine hK.out _ _ ?_ (fun hHeld => ?_)
         ·exact hHeld.down hb7'
         clear hK K
         try simp only [Act.put, List.setIfInBounds_toArray, List.set_cons_zero, List.set_cons_succ]
         refine heldTo (fun V4 => (Below W6.heap.size W6 V4) ∧ HL x L V4 ∧ (World.ownsRow V4 W6.heap.size 65 3 (.slice G7 C2.acts.length c7) C2.acts.length (C2.acts.flatMap actC))) (HL x L) ⟨bt hB hb7', hHeld, row_base hr7' hB.size⟩ (fun V4 h => h.2.1) (fun _ h => h) (fun V4 hR hHeld => ?_)
         clear hr7' hb7'
         clear hB hr2
         obtain ⟨hB, -, hr⟩ := hR
         refine wpAnyH_take (i := 10) (v := ?_) (gA rfl) (by kernel_rfl) (by kernel_rfl) (by kernel_rfl) (fun _ _ _ h => h) (Or.inl ⟨by rfl, ?_⟩) (by assumption) ?_
         rotate_left 1
         ·intro w' hSw; (go_simp) <;> with_reducible rfl
         try simp only [Act.put, List.setIfInBounds_toArray, List.set_cons_zero, List.set_cons_succ]
         refine wpAnyH_take (i := 11) (v := ?_) (gA rfl) (by kernel_rfl) (by kernel_rfl) (by kernel_rfl) (fun _ _ _ h => h) (Or.inl ⟨by rfl, ?_⟩) (by assumption) ?_
         rotate_left 1
         ·intro w' hSw; (go_simp) <;> with_reducible rfl
         try simp only [Act.put, List.setIfInBounds_toArray, List.set_cons_zero, List.set_cons_succ]
         refine wpAnyH_take (i := 12) (v := ?_) (gA rfl) (by kernel_rfl) (by kernel_rfl) (by kernel_rfl) (fun _ _ _ h => h) (Or.inl ⟨by rfl, ?_⟩) (by assumption) ?_
         rotate_left 1
         ·intro w' hSw; (go_simp) <;> with_reducible rfl
         try simp only [Act.put, List.setIfInBounds_toArray, List.set_cons_zero, List.set_cons_succ]
         refine wpAnyH_ready (rs := [13]) (by kernel_rfl) (by simp) ?_
         refine AllReadyH.cons (gA rfl) (fun K hK => ?_) ?_
         ·go_simp
          have hHeld0 := hHeld
          refine hK.out _ _ ?_ (fun hHeld => ?_)
          ·exact hHeld.down (ba (Below.refl _ _) _)
          clear hK K
          try simp only [Act.put, List.setIfInBounds_toArray, List.set_cons_zero, List.set_cons_succ]
          have hKL : L ≠ V4.heap.size := by have := hHeld0.2.2; omega
          have hKW : W6.heap.size ≤ V4.heap.size := hB.size
          refine heldTo (fun V5 => (Below W6.heap.size W6 V5) ∧ HL x L V5 ∧ (World.ownsRow V5 W6.heap.size 65 3 (.slice G7 C2.acts.length c7) C2.acts.length (C2.acts.flatMap actC)) ∧ (Has V5 V4.heap.size [.slice none 0 0, .int .i64 0, .bool false, .int .i64 0]) ∧ ((Value.slice G7 C2.acts.length c7).ownBlock ≠ some V4.heap.size)) (HL x L) ⟨ba hB _, hHeld, row_down hr (ba (Below.refl _ _) _), Has.alloc V4 _ _, fun e => by have := (World.ownsRow.lt hr _ e).2; omega⟩ (fun V5 h => h.2.1) (fun _ h => h) (fun V5 hR hHeld => ?_)
          clear hB hr
          obtain ⟨hB, -, hr, hC, hne⟩ := hR
          generalize V4.heap.size = Kb at hC hKL hKW hne ⊢
          refine wpAnyH_ready (rs := [14]) (by kernel_rfl) (by simp) ?_
          refine AllReadyH.cons (gA rfl) (fun K hK => ?_) ?_
          ·obtain ⟨e0, e1, e2, e3⟩ := has_quad hC
           obtain ⟨f0, f1, f2, f3⟩ := has_quadf hC
           go_simp
           have hHeld0 := hHeld
           refine hK.out _ _ ?_ (fun hHeld => ?_)
           ·exact put4_has hHeld hKL _ _ _ _
           clear hK K
           try simp only [Act.put, List.setIfInBounds_toArray, List.set_cons_zero, List.set_cons_succ]
           refine wpAnyH_take (i := 15) (v := ?_) (gA rfl) (by kernel_rfl) (by kernel_rfl) (by kernel_rfl) (fun _ _ _ h => h) (Or.inl ⟨by rfl, ?_⟩) (by assumption) ?_
           rotate_left 1
           ·intro w' hSw; (go_simp) <;> with_reducible rfl
           try simp only [Act.put, List.setIfInBounds_toArray, List.set_cons_zero, List.set_cons_succ]
           refine wpAnyH_done (by kernel_rfl) ?_ _
           refine NoPanic.normal ?_
           go_wp2_with fail
           go_meet
           case rel => exact ⟨Kb, rfl, rfl, crs_put hC hr hne, hHeld, put4_below hB hKW _ _ _ _⟩
          exact AllReadyH.nil
         exact AllReadyH.nil
        refine AllReadyH.cons (gA rfl) (fun K hK => ?_) ?_
        ·go_simp
         have hHeld0 := hHeld
         refine hK.out _ _ ?_ (fun hHeld => ?_)
         ·exact hHeld.down (ba (Below.refl _ _) _)
         clear hK K
         try simp only [Act.put, List.setIfInBounds_toArray, List.set_cons_zero, List.set_cons_succ]
         have hKL : L ≠ V3.heap.size := by have := hHeld0.2.2; omega
         have hKW : W6.heap.size ≤ V3.heap.size := hB.size
         refine heldTo (fun V4 => (Below W6.heap.size W6 V4) ∧ HL x L V4 ∧ (CRow B1 V4 (.slice (some ⟨g2, 0, none⟩) (n0 + 2) cap2) (n0 + 2) (cs ++ [Sc.keepA, fcC 1])) ∧ (Has V4 V3.heap.size [.slice none 0 0, .int .i64 0, .bool false, .int .i64 0])) (HL x L) ⟨ba hB _, hHeld, hr2.down (ba (Below.refl _ _) _), Has.alloc V3 _ _⟩ (fun V4 h => h.2.1) (fun _ h => h) (fun V4 hR hHeld => ?_)
         clear hB hr2
         obtain ⟨hB, -, hr2, hC⟩ := hR
         generalize V3.heap.size = Kb at hC hKL hKW ⊢
         refine wpAnyH_ready (rs := [9]) (by kernel_rfl) (by simp) ?_
         refine AllReadyH.cons (gA rfl) (fun K hK => ?_) ?_
         ·go_simp
          go_at_call 20
          refine (HJ2.out _ _ _ hr2.sat (HB6.out.trans (hB.mono HB6.out.size))).mono ?_
          rintro e w7' ⟨u7, rfl, hr7', hb7'⟩
          obtain ⟨G7, c7, rfl⟩ := Sc.row_slice hr7'
          try (go_wp2_with fail)
          have hHeld0 := hHeld
          refine hK.out _ _ ?_ (fun hHeld => ?_)
          ·exact hHeld.down hb7'
          clear hK K
          try simp only [Act.put, List.setIfInBounds_toArray, List.set_cons_zero, List.set_cons_succ]
          refine heldTo (fun V5 => (Below W6.heap.size W6 V5) ∧ HL x L V5 ∧ (World.ownsRow V5 W6.heap.size 65 3 (.slice G7 C2.acts.length c7) C2.acts.length (C2.acts.flatMap actC)) ∧ (Has V5 Kb [.slice none 0 0, .int .i64 0, .bool false, .int .i64 0]) ∧ ((Value.slice G7 C2.acts.length c7).ownBlock ≠ some Kb)) (HL x L) ⟨bt hB hb7', hHeld, row_base hr7' hB.size, hC.down hb7', fun e => by have h1 := (World.ownsRow.lt hr7' _ e).1; have h2 := hC.2.2; omega⟩ (fun V5 h => h.2.1) (fun _ h => h) (fun V5 hR hHeld => ?_)
          clear hr7' hb7'
          clear hB hr2 hC
          obtain ⟨hB, -, hr, hC, hne⟩ := hR
          refine wpAnyH_take (i := 10) (v := ?_) (gA rfl) (by kernel_rfl) (by kernel_rfl) (by kernel_rfl) (fun _ _ _ h => h) (Or.inl ⟨by rfl, ?_⟩) (by assumption) ?_
          rotate_left 1
          ·intro w' hSw; (go_simp) <;> with_reducible rfl
          try simp only [Act.put, List.setIfInBounds_toArray, List.set_cons_zero, List.set_cons_succ]
          refine wpAnyH_take (i := 11) (v := ?_) (gA rfl) (by kernel_rfl) (by kernel_rfl) (by kernel_rfl) (fun _ _ _ h => h) (Or.inl ⟨by rfl, ?_⟩) (by assumption) ?_
          rotate_left 1
          ·intro w' hSw; (go_simp) <;> with_reducible rfl
          try simp only [Act.put, List.setIfInBounds_toArray, List.set_cons_zero, List.set_cons_succ]
          refine wpAnyH_take (i := 12) (v := ?_) (gA rfl) (by kernel_rfl) (by kernel_rfl) (by kernel_rfl) (fun _ _ _ h => h) (Or.inl ⟨by rfl, ?_⟩) (by assumption) ?_
          rotate_left 1
          ·intro w' hSw; (go_simp) <;> with_reducible rfl
          try simp only [Act.put, List.setIfInBounds_toArray, List.set_cons_zero, List.set_cons_succ]
          refine wpAnyH_ready (rs := [14]) (by kernel_rfl) (by simp) ?_
          refine AllReadyH.cons (gA rfl) (fun K hK => ?_) ?_
          ·obtain ⟨e0, e1, e2, e3⟩ := has_quad hC
           obtain ⟨f0, f1, f2, f3⟩ := has_quadf hC
           go_simp
           have hHeld0 := hHeld
           refine hK.out _ _ ?_ (fun hHeld => ?_)
           ·exact put4_has hHeld hKL _ _ _ _
           clear hK K
           try simp only [Act.put, List.setIfInBounds_toArray, List.set_cons_zero, List.set_cons_succ]
           refine wpAnyH_take (i := 15) (v := ?_) (gA rfl) (by kernel_rfl) (by kernel_rfl) (by kernel_rfl) (fun _ _ _ h => h) (Or.inl ⟨by rfl, ?_⟩) (by assumption) ?_
           rotate_left 1
           ·intro w' hSw; (go_simp) <;> with_reducible rfl
           try simp only [Act.put, List.setIfInBounds_toArray, List.set_cons_zero, List.set_cons_succ]
           refine wpAnyH_done (by kernel_rfl) ?_ _
           refine NoPanic.normal ?_
           go_wp2_with fail
           go_meet
           case rel => exact ⟨Kb, rfl, rfl, crs_put hC hr hne, hHeld, put4_below hB hKW _ _ _ _⟩
          exact AllReadyH.nil
         exact AllReadyH.nil
        exact AllReadyH.nil
       refine AllReadyH.cons (gA rfl) (fun K hK => ?_) ?_
       ·go_simp
        have hHeld0 := hHeld
        refine hK.out _ _ ?_ (fun hHeld => ?_)
        ·exact hHeld.down (ba (Below.refl _ _) _)
        clear hK K
        try simp only [Act.put, List.setIfInBounds_toArray, List.set_cons_zero, List.set_cons_succ]
        have hKL : L ≠ V2.heap.size := by have := hHeld0.2.2; omega
        have hKW : W6.heap.size ≤ V2.heap.size := hB.size
        refine heldTo (fun V3 => (Below W6.heap.size W6 V3) ∧ HL x L V3 ∧ (CRow B1 V3 (.slice (some ⟨g1, 0, none⟩) n0 cap1) n0 cs) ∧ (SAt (cCmd 15) V3 (fun b => b = K6 ∨ b = A) (.slice (some ⟨K6, 0, none⟩) 2 2) [Sc.keepA, fcC 1]) ∧ (K6 < V3.heap.size) ∧ (g1 ≠ K6) ∧ (g1 ≠ V2.heap.size) ∧ (Has V3 V2.heap.size [.slice none 0 0, .int .i64 0, .bool false, .int .i64 0])) (HL x L) ⟨ba hB _, hHeld, hr1.down (ba (Below.refl _ _) _), hk.down (ba (Below.refl _ _) _), Nat.lt_of_lt_of_le hKs (Below.size (ba (Below.refl V2.heap.size V2) _)), hne1, by have h1 := (hr1.low rfl).2; dsimp only at h1; omega, Has.alloc V2 _ _⟩ (fun V3 h => h.2.1) (fun _ h => h) (fun V3 hR hHeld => ?_)
        clear hB hr1 hk hKs hne1
        obtain ⟨hB, -, hr1, hk, hKs, hne1, hne3, hC⟩ := hR
        generalize V2.heap.size = Kb at hC hKL hKW hne3 ⊢
        refine wpAnyH_ready (rs := [7]) (by kernel_rfl) (by simp) ?_
        refine AllReadyH.cons (gA rfl) (fun K hK => ?_) ?_
        ·have hlow := hr1.low rfl
         dsimp only at hlow
         have hAW := HA6.out.2.2
         refine Sc.step_cmds (by rfl) _ _ (by rfl) (by rfl) hr1 (by omega) (by rfl) (hk.mono fun b hb e => by have e' : g1 = b := Option.some.inj e; rcases hb with hb | hb <;> omega) (by omega) (by omega) (rfl : n0 + 2 = n0 + 2) rfl (fun g2 cap2 w2' hr2' hf2 hg2 => ?_)
         have hb2' := hf2 W6 hB hBW
         have hHeld0 := hHeld
         refine hK.out _ _ ?_ (fun hHeld => ?_)
         ·exact HL6.out.down hb2'
         clear hK K
         try simp only [Act.put, List.setIfInBounds_toArray, List.set_cons_zero, List.set_cons_succ]
         refine heldTo (fun V4 => (Below W6.heap.size W6 V4) ∧ HL x L V4 ∧ (CRow B1 V4 (.slice (some ⟨g2, 0, none⟩) (n0 + 2) cap2) (n0 + 2) (cs ++ [Sc.keepA, fcC 1])) ∧ (Has V4 Kb [.slice none 0 0, .int .i64 0, .bool false, .int .i64 0])) (HL x L) ⟨hb2', hHeld, hr2', hC.kept hg2 (fun e => hne3 (Option.some.inj e).symm)⟩ (fun V4 h => h.2.1) (fun _ h => h) (fun V4 hR hHeld => ?_)
         clear hr2' hf2 hg2 hb2' hlow hAW
         clear hB hr1 hk hKs hne1 hne3 hC
         obtain ⟨hB, -, hr2, hC⟩ := hR
         refine wpAnyH_ready (rs := [9]) (by kernel_rfl) (by simp) ?_
         refine AllReadyH.cons (gA rfl) (fun K hK => ?_) ?_
         ·go_simp
          go_at_call 20
          refine (HJ2.out _ _ _ hr2.sat (HB6.out.trans (hB.mono HB6.out.size))).mono ?_
          rintro e w7' ⟨u7, rfl, hr7', hb7'⟩
          obtain ⟨G7, c7, rfl⟩ := Sc.row_slice hr7'
          try (go_wp2_with fail)
          have hHeld0 := hHeld
          refine hK.out _ _ ?_ (fun hHeld => ?_)
          ·exact hHeld.down hb7'
          clear hK K
          try simp only [Act.put, List.setIfInBounds_toArray, List.set_cons_zero, List.set_cons_succ]
          refine heldTo (fun V5 => (Below W6.heap.size W6 V5) ∧ HL x L V5 ∧ (World.ownsRow V5 W6.heap.size 65 3 (.slice G7 C2.acts.length c7) C2.acts.length (C2.acts.flatMap actC)) ∧ (Has V5 Kb [.slice none 0 0, .int .i64 0, .bool false, .int .i64 0]) ∧ ((Value.slice G7 C2.acts.length c7).ownBlock ≠ some Kb)) (HL x L) ⟨bt hB hb7', hHeld, row_base hr7' hB.size, hC.down hb7', fun e => by have h1 := (World.ownsRow.lt hr7' _ e).1; have h2 := hC.2.2; omega⟩ (fun V5 h => h.2.1) (fun _ h => h) (fun V5 hR hHeld => ?_)
          clear hr7' hb7'
          clear hB hr2 hC
          obtain ⟨hB, -, hr, hC, hne⟩ := hR
          refine wpAnyH_take (i := 10) (v := ?_) (gA rfl) (by kernel_rfl) (by kernel_rfl) (by kernel_rfl) (fun _ _ _ h => h) (Or.inl ⟨by rfl, ?_⟩) (by assumption) ?_
          rotate_left 1
          ·intro w' hSw; (go_simp) <;> with_reducible rfl
          try simp only [Act.put, List.setIfInBounds_toArray, List.set_cons_zero, List.set_cons_succ]
          refine wpAnyH_take (i := 11) (v := ?_) (gA rfl) (by kernel_rfl) (by kernel_rfl) (by kernel_rfl) (fun _ _ _ h => h) (Or.inl ⟨by rfl, ?_⟩) (by assumption) ?_
          rotate_left 1
          ·intro w' hSw; (go_simp) <;> with_reducible rfl
          try simp only [Act.put, List.setIfInBounds_toArray, List.set_cons_zero, List.set_cons_succ]
          refine wpAnyH_take (i := 12) (v := ?_) (gA rfl) (by kernel_rfl) (by kernel_rfl) (by kernel_rfl) (fun _ _ _ h => h) (Or.inl ⟨by rfl, ?_⟩) (by assumption) ?_
          rotate_left 1
          ·intro w' hSw; (go_simp) <;> with_reducible rfl
          try simp only [Act.put, List.setIfInBounds_toArray, List.set_cons_zero, List.set_cons_succ]
          refine wpAnyH_ready (rs := [14]) (by kernel_rfl) (by simp) ?_
          refine AllReadyH.cons (gA rfl) (fun K hK => ?_) ?_
          ·obtain ⟨e0, e1, e2, e3⟩ := has_quad hC
           obtain ⟨f0, f1, f2, f3⟩ := has_quadf hC
           go_simp
           have hHeld0 := hHeld
           refine hK.out _ _ ?_ (fun hHeld => ?_)
           ·exact put4_has hHeld hKL _ _ _ _
           clear hK K
           try simp only [Act.put, List.setIfInBounds_toArray, List.set_cons_zero, List.set_cons_succ]
           refine wpAnyH_take (i := 15) (v := ?_) (gA rfl) (by kernel_rfl) (by kernel_rfl) (by kernel_rfl) (fun _ _ _ h => h) (Or.inl ⟨by rfl, ?_⟩) (by assumption) ?_
           rotate_left 1
           ·intro w' hSw; (go_simp) <;> with_reducible rfl
           try simp only [Act.put, List.setIfInBounds_toArray, List.set_cons_zero, List.set_cons_succ]
           refine wpAnyH_done (by kernel_rfl) ?_ _
           refine NoPanic.normal ?_
           go_wp2_with fail
           go_meet
           case rel => exact ⟨Kb, rfl, rfl, crs_put hC hr hne, hHeld, put4_below hB hKW _ _ _ _⟩
          exact AllReadyH.nil
         exact AllReadyH.nil
        exact AllReadyH.nil
       exact AllReadyH.nil
      refine AllReadyH.cons (gA rfl) (fun K hK => ?_) ?_
      ·go_simp
       have hHeld0 := hHeld
       refine hK.out _ _ ?_ (fun hHeld => ?_)
       ·exact hHeld.down (ba (Below.refl _ _) _)
       clear hK K
       try simp only [Act.put, List.setIfInBounds_toArray, List.set_cons_zero, List.set_cons_succ]
       have hKL : L ≠ V1.heap.size := by have := hHeld0.2.2; omega
       have hKW : W6.heap.size ≤ V1.heap.size := hB.size
       refine heldTo (fun V2 => (Below W6.heap.size W6 V2) ∧ HL x L V2 ∧ (Has V2 A (strs flagL)) ∧ (CRow B1 V2 (.slice (some ⟨g1, 0, none⟩) n0 cap1) n0 cs) ∧ (g1 ≠ V1.heap.size) ∧ (Has V2 V1.heap.size [.slice none 0 0, .int .i64 0, .bool false, .int .i64 0])) (HL x L) ⟨ba hB _, hHeld, hA.down (ba (Below.refl _ _) _), hr1.down (ba (Below.refl _ _) _), by have h1 := (hr1.low rfl).2; dsimp only at h1; omega, Has.alloc V1 _ _⟩ (fun V2 h => h.2.1) (fun _ h => h) (fun V2 hR hHeld => ?_)
       clear hB hA hr1
       obtain ⟨hB, -, hA, hr1, hne3, hC⟩ := hR
       generalize V1.heap.size = Kb at hC hKL hKW hne3 ⊢
       refine wpAnyH_ready (rs := [6]) (by kernel_rfl) (by simp) ?_
       refine AllReadyH.cons (gA rfl) (fun K hK => ?_) ?_
       ·go_simp
        have hHeld0 := hHeld
        refine hK.out _ _ ?_ (fun hHeld => ?_)
        ·exact hHeld.down (ba (Below.refl _ _) _)
        clear hK K
        try simp only [Act.put, List.setIfInBounds_toArray, List.set_cons_zero, List.set_cons_succ]
        refine heldTo (fun V3 => (Below W6.heap.size W6 V3) ∧ HL x L V3 ∧ (CRow B1 V3 (.slice (some ⟨g1, 0, none⟩) n0 cap1) n0 cs) ∧ (SAt (cCmd 15) V3 (fun b => b = V2.heap.size ∨ b = A) (.slice (some ⟨V2.heap.size, 0, none⟩) 2 2) [Sc.keepA, fcC 1]) ∧ (V2.heap.size < V3.heap.size) ∧ (g1 ≠ V2.heap.size) ∧ (g1 ≠ Kb) ∧ (Has V3 Kb [.slice none 0 0, .int .i64 0, .bool false, .int .i64 0])) (HL x L) ⟨ba hB _, hHeld, hr1.down (ba (Below.refl _ _) _), flag_lit V2 A hA, by rw [World.size_alloc]; omega, by have h1 := (hr1.low rfl).2; dsimp only at h1; omega, hne3, hC.down (ba (Below.refl _ _) _)⟩ (fun V3 h => h.2.1) (fun _ h => h) (fun V3 hR hHeld => ?_)
        clear hB hA hr1 hne3 hC
        obtain ⟨hB, -, hr1, hk, hKs, hne1, hne3, hC⟩ := hR
        generalize V2.heap.size = K6 at hk hKs hne1 ⊢
        refine wpAnyH_ready (rs := [7]) (by kernel_rfl) (by simp) ?_
        refine AllReadyH.cons (gA rfl) (fun K hK => ?_) ?_
        ·have hlow := hr1.low rfl
         dsimp only at hlow
         have hAW := HA6.out.2.2
         refine Sc.step_cmds (by rfl) _ _ (by rfl) (by rfl) hr1 (by omega) (by rfl) (hk.mono fun b hb e => by have e' : g1 = b := Option.some.inj e; rcases hb with hb | hb <;> omega) (by omega) (by omega) (rfl : n0 + 2 = n0 + 2) rfl (fun g2 cap2 w2' hr2' hf2 hg2 => ?_)
         have hb2' := hf2 W6 hB hBW
         have hHeld0 := hHeld
         refine hK.out _ _ ?_ (fun hHeld => ?_)
         ·exact HL6.out.down hb2'
         clear hK K
         try simp only [Act.put, List.setIfInBounds_toArray, List.set_cons_zero, List.set_cons_succ]
         refine heldTo (fun V4 => (Below W6.heap.size W6 V4) ∧ HL x L V4 ∧ (CRow B1 V4 (.slice (some ⟨g2, 0, none⟩) (n0 + 2) cap2) (n0 + 2) (cs ++ [Sc.keepA, fcC 1])) ∧ (Has V4 Kb [.slice none 0 0, .int .i64 0, .bool false, .int .i64 0])) (HL x L) ⟨hb2', hHeld, hr2', hC.kept hg2 (fun e => hne3 (Option.some.inj e).symm)⟩ (fun V4 h => h.2.1) (fun _ h => h) (fun V4 hR hHeld => ?_)
         clear hr2' hf2 hg2 hb2' hlow hAW
         clear hB hr1 hk hKs hne1 hne3 hC
         obtain ⟨hB, -, hr2, hC⟩ := hR
         refine wpAnyH_ready (rs := [9]) (by kernel_rfl) (by simp) ?_
         refine AllReadyH.cons (gA rfl) (fun K hK => ?_) ?_
         ·go_simp
          go_at_call 20
          refine (HJ2.out _ _ _ hr2.sat (HB6.out.trans (hB.mono HB6.out.size))).mono ?_
          rintro e w7' ⟨u7, rfl, hr7', hb7'⟩
          obtain ⟨G7, c7, rfl⟩ := Sc.row_slice hr7'
          try (go_wp2_with fail)
          have hHeld0 := hHeld
          refine hK.out _ _ ?_ (fun hHeld => ?_)
          ·exact hHeld.down hb7'
          clear hK K
          try simp only [Act.put, List.setIfInBounds_toArray, List.set_cons_zero, List.set_cons_succ]
          refine heldTo (fun V5 => (Below W6.heap.size W6 V5) ∧ HL x L V5 ∧ (World.ownsRow V5 W6.heap.size 65 3 (.slice G7 C2.acts.length c7) C2.acts.length (C2.acts.flatMap actC)) ∧ (Has V5 Kb [.slice none 0 0, .int .i64 0, .bool false, .int .i64 0]) ∧ ((Value.slice G7 C2.acts.length c7).ownBlock ≠ some Kb)) (HL x L) ⟨bt hB hb7', hHeld, row_base hr7' hB.size, hC.down hb7', fun e => by have h1 := (World.ownsRow.lt hr7' _ e).1; have h2 := hC.2.2; omega⟩ (fun V5 h => h.2.1) (fun _ h => h) (fun V5 hR hHeld => ?_)
          clear hr7' hb7'
          clear hB hr2 hC
          obtain ⟨hB, -, hr, hC, hne⟩ := hR
          refine wpAnyH_take (i := 10) (v := ?_) (gA rfl) (by kernel_rfl) (by kernel_rfl) (by kernel_rfl) (fun _ _ _ h => h) (Or.inl ⟨by rfl, ?_⟩) (by assumption) ?_
          rotate_left 1
          ·intro w' hSw; (go_simp) <;> with_reducible rfl
          try simp only [Act.put, List.setIfInBounds_toArray, List.set_cons_zero, List.set_cons_succ]
          refine wpAnyH_take (i := 11) (v := ?_) (gA rfl) (by kernel_rfl) (by kernel_rfl) (by kernel_rfl) (fun _ _ _ h => h) (Or.inl ⟨by rfl, ?_⟩) (by assumption) ?_
          rotate_left 1
          ·intro w' hSw; (go_simp) <;> with_reducible rfl
          try simp only [Act.put, List.setIfInBounds_toArray, List.set_cons_zero, List.set_cons_succ]
          refine wpAnyH_take (i := 12) (v := ?_) (gA rfl) (by kernel_rfl) (by kernel_rfl) (by kernel_rfl) (fun _ _ _ h => h) (Or.inl ⟨by rfl, ?_⟩) (by assumption) ?_
          rotate_left 1
          ·intro w' hSw; (go_simp) <;> with_reducible rfl
          try simp only [Act.put, List.setIfInBounds_toArray, List.set_cons_zero, List.set_cons_succ]
          refine wpAnyH_ready (rs := [14]) (by kernel_rfl) (by simp) ?_
          refine AllReadyH.cons (gA rfl) (fun K hK => ?_) ?_
          ·obtain ⟨e0, e1, e2, e3⟩ := has_quad hC
           obtain ⟨f0, f1, f2, f3⟩ := has_quadf hC
           go_simp
           have hHeld0 := hHeld
           refine hK.out _ _ ?_ (fun hHeld => ?_)
           ·exact put4_has hHeld hKL _ _ _ _
           clear hK K
           try simp only [Act.put, List.setIfInBounds_toArray, List.set_cons_zero, List.set_cons_succ]
           refine wpAnyH_take (i := 15) (v := ?_) (gA rfl) (by kernel_rfl) (by kernel_rfl) (by kernel_rfl) (fun _ _ _ h => h) (Or.inl ⟨by rfl, ?_⟩) (by assumption) ?_
           rotate_left 1
           ·intro w' hSw; (go_simp) <;> with_reducible rfl
           try simp only [Act.put, List.setIfInBounds_toArray, List.set_cons_zero, List.set_cons_succ]
           refine wpAnyH_done (by kernel_rfl) ?_ _
           refine NoPanic.normal ?_
           go_wp2_with fail
           go_meet
           case rel => exact ⟨Kb, rfl, rfl, crs_put hC hr hne, hHeld, put4_below hB hKW _ _ _ _⟩
          exact AllReadyH.nil
         exact AllReadyH.nil
        exact AllReadyH.nil
       exact AllReadyH.nil
      exact AllReadyH.nil
     refine AllReadyH.cons (gA rfl) (fun K hK => ?_) ?_
     ·go_simp
      have hHeld0 := hHeld
      refine hK.out _ _ ?_ (fun hHeld => ?_)
      ·exact hHeld.down (ba (Below.refl _ _) _)
      clear hK K
      try simp only [Act.put, List.setIfInBounds_toArray, List.set_cons_zero, List.set_cons_succ]
      refine heldTo (fun V1 => (Below W6.heap.size W6 V1) ∧ HL x L V1 ∧ (SAt (cCmd 15) V1 (fun b => b < V1.heap.size) (.slice (some ⟨g, 0, none⟩) n0 cap) cs) ∧ (SAt (cCmd 15) V1 (fun b => b = V0.heap.size ∨ b = A) (.slice (some ⟨V0.heap.size, 0, none⟩) 2 2) [Sc.keepA, fcC 1]) ∧ (V0.heap.size < V1.heap.size)) (HL x L) ⟨ba hB _, hHeld, (hcs.down (ba (Below.refl _ _) _)).mono fun b h => Nat.lt_of_lt_of_le h (Below.size (ba (Below.refl V0.heap.size V0) _)), flag_lit V0 A hA, by rw [World.size_alloc]; omega⟩ (fun V1 h => h.2.1) (fun _ h => h) (fun V1 hR hHeld => ?_)
      clear hB hA hcs
      obtain ⟨hB, -, hcs, hk, hKs⟩ := hR
      generalize V0.heap.size = K6 at hk hKs ⊢
      refine wpAnyH_ready (rs := [1, 13]) (by kernel_rfl) (by simp) ?_
      refine AllReadyH.cons (gA rfl) (fun K hK => ?_) ?_
      ·refine Sc.step_cmds (by rfl) _ _ (by rfl) (by rfl) (CRow.nil _ _) (Nat.le_refl _) (by rfl) (hcs.mono fun b _ e => by cases e) hn0 (by omega) (Nat.zero_add n0) (List.nil_append cs) (fun g1 cap1 w1' hr1' hf1 _ => ?_)
       have hb1' := hf1 _ (Below.refl _ _) (Nat.le_refl _)
       have hHeld0 := hHeld
       refine hK.out _ _ ?_ (fun hHeld => ?_)
       ·exact hHeld.down hb1'
       clear hK K
       try simp only [Act.put, List.setIfInBounds_toArray, List.set_cons_zero, List.set_cons_succ]
       have hBW : W6.heap.size ≤ V1.heap.size := hB.size
       refine heldTo (fun V2 => (Below W6.heap.size W6 V2) ∧ HL x L V2 ∧ (CRow V1.heap.size V2 (.slice (some ⟨g1, 0, none⟩) n0 cap1) n0 cs) ∧ (SAt (cCmd 15) V2 (fun b => b = K6 ∨ b = A) (.slice (some ⟨K6, 0, none⟩) 2 2) [Sc.keepA, fcC 1]) ∧ (K6 < V2.heap.size) ∧ (g1 ≠ K6)) (HL x L) ⟨bt hB hb1', hHeld, hr1', hk.down hb1', Nat.lt_of_lt_of_le hKs (Below.size hb1'), by have h1 := (hr1'.low rfl).1; dsimp only at h1; omega⟩ (fun V2 h => h.2.1) (fun _ h => h) (fun V2 hR hHeld => ?_)
       clear hr1' hf1 hb1'
       clear hB hcs hk hKs
       obtain ⟨hB, -, hr1, hk, hKs, hne1⟩ := hR
       generalize V1.heap.size = B1 at hr1 hBW
       refine wpAnyH_ready (rs := [7, 13]) (by kernel_rfl) (by simp) ?_
       refine AllReadyH.cons (gA rfl) (fun K hK => ?_) ?_
       ·have hlow := hr1.low rfl
        dsimp only at hlow
        have hAW := HA6.out.2.2
        refine Sc.step_cmds (by rfl) _ _ (by rfl) (by rfl) hr1 (by omega) (by rfl) (hk.mono fun b hb e => by have e' : g1 = b := Option.some.inj e; rcases hb with hb | hb <;> omega) (by omega) (by omega) (rfl : n0 + 2 = n0 + 2) rfl (fun g2 cap2 w2' hr2' hf2 hg2 => ?_)
        have hb2' := hf2 W6 hB hBW
        have hHeld0 := hHeld
        refine hK.out _ _ ?_ (fun hHeld => ?_)
        ·exact HL6.out.down hb2'
        clear hK K
        try simp only [Act.put, List.setIfInBounds_toArray, List.set_cons_zero, List.set_cons_succ]
        refine heldTo (fun V3 => (Below W6.heap.size W6 V3) ∧ HL x L V3 ∧ (CRow B1 V3 (.slice (some ⟨g2, 0, none⟩) (n0 + 2) cap2) (n0 + 2) (cs ++ [Sc.keepA, fcC 1]))) (HL x L) ⟨hb2', hHeld, hr2'⟩ (fun V3 h => h.2.1) (fun _ h => h) (fun V3 hR hHeld => ?_)
        clear hr2' hf2 hg2 hb2' hlow hAW
        clear hB hr1 hk hKs hne1
        obtain ⟨hB, -, hr2⟩ := hR
        refine wpAnyH_ready (rs := [9, 13]) (by kernel_rfl) (by simp) ?_
        refine AllReadyH.cons (gA rfl) (fun K hK => ?_) ?_
        ·go_simp
         go_at_call 20
         refine (HJ2.out _ _ _ hr2.sat (HB6.out.trans (hB.mono HB6.out.size))).mono ?_
         rintro e w7' ⟨u7, rfl, hr7', hb7'⟩
         obtain ⟨G7, c7, rfl⟩ := Sc.row_slice hr7'
         try (go_wp2_with fail)
         have hHeld0 := hHeld
         refine hK.out _ _ ?_ (fun hHeld => ?_)
         ·exact hHeld.down hb7'
         clear hK K
         try simp only [Act.put, List.setIfInBounds_toArray, List.set_cons_zero, List.set_cons_succ]
         refine heldTo (fun V4 => (Below W6.heap.size W6 V4) ∧ HL x L V4 ∧ (World.ownsRow V4 W6.heap.size 65 3 (.slice G7 C2.acts.length c7) C2.acts.length (C2.acts.flatMap actC))) (HL x L) ⟨bt hB hb7', hHeld, row_base hr7' hB.size⟩ (fun V4 h => h.2.1) (fun _ h => h) (fun V4 hR hHeld => ?_)
         clear hr7' hb7'
         clear hB hr2
         obtain ⟨hB, -, hr⟩ := hR
         refine wpAnyH_take (i := 10) (v := ?_) (gA rfl) (by kernel_rfl) (by kernel_rfl) (by kernel_rfl) (fun _ _ _ h => h) (Or.inl ⟨by rfl, ?_⟩) (by assumption) ?_
         rotate_left 1
         ·intro w' hSw; (go_simp) <;> with_reducible rfl
         try simp only [Act.put, List.setIfInBounds_toArray, List.set_cons_zero, List.set_cons_succ]
         refine wpAnyH_take (i := 11) (v := ?_) (gA rfl) (by kernel_rfl) (by kernel_rfl) (by kernel_rfl) (fun _ _ _ h => h) (Or.inl ⟨by rfl, ?_⟩) (by assumption) ?_
         rotate_left 1
         ·intro w' hSw; (go_simp) <;> with_reducible rfl
         try simp only [Act.put, List.setIfInBounds_toArray, List.set_cons_zero, List.set_cons_succ]
         refine wpAnyH_take (i := 12) (v := ?_) (gA rfl) (by kernel_rfl) (by kernel_rfl) (by kernel_rfl) (fun _ _ _ h => h) (Or.inl ⟨by rfl, ?_⟩) (by assumption) ?_
         rotate_left 1
         ·intro w' hSw; (go_simp) <;> with_reducible rfl
         try simp only [Act.put, List.setIfInBounds_toArray, List.set_cons_zero, List.set_cons_succ]
         refine wpAnyH_ready (rs := [13]) (by kernel_rfl) (by simp) ?_
         refine AllReadyH.cons (gA rfl) (fun K hK => ?_) ?_
         ·go_simp
          have hHeld0 := hHeld
          refine hK.out _ _ ?_ (fun hHeld => ?_)
          ·exact hHeld.down (ba (Below.refl _ _) _)
          clear hK K
          try simp only [Act.put, List.setIfInBounds_toArray, List.set_cons_zero, List.set_cons_succ]
          have hKL : L ≠ V4.heap.size := by have := hHeld0.2.2; omega
          have hKW : W6.heap.size ≤ V4.heap.size := hB.size
          refine heldTo (fun V5 => (Below W6.heap.size W6 V5) ∧ HL x L V5 ∧ (World.ownsRow V5 W6.heap.size 65 3 (.slice G7 C2.acts.length c7) C2.acts.length (C2.acts.flatMap actC)) ∧ (Has V5 V4.heap.size [.slice none 0 0, .int .i64 0, .bool false, .int .i64 0]) ∧ ((Value.slice G7 C2.acts.length c7).ownBlock ≠ some V4.heap.size)) (HL x L) ⟨ba hB _, hHeld, row_down hr (ba (Below.refl _ _) _), Has.alloc V4 _ _, fun e => by have := (World.ownsRow.lt hr _ e).2; omega⟩ (fun V5 h => h.2.1) (fun _ h => h) (fun V5 hR hHeld => ?_)
          clear hB hr
          obtain ⟨hB, -, hr, hC, hne⟩ := hR
          generalize V4.heap.size = Kb at hC hKL hKW hne ⊢
          refine wpAnyH_ready (rs := [14]) (by kernel_rfl) (by simp) ?_
          refine AllReadyH.cons (gA rfl) (fun K hK => ?_) ?_
          ·obtain ⟨e0, e1, e2, e3⟩ := has_quad hC
           obtain ⟨f0, f1, f2, f3⟩ := has_quadf hC
           go_simp
           have hHeld0 := hHeld
           refine hK.out _ _ ?_ (fun hHeld => ?_)
           ·exact put4_has hHeld hKL _ _ _ _
           clear hK K
           try simp only [Act.put, List.setIfInBounds_toArray, List.set_cons_zero, List.set_cons_succ]
           refine wpAnyH_take (i := 15) (v := ?_) (gA rfl) (by kernel_rfl) (by kernel_rfl) (by kernel_rfl) (fun _ _ _ h => h) (Or.inl ⟨by rfl, ?_⟩) (by assumption) ?_
           rotate_left 1
           ·intro w' hSw; (go_simp) <;> with_reducible rfl
           try simp only [Act.put, List.setIfInBounds_toArray, List.set_cons_zero, List.set_cons_succ]
           refine wpAnyH_done (by kernel_rfl) ?_ _
           refine NoPanic.normal ?_
           go_wp2_with fail
           go_meet
           case rel => exact ⟨Kb, rfl, rfl, crs_put hC hr hne, hHeld, put4_below hB hKW _ _ _ _⟩
          exact AllReadyH.nil
         exact AllReadyH.nil
        refine AllReadyH.cons (gA rfl) (fun K hK => ?_) ?_
        ·go_simp
         have hHeld0 := hHeld
         refine hK.out _ _ ?_ (fun hHeld => ?_)
         ·exact hHeld.down (ba (Below.refl _ _) _)
         clear hK K
         try simp only [Act.put, List.setIfInBounds_toArray, List.set_cons_zero, List.set_cons_succ]
         have hKL : L ≠ V3.heap.size := by have := hHeld0.2.2; omega
         have hKW : W6.heap.size ≤ V3.heap.size := hB.size
         refine heldTo (fun V4 => (Below W6.heap.size W6 V4) ∧ HL x L V4 ∧ (CRow B1 V4 (.slice (some ⟨g2, 0, none⟩) (n0 + 2) cap2) (n0 + 2) (cs ++ [Sc.keepA, fcC 1])) ∧ (Has V4 V3.heap.size [.slice none 0 0, .int .i64 0, .bool false, .int .i64 0])) (HL x L) ⟨ba hB _, hHeld, hr2.down (ba (Below.refl _ _) _), Has.alloc V3 _ _⟩ (fun V4 h => h.2.1) (fun _ h => h) (fun V4 hR hHeld => ?_)
         clear hB hr2
         obtain ⟨hB, -, hr2, hC⟩ := hR
         generalize V3.heap.size = Kb at hC hKL hKW ⊢
         refine wpAnyH_ready (rs := [9]) (by kernel_rfl) (by simp) ?_
         refine AllReadyH.cons (gA rfl) (fun K hK => ?_) ?_
         ·go_simp
          go_at_call 20
          refine (HJ2.out _ _ _ hr2.sat (HB6.out.trans (hB.mono HB6.out.size))).mono ?_
          rintro e w7' ⟨u7, rfl, hr7', hb7'⟩
          obtain ⟨G7, c7, rfl⟩ := Sc.row_slice hr7'
          try (go_wp2_with fail)
          have hHeld0 := hHeld
          refine hK.out _ _ ?_ (fun hHeld => ?_)
          ·exact hHeld.down hb7'
          clear hK K
          try simp only [Act.put, List.setIfInBounds_toArray, List.set_cons_zero, List.set_cons_succ]
          refine heldTo (fun V5 => (Below W6.heap.size W6 V5) ∧ HL x L V5 ∧ (World.ownsRow V5 W6.heap.size 65 3 (.slice G7 C2.acts.length c7) C2.acts.length (C2.acts.flatMap actC)) ∧ (Has V5 Kb [.slice none 0 0, .int .i64 0, .bool false, .int .i64 0]) ∧ ((Value.slice G7 C2.acts.length c7).ownBlock ≠ some Kb)) (HL x L) ⟨bt hB hb7', hHeld, row_base hr7' hB.size, hC.down hb7', fun e => by have h1 := (World.ownsRow.lt hr7' _ e).1; have h2 := hC.2.2; omega⟩ (fun V5 h => h.2.1) (fun _ h => h) (fun V5 hR hHeld => ?_)
          clear hr7' hb7'
          clear hB hr2 hC
          obtain ⟨hB, -, hr, hC, hne⟩ := hR
          refine wpAnyH_take (i := 10) (v := ?_) (gA rfl) (by kernel_rfl) (by kernel_rfl) (by kernel_rfl) (fun _ _ _ h => h) (Or.inl ⟨by rfl, ?_⟩) (by assumption) ?_
          rotate_left 1
          ·intro w' hSw; (go_simp) <;> with_reducible rfl
          try simp only [Act.put, List.setIfInBounds_toArray, List.set_cons_zero, List.set_cons_succ]
          refine wpAnyH_take (i := 11) (v := ?_) (gA rfl) (by kernel_rfl) (by kernel_rfl) (by kernel_rfl) (fun _ _ _ h => h) (Or.inl ⟨by rfl, ?_⟩) (by assumption) ?_
          rotate_left 1
          ·intro w' hSw; (go_simp) <;> with_reducible rfl
          try simp only [Act.put, List.setIfInBounds_toArray, List.set_cons_zero, List.set_cons_succ]
          refine wpAnyH_take (i := 12) (v := ?_) (gA rfl) (by kernel_rfl) (by kernel_rfl) (by kernel_rfl) (fun _ _ _ h => h) (Or.inl ⟨by rfl, ?_⟩) (by assumption) ?_
          rotate_left 1
          ·intro w' hSw; (go_simp) <;> with_reducible rfl
          try simp only [Act.put, List.setIfInBounds_toArray, List.set_cons_zero, List.set_cons_succ]
          refine wpAnyH_ready (rs := [14]) (by kernel_rfl) (by simp) ?_
          refine AllReadyH.cons (gA rfl) (fun K hK => ?_) ?_
          ·obtain ⟨e0, e1, e2, e3⟩ := has_quad hC
           obtain ⟨f0, f1, f2, f3⟩ := has_quadf hC
           go_simp
           have hHeld0 := hHeld
           refine hK.out _ _ ?_ (fun hHeld => ?_)
           ·exact put4_has hHeld hKL _ _ _ _
           clear hK K
           try simp only [Act.put, List.setIfInBounds_toArray, List.set_cons_zero, List.set_cons_succ]
           refine wpAnyH_take (i := 15) (v := ?_) (gA rfl) (by kernel_rfl) (by kernel_rfl) (by kernel_rfl) (fun _ _ _ h => h) (Or.inl ⟨by rfl, ?_⟩) (by assumption) ?_
           rotate_left 1
           ·intro w' hSw; (go_simp) <;> with_reducible rfl
           try simp only [Act.put, List.setIfInBounds_toArray, List.set_cons_zero, List.set_cons_succ]
           refine wpAnyH_done (by kernel_rfl) ?_ _
           refine NoPanic.normal ?_
           go_wp2_with fail
           go_meet
           case rel => exact ⟨Kb, rfl, rfl, crs_put hC hr hne, hHeld, put4_below hB hKW _ _ _ _⟩
          exact AllReadyH.nil
         exact AllReadyH.nil
        exact AllReadyH.nil
       refine AllReadyH.cons (gA rfl) (fun K hK => ?_) ?_
       ·go_simp
        have hHeld0 := hHeld
        refine hK.out _ _ ?_ (fun hHeld => ?_)
        ·exact hHeld.down (ba (Below.refl _ _) _)
        clear hK K
        try simp only [Act.put, List.setIfInBounds_toArray, List.set_cons_zero, List.set_cons_succ]
        have hKL : L ≠ V2.heap.size := by have := hHeld0.2.2; omega
        have hKW : W6.heap.size ≤ V2.heap.size := hB.size
        refine heldTo (fun V3 => (Below W6.heap.size W6 V3) ∧ HL x L V3 ∧ (CRow B1 V3 (.slice (some ⟨g1, 0, none⟩) n0 cap1) n0 cs) ∧ (SAt (cCmd 15) V3 (fun b => b = K6 ∨ b = A) (.slice (some ⟨K6, 0, none⟩) 2 2) [Sc.keepA, fcC 1]) ∧ (K6 < V3.heap.size) ∧ (g1 ≠ K6) ∧ (g1 ≠ V2.heap.size) ∧ (Has V3 V2.heap.size [.slice none 0 0, .int .i64 0, .bool false, .int .i64 0])) (HL x L) ⟨ba hB _, hHeld, hr1.down (ba (Below.refl _ _) _), hk.down (ba (Below.refl _ _) _), Nat.lt_of_lt_of_le hKs (Below.size (ba (Below.refl V2.heap.size V2) _)), hne1, by have h1 := (hr1.low rfl).2; dsimp only at h1; omega, Has.alloc V2 _ _⟩ (fun V3 h => h.2.1) (fun _ h => h) (fun V3 hR hHeld => ?_)
        clear hB hr1 hk hKs hne1
        obtain ⟨hB, -, hr1, hk, hKs, hne1, hne3, hC⟩ := hR
        generalize V2.heap.size = Kb at hC hKL hKW hne3 ⊢
        refine wpAnyH_ready (rs := [7]) (by kernel_rfl) (by simp) ?_
        refine AllReadyH.cons (gA rfl) (fun K hK => ?_) ?_
        ·have hlow := hr1.low rfl
         dsimp only at hlow
         have hAW := HA6.out.2.2
         refine Sc.step_cmds (by rfl) _ _ (by rfl) (by rfl) hr1 (by omega) (by rfl) (hk.mono fun b hb e => by have e' : g1 = b := Option.some.inj e; rcases hb with hb | hb <;> omega) (by omega) (by omega) (rfl : n0 + 2 = n0 + 2) rfl (fun g2 cap2 w2' hr2' hf2 hg2 => ?_)
         have hb2' := hf2 W6 hB hBW
         have hHeld0 := hHeld
         refine hK.out _ _ ?_ (fun hHeld => ?_)
         ·exact HL6.out.down hb2'
         clear hK K
         try simp only [Act.put, List.setIfInBounds_toArray, List.set_cons_zero, List.set_cons_succ]
         refine heldTo (fun V4 => (Below W6.heap.size W6 V4) ∧ HL x L V4 ∧ (CRow B1 V4 (.slice (some ⟨g2, 0, none⟩) (n0 + 2) cap2) (n0 + 2) (cs ++ [Sc.keepA, fcC 1])) ∧ (Has V4 Kb [.slice none 0 0, .int .i64 0, .bool false, .int .i64 0])) (HL x L) ⟨hb2', hHeld, hr2', hC.kept hg2 (fun e => hne3 (Option.some.inj e).symm)⟩ (fun V4 h => h.2.1) (fun _ h => h) (fun V4 hR hHeld => ?_)
         clear hr2' hf2 hg2 hb2' hlow hAW
         clear hB hr1 hk hKs hne1 hne3 hC
         obtain ⟨hB, -, hr2, hC⟩ := hR
         refine wpAnyH_ready (rs := [9]) (by kernel_rfl) (by simp) ?_
         refine AllReadyH.cons (gA rfl) (fun K hK => ?_) ?_
         ·go_simp
          go_at_call 20
          refine (HJ2.out _ _ _ hr2.sat (HB6.out.trans (hB.mono HB6.out.size))).mono ?_
          rintro e w7' ⟨u7, rfl, hr7', hb7'⟩
          obtain ⟨G7, c7, rfl⟩ := Sc.row_slice hr7'
          try (go_wp2_with fail)
          have hHeld0 := hHeld
          refine hK.out _ _ ?_ (fun hHeld => ?_)
          ·exact hHeld.down hb7'
          clear hK K
          try simp only [Act.put, List.setIfInBounds_toArray, List.set_cons_zero, List.set_cons_succ]
          refine heldTo (fun V5 => (Below W6.heap.size W6 V5) ∧ HL x L V5 ∧ (World.ownsRow V5 W6.heap.size 65 3 (.slice G7 C2.acts.length c7) C2.acts.length (C2.acts.flatMap actC)) ∧ (Has V5 Kb [.slice none 0 0, .int .i64 0, .bool false, .int .i64 0]) ∧ ((Value.slice G7 C2.acts.length c7).ownBlock ≠ some Kb)) (HL x L) ⟨bt hB hb7', hHeld, row_base hr7' hB.size, hC.down hb7', fun e => by have h1 := (World.ownsRow.lt hr7' _ e).1; have h2 := hC.2.2; omega⟩ (fun V5 h => h.2.1) (fun _ h => h) (fun V5 hR hHeld => ?_)
          clear hr7' hb7'
          clear hB hr2 hC
          obtain ⟨hB, -, hr, hC, hne⟩ := hR
          refine wpAnyH_take (i := 10) (v := ?_) (gA rfl) (by kernel_rfl) (by kernel_rfl) (by kernel_rfl) (fun _ _ _ h => h) (Or.inl ⟨by rfl, ?_⟩) (by assumption) ?_
          rotate_left 1
          ·intro w' hSw; (go_simp) <;> with_reducible rfl
          try simp only [Act.put, List.setIfInBounds_toArray, List.set_cons_zero, List.set_cons_succ]
          refine wpAnyH_take (i := 11) (v := ?_) (gA rfl) (by kernel_rfl) (by kernel_rfl) (by kernel_rfl) (fun _ _ _ h => h) (Or.inl ⟨by rfl, ?_⟩) (by assumption) ?_
          rotate_left 1
          ·intro w' hSw; (go_simp) <;> with_reducible rfl
          try simp only [Act.put, List.setIfInBounds_toArray, List.set_cons_zero, List.set_cons_succ]
          refine wpAnyH_take (i := 12) (v := ?_) (gA rfl) (by kernel_rfl) (by kernel_rfl) (by kernel_rfl) (fun _ _ _ h => h) (Or.inl ⟨by rfl, ?_⟩) (by assumption) ?_
          rotate_left 1
          ·intro w' hSw; (go_simp) <;> with_reducible rfl
          try simp only [Act.put, List.setIfInBounds_toArray, List.set_cons_zero, List.set_cons_succ]
          refine wpAnyH_ready (rs := [14]) (by kernel_rfl) (by simp) ?_
          refine AllReadyH.cons (gA rfl) (fun K hK => ?_) ?_
          ·obtain ⟨e0, e1, e2, e3⟩ := has_quad hC
           obtain ⟨f0, f1, f2, f3⟩ := has_quadf hC
           go_simp
           have hHeld0 := hHeld
           refine hK.out _ _ ?_ (fun hHeld => ?_)
           ·exact put4_has hHeld hKL _ _ _ _
           clear hK K
           try simp only [Act.put, List.setIfInBounds_toArray, List.set_cons_zero, List.set_cons_succ]
           refine wpAnyH_take (i := 15) (v := ?_) (gA rfl) (by kernel_rfl) (by kernel_rfl) (by kernel_rfl) (fun _ _ _ h => h) (Or.inl ⟨by rfl, ?_⟩) (by assumption) ?_
           rotate_left 1
           ·intro w' hSw; (go_simp) <;> with_reducible rfl
           try simp only [Act.put, List.setIfInBounds_toArray, List.set_cons_zero, List.set_cons_succ]
           refine wpAnyH_done (by kernel_rfl) ?_ _
           refine NoPanic.normal ?_
           go_wp2_with fail
           go_meet
           case rel => exact ⟨Kb, rfl, rfl, crs_put hC hr hne, hHeld, put4_below hB hKW _ _ _ _⟩
          exact AllReadyH.nil
         exact AllReadyH.nil
        exact AllReadyH.nil
       exact AllReadyH.nil
      refine AllReadyH.cons (gA rfl) (fun K hK => ?_) ?_
      ·go_simp
       have hHeld0 := hHeld
       refine hK.out _ _ ?_ (fun hHeld => ?_)
       ·exact hHeld.down (ba (Below.refl _ _) _)
       clear hK K
       try simp only [Act.put, List.setIfInBounds_toArray, List.set_cons_zero, List.set_cons_succ]
       have hKL : L ≠ V1.heap.size := by have := hHeld0.2.2; omega
       have hKW : W6.heap.size ≤ V1.heap.size := hB.size
       refine heldTo (fun V2 => (Below W6.heap.size W6 V2) ∧ HL x L V2 ∧ (SAt (cCmd 15) V2 (fun b => b < V2.heap.size) (.slice (some ⟨g, 0, none⟩) n0 cap) cs) ∧ (SAt (cCmd 15) V2 (fun b => b = K6 ∨ b = A) (.slice (some ⟨K6, 0, none⟩) 2 2) [Sc.keepA, fcC 1]) ∧ (K6 < V2.heap.size) ∧ (Has V2 V1.heap.size [.slice none 0 0, .int .i64 0, .bool false, .int .i64 0])) (HL x L) ⟨ba hB _, hHeld, (hcs.down (ba (Below.refl _ _) _)).mono fun b h => Nat.lt_of_lt_of_le h (Below.size (ba (Below.refl V1.heap.size V1) _)), hk.down (ba (Below.refl _ _) _), Nat.lt_of_lt_of_le hKs (Below.size (ba (Below.refl V1.heap.size V1) _)), Has.alloc V1 _ _⟩ (fun V2 h => h.2.1) (fun _ h => h) (fun V2 hR hHeld => ?_)
       clear hB hcs hk hKs
       obtain ⟨hB, -, hcs, hk, hKs, hC⟩ := hR
       generalize V1.heap.size = Kb at hC hKL hKW ⊢
       refine wpAnyH_ready (rs := [1]) (by kernel_rfl) (by simp) ?_
       refine AllReadyH.cons (gA rfl) (fun K hK => ?_) ?_
       ·refine Sc.step_cmds (by rfl) _ _ (by rfl) (by rfl) (CRow.nil _ _) (Nat.le_refl _) (by rfl) (hcs.mono fun b _ e => by cases e) hn0 (by omega) (Nat.zero_add n0) (List.nil_append cs) (fun g1 cap1 w1' hr1' hf1 _ => ?_)
        have hb1' := hf1 _ (Below.refl _ _) (Nat.le_refl _)
        have hHeld0 := hHeld
        refine hK.out _ _ ?_ (fun hHeld => ?_)
        ·exact hHeld.down hb1'
        clear hK K
        try simp only [Act.put, List.setIfInBounds_toArray, List.set_cons_zero, List.set_cons_succ]
        have hBW : W6.heap.size ≤ V2.heap.size := hB.size
        refine heldTo (fun V3 => (Below W6.heap.size W6 V3) ∧ HL x L V3 ∧ (CRow V2.heap.size V3 (.slice (some ⟨g1, 0, none⟩) n0 cap1) n0 cs) ∧ (SAt (cCmd 15) V3 (fun b => b = K6 ∨ b = A) (.slice (some ⟨K6, 0, none⟩) 2 2) [Sc.keepA, fcC 1]) ∧ (K6 < V3.heap.size) ∧ (g1 ≠ K6) ∧ (g1 ≠ Kb) ∧ (Has V3 Kb [.slice none 0 0, .int .i64 0, .bool false, .int .i64 0])) (HL x L) ⟨bt hB hb1', hHeld, hr1', hk.down hb1', Nat.lt_of_lt_of_le hKs (Below.size hb1'), by have h1 := (hr1'.low rfl).1; dsimp only at h1; omega, by have h1 := (hr1'.low rfl).1; have h2 := hC.2.2; dsimp only at h1; omega, hC.down hb1'⟩ (fun V3 h => h.2.1) (fun _ h => h) (fun V3 hR hHeld => ?_)
        clear hr1' hf1 hb1'
        clear hB hcs hk hKs hC
        obtain ⟨hB, -, hr1, hk, hKs, hne1, hne3, hC⟩ := hR
        generalize V2.heap.size = B1 at hr1 hBW
        refine wpAnyH_ready (rs := [7]) (by kernel_rfl) (by simp) ?_
        refine AllReadyH.cons (gA rfl) (fun K hK => ?_) ?_
        ·have hlow := hr1.low rfl
         dsimp only at hlow
         have hAW := HA6.out.2.2
         refine Sc.step_cmds (by rfl) _ _ (by rfl) (by rfl) hr1 (by omega) (by rfl) (hk.mono fun b hb e => by have e' : g1 = b := Option.some.inj e; rcases hb with hb | hb <;> omega) (by omega) (by omega) (rfl : n0 + 2 = n0 + 2) rfl (fun g2 cap2 w2' hr2' hf2 hg2 => ?_)
         have hb2' := hf2 W6 hB hBW
         have hHeld0 := hHeld
         refine hK.out _ _ ?_ (fun hHeld => ?_)
         ·exact HL6.out.down hb2'
         clear hK K
         try simp only [Act.put, List.setIfInBounds_toArray, List.set_cons_zero, List.set_cons_succ]
         refine heldTo (fun V4 => (Below W6.heap.size W6 V4) ∧ HL x L V4 ∧ (CRow B1 V4 (.slice (some ⟨g2, 0, none⟩) (n0 + 2) cap2) (n0 + 2) (cs ++ [Sc.keepA, fcC 1])) ∧ (Has V4 Kb [.slice none 0 0, .int .i64 0, .bool false, .int .i64 0])) (HL x L) ⟨hb2', hHeld, hr2', hC.kept hg2 (fun e => hne3 (Option.some.inj e).symm)⟩ (fun V4 h => h.2.1) (fun _ h => h) (fun V4 hR hHeld => ?_)
         clear hr2' hf2 hg2 hb2' hlow hAW
         clear hB hr1 hk hKs hne1 hne3 hC
         obtain ⟨hB, -, hr2, hC⟩ := hR
         refine wpAnyH_ready (rs := [9]) (by kernel_rfl) (by simp) ?_
         refine AllReadyH.cons (gA rfl) (fun K hK => ?_) ?_
         ·go_simp
          go_at_call 20
          refine (HJ2.out _ _ _ hr2.sat (HB6.out.trans (hB.mono HB6.out.size))).mono ?_
          rintro e w7' ⟨u7, rfl, hr7', hb7'⟩
          obtain ⟨G7, c7, rfl⟩ := Sc.row_slice hr7'
          try (go_wp2_with fail)
          have hHeld0 := hHeld
          refine hK.out _ _ ?_ (fun hHeld => ?_)
          ·exact hHeld.down hb7'
          clear hK K
          try simp only [Act.put, List.setIfInBounds_toArray, List.set_cons_zero, List.set_cons_succ]
          refine heldTo (fun V5 => (Below W6.heap.size W6 V5) ∧ HL x L V5 ∧ (World.ownsRow V5 W6.heap.size 65 3 (.slice G7 C2.acts.length c7) C2.acts.length (C2.acts.flatMap actC)) ∧ (Has V5 Kb [.slice none 0 0, .int .i64 0, .bool false, .int .i64 0]) ∧ ((Value.slice G7 C2.acts.length c7).ownBlock ≠ some Kb)) (HL x L) ⟨bt hB hb7', hHeld, row_base hr7' hB.size, hC.down hb7', fun e => by have h1 := (World.ownsRow.lt hr7' _ e).1; have h2 := hC.2.2; omega⟩ (fun V5 h => h.2.1) (fun _ h => h) (fun V5 hR hHeld => ?_)
          clear hr7' hb7'
          clear hB hr2 hC
          obtain ⟨hB, -, hr, hC, hne⟩ := hR
          refine wpAnyH_take (i := 10) (v := ?_) (gA rfl) (by kernel_rfl) (by kernel_rfl) (by kernel_rfl) (fun _ _ _ h => h) (Or.inl ⟨by rfl, ?_⟩) (by assumption) ?_
          rotate_left 1
          ·intro w' hSw; (go_simp) <;> with_reducible rfl
          try simp only [Act.put, List.setIfInBounds_toArray, List.set_cons_zero, List.set_cons_succ]
          refine wpAnyH_take (i := 11) (v := ?_) (gA rfl) (by kernel_rfl) (by kernel_rfl) (by kernel_rfl) (fun _ _ _ h => h) (Or.inl ⟨by rfl, ?_⟩) (by assumption) ?_
          rotate_left 1
          ·intro w' hSw; (go_simp) <;> with_reducible rfl
          try simp only [Act.put, List.setIfInBounds_toArray, List.set_cons_zero, List.set_cons_succ]
          refine wpAnyH_take (i := 12) (v := ?_) (gA rfl) (by kernel_rfl) (by kernel_rfl) (by kernel_rfl) (fun _ _ _ h => h) (Or.inl ⟨by rfl, ?_⟩) (by assumption) ?_
          rotate_left 1
          ·intro w' hSw; (go_simp) <;> with_reducible rfl
          try simp only [Act.put, List.setIfInBounds_toArray, List.set_cons_zero, List.set_cons_succ]
          refine wpAnyH_ready (rs := [14]) (by kernel_rfl) (by simp) ?_
          refine AllReadyH.cons (gA rfl) (fun K hK => ?_) ?_
          ·obtain ⟨e0, e1, e2, e3⟩ := has_quad hC
           obtain ⟨f0, f1, f2, f3⟩ := has_quadf hC
           go_simp
           have hHeld0 := hHeld
           refine hK.out _ _ ?_ (fun hHeld => ?_)
           ·exact put4_has hHeld hKL _ _ _ _
           clear hK K
           try simp only [Act.put, List.setIfInBounds_toArray, List.set_cons_zero, List.set_cons_succ]
           refine wpAnyH_take (i := 15) (v := ?_) (gA rfl) (by kernel_rfl) (by kernel_rfl) (by kernel_rfl) (fun _ _ _ h => h) (Or.inl ⟨by rfl, ?_⟩) (by assumption) ?_
           rotate_left 1
           ·intro w' hSw; (go_simp) <;> with_reducible rfl
           try simp only [Act.put, List.setIfInBounds_toArray, List.set_cons_zero, List.set_cons_succ]
           refine wpAnyH_done (by kernel_rfl) ?_ _
           refine NoPanic.normal ?_
           go_wp2_with fail
           go_meet
           case rel => exact ⟨Kb, rfl, rfl, crs_put hC hr hne, hHeld, put4_below hB hKW _ _ _ _⟩
          exact AllReadyH.nil
         exact AllReadyH.nil
        exact AllReadyH.nil
       exact AllReadyH.nil
      exact AllReadyH.nil
     refine AllReadyH.cons (gA rfl) (fun K hK => ?_) ?_
     ·go_simp
      have hHeld0 := hHeld
      refine hK.out _ _ ?_ (fun hHeld => ?_)
      ·exact hHeld.down (ba (Below.refl _ _) _)
      clear hK K
      try simp only [Act.put, List.setIfInBounds_toArray, List.set_cons_zero, List.set_cons_succ]
      have hKL : L ≠ V0.heap.size := by have := hHeld0.2.2; omega
      have hKW : W6.heap.size ≤ V0.heap.size := hB.size
      refine heldTo (fun V1 => (Below W6.heap.size W6 V1) ∧ HL x L V1 ∧ (Has V1 A (strs flagL)) ∧ (SAt (cCmd 15) V1 (fun b => b < V1.heap.size) (.slice (some ⟨g, 0, none⟩) n0 cap) cs) ∧ (Has V1 V0.heap.size [.slice none 0 0, .int .i64 0, .bool false, .int .i64 0])) (HL x L) ⟨ba hB _, hHeld, hA.down (ba (Below.refl _ _) _), (hcs.down (ba (Below.refl _ _) _)).mono fun b h => Nat.lt_of_lt_of_le h (Below.size (ba (Below.refl V0.heap.size V0) _)), Has.alloc V0 _ _⟩ (fun V1 h => h.2.1) (fun _ h => h) (fun V1 hR hHeld => ?_)
      clear hB hA hcs
      obtain ⟨hB, -, hA, hcs, hC⟩ := hR
      generalize V0.heap.size = Kb at hC hKL hKW ⊢
      refine wpAnyH_ready (rs := [1, 6]) (by kernel_rfl) (by simp) ?_
      refine AllReadyH.cons (gA rfl) (fun K hK => ?_) ?_
      ·refine Sc.step_cmds (by rfl) _ _ (by rfl) (by rfl) (CRow.nil _ _) (Nat.le_refl _) (by rfl) (hcs.mono fun b _ e => by cases e) hn0 (by omega) (Nat.zero_add n0) (List.nil_append cs) (fun g1 cap1 w1' hr1' hf1 _ => ?_)
       have hb1' := hf1 _ (Below.refl _ _) (Nat.le_refl _)
       have hHeld0 := hHeld
       refine hK.out _ _ ?_ (fun hHeld => ?_)
       ·exact hHeld.down hb1'
       clear hK K
       try simp only [Act.put, List.setIfInBounds_toArray, List.set_cons_zero, List.set_cons_succ]
       have hBW : W6.heap.size ≤ V1.heap.size := hB.size
       refine heldTo (fun V2 => (Below W6.heap.size W6 V2) ∧ HL x L V2 ∧ (Has V2 A (strs flagL)) ∧ (CRow V1.heap.size V2 (.slice (some ⟨g1, 0, none⟩) n0 cap1) n0 cs) ∧ (g1 ≠ Kb) ∧ (Has V2 Kb [.slice none 0 0, .int .i64 0, .bool false, .int .i64 0])) (HL x L) ⟨bt hB hb1', hHeld, hA.down hb1', hr1', by have h1 := (hr1'.low rfl).1; have h2 := hC.2.2; dsimp only at h1; omega, hC.down hb1'⟩ (fun V2 h => h.2.1) (fun _ h => h) (fun V2 hR hHeld => ?_)
       clear hr1' hf1 hb1'
       clear hB hA hcs hC
       obtain ⟨hB, -, hA, hr1, hne3, hC⟩ := hR
       generalize V1.heap.size = B1 at hr1 hBW
       refine wpAnyH_ready (rs := [6]) (by kernel_rfl) (by simp) ?_
       refine AllReadyH.cons (gA rfl) (fun K hK => ?_) ?_
       ·go_simp
        have hHeld0 := hHeld
        refine hK.out _ _ ?_ (fun hHeld => ?_)
        ·exact hHeld.down (ba (Below.refl _ _) _)
        clear hK K
        try simp only [Act.put, List.setIfInBounds_toArray, List.set_cons_zero, List.set_cons_succ]
        refine heldTo (fun V3 => (Below W6.heap.size W6 V3) ∧ HL x L V3 ∧ (CRow B1 V3 (.slice (some ⟨g1, 0, none⟩) n0 cap1) n0 cs) ∧ (SAt (cCmd 15) V3 (fun b => b = V2.heap.size ∨ b = A) (.slice (some ⟨V2.heap.size, 0, none⟩) 2 2) [Sc.keepA, fcC 1]) ∧ (V2.heap.size < V3.heap.size) ∧ (g1 ≠ V2.heap.size) ∧ (g1 ≠ Kb) ∧ (Has V3 Kb [.slice none 0 0, .int .i64 0, .bool false, .int .i64 0])) (HL x L) ⟨ba hB _, hHeld, hr1.down (ba (Below.refl _ _) _), flag_lit V2 A hA, by rw [World.size_alloc]; omega, by have h1 := (hr1.low rfl).2; dsimp only at h1; omega, hne3, hC.down (ba (Below.refl _ _) _)⟩ (fun V3 h => h.2.1) (fun _ h => h) (fun V3 hR hHeld => ?_)
        clear hB hA hr1 hne3 hC
        obtain ⟨hB, -, hr1, hk, hKs, hne1, hne3, hC⟩ := hR
        generalize V2.heap.size = K6 at hk hKs hne1 ⊢
        refine wpAnyH_ready (rs := [7]) (by kernel_rfl) (by simp) ?_
        refine AllReadyH.cons (gA rfl) (fun K hK => ?_) ?_
        ·have hlow := hr1.low rfl
         dsimp only at hlow
         have hAW := HA6.out.2.2
         refine Sc.step_cmds (by rfl) _ _ (by rfl) (by rfl) hr1 (by omega) (by rfl) (hk.mono fun b hb e => by have e' : g1 = b := Option.some.inj e; rcases hb with hb | hb <;> omega) (by omega) (by omega) (rfl : n0 + 2 = n0 + 2) rfl (fun g2 cap2 w2' hr2' hf2 hg2 => ?_)
         have hb2' := hf2 W6 hB hBW
         have hHeld0 := hHeld
         refine hK.out _ _ ?_ (fun hHeld => ?_)
         ·exact HL6.out.down hb2'
         clear hK K
         try simp only [Act.put, List.setIfInBounds_toArray, List.set_cons_zero, List.set_cons_succ]
         refine heldTo (fun V4 => (Below W6.heap.size W6 V4) ∧ HL x L V4 ∧ (CRow B1 V4 (.slice (some ⟨g2, 0, none⟩) (n0 + 2) cap2) (n0 + 2) (cs ++ [Sc.keepA, fcC 1])) ∧ (Has V4 Kb [.slice none 0 0, .int .i64 0, .bool false, .int .i64 0])) (HL x L) ⟨hb2', hHeld, hr2', hC.kept hg2 (fun e => hne3 (Option.some.inj e).symm)⟩ (fun V4 h => h.2.1) (fun _ h => h) (fun V4 hR hHeld => ?_)
         clear hr2' hf2 hg2 hb2' hlow hAW
         clear hB hr1 hk hKs hne1 hne3 hC
         obtain ⟨hB, -, hr2, hC⟩ := hR
         refine wpAnyH_ready (rs := [9]) (by kernel_rfl) (by simp) ?_
         refine AllReadyH.cons (gA rfl) (fun K hK => ?_) ?_
         ·go_simp
          go_at_call 20
          refine (HJ2.out _ _ _ hr2.sat (HB6.out.trans (hB.mono HB6.out.size))).mono ?_
          rintro e w7' ⟨u7, rfl, hr7', hb7'⟩
          obtain ⟨G7, c7, rfl⟩ := Sc.row_slice hr7'
          try (go_wp2_with fail)
          have hHeld0 := hHeld
          refine hK.out _ _ ?_ (fun hHeld => ?_)
          ·exact hHeld.down hb7'
          clear hK K
          try simp only [Act.put, List.setIfInBounds_toArray, List.set_cons_zero, List.set_cons_succ]
          refine heldTo (fun V5 => (Below W6.heap.size W6 V5) ∧ HL x L V5 ∧ (World.ownsRow V5 W6.heap.size 65 3 (.slice G7 C2.acts.length c7) C2.acts.length (C2.acts.flatMap actC)) ∧ (Has V5 Kb [.slice none 0 0, .int .i64 0, .bool false, .int .i64 0]) ∧ ((Value.slice G7 C2.acts.length c7).ownBlock ≠ some Kb)) (HL x L) ⟨bt hB hb7', hHeld, row_base hr7' hB.size, hC.down hb7', fun e => by have h1 := (World.ownsRow.lt hr7' _ e).1; have h2 := hC.2.2; omega⟩ (fun V5 h => h.2.1) (fun _ h => h) (fun V5 hR hHeld => ?_)
          clear hr7' hb7'
          clear hB hr2 hC
          obtain ⟨hB, -, hr, hC, hne⟩ := hR
          refine wpAnyH_take (i := 10) (v := ?_) (gA rfl) (by kernel_rfl) (by kernel_rfl) (by kernel_rfl) (fun _ _ _ h => h) (Or.inl ⟨by rfl, ?_⟩) (by assumption) ?_
          rotate_left 1
          ·intro w' hSw; (go_simp) <;> with_reducible rfl
          try simp only [Act.put, List.setIfInBounds_toArray, List.set_cons_zero, List.set_cons_succ]
          refine wpAnyH_take (i := 11) (v := ?_) (gA rfl) (by kernel_rfl) (by kernel_rfl) (by kernel_rfl) (fun _ _ _ h => h) (Or.inl ⟨by rfl, ?_⟩) (by assumption) ?_
          rotate_left 1
          ·intro w' hSw; (go_simp) <;> with_reducible rfl
          try simp only [Act.put, List.setIfInBounds_toArray, List.set_cons_zero, List.set_cons_succ]
          refine wpAnyH_take (i := 12) (v := ?_) (gA rfl) (by kernel_rfl) (by kernel_rfl) (by kernel_rfl) (fun _ _ _ h => h) (Or.inl ⟨by rfl, ?_⟩) (by assumption) ?_
          rotate_left 1
          ·intro w' hSw; (go_simp) <;> with_reducible rfl
          try simp only [Act.put, List.setIfInBounds_toArray, List.set_cons_zero, List.set_cons_succ]
          refine wpAnyH_ready (rs := [14]) (by kernel_rfl) (by simp) ?_
          refine AllReadyH.cons (gA rfl) (fun K hK => ?_) ?_
          ·obtain ⟨e0, e1, e2, e3⟩ := has_quad hC
           obtain ⟨f0, f1, f2, f3⟩ := has_quadf hC
           go_simp
           have hHeld0 := hHeld
           refine hK.out _ _ ?_ (fun hHeld => ?_)
           ·exact put4_has hHeld hKL _ _ _ _
           clear hK K
           try simp only [Act.put, List.setIfInBounds_toArray, List.set_cons_zero, List.set_cons_succ]
           refine wpAnyH_take (i := 15) (v := ?_) (gA rfl) (by kernel_rfl) (by kernel_rfl) (by kernel_rfl) (fun _ _ _ h => h) (Or.inl ⟨by rfl, ?_⟩) (by assumption) ?_
           rotate_left 1
           ·intro w' hSw; (go_simp) <;> with_reducible rfl
           try simp only [Act.put, List.setIfInBounds_toArray, List.set_cons_zero, List.set_cons_succ]
           refine wpAnyH_done (by kernel_rfl) ?_ _
           refine NoPanic.normal ?_
           go_wp2_with fail
           go_meet
           case rel => exact ⟨Kb, rfl, rfl, crs_put hC hr hne, hHeld, put4_below hB hKW _ _ _ _⟩
          exact AllReadyH.nil
         exact AllReadyH.nil
        exact AllReadyH.nil
       exact AllReadyH.nil
      refine AllReadyH.cons (gA rfl) (fun K hK => ?_) ?_
      ·go_simp
       have hHeld0 := hHeld
       refine hK.out _ _ ?_ (fun hHeld => ?_)
       ·exact hHeld.down (ba (Below.refl _ _) _)
       clear hK K
       try simp only [Act.put, List.setIfInBounds_toArray, List.set_cons_zero, List.set_cons_succ]
       refine heldTo (fun V2 => (Below W6.heap.size W6 V2) ∧ HL x L V2 ∧ (SAt (cCmd 15) V2 (fun b => b < V2.heap.size) (.slice (some ⟨g, 0, none⟩) n0 cap) cs) ∧ (SAt (cCmd 15) V2 (fun b => b = V1.heap.size ∨ b = A) (.slice (some ⟨V1.heap.size, 0, none⟩) 2 2) [Sc.keepA, fcC 1]) ∧ (V1.heap.size < V2.heap.size) ∧ (Has V2 Kb [.slice none 0 0, .int .i64 0, .bool false, .int .i64 0])) (HL x L) ⟨ba hB _, hHeld, (hcs.down (ba (Below.refl _ _) _)).mono fun b h => Nat.lt_of_lt_of_le h (Below.size (ba (Below.refl V1.heap.size V1) _)), flag_lit V1 A hA, by rw [World.size_alloc]; omega, hC.down (ba (Below.refl _ _) _)⟩ (fun V2 h => h.2.1) (fun _ h => h) (fun V2 hR hHeld => ?_)
       clear hB hA hcs hC
       obtain ⟨hB, -, hcs, hk, hKs, hC⟩ := hR
       generalize V1.heap.size = K6 at hk hKs ⊢
       refine wpAnyH_ready (rs := [1]) (by kernel_rfl) (by simp) ?_
       refine AllReadyH.cons (gA rfl) (fun K hK => ?_) ?_
       ·refine Sc.step_cmds (by rfl) _ _ (by rfl) (by rfl) (CRow.nil _ _) (Nat.le_refl _) (by rfl) (hcs.mono fun b _ e => by cases e) hn0 (by omega) (Nat.zero_add n0) (List.nil_append cs) (fun g1 cap1 w1' hr1' hf1 _ => ?_)
        have hb1' := hf1 _ (Below.refl _ _) (Nat.le_refl _)
        have hHeld0 := hHeld
        refine hK.out _ _ ?_ (fun hHeld => ?_)
        ·exact hHeld.down hb1'
        clear hK K
        try simp only [Act.put, List.setIfInBounds_toArray, List.set_cons_zero, List.set_cons_succ]
        have hBW : W6.heap.size ≤ V2.heap.size := hB.size
        refine heldTo (fun V3 => (Below W6.heap.size W6 V3) ∧ HL x L V3 ∧ (CRow V2.heap.size V3 (.slice (some ⟨g1, 0, none⟩) n0 cap1) n0 cs) ∧ (SAt (cCmd 15) V3 (fun b => b = K6 ∨ b = A) (.slice (some ⟨K6, 0, none⟩) 2 2) [Sc.keepA, fcC 1]) ∧ (K6 < V3.heap.size) ∧ (g1 ≠ K6) ∧ (g1 ≠ Kb) ∧ (Has V3 Kb [.slice none 0 0, .int .i64 0, .bool false, .int .i64 0])) (HL x L) ⟨bt hB hb1', hHeld, hr1', hk.down hb1', Nat.lt_of_lt_of_le hKs (Below.size hb1'), by have h1 := (hr1'.low rfl).1; dsimp only at h1; omega, by have h1 := (hr1'.low rfl).1; have h2 := hC.2.2; dsimp only at h1; omega, hC.down hb1'⟩ (fun V3 h => h.2.1) (fun _ h => h) (fun V3 hR hHeld => ?_)
        clear hr1' hf1 hb1'
        clear hB hcs hk hKs hC
        obtain ⟨hB, -, hr1, hk, hKs, hne1, hne3, hC⟩ := hR
        generalize V2.heap.size = B1 at hr1 hBW
        refine wpAnyH_ready (rs := [7]) (by kernel_rfl) (by simp) ?_
        refine AllReadyH.cons (gA rfl) (fun K hK => ?_) ?_
        ·have hlow := hr1.low rfl
         dsimp only at hlow
         have hAW := HA6.out.2.2
         refine Sc.step_cmds (by rfl) _ _ (by rfl) (by rfl) hr1 (by omega) (by rfl) (hk.mono fun b hb e => by have e' : g1 = b := Option.some.inj e; rcases hb with hb | hb <;> omega) (by omega) (by omega) (rfl : n0 + 2 = n0 + 2) rfl (fun g2 cap2 w2' hr2' hf2 hg2 => ?_)
         have hb2' := hf2 W6 hB hBW
         have hHeld0 := hHeld
         refine hK.out _ _ ?_ (fun hHeld => ?_)
         ·exact HL6.out.down hb2'
         clear hK K
         try simp only [Act.put, List.setIfInBounds_toArray, List.set_cons_zero, List.set_cons_succ]
         refine heldTo (fun V4 => (Below W6.heap.size W6 V4) ∧ HL x L V4 ∧ (CRow B1 V4 (.slice (some ⟨g2, 0, none⟩) (n0 + 2) cap2) (n0 + 2) (cs ++ [Sc.keepA, fcC 1])) ∧ (Has V4 Kb [.slice none 0 0, .int .i64 0, .bool false, .int .i64 0])) (HL x L) ⟨hb2', hHeld, hr2', hC.kept hg2 (fun e => hne3 (Option.some.inj e).symm)⟩ (fun V4 h => h.2.1) (fun _ h => h) (fun V4 hR hHeld => ?_)
         clear hr2' hf2 hg2 hb2' hlow hAW
         clear hB hr1 hk hKs hne1 hne3 hC
         obtain ⟨hB, -, hr2, hC⟩ := hR
         refine wpAnyH_ready (rs := [9]) (by kernel_rfl) (by simp) ?_
         refine AllReadyH.cons (gA rfl) (fun K hK => ?_) ?_
         ·go_simp
          go_at_call 20
          refine (HJ2.out _ _ _ hr2.sat (HB6.out.trans (hB.mono HB6.out.size))).mono ?_
          rintro e w7' ⟨u7, rfl, hr7', hb7'⟩
          obtain ⟨G7, c7, rfl⟩ := Sc.row_slice hr7'
          try (go_wp2_with fail)
          have hHeld0 := hHeld
          refine hK.out _ _ ?_ (fun hHeld => ?_)
          ·exact hHeld.down hb7'
          clear hK K
          try simp only [Act.put, List.setIfInBounds_toArray, List.set_cons_zero, List.set_cons_succ]
          refine heldTo (fun V5 => (Below W6.heap.size W6 V5) ∧ HL x L V5 ∧ (World.ownsRow V5 W6.heap.size 65 3 (.slice G7 C2.acts.length c7) C2.acts.length (C2.acts.flatMap actC)) ∧ (Has V5 Kb [.slice none 0 0, .int .i64 0, .bool false, .int .i64 0]) ∧ ((Value.slice G7 C2.acts.length c7).ownBlock ≠ some Kb)) (HL x L) ⟨bt hB hb7', hHeld, row_base hr7' hB.size, hC.down hb7', fun e => by have h1 := (World.ownsRow.lt hr7' _ e).1; have h2 := hC.2.2; omega⟩ (fun V5 h => h.2.1) (fun _ h => h) (fun V5 hR hHeld => ?_)
          clear hr7' hb7'
          clear hB hr2 hC
          obtain ⟨hB, -, hr, hC, hne⟩ := hR
          refine wpAnyH_take (i := 10) (v := ?_) (gA rfl) (by kernel_rfl) (by kernel_rfl) (by kernel_rfl) (fun _ _ _ h => h) (Or.inl ⟨by rfl, ?_⟩) (by assumption) ?_
          rotate_left 1
          ·intro w' hSw; (go_simp) <;> with_reducible rfl
          try simp only [Act.put, List.setIfInBounds_toArray, List.set_cons_zero, List.set_cons_succ]
          refine wpAnyH_take (i := 11) (v := ?_) (gA rfl) (by kernel_rfl) (by kernel_rfl) (by kernel_rfl) (fun _ _ _ h => h) (Or.inl ⟨by rfl, ?_⟩) (by assumption) ?_
          rotate_left 1
          ·intro w' hSw; (go_simp) <;> with_reducible rfl
          try simp only [Act.put, List.setIfInBounds_toArray, List.set_cons_zero, List.set_cons_succ]
          refine wpAnyH_take (i := 12) (v := ?_) (gA rfl) (by kernel_rfl) (by kernel_rfl) (by kernel_rfl) (fun _ _ _ h => h) (Or.inl ⟨by rfl, ?_⟩) (by assumption) ?_
          rotate_left 1
          ·intro w' hSw; (go_simp) <;> with_reducible rfl
          try simp only [Act.put, List.setIfInBounds_toArray, List.set_cons_zero, List.set_cons_succ]
          refine wpAnyH_ready (rs := [14]) (by kernel_rfl) (by simp) ?_
          refine AllReadyH.cons (gA rfl) (fun K hK => ?_) ?_
          ·obtain ⟨e0, e1, e2, e3⟩ := has_quad hC
           obtain ⟨f0, f1, f2, f3⟩ := has_quadf hC
           go_simp
           have hHeld0 := hHeld
           refine hK.out _ _ ?_ (fun hHeld => ?_)
           ·exact put4_has hHeld hKL _ _ _ _
           clear hK K
           try simp only [Act.put, List.setIfInBounds_toArray, List.set_cons_zero, List.set_cons_succ]
           refine wpAnyH_take (i := 15) (v := ?_) (gA rfl) (by kernel_rfl) (by kernel_rfl) (by kernel_rfl) (fun _ _ _ h => h) (Or.inl ⟨by rfl, ?_⟩) (by assumption) ?_
           rotate_left 1
           ·intro w' hSw; (go_simp) <;> with_reducible rfl
           try simp only [Act.put, List.setIfInBounds_toArray, List.set_cons_zero, List.set_cons_succ]
           refine wpAnyH_done (by kernel_rfl) ?_ _
           refine NoPanic.normal ?_
           go_wp2_with fail
           go_meet
           case rel => exact ⟨Kb, rfl, rfl, crs_put hC hr hne, hHeld, put4_below hB hKW _ _ _ _⟩
          exact AllReadyH.nil
         exact AllReadyH.nil
        exact AllReadyH.nil
       exact AllReadyH.nil
      exact AllReadyH.nil
     exact AllReadyH.nil
    case rest =>
     clear HJ2 HL6 HA6 HROW6
     obtain ⟨Cb, rfl, rfl, hc, -, hb9⟩ := hcut
     have e2 := HC2.out
     subst e2
     have hA := ba (Below.refl wc.heap.size wc) (.cells #[.int .i64 3, .string ⟨#[]⟩, .int .i64 wt] 65)
     have HB9 := Lib.hid (bt (bt HB6.out hb9) hA)
     have hs9 := (HS8.out.down hb9).down hA
     have HS9 := Lib.hid hs9
     have HCK := Lib.hid (hc.down hA)
     have HC := Lib.hid (sameA_any _ _ [keepA wt] _ _ _ hs9 (keep_sat wc 65 wt) (by simp))
     clear hA hs9 hc hb9 HB6 HS8 HC2
     go_wp2_with fail
     refine HC.out.mono ?_
     rintro e w11 ⟨rfl, hb11⟩
     have HB11 := Lib.hid (bt HB9.out hb11)
     obtain ⟨Gd, kd, hd, hds⟩ := HCK.out.down hb11
     have HD := Lib.hid hd
     dsimp only [List.length_singleton] at hd hds HD
     obtain ⟨d0, d1, d2, d3⟩ := has_quad hd
     have HC := Lib.hid (sameA_any _ _ [keepA wt] _ _ _ hds (HS9.out.down hb11) (by simp))
     clear hd hds hb11 HCK HB9 HS9
     go_wp2_with fail
     refine HC.out.mono ?_
     rintro e w12 ⟨rfl, hb12⟩
     have HB12 := Lib.hid (bt HB11.out hb12)
     obtain ⟨d0, d1, d2, d3⟩ := has_quad (HD.out.down hb12)
     clear hb12 HC HD HB11
     go_wp2_with fail
     go_ret
     exact ⟨rfl, HB12.out⟩
theorem judgeFlags_walk (a0 a1 a2 b0 b1 b2 : ByteArray) (G : Option Addr) (n c : Nat) (z : Nat → Nat → ByteArray) (bo : ByteArray) (ia : Option Addr) (ln cp : Nat) (zf : Nat → Int) (mx : Int) (W : World) (h0 : a0.size ≤ maxLen) (h1 : a1.size ≤ maxLen) (_h2 : a2.size ≤ maxLen) (j0 : b0.size ≤ maxLen) (j1 : b1.size ≤ maxLen) (_j2 : b2.size ≤ maxLen) (hx : StrRows W G n 2 z ∧ n ≤ maxLen) (hbo : bo.size ≤ maxLen)
  (hl : IntsAt W ia ln zf) (hlen : ln ≤ maxLen) (hT : Sc.Tabs W W.heap.size) (hE : Sc.ExtAt W ∧ 0 < W.heap.size) (hN : NamesAt W ∧ 2 < W.heap.size) (hmx : W.cell? ⟨6, 0, none⟩ = some (.int .i64 mx)) :
  Calls Tryz.prog 7 #[.agg #[.string a0, .string a1, .string a2, .string b0, .string b1, .string b2, .slice G n c, .string bo], .slice ia ln cp] W fun e w' => e = .returned (.bool true) ∧ Below W.heap.size W w' :=
 judgeFlags_any a0 a1 a2 b0 b1 b2 G n c z bo ia ln cp zf mx W ⟨h0, h1, j0, j1, hx, hbo⟩ hl hlen ⟨hT, hE, hN, hmx⟩
end Go.Proofs.YtpfbkdbblpppdaaGreatDoor.Jd
