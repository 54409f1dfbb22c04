/-
  DERIVED. The writer of tokens: block, branch, command: the walks.
-/
import Derived.Test.YtpfbkdbblpppdaaGreatDoorScWtT
set_option linter.unusedVariables false
set_option linter.unusedSimpArgs false
namespace Go.Proofs.YtpfbkdbblpppdaaGreatDoor.Sc
open Go.RowKit
open Tk (Tok)

def WtC (n : Nat) : Prop := ∀ (c : Cmd) (vs : List Value) (F : Dom) (base R : Nat) (l : List Tok) (w : World), (cCmd n).rep w F c vs → FormC c → (∀ b, F b → b < base) → base ≤ w.heap.size → Tabs w base → Wr w base R l → l.length + (wC c).length ≤ 4000000 →
    Calls Tryz.prog 59 #[.pointer (some ⟨R, 0, none⟩), .agg vs.toArray] w fun e w' => e = .returned (.tuple #[]) ∧ Wr w' base R (l ++ wC c) ∧ WStep R w w'
def WtB (n : Nat) : Prop := ∀ (c : Cmd) (vs : List Value) (F : Dom) (base R : Nat) (l : List Tok) (w : World), (cCmd n).rep w F c vs → FormC c → c.kind = 2 → (∀ b, F b → b < base) → base ≤ w.heap.size → Tabs w base → Wr w base R l → l.length + (wBr c).length ≤ 4000000 →
    Calls Tryz.prog 100 #[.pointer (some ⟨R, 0, none⟩), .agg vs.toArray] w fun e w' => e = .returned (.tuple #[]) ∧ Wr w' base R (l ++ wBr c) ∧ WStep R w w'
def WtK (n : Nat) : Prop := ∀ (cs : List Cmd) (v : Value) (F : Dom) (base R : Nat) (l : List Tok) (w : World), SAt (cCmd n) w F v cs → (∀ c ∈ cs, FormC c) → (∀ b, F b → b < base) → base ≤ w.heap.size → Tabs w base → Wr w base R l → l.length + (cs.flatMap wC).length + 2 ≤ 4000000 →
    Calls Tryz.prog 141 #[.pointer (some ⟨R, 0, none⟩), v] w fun e w' => e = .returned (.tuple #[]) ∧ Wr w' base R (l ++ blkT (cs.flatMap wC)) ∧ WStep R w w'
/-- a world that the writer's calls came to -/
structure On (w w1 : World) (base R : Nat) (l : List Tok) : Prop where
  wr : Wr w1 base R l
  st : WStep R w w1
  tab : Tabs w1 base
  z : base ≤ w1.heap.size
theorem On.next {w w1 w2 : World} {base R : Nat} {l l' : List Tok} (h : On w w1 base R l) (hw : Wr w2 base R l') (hs : WStep R w1 w2) : On w w2 base R l' :=
  ⟨hw, h.st.trans hs, h.tab.below (h.wr.below h.z hs), Nat.le_trans h.z hs.size⟩
theorem On.alloc {w w1 : World} {base R : Nat} {l : List Tok} (h : On w w1 base R l) (o : Obj) : On w (w1.alloc o) base R l :=
  have hb : Below w1.heap.size w1 (w1.alloc o) := ba (Below.refl _ _) _
  ⟨h.wr.down hb, h.st.trans ((WStep.refl R w1).down h.wr.new.1 hb), h.tab.down h.z hb, Nat.le_trans h.z hb.size⟩
theorem flat_take_le (cs : List Cmd) (j : Nat) : ((cs.take j).flatMap wC).length ≤ (cs.flatMap wC).length := by
  have h : cs.flatMap wC = (cs.take j).flatMap wC ++ (cs.drop j).flatMap wC := by rw [← List.flatMap_append, List.take_append_drop]
  rw [h, List.length_append]; omega
theorem flat_step (cs : List Cmd) (j : Nat) (h : j < cs.length) : (cs.take (j + 1)).flatMap wC = (cs.take j).flatMap wC ++ wC cs[j] := by
  rw [List.take_succ_eq_append_getElem h, List.flatMap_append]; simp
set_option maxHeartbeats 8000000 in
set_option maxRecDepth 20000 in
theorem wtK_of (n : Nat) (IC : WtC n) : WtK n := by
  intro cs v F base R l w hv hF hFl hz htab hw hlen
  obtain ⟨G, cap, rfl, -⟩ := hv.form
  have HP := Lib.hid (fun (k : Int) (l : List Tok) (s : Str) (w : World) (hz : base ≤ w.heap.size) (h : Wr w base R l) (hl : l.length ≤ 10000000) => put_str base R l k s w hz h hl)
  have HI := Lib.hid IC; have HF := Lib.hid hF; have HFL := Lib.hid hFl; have HV := Lib.hid hv
  have HO := Lib.hid (⟨hw, WStep.refl R w, htab, hz⟩ : On w w base R l)
  have HLN := Lib.hid hlen; have HWR := Lib.hid hw; have HZ := Lib.hid hz
  have hcl : cs.length ≤ 4000000 := by have := (flatC_len cs).1; omega
  obtain ⟨nt, hnt⟩ : ∃ nt, nt = cs.length := ⟨_, rfl⟩
  rw [← hnt] at HV ⊢
  have HNT := Lib.hid hnt
  clear IC hF hFl hv hw htab hz hlen hnt
  go_enter Tryz.func141, Tryz.ntmps141
  go_wp2_with fail
  refine (HP.out 5 l [123] w HZ.out HWR.out (by have := HLN.out; omega)).mono ?_
  rintro e w1 ⟨rfl, hw1, hb1⟩
  have HO1 := Lib.hid (HO.out.next hw1 hb1)
  clear hw1 hb1
  go_wp2_with fail
  go_loopw [10] (fun v wr => ∃ j : Nat, v = .int .i64 j ∧ j ≤ cs.length ∧ On w wr base R (l ++ M 123 :: (cs.take j).flatMap wC)) (fun v _ => cs.length - (intOf v).toNat)
  case atStart => exact ⟨0, rfl, Nat.zero_le _, HO1.out⟩
  case round =>
    obtain ⟨j, rfl, hj, hO⟩ := hrel
    have HOj := Lib.hid hO
    by_cases hlt : j < cs.length
    · have hbel := HWR.out.below HZ.out HOj.out.st
      obtain ⟨g, off, Gx, cx, Gn, cn, Gk, ck, Gs, cs', Gh, ch, Ge, ce, rfl, hrep, c0, c1, ⟨c2, c3, c4, c5, c6, c7, c8, c9⟩, c10, c11⟩ := cmd_get HV.out (fun b hb _ => hbel.block b (HFL.out b hb)) hbel.size j hlt
      have hst := flat_step cs j hlt
      have hle := flat_take_le cs (j + 1)
      obtain ⟨c, hc⟩ : ∃ c, c = cs[j] := ⟨_, rfl⟩
      have hFc : FormC c := by rw [hc]; exact HF.out _ (List.getElem_mem hlt)
      rw [← hc] at hrep c0 c1 c2 c3 c4 c5 c6 c7 c8 c9 c10 c11 hst
      have hL2 : l ++ M 123 :: (cs.take (j + 1)).flatMap wC = (l ++ M 123 :: (cs.take j).flatMap wC) ++ wC c := by rw [hst]; simp
      have hlen : (l ++ M 123 :: (cs.take j).flatMap wC).length + (wC c).length ≤ 4000000 := by
        have := HLN.out; rw [hst] at hle; simp only [List.length_append, List.length_cons] at hle ⊢; omega
      have hb2 : Below wr.heap.size wr (wr.alloc (.cells (cmdC c (.slice Gx c.texts.length cx) (tstC c.test (.slice Gn c.test.names.length cn) (.slice Gk c.test.keys.length ck) (.slice Gs c.test.tests.length cs')) (.slice Gh c.thn.length ch) (.slice Ge c.els.length ce)).toArray 50)) := ba (Below.refl _ _) _
      have hO2 := HOj.out.alloc (.cells (cmdC c (.slice Gx c.texts.length cx) (tstC c.test (.slice Gn c.test.names.length cn) (.slice Gk c.test.keys.length ck) (.slice Gs c.test.tests.length cs')) (.slice Gh c.thn.length ch) (.slice Ge c.els.length ce)).toArray 50)
      have HC := Lib.hid (HI.out c _ F base R _ _ ((cCmd n).stable hrep (Same.of_below hb2) hb2.size) hFc HFL.out hO2.z hO2.tab hO2.wr hlen)
      have HO2 := Lib.hid hO2; have HL2 := Lib.hid hL2; have HLT := Lib.hid hlt
      have hjn : (j : Int) < nt := by rw [HNT.out]; omega
      clear hbel hrep hst hle hc hFc hL2 hlen hb2 hO2 hO hj
      go_wp2_with fail
      refine HC.out.mono ?_
      rintro e w5 ⟨rfl, hw5, hb5⟩
      have HO5 := Lib.hid (HO2.out.next hw5 hb5)
      clear hw5 hb5 HC HO2 c0 c1 c2 c3 c4 c5 c6 c7 c8 c9 c10 c11
      go_wp2_with fail
      go_roundw
      case rel => exact ⟨j + 1, by go_num, HLT.out, by rw [HL2.out]; exact HO5.out⟩
      case measure => have := HLT.out; simp [intOf]; omega
    · obtain rfl : j = cs.length := by omega
      have hE : l ++ blkT (cs.flatMap wC) = (l ++ M 123 :: (cs.take cs.length).flatMap wC) ++ [M 125] := by rw [List.take_length]; unfold blkT; simp
      have hlen : (l ++ M 123 :: (cs.take cs.length).flatMap wC).length ≤ 4000000 := by
        have := HLN.out; rw [List.take_length, List.length_append, List.length_cons]; omega
      have HE := Lib.hid hE
      have hjn : (cs.length : Int) = nt := by rw [HNT.out]
      clear hE hO
      go_wp2_with fail
      refine (HP.out 5 _ [125] _ HOj.out.z HOj.out.wr (by omega)).mono ?_
      rintro e w6 ⟨rfl, hw6, hb6⟩
      have HO6 := Lib.hid (HOj.out.next hw6 hb6)
      clear hw6 hb6
      go_wp2_with fail
      go_returns
      exact ⟨rfl, by rw [HE.out]; exact HO6.out.wr, HO6.out.st⟩
end Go.Proofs.YtpfbkdbblpppdaaGreatDoor.Sc
