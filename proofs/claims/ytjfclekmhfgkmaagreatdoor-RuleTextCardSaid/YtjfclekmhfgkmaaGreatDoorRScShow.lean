/- On the way. -/
import Derived.Test.YtjfclekmhfgkmaaGreatDoorRScW
set_option linter.unusedVariables false
set_option linter.unusedSimpArgs false
set_option maxHeartbeats 8000000
set_option maxRecDepth 20000
namespace Go.Proofs.YtjfclekmhfgkmaaGreatDoor.Sc
open Go.RowKit
open Tk (Tok)
def ShowPost (cs : List Cmd) (w : World) (e : Ending) (w' : World) : Prop :=
 (checkS cs ≠ 0 → e = .returned (.tuple #[.slice none 0 0, .int .i64 (checkS cs)])) ∧ (checkS cs = 0 → ∃ v, e = .returned (.tuple #[v, .int .i64 0]) ∧ w'.ownsRow w.heap.size 53 3 v (cs.flatMap wC).length (tcells (cs.flatMap wC))) ∧ Below w.heap.size w w'
theorem show_any (n : Nat) (cs : List Cmd) (v : Value) (F : Dom) (w : World) (hv : SAt (cCmd n) w F v cs) (hF : ∀ c ∈ cs, FormC c) (hFl : ∀ b, F b → b < w.heap.size) (htab : Tabs w w.heap.size) (hlen : (cs.flatMap wC).length ≤ 1000000) :
    Calls Tryz.prog 5 #[v] w (ShowPost cs w) := by
 obtain ⟨G, cap, rfl, -⟩ := hv.form
 have hA := check_any n cs _ F w hv hF hFl htab hlen
 have hcl : cs.length ≤ 1000000 := by have := (flatC_len cs).1; omega
 obtain ⟨nt, hnt⟩ : ∃ nt, nt = cs.length := ⟨_, rfl⟩
 obtain ⟨r, hr⟩ : ∃ r, r = checkS cs := ⟨_, rfl⟩
 rw [← hr] at hA
 rw [← hnt] at hv hA
 rw [show Value.slice G cs.length cap = .slice G nt cap by rw [hnt]]
 have HR := Lib.hid hr
 have HI := Lib.hid (fun (c : Cmd) (vs : List Value) (R : Nat) (l : List Tok) (wx : World) (h : (cCmd n).rep wx F c vs) (hf : FormC c) (hz : w.heap.size ≤ wx.heap.size) (ht : Tabs wx w.heap.size) (hw : Wr wx w.heap.size R l) (hl : l.length + (wC c).length ≤ 4000000) => wtC_all n c vs F w.heap.size R l wx h hf hFl hz ht hw hl)
 have HNT := Lib.hid hnt; have HA := Lib.hid hA; have HF := Lib.hid hF; have HFL := Lib.hid hFl; have HV := Lib.hid hv; have HT := Lib.hid htab; have HLN := Lib.hid hlen
 clear hA hr hF hFl hv htab hlen hnt
 go_enter Tryz.func5, Tryz.ntmps5
 go_wp2_with fail
 refine HA.out.mono ?_
 rintro e w1 ⟨rfl, hb1⟩
 have HB1 := Lib.hid hb1
 clear hb1 HA
 by_cases hr0 : r = 0
 case neg =>
  have q : ((r : Int) != 0) = true := by rw [bne, beq_eq_false_iff_ne.2 hr0]; rfl
  have HR0 := Lib.hid hr0
  clear hr0
  go_wp2_with fail
  go_ret2
  exact ⟨fun _ => by rw [← HR.out]; rfl, fun h => absurd (HR.out.trans h) HR0.out, HB1.out⟩
 case pos =>
  subst hr0
  have HB2 := Lib.hid (ba HB1.out (.cells #[.slice none 0 0] 46))
  have HO := Lib.hid (⟨wr_new w w1 46 HB1.out, WStep.refl _ _, HT.out.down (Nat.le_refl _) HB2.out, HB2.out.size⟩ : On (w1.alloc (.cells #[.slice none 0 0] 46)) (w1.alloc (.cells #[.slice none 0 0] 46)) w.heap.size w1.heap.size [])
  obtain ⟨R, hR⟩ : ∃ R, R = w1.heap.size := ⟨_, rfl⟩
  obtain ⟨W0, hW0⟩ : ∃ W0, W0 = w1.alloc (.cells #[.slice none 0 0] 46) := ⟨_, rfl⟩
  rw [← hW0] at HB2
  rw [← hR] at HO
  rw [← hW0] at HO
  have HRE := Lib.hid hR.symm; have HWE := Lib.hid hW0.symm
  clear hR hW0
  go_upto_region 5 with fail
  rw [HWE.out, HRE.out]
  clear HWE HRE
  go_wp2_with fail
  go_loopw [17] (fun v wr => ∃ j : Nat, v = .int .i64 j ∧ j ≤ cs.length ∧ On W0 wr w.heap.size R ((cs.take j).flatMap wC)) (fun v _ => cs.length - (intOf v).toNat)
  case atStart => exact ⟨0, rfl, Nat.zero_le _, HO.out⟩
  case round =>
   obtain ⟨j, rfl, hj, hO⟩ := hrel
   have HOj := Lib.hid hO
   have HBJ := Lib.hid (HB2.out.trans (HO.out.wr.below HO.out.z hO.st))
   by_cases hlt : j < cs.length
   ·obtain ⟨g, off, Gx, cx, Gn, cn, Gk, ck, Gs, cs', Gh, ch, Ge, ce, rfl, hrep, c0, c1, ⟨c2, c3, c4, c5, c6, c7, c8, c9⟩, c10, c11⟩ := cmd_get HV.out (fun b hb _ => HBJ.out.block b (HFL.out b hb)) HBJ.out.size j hlt
    have hst := flat_step cs j hlt
    have hle := flat_take_le cs (j + 1)
    obtain ⟨c, hc⟩ : ∃ c, c = cs[j] := ⟨_, rfl⟩
    have hFc : FormC c := by rw [hc]; exact HF.out _ (List.getElem_mem hlt)
    rw [← hc] at hrep c0 c1 c2 c3 c4 c5 c6 c7 c8 c9 c10 c11 hst
    have hlen : ((cs.take j).flatMap wC).length + (wC c).length ≤ 4000000 := by
     have := HLN.out; rw [hst] at hle; simp only [List.length_append] at hle; omega
    have hb2 : Below wr.heap.size wr (wr.alloc (.cells (cmdC c (.slice Gx c.texts.length cx) (tstC c.test (.slice Gn c.test.names.length cn) (.slice Gk c.test.keys.length ck) (.slice Gs c.test.tests.length cs')) (.slice Gh c.thn.length ch) (.slice Ge c.els.length ce)).toArray 40)) := ba (Below.refl _ _) _
    have hO2 := HOj.out.alloc (.cells (cmdC c (.slice Gx c.texts.length cx) (tstC c.test (.slice Gn c.test.names.length cn) (.slice Gk c.test.keys.length ck) (.slice Gs c.test.tests.length cs')) (.slice Gh c.thn.length ch) (.slice Ge c.els.length ce)).toArray 40)
    have HC := Lib.hid (HI.out c _ R _ _ ((cCmd n).stable hrep (Same.of_below hb2) hb2.size) hFc hO2.z hO2.tab hO2.wr hlen)
    have HO2 := Lib.hid hO2; have HL2 := Lib.hid hst; have HLT := Lib.hid hlt
    have hjn : (j : Int) < nt := by rw [HNT.out]; omega
    clear hrep hst hle hc hFc hlen hb2 hO2 hO hj
    go_wp2_with fail
    refine HC.out.mono ?_
    rintro e w5 ⟨rfl, hw5, hb5⟩
    have HO5 := Lib.hid (HO2.out.next hw5 hb5)
    clear hw5 hb5 HC HO2 c0 c1 c2 c3 c4 c5 c6 c7 c8 c9 c10 c11
    go_wp2_with fail
    go_roundw
    case rel => exact ⟨j + 1, by go_num, HLT.out, by rw [HL2.out]; exact HO5.out⟩
    case measure => have := HLT.out; simp [intOf]; omega
   ·obtain rfl : j = cs.length := by omega
    have hjn : (cs.length : Int) = nt := by rw [HNT.out]
    obtain ⟨Gr, cr, z0, -⟩ := wr_len hO.wr
    have hrow := (wr_len hO.wr)
    clear z0
    obtain ⟨Gr, cr, z0, zr⟩ := hrow
    rw [List.take_length] at z0 zr
    obtain ⟨N, hN⟩ : ∃ N, N = (cs.flatMap wC).length := ⟨_, rfl⟩
    rw [← hN] at z0 zr
    have HZR := Lib.hid zr; have HN := Lib.hid hN
    clear hO hN zr
    go_wp2_with fail
    go_ret2
    exact ⟨fun h => absurd HR.out.symm h, fun _ => ⟨_, rfl, by rw [← HN.out]; exact HZR.out⟩, HBJ.out⟩
end Go.Proofs.YtjfclekmhfgkmaaGreatDoor.Sc
