/-
  DERIVED. The law JudgeStop: its walk.
-/
import Derived.Test.YtpfbkdbblpppdaaGreatDoorJdA
import Derived.Test.YtpfbkdbblpppdaaGreatDoorJdC
import Derived.Deep.DeepCutAuto
set_option linter.unusedVariables false
set_option linter.unusedSimpArgs false
namespace Go.Proofs.YtpfbkdbblpppdaaGreatDoor.Jd
open Go.RowKit
open Sc (Str Tst Cmd cStr strC tstC cTst cCmd RW Stk cStk scriptS ruleS CRow bareV)

/-- Commands of a list, at depth 2 -/
def CmsP (cs : List Cmd) (n : Nat) (w : World) (e : Ending) (w' : World) : Prop := ∃ G c, e = .returned (.slice G n c) ∧ SAt (cCmd 15) w' (fun b => w.heap.size ≤ b ∧ b < w'.heap.size) (.slice G n c) cs ∧ Below w.heap.size w w'
theorem commands_two (l : List Stk) (v : Value) (k : Nat) (F : Dom) (w : World) (hv : SAt (cStk k) w F v l) (hlen : l.length ≤ 140737488351232) (n : Nat) (hn : (Sc.cmdsS 0 l).length = n) : Calls Tryz.prog 19 #[v, .int .i64 2] w (CmsP (Sc.cmdsS 0 l) n w) := by
  refine (Sc.commands_any 0 (0 * 7 + 1) k l v (2 - ((0 : Nat) : Int)) F w (Sc.cmd_all 0 (by omega)) hv hlen).mono ?_
  rintro e w' ⟨u, rfl, hs, hb⟩
  obtain ⟨G, c, rfl, -⟩ := id hs.form
  subst hn
  exact ⟨G, c, rfl, Sc.SAt.bd (fun _ _ hr => Sc.cmd_bd 15 hr) (Sc.cmds_le (by omega) hs), hb⟩
set_option maxHeartbeats 8000000 in
set_option maxRecDepth 20000 in
theorem judgeStop_any (a0 a1 a2 b0 b1 b2 : ByteArray) (G : Option Addr) (n c : Nat) (z : Nat → Nat → ByteArray) (bo : ByteArray) (la lb : List Stk) (av bv : Value) (ka kb : Nat) (F : Dom) (m : Int) (w : World)
    (h : PostIn w a0 a1 a2 b0 b1 b2 G n c z bo) (hav : SAt (cStk ka) w F av la) (hla : la.length ≤ 140737488351232) (hbv : SAt (cStk kb) w F bv lb) (hlb : lb.length ≤ 140737488351232) (hW : RW w m) :
    Calls Tryz.prog 5 #[.agg #[.string a0, .string a1, .string a2, .string b0, .string b1, .string b2, .slice G n c, .string bo], av, bv] w fun e w' => e = .returned (.bool true) ∧ Below w.heap.size w w' := by
  obtain ⟨x, hx⟩ : ∃ x, x = ltrX a0 a1 b0 b1 z n bo := ⟨_, rfl⟩
  have hok := ltrX_ok a0 a1 b0 b1 z n bo
  rw [← hx] at hok
  obtain ⟨fs, hfs⟩ : ∃ fs, fs = ltrFs z n := ⟨_, rfl⟩
  rw [← hfs] at hok
  have HLT : Hid (∀ V, Below w.heap.size w V → Calls Tryz.prog 14 #[.agg #[.string a0, .string a1, .string a2, .string b0, .string b1, .string b2, .slice G n c, .string bo]] V (LetterP x V)) := fun V hV => by
    rw [hx]
    exact letterX_any a0 a1 a2 b0 b1 b2 G n c z bo m V (h.down hV) (hW.down hV).max
  have hz1 := rule_stop la
  have hz2 := rule_behind la lb
  have hk1 := script_okk la
  have hl5 := Sc.script_len la
  have hr1 := Sc.rule_allowed la
  obtain ⟨cs, hcs⟩ : ∃ cs, cs = scriptS la := ⟨_, rfl⟩
  have HSC : Hid (∀ V, Below w.heap.size w V → Calls Tryz.prog 23 #[av] V (Sc.ScrPost cs 15 V)) := fun V hV => by
    rw [hcs]
    exact Sc.script_any la av ka F V (hav.down hV) hla ((hW.down hV).tab)
  rw [← hcs] at hz1 hz2 hk1 hl5 hr1
  have hk2 := cmdsS_okk 0 (by omega) lb
  have hl4 : (Sc.cmdsS 0 lb).length ≤ 4 := by unfold Sc.cmdsS; rw [List.length_map, List.length_take]; omega
  have hnil : (lb = [] ∧ Sc.cmdsS 0 lb = []) ∨ 0 < (Sc.cmdsS 0 lb).length := by
    cases lb with
    | nil => exact .inl ⟨rfl, rfl⟩
    | cons y l => exact .inr (by unfold Sc.cmdsS; rw [List.length_map, List.length_take, List.length_cons]; omega)
  obtain ⟨ds, hds⟩ : ∃ ds, ds = Sc.cmdsS 0 lb := ⟨_, rfl⟩
  obtain ⟨nd, hnd⟩ : ∃ nd, nd = ds.length := ⟨_, rfl⟩
  have HCM : Hid (∀ V, Below w.heap.size w V → Calls Tryz.prog 19 #[bv, .int .i64 2] V (CmsP ds nd V)) := fun V hV => by
    have := commands_two lb bv kb F V (hbv.down hV) hlb ds.length (by rw [hds])
    rw [← hds, ← hnd] at this
    exact this
  have HCN : Hid (lb = [] → ∀ V, Calls Tryz.prog 19 #[bv, .int .i64 2] V fun e w' => e = .returned (.slice none 0 0) ∧ V = w') := fun e V => by
    subst e
    obtain ⟨G, c, rfl⟩ := Sc.SAt.nil_inv hbv
    exact Sc.commands_nil G c 2 V
  rw [← hds] at hz2 hk2 hl4 hnil
  rw [← hnd] at hl4 hnil
  obtain ⟨C, hC⟩ : ∃ C, C = (cmdsJ x fs cs C0).1 := ⟨_, rfl⟩
  have hC1 : (cmdsJ x fs (cs ++ [stopC]) C0).1 = C := by rw [hC]; exact stop_last x fs cs [] C0
  have hC2 : (cmdsJ x fs (cs ++ stopC :: ds) C0).1 = C := by rw [hC]; exact stop_last x fs cs ds C0
  obtain ⟨z1, hze1⟩ : ∃ z1, z1 = ruleS (cs ++ [stopC]) := ⟨_, rfl⟩
  obtain ⟨z2, hze2⟩ : ∃ z2, z2 = ruleS (cs ++ stopC :: ds) := ⟨_, rfl⟩
  rw [← hze1] at hz1
  rw [← hze2] at hz2
  obtain ⟨C1, hC1'⟩ : ∃ C1, (z1 = 0 ∧ C1 = C) ∨ (z1 ≠ 0 ∧ C1 = C0) := by
    rcases hz1 with e | e
    · exact ⟨C, .inl ⟨e, rfl⟩⟩
    · exact ⟨C0, .inr ⟨by rw [e]; decide, rfl⟩⟩
  obtain ⟨C2, hC2'⟩ : ∃ C2, (z2 = 0 ∧ C2 = C) ∨ (z2 ≠ 0 ∧ C2 = C0) := by
    rcases hz2 with e | e
    · exact ⟨C, .inl ⟨e, rfl⟩⟩
    · exact ⟨C0, .inr ⟨by rw [e]; decide, rfl⟩⟩
  have HJ : Hid (∀ V u F', SAt (cCmd 15) V F' u cs → Below w.heap.size w V → Calls Tryz.prog 20 #[u, .agg (lttC x).toArray] V (JudgeQ 0 C V)) := fun V u F' hu hV =>
    judge_q cs u F' x fs _ m V 0 C hk1 (by omega) hr1 (.inl ⟨rfl, hC⟩) hu (hW.down hV) hok
  have HJ1 : Hid (∀ V u F', SAt (cCmd 15) V F' u (cs ++ [stopC]) → Below w.heap.size w V → Calls Tryz.prog 20 #[u, .agg (lttC x).toArray] V (JudgeQ z1 C1 V)) := fun V u F' hu hV =>
    judge_q (cs ++ [stopC]) u F' x fs _ m V z1 C1 (app_okk hk1 (one_okk stop_ok)) (by rw [List.length_append, List.length_singleton]; omega) hze1.symm (by rw [hC1]; exact hC1') hu (hW.down hV) hok
  have HJ2 : Hid (∀ V u F', SAt (cCmd 15) V F' u (cs ++ stopC :: ds) → Below w.heap.size w V → Calls Tryz.prog 20 #[u, .agg (lttC x).toArray] V (JudgeQ z2 C2 V)) := fun V u F' hu hV =>
    judge_q (cs ++ stopC :: ds) u F' x fs _ m V z2 C2 (app_okk hk1 (fun c hc => (List.mem_cons.1 hc).elim (fun e => e ▸ stop_ok) (hk2 c))) (by rw [List.length_append, List.length_cons]; omega) hze2.symm (by rw [hC2]; exact hC2') hu (hW.down hV) hok
  have hlenC : C.acts.length ≤ 6 := by rw [hC]; exact cmdsJ_len x fs cs C0 (by unfold C0; decide)
  have hflagC : FlagOk C := by rw [hC, hcs]; exact cmdsJ_flag x fs _ C0 ((GoodJs_iff _).2 (script_goodJ la)) C0_flag
  have hask : C.asked = true ∨ (endJ C).length = 1 := by
    by_cases hf : C.fault = 0
    · cases ha : C.asked with
      | true => exact .inl rfl
      | false => exact .inr (by rw [endJ_quiet hf ha]; rfl)
    · exact .inr (by rw [endJ_fault hf]; rfl)
  obtain ⟨E, hE⟩ : ∃ E, E = endJ C := ⟨_, rfl⟩
  obtain ⟨nE, hnE⟩ : ∃ n, E.length = n := ⟨_, rfl⟩
  rw [← hE, hnE] at hask
  have HEND : Hid (∀ V F u, SAt cAct V F u C.acts → Calls Tryz.prog 24 #[.agg #[u, .int .i64 C.flags, .bool C.asked, .int .i64 C.fault]] V (EndS E nE V)) := fun V F u h => (end_any u C F V h hlenC hflagC).mono fun e w' h => by rw [← hE] at h; exact h.s hnE
  have HSAME : Hid (∀ V F1 F2 u1 u2, SAt cAct V F1 u1 C.acts → SAt cAct V F2 u2 C.acts → Calls Tryz.prog 22 #[.agg #[u1, .int .i64 C.flags, .bool C.asked, .int .i64 C.fault], .agg #[u2, .int .i64 C.flags, .bool C.asked, .int .i64 C.fault]] V fun e w' => e = .returned (.bool true) ∧ Below V.heap.size V w') := fun V F1 F2 u1 u2 h1 h2 => sameCrs_any u1 u2 C F1 F2 V h1 h2 (by omega)
  have hA1 := ba (Below.refl w.heap.size w) (.cells #[.string a0, .string a1, .string a2, .string b0, .string b1, .string b2, .slice G n c, .string bo] 26)
  have HX1 := Lib.hid (Has.alloc w [.string a0, .string a1, .string a2, .string b0, .string b1, .string b2, .slice G n c, .string bo] 26)
  have HA := Lib.hid hA1
  have HC := Lib.hid (HLT.out _ hA1)
  obtain ⟨p0, p1, p2, p3, p4, p5, p6, p7⟩ := Sc.has_oct' HX1.out
  obtain ⟨Ga, ca, rfl, -⟩ := hav.form
  obtain ⟨Gb, cb, rfl, -⟩ := hbv.form
  have HC1' := Lib.hid hC1'; have HC2' := Lib.hid hC2'; have HZ1 := Lib.hid hz1; have HZ2 := Lib.hid hz2; have HASK := Lib.hid hask
  obtain ⟨nc, hnc⟩ : ∃ nc, nc = cs.length := ⟨_, rfl⟩
  rw [← hnc] at hl5
  have HNC := Lib.hid hnc
  have HND := Lib.hid hnd
  have HNIL := Lib.hid hnil
  obtain ⟨hl1, hl6⟩ := hl5
  clear hx hfs h hav hbv hW hok hA1 HLT hC hcs hds hk1 hk2 hr1 hze1 hze2 hC1 hC2 hC1' hC2' hz1 hz2 hlenC hflagC hE hnE hask hnc hnd hnil hla hlb
  go_enter Tryz.func5, Tryz.ntmps5
  go_wp2_with fail
  refine HC.out.mono ?_
  rintro e w1 ⟨rfl, hb1⟩
  have hA := ba (Below.refl w1.heap.size w1) (.cells (lttC x).toArray 33)
  have HL := Lib.hid (Has.alloc w1 (lttC x) 33)
  have HB2 := Lib.hid (bt (bt HA.out hb1) hA)
  obtain ⟨L, hLe⟩ : ∃ L, L = w1.heap.size := ⟨_, rfl⟩
  obtain ⟨W2, hW2⟩ : ∃ W2, W2 = w1.alloc (.cells (lttC x).toArray 33) := ⟨_, rfl⟩
  have HL2 : Hid (Has W2 L (lttC x)) := by unfold Hid; rw [hW2, hLe]; exact HL.out
  have HBW : Hid (Below w.heap.size w W2) := by unfold Hid; rw [hW2]; exact HB2.out
  have HWe := Lib.hid hW2; have HLe := Lib.hid hLe
  unfold lttC at HWe HJ HJ1 HJ2 ⊢
  clear hA hb1 HC p0 p1 p2 p3 p4 p5 p6 p7 HX1 HA HL HB2 hW2 hLe
  go_upto_region 2 with fail
  rw [← HWe.out, ← HLe.out]
  clear HWe HLe
  have HC1 := Lib.hid (HSC.out W2 HBW.out)
  go_wp2_with fail
  refine HC1.out.mono ?_
  rintro e w3 ⟨G3, c3, rfl, hs3, hb3⟩
  rw [← HNC.out] at hs3 ⊢
  obtain ⟨g3, o3, rfl⟩ := Sc.sat_block hs3 hl1
  have HS3 := Lib.hid ((Sc.SAt.bd (fun _ _ hr => Sc.cmd_bd 15 hr) hs3).mono fun b hb => hb.2)
  have HB3 := Lib.hid (bt HBW.out hb3)
  have HL3 := Lib.hid (HL2.out.down hb3)
  clear HC1 HSC HBW HL2 hs3 hb3
  go_wp2_with (at_builtin; refine Sc.wpList_cmds (by rfl) _ _ (by rfl) (by rfl) (CRow.nil w3.heap.size w3) (Nat.le_refl _) (by rfl) (HS3.out.mono fun b _ e => by cases e) hl1 (by omega) (Nat.zero_add nc) (List.nil_append cs) ?_)
  intro g5 cap5 w5 hr5 hB5
  have HB5' := Lib.hid (hB5 w3 (Below.refl _ _) (Nat.le_refl _))
  have HR5 := Lib.hid hr5
  have hz5 : w3.heap.size ≤ w5.heap.size := HB5'.out.size
  have hA6 := ba (Below.refl w5.heap.size w5) (.cells (bareV 10).toArray 50)
  have HR6 := Lib.hid (hr5.down hA6)
  have HB6 := Lib.hid (bt HB5'.out hA6)
  have HS6 : Hid (SAt (cCmd 15) (w5.alloc (.cells (bareV 10).toArray 50)) (fun b => (Value.slice (some ⟨g5, 0, none⟩) nc cap5).ownBlock ≠ some b) (.slice (some ⟨w5.heap.size, 0, none⟩) 1 1) [stopC]) := by
    refine (Sc.lit_sat (F := fun _ => False) w5 [(stopC, bareV 10)] (fun p hp => by rw [List.mem_singleton] at hp; subst hp; exact Sc.bare_rep 10 _ _) (by decide)).mono fun b hb e => ?_
    rcases hb with hb | hb
    · have := (HR5.out.low e).2
      omega
    · exact hb
  have hz6 : w3.heap.size ≤ (w5.alloc (.cells (bareV 10).toArray 50)).heap.size := HB6.out.size
  unfold bareV at HR6 HB6 HS6 hz6
  clear hr5 hB5 hA6 HR5
  go_wp2_with (at_builtin; refine Sc.wpList_cmds (by rfl) _ _ (by rfl) (by rfl) HR6.out hz6 (by rfl) HS6.out (by omega) (by omega) (rfl : nc + 1 = nc + 1) rfl ?_)
  intro g7 cap7 w7 hr7 hB7
  have hb7 := hB7 w3 HB6.out (Nat.le_refl _)
  have HB7 := Lib.hid (bt HB3.out hb7)
  have HS7 := Lib.hid (HS3.out.down hb7)
  have HL7 := Lib.hid (HL3.out.down hb7)
  have HM7 := Lib.hid hr7.sat
  clear HB5' HR6 HB6 HS6 hz6 HS3 HB3 HL3 hr7 hB7 hb7 hz5
  go_upto_region 4 with fail
  go_cut [11] (fun vm wx => ∃ G N cap, vm = .slice G N cap ∧ SAt (cCmd 15) wx (fun b => b < wx.heap.size) (.slice G N cap) (cs ++ stopC :: ds) ∧ Below w7.heap.size w7 wx)
  case first =>
    clear HJ HJ1 HJ2 HEND HSAME
    go_wp2_with (at_builtin; refine Sc.wpList_cmds (by rfl) _ _ (by rfl) (by rfl) (CRow.nil w7.heap.size w7) (Nat.le_refl _) (by rfl) (HM7.out.mono fun b _ e => by cases e) (by omega) (by omega) (Nat.zero_add (nc + 1)) (List.nil_append (cs ++ [stopC])) ?_)
    intro g8 cap8 w8 hr8 hB8
    have HB8 := Lib.hid (hB8 w7 (Below.refl _ _) (Nat.le_refl _))
    have HR8 := Lib.hid hr8
    clear hr8 hB8
    rcases HNIL.out with ⟨hn1, hn2⟩ | hn
    · have HC := Lib.hid (HCN.out hn1 w8)
      have HDS := Lib.hid hn2
      have hcap : nc + 1 ≤ cap8 := HR8.out.cap
      clear HCM HCN hn1 hn2
      go_wp2_with fail
      refine HC.out.mono ?_
      rintro e w9 ⟨rfl, rfl⟩
      go_wp2_with fail
      go_meet
      case rel => exact ⟨_, _, _, rfl, by rw [HDS.out]; exact HR8.out.sat, HB8.out⟩
    · have HC := Lib.hid (HCM.out w8 (bt HB7.out HB8.out))
      clear HCM HCN HNIL
      go_wp2_with fail
      refine HC.out.mono ?_
      rintro e w9 ⟨G9, c9, rfl, hs9, hb9⟩
      obtain ⟨g9, o9, rfl⟩ := Sc.sat_block hs9 hn
      have HR9 := Lib.hid (HR8.out.down hb9)
      have HB9 := Lib.hid (bt HB8.out hb9)
      have HS9 : Hid (SAt (cCmd 15) w9 (fun b => (Value.slice (some ⟨g8, 0, none⟩) (nc + 1) cap8).ownBlock ≠ some b) (.slice (some ⟨g9, o9, none⟩) nd c9) ds) := hs9.mono fun b hb e => by have := (HR8.out.low e).2; have := hb.1; omega
      have hz9 : w7.heap.size ≤ w9.heap.size := HB9.out.size
      clear HC hs9 hb9
      go_wp2_with (at_builtin; refine Sc.wpList_cmds (by rfl) _ _ (by rfl) (by rfl) HR9.out hz9 (by rfl) HS9.out hn (by omega) (rfl : nc + 1 + nd = nc + 1 + nd) (by rw [List.append_assoc]; rfl : (cs ++ [stopC]) ++ ds = cs ++ stopC :: ds) ?_)
      intro g10 cap10 w10 hr10 hB10
      have HE := Lib.hid (And.intro hr10.sat (hB10 w7 HB9.out (Nat.le_refl _)))
      clear hr10 hB10
      go_wp2_with fail
      go_meet
      case rel => exact ⟨_, _, _, rfl, HE.out.1, HE.out.2⟩
  case rest =>
    obtain ⟨Gm, Nm, cm, rfl, hsm, hbm⟩ := hcut
    have HSM := Lib.hid hsm
    have HB10 := Lib.hid (bt HB7.out hbm)
    have HS10 := Lib.hid (HS7.out.down hbm)
    have HL10 := Lib.hid (HL7.out.down hbm)
    have HM10 := Lib.hid (HM7.out.down hbm)
    obtain ⟨l0, l1, l2, l3, l4⟩ := ltt_get HL10.out
    have HC1 := Lib.hid (HJ.out _ _ _ HS10.out HB10.out)
    clear hsm hbm HS7 HB7 HL7 HM7 HNIL HCM HCN
    go_wp2_with fail
    refine HC1.out.mono ?_
    rintro e w11 ⟨G11, k11, rfl, hs11, hb11⟩
    have hA := ba (Below.refl w11.heap.size w11) (.cells #[.slice G11 C.acts.length k11, .int .i64 C.flags, .bool C.asked, .int .i64 C.fault] 53)
    have hK := crsq_alloc hs11 53
    obtain ⟨X1, hX1⟩ : ∃ X1, X1 = w11.heap.size := ⟨_, rfl⟩
    obtain ⟨W11, hW11⟩ : ∃ W, W = w11.alloc (.cells #[.slice G11 C.acts.length k11, .int .i64 C.flags, .bool C.asked, .int .i64 C.fault] 53) := ⟨_, rfl⟩
    rw [← hX1, ← hW11] at hK
    rw [← hW11] at hA
    have hb := bt hb11 hA
    have HK1 := Lib.hid hK
    have HB11 := Lib.hid (bt HB10.out hb)
    have HL11 := Lib.hid (HL10.out.down hb)
    have HM11 := Lib.hid (HM10.out.down hb)
    have HSM11 := Lib.hid (HSM.out.down hb)
    have HWe := Lib.hid hW11; have HXe := Lib.hid hX1
    clear l0 l1 l2 l3 l4 HC1 hs11 hb11 hA hK hX1 hW11 hb HB10 HL10 HM10 HSM HS10 HJ
    go_upto_region 6 with fail
    rw [← HWe.out, ← HXe.out]
    clear HWe HXe
    obtain ⟨l0, l1, l2, l3, l4⟩ := ltt_get HL11.out
    have HC1 := Lib.hid (HJ1.out _ _ _ HM11.out HB11.out)
    go_wp2_with fail
    refine HC1.out.mono ?_
    rintro e w12 ⟨G12, k12, rfl, hs12, hb12⟩
    have hA := ba (Below.refl w12.heap.size w12) (.cells #[.slice G12 C1.acts.length k12, .int .i64 C1.flags, .bool C1.asked, .int .i64 C1.fault] 53)
    have hK := crsq_alloc hs12 53
    obtain ⟨X2, hX2⟩ : ∃ X2, X2 = w12.heap.size := ⟨_, rfl⟩
    obtain ⟨W12, hW12⟩ : ∃ W, W = w12.alloc (.cells #[.slice G12 C1.acts.length k12, .int .i64 C1.flags, .bool C1.asked, .int .i64 C1.fault] 53) := ⟨_, rfl⟩
    rw [← hX2, ← hW12] at hK
    rw [← hW12] at hA
    have hb := bt hb12 hA
    have HK2 := Lib.hid hK
    have HK12 := Lib.hid (HK1.out.down hb)
    have HB12 := Lib.hid (bt HB11.out hb)
    have HL12 := Lib.hid (HL11.out.down hb)
    have HSM12 := Lib.hid (HSM11.out.down hb)
    have HWe := Lib.hid hW12; have HXe := Lib.hid hX2
    clear l0 l1 l2 l3 l4 HC1 hs12 hb12 hA hK hX2 hW12 hb HB11 HL11 HM11 HSM11 HK1 HJ1
    go_upto_region 7 with fail
    rw [← HWe.out, ← HXe.out]
    clear HWe HXe
    obtain ⟨l0, l1, l2, l3, l4⟩ := ltt_get HL12.out
    have HC1 := Lib.hid (HJ2.out _ _ _ HSM12.out HB12.out)
    go_wp2_with fail
    refine HC1.out.mono ?_
    rintro e w13 ⟨G13, k13, rfl, hs13, hb13⟩
    have hA := ba (Below.refl w13.heap.size w13) (.cells #[.slice G13 C2.acts.length k13, .int .i64 C2.flags, .bool C2.asked, .int .i64 C2.fault] 53)
    have hK := crsq_alloc hs13 53
    obtain ⟨X3, hX3⟩ : ∃ X3, X3 = w13.heap.size := ⟨_, rfl⟩
    obtain ⟨W13, hW13⟩ : ∃ W, W = w13.alloc (.cells #[.slice G13 C2.acts.length k13, .int .i64 C2.flags, .bool C2.asked, .int .i64 C2.fault] 53) := ⟨_, rfl⟩
    rw [← hX3, ← hW13] at hK
    rw [← hW13] at hA
    have hb := bt hb13 hA
    have HK3 := Lib.hid hK
    have HK13 := Lib.hid (HK12.out.down hb)
    have HK23 := Lib.hid (HK2.out.down hb)
    have HB13 := Lib.hid (bt HB12.out hb)
    have HWe := Lib.hid hW13; have HXe := Lib.hid hX3
    clear l0 l1 l2 l3 l4 HC1 hs13 hb13 hA hK hX3 hW13 hb HB12 HL12 HSM12 HK12 HK2 HJ2
    go_upto_region 8 with fail
    rw [← HWe.out, ← HXe.out]
    clear HWe HXe
    rcases HZ1.out with e1 | e1
    · rcases HZ2.out with e2 | e2
      · have ec1 : C1 = C := by rcases HC1'.out with h | h; exact h.2; exact absurd e1 h.1
        have ec2 : C2 = C := by rcases HC2'.out with h | h; exact h.2; exact absurd e2 h.1
        subst e1 e2
        subst ec1
        rw [ec2] at HK3
        clear ec2 HC1' HC2' HZ1 HZ2
        obtain ⟨Gk, kk, hk, hks⟩ := HK13.out
        obtain ⟨c0, c1, c2, c3⟩ := has_quad hk
        have HC1 := Lib.hid (HEND.out _ _ _ hks)
        clear hk hks
        go_wp2_with fail
        refine HC1.out.mono ?_
        rintro e w14 ⟨G14, k14, rfl, -, hb14⟩
        have HB14 := Lib.hid (bt HB13.out hb14)
        obtain ⟨Ga1, ka1, hk1, hs1⟩ := HK13.out.down hb14
        obtain ⟨Ga2, ka2, hk2, hs2⟩ := HK23.out.down hb14
        have HK34 := Lib.hid (HK3.out.down hb14)
        have HK24 := Lib.hid (HK23.out.down hb14)
        have HK14 := Lib.hid (HK13.out.down hb14)
        have HC2 := Lib.hid (HSAME.out _ _ _ _ _ hs1 hs2)
        obtain ⟨d0, d1, d2, d3⟩ := has_quad hk1
        obtain ⟨f0, f1, f2, f3⟩ := has_quad hk2
        clear c0 c1 c2 c3 HC1 HK13 HK23 HK3 HB13 hb14 hk1 hs1 hk2 hs2 HEND
        by_cases hp : 0 < nE
        · have hq : decide (0 < nE) = true := decide_eq_true hp
          go_wp2_with fail
          refine HC2.out.mono ?_
          rintro e w15 ⟨rfl, hb15⟩
          have HB15 := Lib.hid (bt HB14.out hb15)
          obtain ⟨Ga2', ka2', hk2, hs2⟩ := HK24.out.down hb15
          obtain ⟨Ga3, ka3, hk3, hs3⟩ := HK34.out.down hb15
          have HC3 := Lib.hid (HSAME.out _ _ _ _ _ hs2 hs3)
          obtain ⟨r0, r1, r2, r3⟩ := has_quad hk2
          obtain ⟨t0, t1, t2, t3⟩ := has_quad hk3
          clear d0 d1 d2 d3 f0 f1 f2 f3 HC2 HK14 HK24 HK34 HB14 hb15 hk2 hs2 hk3 hs3
          go_wp2_with fail
          refine HC3.out.mono ?_
          rintro e w16 ⟨rfl, hb16⟩
          have HB16 := Lib.hid (bt HB15.out hb16)
          clear hb16 HC3
          go_wp2_with fail
          go_ret
          exact ⟨rfl, HB16.out⟩
        · have hq : decide (0 < nE) = false := decide_eq_false hp
          go_wp2_with fail
          refine HC2.out.mono ?_
          rintro e w15 ⟨rfl, hb15⟩
          have HB15 := Lib.hid (bt HB14.out hb15)
          obtain ⟨Ga2', ka2', hk2, hs2⟩ := HK24.out.down hb15
          obtain ⟨Ga3, ka3, hk3, hs3⟩ := HK34.out.down hb15
          have HC3 := Lib.hid (HSAME.out _ _ _ _ _ hs2 hs3)
          have HK15 := Lib.hid (HK14.out.down hb15)
          obtain ⟨r0, r1, r2, r3⟩ := has_quad hk2
          obtain ⟨t0, t1, t2, t3⟩ := has_quad hk3
          clear d0 d1 d2 d3 f0 f1 f2 f3 HC2 HK14 HK24 HK34 HB14 hb15 hk2 hs2 hk3 hs3
          go_wp2_with fail
          refine HC3.out.mono ?_
          rintro e w16 ⟨rfl, hb16⟩
          have HB16 := Lib.hid (bt HB15.out hb16)
          obtain ⟨Ga1, ka1, hk1, -⟩ := HK15.out.down hb16
          have d2 := hk1.1 2 _ rfl
          rw [HASK.out.resolve_right (by omega)] at d2
          clear hb16 HC3 hk1 r0 r1 r2 r3 t0 t1 t2 t3
          go_wp2_with fail
          go_ret
          exact ⟨rfl, HB16.out⟩
      · subst e1 e2
        go_wp2_with fail
        go_ret
        exact ⟨rfl, HB13.out⟩
    · subst e1
      go_wp2_with fail
      go_ret
      exact ⟨rfl, HB13.out⟩
theorem judgeStop_walk (a0 a1 a2 b0 b1 b2 : ByteArray) (G : Option Addr) (n c : Nat) (z : Nat → Nat → ByteArray) (bo : ByteArray) (av : Value) (ka : Nat) (la : List Stk) (bv : Value) (kb : Nat) (lb : List Stk) (mx : Int) (W : World) (h0 : a0.size ≤ maxLen) (h1 : a1.size ≤ maxLen) (_h2 : a2.size ≤ maxLen) (j0 : b0.size ≤ maxLen) (j1 : b1.size ≤ maxLen) (_j2 : b2.size ≤ maxLen) (hx : StrRows W G n 2 z ∧ n ≤ maxLen) (hbo : bo.size ≤ maxLen)
    (hl : SAt (cStk ka) W (fun _ => True) av la) (hlen : la.length ≤ 140737488351232) (hl2 : SAt (cStk kb) W (fun _ => True) bv lb) (hlen2 : lb.length ≤ 140737488351232) (hT : Sc.Tabs W W.heap.size) (hE : Sc.ExtAt W ∧ 0 < W.heap.size) (hN : NamesAt W ∧ 2 < W.heap.size) (hmx : W.cell? ⟨6, 0, none⟩ = some (.int .i64 mx)) :
    Calls Tryz.prog 5 #[.agg #[.string a0, .string a1, .string a2, .string b0, .string b1, .string b2, .slice G n c, .string bo], av, bv] W fun e w' => e = .returned (.bool true) ∧ Below W.heap.size W w' :=
  judgeStop_any a0 a1 a2 b0 b1 b2 G n c z bo la lb av bv ka kb _ mx W ⟨h0, h1, j0, j1, hx, hbo⟩ hl hlen hl2 hlen2 ⟨hT, hE, hN, hmx⟩
end Go.Proofs.YtpfbkdbblpppdaaGreatDoor.Jd
