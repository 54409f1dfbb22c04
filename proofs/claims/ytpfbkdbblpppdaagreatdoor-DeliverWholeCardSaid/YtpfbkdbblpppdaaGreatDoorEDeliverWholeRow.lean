/-
 The statement Rows.DeliverWholeCardSaid is proved here: whatever it is given, the law returns true, and its arguments read afterwards as they read before. The listed package-level variables hold what the program's text lays: the card ties them.
-/
import Derived.Test.YtpfbkdbblpppdaaGreatDoorRows
import Derived.Test.YtpfbkdbblpppdaaGreatDoorCards
import Derived.Test.YtpfbkdbblpppdaaGreatDoorTie
import Derived.Test.YtpfbkdbblpppdaaGreatDoorELift
import Derived.Test.YtpfbkdbblpppdaaGreatDoorERawOpen
import Derived.Test.YtpfbkdbblpppdaaGreatDoorEPost
import Derived.Test.YtpfbkdbblpppdaaGreatDoorEDeliverWhole
import Derived.ProofKit
import Derived.OpenShut
import Derived.ShutString
import Derived.ChangeOld
import Derived.Below
import Derived.SevenTiedAt
set_option linter.unusedVariables false
set_option linter.unusedSimpArgs false
set_option maxHeartbeats 8000000
set_option maxRecDepth 100000
namespace Go.Proofs.YtpfbkdbblpppdaaGreatDoor.deliverWhole
open Go.ChangeShapes Go.WideShapes Go.ChangeAt Go.RowKit
open Go.ChangeMaps (open_string shut_string)
set_option linter.unusedVariables false
theorem own : ownKnob Tryz.prog.godebug = none := by kernel_rfl
theorem laidOut : laidOutB Tryz.prog = true := by kernel_rfl
def laid0 : List (String × DataW Unit) := [("unicode/utf8.acceptRanges", Rows.laid_unicode_utf8_acceptRanges), ("postroom/script.commands", Rows.laid_postroom_script_commands), ("postroom/script.tests", Rows.laid_postroom_script_tests), ("postroom/script.matches", Rows.laid_postroom_script_matches), ("postroom/script.parts", Rows.laid_postroom_script_parts), ("postroom/rule.extensions", Rows.laid_postroom_rule_extensions), ("postroom/rule.names", Rows.laid_postroom_rule_names), ("unicode/utf8.first", Rows.laid_unicode_utf8_first)]
theorem plainLaid (W : World) : laidMetH Tryz.prog laid0 W = laidMet Tryz.prog laid0 W := MakeChecks.laidMetH_plain _ _ _ (by kernel_rfl)
theorem met0 (os : Os) (args : Array Value) : laidMetH Tryz.prog laid0 ((World.laidAll Tryz.prog os laid0).forCall (fun _ _ => 0) ⟨#[], args, []⟩).memory := by
 rw [plainLaid]; exact laidMet_laidAll _ (by kernel_rfl) (by kernel_rfl)
theorem lifted (os : Os) (started : os.Started) (H : Type) (enc : TypeId × Value → H) :
    ReturnsInHanded {} Tryz.checked os 8 .any (fun w args => (Rows.deliverWholeSpec.pre enc Tryz.prog Tryz.f8 [] false w args ∧ laidMetH Tryz.prog laid0 w) ∧ sizedMet enc Tryz.prog Tryz.f8 (OpenSpec.ofChange Rows.deliverWholeSpec) false w args) (Rows.deliverWholeSpec.post enc Tryz.prog Tryz.f8 false true false false) := by
 refine returnsHanded_and_shaped (C := Tryz.checked) (X := fun w _ => laidMetH Tryz.prog laid0 w) (fun _ _ _ hh h => h.of_heap hh) own started (by kernel_rfl) Tryz.func8
  (ChangeSpec.witness_shaped (enc := enc) (C := Tryz.checked) (os := os) (X := fun w _ => laidMetH Tryz.prog laid0 w) false (World.laidAll Tryz.prog os laid0) #[.slice none 0 0, .agg #[.string ByteArray.empty, .string ByteArray.empty, .string ByteArray.empty, .string ByteArray.empty, .string ByteArray.empty, .string ByteArray.empty, .slice none 0 0, .string ByteArray.empty], .slice none 0 0] 8 (World.laidAll_os _ _ _) (World.shaped_of_ZipB (by kernel_rfl) (by kernel_rfl)) (by kernel_rfl) (by kernel_rfl) (by kernel_rfl) (met0 os _)) ?_
 intro W base args ds gs before hval0 hW hcnd hsz hL0 hsh
 have hL : laidMet Tryz.prog laid0 W := by rw [← plainLaid]; exact hL0
 have hval : ∀ (j : Nat) t v, Tryz.f8.params[j]? = some t → args[j]? = some v → Value.okWide Tryz.prog W .any base t v := hval0
 have hW' := hW
 obtain ⟨p, q, hA0, hV, rfl, hfz, hnd⟩ := hW
 have hA : DataW.TrodAll enc Tryz.prog W 0 (fun _ => true) true Tryz.f8.params.toList args.toList ds p := hA0
 rw [Tryz.params8] at hA hval
 obtain ⟨v0, vs0, d0, ds0, p0, q0, hargs, rfl, rfl, h0, r0⟩ := trodAll_cons hA
 obtain ⟨v1, vs1, d1, ds1, p1, q1, rfl, rfl, rfl, h1, r1⟩ := trodAll_cons r0
 obtain ⟨v2, vs2, d2, ds2, p2, q2, rfl, rfl, rfl, h2, r2⟩ := trodAll_cons r1
 obtain ⟨rfl, rfl, rfl⟩ := trodAll_nil r2
 obtain rfl : args = #[v0, v1, v2] := by cases args; simp_all
 obtain ⟨rfl, rfl⟩ := trodVars_none hV
 obtain ⟨a0, len0, cap0, rfl⟩ := okWide_slice Tryz.underlying69 (hval 0 69 v0 rfl rfl)
 have k0 := h0
 have lt0 : ∀ x ∈ p0, x.block < W.heap.size := by obtain ⟨m, hm⟩ := k0; exact DataW.trod_lt m _ _ _ hm
 obtain ⟨z0, rfl, w0, wl0⟩ := chores_open Tryz.underlying69 Tryz.underlying122 (by kernel_rfl) (by kernel_rfl) (by decide) Tryz.underlying3 Tryz.underlying9 (by
  intro j f hj
  match j, hj with
  | 0, hj => exact (congrArg Field.type (Option.some.inj hj)).symm
  | 1, hj => exact (congrArg Field.type (Option.some.inj hj)).symm
  | 2, hj => exact (congrArg Field.type (Option.some.inj hj)).symm
  | 3, hj => exact (congrArg Field.type (Option.some.inj hj)).symm
  | 4, hj => exact (congrArg Field.type (Option.some.inj hj)).symm
  | 5, hj => exact (congrArg Field.type (Option.some.inj hj)).symm
  | _ + 6, hj => simp at hj) h0
 have k1 := h1
 have lt1 : ∀ x ∈ p1, x.block < W.heap.size := by obtain ⟨m, hm⟩ := k1; exact DataW.trod_lt m _ _ _ hm
 obtain ⟨a1_0, a1_1, a1_2, a1_3, a1_4, a1_5, G1, n1, c1, z1, a1_6, rfl, w1_0, w1_1, w1_2, w1_3, w1_4, w1_5, w1, w1_6⟩ := post_open Tryz.underlying26 (by kernel_rfl) (by kernel_rfl) Tryz.underlying23 (by kernel_rfl) (by decide) Tryz.underlying9 (by
  intro j f hj
  match j, hj with
  | 0, hj => exact (congrArg Field.type (Option.some.inj hj)).symm
  | 1, hj => exact (congrArg Field.type (Option.some.inj hj)).symm
  | 2, hj => exact (congrArg Field.type (Option.some.inj hj)).symm
  | _ + 3, hj => simp at hj) Tryz.underlying24 Tryz.underlying167 (by kernel_rfl) (by kernel_rfl) (by decide) (by
  intro j f hj
  match j, hj with
  | 0, hj => exact (congrArg Field.type (Option.some.inj hj)).symm
  | 1, hj => exact (congrArg Field.type (Option.some.inj hj)).symm
  | _ + 2, hj => simp at hj) (hval 1 26 v1 rfl rfl) h1
 obtain ⟨a2, len2, cap2, rfl⟩ := okWide_slice Tryz.underlying27 (hval 2 27 v2 rfl rfl)
 have k2 := h2
 have lt2 : ∀ x ∈ p2, x.block < W.heap.size := by obtain ⟨m, hm⟩ := k2; exact DataW.trod_lt m _ _ _ hm
 obtain ⟨n2, z2, w2, wl2⟩ := Sc.sticks_open hsz (j := 2) (by kernel_rfl) (by rfl) h2
 clear hA0 hval0
 obtain ⟨mx, hmx⟩ := cell_of_shapedOpen_int (P := Tryz.prog) (g := 6) (t := 3) (zero := #[.int .i64 0]) hsh (of_decide_eq_true (by kernel_rfl)) (by kernel_rfl) rfl (by kernel_rfl) (by kernel_rfl) Tryz.underlying3
 have htab := Sc.tabs_of hL (by simp [laid0]) (by simp [laid0]) (by simp [laid0]) (by simp [laid0])
 have hext := Sc.ext_of hL (by simp [laid0])
 have hnam := Sc.names_of hL (by simp [laid0])
 refine (Dv.deliverWhole_walk a0 cap0 z0 a1_0 a1_1 a1_2 a1_3 a1_4 a1_5 G1 n1 c1 z1 a1_6 (.slice a2 len2 cap2) n2 z2 mx W w0 wl0 w1_0 w1_1 w1_2 w1_3 w1_4 w1_5 w1 w1_6 w2 wl2 htab hext hnam hmx).mono fun e W' ⟨he, bel⟩ => ?_
 subst he
 exact ⟨_, rfl, _, _, _, [], _, [], hW', trodAll_mk1 (shut_bool Tryz.underlying4 _), (trodAll_cons_mk (Below.trod laidOut (by kernel_rfl) (of_decide_eq_true (by kernel_rfl)) k0 bel lt0) (trodAll_cons_mk (Below.trod laidOut (by kernel_rfl) (of_decide_eq_true (by kernel_rfl)) k1 bel lt1) (trodAll_cons_mk (Below.trod laidOut (by kernel_rfl) (of_decide_eq_true (by kernel_rfl)) k2 bel lt2) trodAll_mk0))), rfl, bel.frame _, fun h => by cases h⟩
theorem fact1 : Tryz.pinned.checked.prog.funcNamed Rows.deliverWholeRow.func = some 8 := by kernel_rfl
theorem fact2 : joinedFacts Tryz.pinned.checked.prog 8 Tryz.f8 Rows.deliverWholeSpec Rows.deliverWholeRow = true := by
 unfold joinedFacts
 simp only [Bool.and_eq_true]
 repeat' apply And.intro
 all_goals as_aux_lemma => kernel_rfl
theorem fact3 : Tryz.f8.isInstance Tryz.pinned.checked.prog Rows.deliverWholeRow.origin Rows.deliverWholeRow.targs := of_decide_eq_true (by kernel_rfl)
theorem fact4 : Tryz.f8.isWrapper Tryz.pinned.checked.prog Rows.deliverWholeRow.wrapper Rows.deliverWholeRow.mainSum := by unfold Func.isWrapper; first | (rw [if_pos (by decide +kernel)]; kernel_rfl) | (rw [if_neg (by decide +kernel)]; exact ⟨rfl, rfl⟩)
theorem over : Rows.deliverWholeRow.holds Tryz.pinned (OpenSpec.ofChange Rows.deliverWholeSpec) :=
 OpenClaim.holds_of_wide 8 Tryz.f8 rfl rfl rfl rfl rfl rfl rfl ⟨rfl, rfl, rfl, rfl, rfl⟩ rfl rfl rfl rfl rfl fact1 Tryz.func8 fact2
  fact3 fact4
  (fun os started H enc _ => lifted os started H enc)
theorem proved : Rows.DeliverWholeCardSaid :=
 Claim7.holds_tied_plain_at .later [] [.data, .widerDeep, .widerDeep, .widerDeep, .widerDeep, .widerDeep, .widerDeep, .pinned] true (true, "fb6099c1c4895e7507f34b08357ca4310194297ea36f5cae7a47da764abf1d78") true
  over (fun _ h => by cases h) (by kernel_rfl) (fun _ h => by cases h) deliverWhole_row_tie rfl ⟨rfl, rfl⟩ (by kernel_rfl) rfl
  (fun f fn hf hfn => by
   obtain rfl : f = 8 := Option.some.inj ((show Tryz.prog.funcNamed Rows.deliverWholeRow.func = some 8 by kernel_rfl).symm.trans hf) |>.symm
   obtain rfl : fn = Tryz.f8 := (Option.some.inj (Tryz.func8.symm.trans hfn)).symm
   exact ⟨by kernel_rfl, fun j t ht => by
    rw [Tryz.params8] at ht
    have hm : t ∈ [69, 26, 27] := by simpa using Array.mem_of_getElem? ht
    have hall : ([69, 26, 27].all fun u => !Tryz.prog.wantsStandIn u) = true := by kernel_rfl
    exact (show Tryz.prog.wantsStandIn t = false by simpa using List.all_eq_true.1 hall t hm)⟩)
  (by kernel_rfl)
#print axioms proved
end Go.Proofs.YtpfbkdbblpppdaaGreatDoor.deliverWhole
