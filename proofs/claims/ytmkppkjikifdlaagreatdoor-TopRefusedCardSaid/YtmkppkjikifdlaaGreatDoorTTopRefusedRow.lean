/-
 The statement Rows.TopRefusedCardSaid is proved here: whatever it is given, the law returns true, and its arguments read afterwards as they read before. The listed package-level variables hold what the program's text lays: the card ties them.
-/
import Derived.Test.YtmkppkjikifdlaaGreatDoorRows
import Derived.Test.YtmkppkjikifdlaaGreatDoorCards
import Derived.Test.YtmkppkjikifdlaaGreatDoorTie
import Derived.Test.YtmkppkjikifdlaaGreatDoorTLift
import Derived.Test.YtmkppkjikifdlaaGreatDoorTTpB
import Derived.ProofKit
import Derived.OpenShut
import Derived.ShutString
import Derived.ChangeOld
import Derived.Below
import Derived.SevenTiedAt
set_option linter.unusedVariables false
set_option linter.unusedSimpArgs false
set_option maxHeartbeats 8000000
set_option maxRecDepth 100000
namespace Go.Proofs.YtmkppkjikifdlaaGreatDoor.topRefused
open Go.ChangeShapes Go.WideShapes Go.ChangeAt Go.RowKit
open Go.ChangeMaps (open_string shut_string)
set_option linter.unusedVariables false
theorem own : ownKnob Tryz.prog.godebug = none := by kernel_rfl
theorem laidOut : laidOutB Tryz.prog = true := by kernel_rfl
def laid0 : List (String × DataW Unit) := [("math/bits.deBruijn32tab", Rows.laid_math_bits_deBruijn32tab), ("math/bits.deBruijn64tab", Rows.laid_math_bits_deBruijn64tab), ("internal/strconv.uint64pow10", Rows.laid_internal_strconv_uint64pow10), ("unicode/utf8.acceptRanges", Rows.laid_unicode_utf8_acceptRanges), ("strconv.ErrRange", Rows.laid_strconv_ErrRange), ("strconv.ErrSyntax", Rows.laid_strconv_ErrSyntax), ("postroom/script.commands", Rows.laid_postroom_script_commands), ("postroom/script.tests", Rows.laid_postroom_script_tests), ("postroom/script.matches", Rows.laid_postroom_script_matches), ("postroom/script.parts", Rows.laid_postroom_script_parts), ("postroom/rule.extensions", Rows.laid_postroom_rule_extensions), ("postroom/rule.names", Rows.laid_postroom_rule_names), ("unicode/utf8.first", Rows.laid_unicode_utf8_first)]
theorem plainLaid (W : World) : laidMetH Tryz.prog laid0 W = laidMet Tryz.prog laid0 W := MakeChecks.laidMetH_plain _ _ _ (by kernel_rfl)
theorem met0 (os : Os) (args : Array Value) : laidMetH Tryz.prog laid0 ((World.laidAll Tryz.prog os laid0).forCall (fun _ _ => 0) ⟨#[], args, []⟩).memory := by
 rw [plainLaid]; exact laidMet_laidAll _ (by kernel_rfl) (by kernel_rfl)
theorem lifted (os : Os) (started : os.Started) (H : Type) (enc : TypeId × Value → H) :
    ReturnsInHanded {} Tryz.checked os 4 .any (fun w args => (Rows.topRefusedSpec.pre enc Tryz.prog Tryz.f4 [] false w args ∧ laidMetH Tryz.prog laid0 w) ∧ sizedMet enc Tryz.prog Tryz.f4 (OpenSpec.ofChange Rows.topRefusedSpec) false w args) (Rows.topRefusedSpec.post enc Tryz.prog Tryz.f4 false true false false) := by
 refine returnsHanded_and_shaped (C := Tryz.checked) (X := fun w _ => laidMetH Tryz.prog laid0 w) (fun _ _ _ hh h => h.of_heap hh) own started (by kernel_rfl) Tryz.func4
  (ChangeSpec.witness_shaped (enc := enc) (C := Tryz.checked) (os := os) (X := fun w _ => laidMetH Tryz.prog laid0 w) false (World.laidAll Tryz.prog os laid0) #[.slice none 0 0, .int .i64 0] 8 (World.laidAll_os _ _ _) (World.shaped_of_ZipB (by kernel_rfl) (by kernel_rfl)) (by kernel_rfl) (by kernel_rfl) (by kernel_rfl) (met0 os _)) ?_
 intro W base args ds gs before hval0 hW hcnd hsz hL0 hsh
 have hL : laidMet Tryz.prog laid0 W := by rw [← plainLaid]; exact hL0
 have hval : ∀ (j : Nat) t v, Tryz.f4.params[j]? = some t → args[j]? = some v → Value.okWide Tryz.prog W .any base t v := hval0
 have hW' := hW
 obtain ⟨p, q, hA0, hV, rfl, hfz, hnd⟩ := hW
 have hA : DataW.TrodAll enc Tryz.prog W 0 (fun _ => true) true Tryz.f4.params.toList args.toList ds p := hA0
 rw [Tryz.params4] at hA hval
 obtain ⟨v0, vs0, d0, ds0, p0, q0, hargs, rfl, rfl, h0, r0⟩ := trodAll_cons hA
 obtain ⟨v1, vs1, d1, ds1, p1, q1, rfl, rfl, rfl, h1, r1⟩ := trodAll_cons r0
 obtain ⟨rfl, rfl, rfl⟩ := trodAll_nil r1
 obtain rfl : args = #[v0, v1] := by cases args; simp_all
 obtain ⟨rfl, rfl⟩ := trodVars_none hV
 obtain ⟨a0, len0, cap0, rfl⟩ := okWide_slice Tryz.underlying22 (hval 0 22 v0 rfl rfl)
 have k0 := h0
 have lt0 : ∀ x ∈ p0, x.block < W.heap.size := by obtain ⟨m, hm⟩ := k0; exact DataW.trod_lt m _ _ _ hm
 obtain ⟨z0, rfl, w0, wl0⟩ := chores_open Tryz.underlying22 Tryz.underlying28 (by kernel_rfl) (by kernel_rfl) (by decide) Tryz.underlying3 Tryz.underlying9 (by
  intro j f hj
  match j, hj with
  | 0, hj => exact (congrArg Field.type (Option.some.inj hj)).symm
  | 1, hj => exact (congrArg Field.type (Option.some.inj hj)).symm
  | 2, hj => exact (congrArg Field.type (Option.some.inj hj)).symm
  | 3, hj => exact (congrArg Field.type (Option.some.inj hj)).symm
  | 4, hj => exact (congrArg Field.type (Option.some.inj hj)).symm
  | 5, hj => exact (congrArg Field.type (Option.some.inj hj)).symm
  | _ + 6, hj => simp at hj) h0
 obtain ⟨a1, rfl, rfl, rfl, w1⟩ := open_int Tryz.underlying3 (hval 1 3 v1 rfl rfl) h1
 clear hA0 hval0
 obtain ⟨mx, hmx⟩ := cell_of_shapedOpen_int (P := Tryz.prog) (g := 2) (t := 3) (zero := #[.int .i64 0]) hsh (of_decide_eq_true (by kernel_rfl)) (by kernel_rfl) rfl (by kernel_rfl) (by kernel_rfl) Tryz.underlying3
 have htab := Sc.tabs_of hL (by simp [laid0]) (by simp [laid0]) (by simp [laid0]) (by simp [laid0])
 have hext := Sc.ext_of hL (by simp [laid0])
 have hnam := Sc.names_of hL (by simp [laid0])
 have hev := Tk.errMet (laidMet.tail (laidMet.tail (laidMet.tail (laidMet.tail hL)))) (by kernel_rfl)
 refine (Tp.topRefused_walk a0 cap0 z0 a1 mx W w0 wl0 (wf_bd w1) htab hext hnam hev hmx).mono fun e W' ⟨he, bel⟩ => ?_
 subst he
 exact ⟨_, rfl, _, _, _, [], _, [], hW', trodAll_mk1 (shut_bool Tryz.underlying4 _), (trodAll_cons_mk (Below.trod laidOut (by kernel_rfl) (of_decide_eq_true (by kernel_rfl)) k0 bel lt0) (trodAll_cons_mk (shut_int Tryz.underlying3 w1) trodAll_mk0)), rfl, bel.frame _, fun h => by cases h⟩
theorem fact1 : Tryz.pinned.checked.prog.funcNamed Rows.topRefusedRow.func = some 4 := by kernel_rfl
theorem fact2 : joinedFacts Tryz.pinned.checked.prog 4 Tryz.f4 Rows.topRefusedSpec Rows.topRefusedRow = true := by
 unfold joinedFacts
 simp only [Bool.and_eq_true]
 repeat' apply And.intro
 all_goals as_aux_lemma => kernel_rfl
theorem fact3 : Tryz.f4.isInstance Tryz.pinned.checked.prog Rows.topRefusedRow.origin Rows.topRefusedRow.targs := of_decide_eq_true (by kernel_rfl)
theorem fact4 : Tryz.f4.isWrapper Tryz.pinned.checked.prog Rows.topRefusedRow.wrapper Rows.topRefusedRow.mainSum := by unfold Func.isWrapper; first | (rw [if_pos (by decide +kernel)]; kernel_rfl) | (rw [if_neg (by decide +kernel)]; exact ⟨rfl, rfl⟩)
theorem over : Rows.topRefusedRow.holds Tryz.pinned (OpenSpec.ofChange Rows.topRefusedSpec) :=
 OpenClaim.holds_of_wide 4 Tryz.f4 rfl rfl rfl rfl rfl rfl rfl ⟨rfl, rfl, rfl, rfl, rfl⟩ rfl rfl rfl rfl rfl fact1 Tryz.func4 fact2
  fact3 fact4
  (fun os started H enc _ => lifted os started H enc)
theorem proved : Rows.TopRefusedCardSaid :=
 Claim7.holds_tied_plain_at .later [] [.data, .data, .data, .data, .sentinel, .sentinel, .widerDeep, .widerDeep, .widerDeep, .widerDeep, .widerDeep, .widerDeep, .pinned] true (true, "d102856fc712a6d822d49d4982f9138fb0ab238df5337b6c621793a1a6e05b79") true
  over (fun _ h => by cases h) (by kernel_rfl) (fun _ h => by cases h) topRefused_row_tie rfl ⟨rfl, rfl⟩ (by kernel_rfl) rfl
  (fun f fn hf hfn => by
   obtain rfl : f = 4 := Option.some.inj ((show Tryz.prog.funcNamed Rows.topRefusedRow.func = some 4 by kernel_rfl).symm.trans hf) |>.symm
   obtain rfl : fn = Tryz.f4 := (Option.some.inj (Tryz.func4.symm.trans hfn)).symm
   exact ⟨by kernel_rfl, fun j t ht => by
    rw [Tryz.params4] at ht
    have hm : t ∈ [22, 3] := by simpa using Array.mem_of_getElem? ht
    have hall : ([22, 3].all fun u => !Tryz.prog.wantsStandIn u) = true := by kernel_rfl
    exact (show Tryz.prog.wantsStandIn t = false by simpa using List.all_eq_true.1 hall t hm)⟩)
  (by kernel_rfl)
#print axioms proved
end Go.Proofs.YtmkppkjikifdlaaGreatDoor.topRefused
