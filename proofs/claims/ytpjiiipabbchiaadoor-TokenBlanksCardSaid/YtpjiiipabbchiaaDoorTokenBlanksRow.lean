/-
  The statement Rows.TokenBlanksCardSaid is proved here: whatever it is given, the law returns true, and its arguments read afterwards as they read before. The listed package-level variables hold what the program's text lays: the card ties them.
-/
import Derived.Test.YtpjiiipabbchiaaDoorRows
import Derived.Test.YtpjiiipabbchiaaDoorCards
import Derived.Test.YtpjiiipabbchiaaDoorTie
import Derived.Test.YtpjiiipabbchiaaDoorLift
import Derived.Test.YtpjiiipabbchiaaDoorPcOpen
import Derived.Test.YtpjiiipabbchiaaDoorTokenBlanks
import Derived.ProofKit
import Derived.OpenShut
import Derived.ShutString
import Derived.ChangeOld
import Derived.Below
import Derived.SevenTiedAt
namespace Go.Proofs.YtpjiiipabbchiaaDoor.tokenBlanks
open Go.ChangeShapes Go.WideShapes Go.ChangeAt Go.RowKit
open Go.ChangeMaps (open_string shut_string)
set_option linter.unusedVariables false
theorem own : ownKnob Tryd.prog.godebug = none := by kernel_rfl
theorem laidOut : laidOutB Tryd.prog = true := by kernel_rfl
/-- what the row lists -/
def laid0 : List (String × DataW Unit) := [("math/bits.deBruijn32tab", Rows.laid_math_bits_deBruijn32tab), ("math/bits.deBruijn64tab", Rows.laid_math_bits_deBruijn64tab), ("internal/strconv.uint64pow10", Rows.laid_internal_strconv_uint64pow10), ("unicode/utf8.acceptRanges", Rows.laid_unicode_utf8_acceptRanges), ("strconv.ErrRange", Rows.laid_strconv_ErrRange), ("strconv.ErrSyntax", Rows.laid_strconv_ErrSyntax), ("unicode/utf8.first", Rows.laid_unicode_utf8_first)]
theorem plainLaid (W : World) : laidMetH Tryd.prog laid0 W = laidMet Tryd.prog laid0 W := MakeChecks.laidMetH_plain _ _ _ (by kernel_rfl)
theorem met0 (os : Os) (args : Array Value) : laidMetH Tryd.prog laid0 ((World.laidAll Tryd.prog os laid0).forCall (fun _ _ => 0) ⟨#[], args, []⟩).memory := by
  rw [plainLaid]; exact laidMet_laidAll _ (by kernel_rfl) (by kernel_rfl)
theorem intsAt {W : World} {x : Addr} {zs : List Int} {len : Nat} (hl : len ≤ zs.length) (hcell : ∀ i, i < zs.length → W.cell? (x.add i) = some (.int .i64 (zs.getD i 0))) (hwz : ∀ n ∈ zs, (Lit.int .i64 n).wf = true) :
    IntsAt W (some x) len (fun i => zs.getD i 0) := by
  intro i hi
  obtain ⟨b, off, spot⟩ := x
  have h00 := hcell 0 (by omega)
  have hspot : spot = none := by simpa [Addr.add] using World.cell?_spot h00
  subst hspot
  have h0 := hcell i (by omega)
  rw [Addr.add_lit] at h0
  have hz : zs.getD i 0 ∈ zs := by
    rw [List.getD, List.getElem?_eq_getElem (by omega : i < zs.length)]; exact List.getElem_mem _
  exact ⟨b, off, rfl, World.block_lt_of_cell? W ⟨b, off + i, none⟩ h0, h0, (wf_bd (hwz _ hz)).1, (wf_bd (hwz _ hz)).2⟩
set_option maxRecDepth 100000 in
theorem lifted (os : Os) (started : os.Started) (H : Type) (enc : TypeId × Value → H) :
    ReturnsInHanded {} Tryd.checked os 4 .any (fun w args => (Rows.tokenBlanksSpec.pre enc Tryd.prog Tryd.f4 [] false w args ∧ laidMetH Tryd.prog laid0 w) ∧ sizedMet enc Tryd.prog Tryd.f4 (OpenSpec.ofChange Rows.tokenBlanksSpec) false w args) (Rows.tokenBlanksSpec.post enc Tryd.prog Tryd.f4 false true false false) := by
  refine returnsHanded_and_shaped (C := Tryd.checked) (X := fun w _ => laidMetH Tryd.prog laid0 w) (fun _ _ _ hh h => h.of_heap hh) own started (by kernel_rfl) Tryd.func4
    (ChangeSpec.witness_shaped (enc := enc) (C := Tryd.checked) (os := os) (X := fun w _ => laidMetH Tryd.prog laid0 w) false (World.laidAll Tryd.prog os laid0) #[.slice none 0 0, .slice none 0 0] 8 (World.laidAll_os _ _ _) (World.shaped_of_ZipB (by kernel_rfl) (by kernel_rfl)) (by kernel_rfl) (by kernel_rfl) (by kernel_rfl) (met0 os _)) ?_
  intro W base args ds gs before hval0 hW hcnd hsz hL0 hsh
  have hL : laidMet Tryd.prog laid0 W := by rw [← plainLaid]; exact hL0
  have hval : ∀ (j : Nat) t v, Tryd.f4.params[j]? = some t → args[j]? = some v → Value.okWide Tryd.prog W .any base t v := hval0
  have hW' := hW
  obtain ⟨p, q, hA0, hV, rfl, hfz, hnd⟩ := hW
  have hA : DataW.TrodAll enc Tryd.prog W 0 (fun _ => true) true Tryd.f4.params.toList args.toList ds p := hA0
  rw [Tryd.params4] at hA hval
  obtain ⟨v0, vs0, d0, ds0, p0, q0, hargs, rfl, rfl, h0, r0⟩ := trodAll_cons hA
  obtain ⟨v1, vs1, d1, ds1, p1, q1, rfl, rfl, rfl, h1, r1⟩ := trodAll_cons r0
  obtain ⟨rfl, rfl, rfl⟩ := trodAll_nil r1
  obtain rfl : args = #[v0, v1] := by cases args; simp_all
  obtain ⟨rfl, rfl⟩ := trodVars_none hV
  obtain ⟨a0, len0, cap0, rfl⟩ := okWide_slice Tryd.underlying22 (hval 0 22 v0 rfl rfl)
  have k0 := h0
  have lt0 : ∀ x ∈ p0, x.block < W.heap.size := by obtain ⟨m, hm⟩ := k0; exact DataW.trod_lt m _ _ _ hm
  obtain ⟨z0, w0, wl0⟩ := Tk.pcs_open Tryd.underlying22 Tryd.underlying43 (by kernel_rfl) (by kernel_rfl) (by decide) Tryd.underlying3 Tryd.underlying9 (by
    intro j f hj
    match j, hj with
    | 0, hj => exact (congrArg Field.type (Option.some.inj hj)).symm
    | 1, hj => exact (congrArg Field.type (Option.some.inj hj)).symm
    | 2, hj => exact (congrArg Field.type (Option.some.inj hj)).symm
    | _ + 3, hj => simp at hj) h0
  obtain ⟨a1, len1, cap1, rfl⟩ := okWide_slice Tryd.underlying34 (hval 1 34 v1 rfl rfl)
  have k1 := h1
  have lt1 : ∀ x ∈ p1, x.block < W.heap.size := by obtain ⟨m, hm⟩ := k1; exact DataW.trod_lt m _ _ _ hm
  obtain ⟨z1, w1, wl1⟩ : ∃ z, IntsAt W a1 len1 z ∧ len1 ≤ maxLen := by
    obtain ⟨fuel, hf⟩ := h1
    rcases open_ints Tryd.underlying34 Tryd.underlying3 (by kernel_rfl) hf with ⟨hcs, _⟩ | ⟨x, l, c, zs, hcs, _, hl, hm, hz, _, hcell, hwz⟩
    · simp [Value.cells] at hcs
      obtain ⟨rfl, rfl, rfl⟩ := hcs
      exact ⟨fun _ => 0, (fun i hi => absurd hi (Nat.not_lt_zero i)), Nat.zero_le _⟩
    · simp [Value.cells] at hcs
      obtain ⟨rfl, rfl, rfl⟩ := hcs
      exact ⟨_, intsAt (by have hz' : zs.length = cap1 := (by simpa using hz); omega) hcell hwz, Nat.le_trans hl hm⟩
  clear hA0 hval0
  obtain ⟨mx, hmx⟩ := cell_of_shapedOpen_int (P := Tryd.prog) (g := 0) (t := 3) (zero := #[.int .i64 0]) hsh (of_decide_eq_true (by kernel_rfl)) (by kernel_rfl) rfl (by kernel_rfl) (by kernel_rfl) Tryd.underlying3
  have htab := Tk.tabMet (laidMet.tail (laidMet.tail hL))
  have hev := Tk.errMet (laidMet.tail (laidMet.tail (laidMet.tail (laidMet.tail hL)))) (by kernel_rfl)
  refine (Tk.tokenBlanks_any (.slice a0 len0 cap0) z0 a1 len1 cap1 z1 mx W w0 wl0 w1 wl1 htab hev hmx).mono fun e W' ⟨he, bel⟩ => ?_
  subst he
  exact ⟨_, rfl, _, _, _, [], _, [], hW', trodAll_mk1 (shut_bool Tryd.underlying4 _), (trodAll_cons_mk (Below.trod laidOut (by kernel_rfl) (of_decide_eq_true (by kernel_rfl)) k0 bel lt0) (trodAll_cons_mk (Below.trod laidOut (by kernel_rfl) (of_decide_eq_true (by kernel_rfl)) k1 bel lt1) trodAll_mk0)), rfl, bel.frame _, fun h => by cases h⟩
theorem over : Rows.tokenBlanksRow.holds Tryd.pinned (OpenSpec.ofChange Rows.tokenBlanksSpec) :=
  OpenClaim.holds_of_wide 4 Tryd.f4 rfl rfl rfl rfl rfl rfl rfl ⟨rfl, rfl, rfl, rfl, rfl⟩ rfl rfl rfl rfl rfl (by kernel_rfl) Tryd.func4 (by kernel_rfl)
    (of_decide_eq_true (by kernel_rfl)) (by unfold Func.isWrapper; first | (rw [if_pos (by decide +kernel)]; kernel_rfl) | (rw [if_neg (by decide +kernel)]; exact ⟨rfl, rfl⟩))
    (fun os started H enc _ => lifted os started H enc)
/-- THE STATEMENT -/
theorem proved : Rows.TokenBlanksCardSaid :=
  Claim7.holds_tied_plain_at .later [] [.data, .data, .data, .data, .sentinel, .sentinel, .pinned] true (true, "b8fd7a234c59cc9e1f0b86f1a2f8fc62f0e41ab3b15ea3466f2c1f646830588b") true
    over (fun _ h => by cases h) (by kernel_rfl) (fun _ h => by cases h) tokenBlanks_row_tie rfl ⟨rfl, rfl⟩ (by kernel_rfl) rfl
    (fun f fn hf hfn => by
      obtain rfl : f = 4 := Option.some.inj ((show Tryd.prog.funcNamed Rows.tokenBlanksRow.func = some 4 by kernel_rfl).symm.trans hf) |>.symm
      obtain rfl : fn = Tryd.f4 := (Option.some.inj (Tryd.func4.symm.trans hfn)).symm
      exact ⟨by kernel_rfl, fun j t ht => by
        rw [Tryd.params4] at ht
        have hm : t ∈ [22, 34] := by simpa using Array.mem_of_getElem? ht
        have hall : ([22, 34].all fun u => !Tryd.prog.wantsStandIn u) = true := by kernel_rfl
        exact (show Tryd.prog.wantsStandIn t = false by simpa using List.all_eq_true.1 hall t hm)⟩)
    (by kernel_rfl)
#print axioms proved
end Go.Proofs.YtpjiiipabbchiaaDoor.tokenBlanks
