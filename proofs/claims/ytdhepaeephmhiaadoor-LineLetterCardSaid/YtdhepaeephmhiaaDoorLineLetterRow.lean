/-
  The statement Rows.LineLetterCardSaid is proved here: whatever it is given, the law returns true, and its arguments read afterwards as they read before. The listed package-level variables hold what the program's text lays: the card ties them.
-/
import Derived.Test.YtdhepaeephmhiaaDoorRows
import Derived.Test.YtdhepaeephmhiaaDoorCards
import Derived.Test.YtdhepaeephmhiaaDoorTie
import Derived.Test.YtdhepaeephmhiaaDoorLift
import Derived.Test.YtdhepaeephmhiaaDoorRows2
import Derived.Test.YtdhepaeephmhiaaDoorLineLetter
import Derived.ProofKit
import Derived.OpenShut
import Derived.ShutString
import Derived.ChangeOld
import Derived.Below
import Derived.SevenTiedAt
namespace Go.Proofs.YtdhepaeephmhiaaDoor
open Go Go.Joins Go.Deep Go.ChangeShapes Go.WideShapes
section
variable {H : Type} {enc : TypeId × Value → H} {P : Program} {w : World} {base : Nat} {spare : Nat → Bool} {held : Bool}
theorem three_strs {tp ts : TypeId} {fp : Array Field} {n : Nat} {v0 v1 v2 : Value} {y : DataW H × List MemPlace} (hp : P.underlying tp = some (.struct fp)) (hone : oneCellFields P fp = true) (hfp : fp.size = 3) (hts : P.underlying ts = some .string) (hall : ∀ (j : Nat) (f : Field), fp[j]? = some f → f.type = ts)
    (h : DataW.trod enc P w base spare held n tp [v0, v1, v2] = some y) : ∃ a b c : ByteArray, v0 = .string a ∧ v1 = .string b ∧ v2 = .string c ∧ a.size ≤ maxLen ∧ b.size ≤ maxLen ∧ c.size ≤ maxLen := by
  obtain ⟨a, ha, za⟩ := str_cells hp hone hts hall (by simp [hfp]) h 0 (by omega)
  obtain ⟨b, hb, zb⟩ := str_cells hp hone hts hall (by simp [hfp]) h 1 (by omega)
  obtain ⟨c, hc, zc⟩ := str_cells hp hone hts hall (by simp [hfp]) h 2 (by omega)
  exact ⟨a, b, c, by simpa using ha, by simpa using hb, by simpa using hc, za, zb, zc⟩
/-- the parts of the struct -/
def postFields (P : Program) (fs : Array Field) (tp tl ts : TypeId) : Bool :=
  fs.size == 4 && ((fs[0]?.map fun f => (f.type, f.offset)) == some (tp, 0)) && ((fs[1]?.map fun f => (f.type, f.offset)) == some (tp, 3)) && ((fs[2]?.map fun f => (f.type, f.offset)) == some (tl, 6)) && ((fs[3]?.map fun f => (f.type, f.offset)) == some (ts, 7)) &&
    P.cellsOf tp == 3 && P.cellsOf tl == 1 && P.cellsOf ts == 1
theorem post_open {r : Reach} {b0 : Nat} {t tp tl te ts : TypeId} {fs fp fl : Array Field} {v : Value} {d : DataW H} {p : List MemPlace} (hs : P.underlying t = some (.struct fs)) (hC : P.cellsOf t = 8) (hF : postFields P fs tp tl ts = true)
    (hp : P.underlying tp = some (.struct fp)) (hone : oneCellFields P fp = true) (hfp : fp.size = 3) (hts : P.underlying ts = some .string) (hall : ∀ (j : Nat) (f : Field), fp[j]? = some f → f.type = ts)
    (hl : P.underlying tl = some (.slice te)) (he : P.underlying te = some (.struct fl)) (hone2 : oneCellFields P fl = true) (hCe : P.cellsOf te = fl.size) (hfl : fl.size = 2) (hall2 : ∀ (j : Nat) (f : Field), fl[j]? = some f → f.type = ts)
    (hv : Value.okWide P w r b0 t v) (h : DataW.Trod enc P w base spare held t v d p) :
    ∃ (a0 a1 a2 b0 b1 b2 : ByteArray) (G : Option Addr) (n c : Nat) (x : Nat → Nat → ByteArray) (bo : ByteArray), v = .agg #[.string a0, .string a1, .string a2, .string b0, .string b1, .string b2, .slice G n c, .string bo] ∧
      a0.size ≤ maxLen ∧ a1.size ≤ maxLen ∧ a2.size ≤ maxLen ∧ b0.size ≤ maxLen ∧ b1.size ≤ maxLen ∧ b2.size ≤ maxLen ∧ (StrRows w G n 2 x ∧ n ≤ maxLen) ∧ bo.size ≤ maxLen := by
  obtain ⟨cs, rfl, hsz⟩ := okWide_struct hs hv
  obtain ⟨fuel, hf⟩ := h
  have hf' : DataW.trod enc P w base spare held fuel t cs.toList = some (d, p) := hf
  have hlen : cs.toList.length = 8 := by rw [Array.length_toList]; exact hsz.trans hC
  obtain ⟨v0, v1, v2, v3, v4, v5, v6, v7, hcs⟩ : ∃ v0 v1 v2 v3 v4 v5 v6 v7, cs.toList = [v0, v1, v2, v3, v4, v5, v6, v7] := by
    match hc : cs.toList, hlen with
    | [v0, v1, v2, v3, v4, v5, v6, v7], _ => exact ⟨_, _, _, _, _, _, _, _, rfl⟩
  rw [hcs] at hf'
  obtain ⟨ys, n, _, _, _, hyl, hfld⟩ := DataW.trod_struct hs hf'
  simp only [postFields, Bool.and_eq_true, beq_iff_eq] at hF
  obtain ⟨⟨⟨⟨⟨⟨⟨g0, g1⟩, g2⟩, g3⟩, g4⟩, k1⟩, k2⟩, k3⟩ := hF
  obtain ⟨f0, e0, q0⟩ := Option.map_eq_some_iff.1 g1
  obtain ⟨f1, e1, q1⟩ := Option.map_eq_some_iff.1 g2
  obtain ⟨f2, e2, q2⟩ := Option.map_eq_some_iff.1 g3
  obtain ⟨f3, e3, q3⟩ := Option.map_eq_some_iff.1 g4
  simp only [Prod.mk.injEq] at q0 q1 q2 q3
  have h0 := hfld 0 f0 e0; have h1 := hfld 1 f1 e1; have h2 := hfld 2 f2 e2; have h3 := hfld 3 f3 e3
  rw [q0.1, q0.2, k1] at h0; rw [q1.1, q1.2, k1] at h1; rw [q2.1, q2.2, k2] at h2; rw [q3.1, q3.2, k3] at h3
  rw [List.getElem?_eq_getElem (by omega)] at h0 h1 h2 h3
  obtain ⟨a0, a1, a2, r0, r1, r2, z0, z1, z2⟩ := three_strs hp hone hfp hts hall (show DataW.trod enc P w base spare held n tp [v0, v1, v2] = _ from h0)
  obtain ⟨c0, c1, c2, s0, s1, s2, x0, x1, x2⟩ := three_strs hp hone hfp hts hall (show DataW.trod enc P w base spare held n tp [v3, v4, v5] = _ from h1)
  have h2' : DataW.trod enc P w base spare held n tl [v6] = some ys[2] := h2
  obtain ⟨bo, rb, zb⟩ := str_of_trod hts (show DataW.trod enc P w base spare held n ts [v7] = _ from h3)
  obtain ⟨G, k, c, r6⟩ : ∃ G k c, v6 = .slice G k c := by
    rcases open_slice hl h2' with ⟨hc, _⟩ | ⟨x, l, c, _, _, _, _, hc, _⟩
    · exact ⟨none, 0, 0, by simpa using hc⟩
    · exact ⟨some x, l, c, by simpa using hc⟩
  have hT : DataW.Trod enc P w base spare held tl (.slice G k c) ys[2].1 ys[2].2 := ⟨n, by rw [r6] at h2'; exact h2'⟩
  obtain ⟨x, hx, hk⟩ := rows_open hl he hone2 hCe (by omega) hts hall2 hT
  rw [hfl] at hx
  exact ⟨a0, a1, a2, c0, c1, c2, G, k, c, x, bo, by rw [← Array.toArray_toList (xs := cs), hcs, r0, r1, r2, s0, s1, s2, r6, rb], z0, z1, z2, x0, x1, x2, ⟨hx, hk⟩, zb⟩
end
end Go.Proofs.YtdhepaeephmhiaaDoor
namespace Go.Proofs.YtdhepaeephmhiaaDoor.lineLetter
open Go.ChangeShapes Go.WideShapes Go.ChangeAt Go.RowKit
open Go.ChangeMaps (open_string shut_string)
set_option linter.unusedVariables false
theorem own : ownKnob Tryd.prog.godebug = none := by kernel_rfl
theorem laidOut : laidOutB Tryd.prog = true := by kernel_rfl
/-- what the row lists -/
def laid0 : List (String × DataW Unit) := [("unicode/utf8.acceptRanges", Rows.laid_unicode_utf8_acceptRanges), ("unicode/utf8.first", Rows.laid_unicode_utf8_first)]
theorem plainLaid (W : World) : laidMetH Tryd.prog laid0 W = laidMet Tryd.prog laid0 W := MakeChecks.laidMetH_plain _ _ _ (by kernel_rfl)
theorem met0 (os : Os) (args : Array Value) : laidMetH Tryd.prog laid0 ((World.laidAll Tryd.prog os laid0).forCall (fun _ _ => 0) ⟨#[], args, []⟩).memory := by
  rw [plainLaid]; exact laidMet_laidAll _ (by kernel_rfl) (by kernel_rfl)
set_option maxRecDepth 100000 in
theorem lifted (os : Os) (started : os.Started) (H : Type) (enc : TypeId × Value → H) :
    ReturnsInHanded {} Tryd.checked os 5 .any (fun w args => (Rows.lineLetterSpec.pre enc Tryd.prog Tryd.f5 [] false w args ∧ laidMetH Tryd.prog laid0 w) ∧ sizedMet enc Tryd.prog Tryd.f5 (OpenSpec.ofChange Rows.lineLetterSpec) false w args) (Rows.lineLetterSpec.post enc Tryd.prog Tryd.f5 false true false false) := by
  refine returnsHanded_and_shaped (C := Tryd.checked) (X := fun w _ => laidMetH Tryd.prog laid0 w) (fun _ _ _ hh h => h.of_heap hh) own started (by kernel_rfl) Tryd.func5
    (ChangeSpec.witness_shaped (enc := enc) (C := Tryd.checked) (os := os) (X := fun w _ => laidMetH Tryd.prog laid0 w) false (World.laidAll Tryd.prog os laid0) #[.agg #[.string ByteArray.empty, .string ByteArray.empty, .string ByteArray.empty, .string ByteArray.empty, .string ByteArray.empty, .string ByteArray.empty, .slice none 0 0, .string ByteArray.empty]] 8 (World.laidAll_os _ _ _) (World.shaped_of_ZipB (by kernel_rfl) (by kernel_rfl)) (by kernel_rfl) (by kernel_rfl) (by kernel_rfl) (met0 os _)) ?_
  intro W base args ds gs before hval0 hW hcnd hsz hL0 hsh
  have hL : laidMet Tryd.prog laid0 W := by rw [← plainLaid]; exact hL0
  have hval : ∀ (j : Nat) t v, Tryd.f5.params[j]? = some t → args[j]? = some v → Value.okWide Tryd.prog W .any base t v := hval0
  have hW' := hW
  obtain ⟨p, q, hA0, hV, rfl, hfz, hnd⟩ := hW
  have hA : DataW.TrodAll enc Tryd.prog W 0 (fun _ => true) true Tryd.f5.params.toList args.toList ds p := hA0
  rw [Tryd.params5] at hA hval
  obtain ⟨v0, vs0, d0, ds0, p0, q0, hargs, rfl, rfl, h0, r0⟩ := trodAll_cons hA
  obtain ⟨rfl, rfl, rfl⟩ := trodAll_nil r0
  obtain rfl : args = #[v0] := by cases args; simp_all
  obtain ⟨rfl, rfl⟩ := trodVars_none hV
  have k0 := h0
  have lt0 : ∀ x ∈ p0, x.block < W.heap.size := by obtain ⟨m, hm⟩ := k0; exact DataW.trod_lt m _ _ _ hm
  obtain ⟨a0_0, a0_1, a0_2, a0_3, a0_4, a0_5, G0, n0, c0, z0, a0_6, rfl, w0_0, w0_1, w0_2, w0_3, w0_4, w0_5, w0, w0_6⟩ := post_open Tryd.underlying42 (by kernel_rfl) (by kernel_rfl) Tryd.underlying39 (by kernel_rfl) (by decide) Tryd.underlying9 (by
    intro j f hj
    match j, hj with
    | 0, hj => exact (congrArg Field.type (Option.some.inj hj)).symm
    | 1, hj => exact (congrArg Field.type (Option.some.inj hj)).symm
    | 2, hj => exact (congrArg Field.type (Option.some.inj hj)).symm
    | _ + 3, hj => simp at hj) Tryd.underlying40 Tryd.underlying117 (by kernel_rfl) (by kernel_rfl) (by decide) (by
    intro j f hj
    match j, hj with
    | 0, hj => exact (congrArg Field.type (Option.some.inj hj)).symm
    | 1, hj => exact (congrArg Field.type (Option.some.inj hj)).symm
    | _ + 2, hj => simp at hj) (hval 0 42 v0 rfl rfl) h0
  clear hA0 hval0
  obtain ⟨mx, hmx⟩ := cell_of_shapedOpen_int (P := Tryd.prog) (g := 0) (t := 3) (zero := #[.int .i64 0]) hsh (of_decide_eq_true (by kernel_rfl)) (by kernel_rfl) rfl (by kernel_rfl) (by kernel_rfl) Tryd.underlying3
  refine (lineLetter_walk a0_0 a0_1 a0_2 a0_3 a0_4 a0_5 G0 n0 c0 z0 a0_6 mx W w0_0 w0_1 w0_2 w0_3 w0_4 w0_5 w0 w0_6 hmx).mono fun e W' ⟨he, bel⟩ => ?_
  subst he
  exact ⟨_, rfl, _, _, _, [], _, [], hW', trodAll_mk1 (shut_bool Tryd.underlying4 _), (trodAll_cons_mk (Below.trod laidOut (by kernel_rfl) (of_decide_eq_true (by kernel_rfl)) k0 bel lt0) trodAll_mk0), rfl, bel.frame _, fun h => by cases h⟩
theorem over : Rows.lineLetterRow.holds Tryd.pinned (OpenSpec.ofChange Rows.lineLetterSpec) :=
  OpenClaim.holds_of_wide 5 Tryd.f5 rfl rfl rfl rfl rfl rfl rfl ⟨rfl, rfl, rfl, rfl, rfl⟩ rfl rfl rfl rfl rfl (by kernel_rfl) Tryd.func5 (by kernel_rfl)
    (of_decide_eq_true (by kernel_rfl)) (by unfold Func.isWrapper; first | (rw [if_pos (by decide +kernel)]; kernel_rfl) | (rw [if_neg (by decide +kernel)]; exact ⟨rfl, rfl⟩))
    (fun os started H enc _ => lifted os started H enc)
/-- THE STATEMENT -/
theorem proved : Rows.LineLetterCardSaid :=
  Claim7.holds_tied_plain_at .later [] [.data, .pinned] true (true, "c0a9e254121f426f19d7d097cc1d0993bb00f6086b8a566a7857912d02f8d1a3") true
    over (fun _ h => by cases h) (by kernel_rfl) (fun _ h => by cases h) lineLetter_row_tie rfl ⟨rfl, rfl⟩ (by kernel_rfl) rfl
    (fun f fn hf hfn => by
      obtain rfl : f = 5 := Option.some.inj ((show Tryd.prog.funcNamed Rows.lineLetterRow.func = some 5 by kernel_rfl).symm.trans hf) |>.symm
      obtain rfl : fn = Tryd.f5 := (Option.some.inj (Tryd.func5.symm.trans hfn)).symm
      exact ⟨by kernel_rfl, fun j t ht => by
        rw [Tryd.params5] at ht
        have hm : t ∈ [42] := by simpa using Array.mem_of_getElem? ht
        have hall : ([42].all fun u => !Tryd.prog.wantsStandIn u) = true := by kernel_rfl
        exact (show Tryd.prog.wantsStandIn t = false by simpa using List.all_eq_true.1 hall t hm)⟩)
    (by kernel_rfl)
#print axioms proved
end Go.Proofs.YtdhepaeephmhiaaDoor.lineLetter
