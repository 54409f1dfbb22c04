/- On the way. -/
import Derived.HandedShaped
import Derived.Handed
import Derived.Shelf.Vars
import Derived.Lay
import Derived.MakeChecks
import Derived.Lib.LaidU8
import Derived.OpenShut
import Derived.ProofKit
set_option linter.unusedVariables false
set_option linter.unusedSimpArgs false
namespace Go.Proofs.YtmkppkjikifdlaaGreatDoor
open Go
variable {H : Type} {enc : TypeId × Value → H}
theorem returnsHanded_and_shaped {a : Assume} {C : Checked} {os : Os} {f : FuncId} {fn : Func} {s : ChangeSpec} {conds : List PathCond} {apart fresh handsOn again : Bool} {X : World → Array Value → Prop}
    (hX : ∀ (w w' : World) (args : Array Value), w.heap = w'.heap → X w args → X w' args)
    (own : ownKnob C.prog.godebug = none) (started : os.Started) (noInit : C.prog.inits.idxOf? f = none) (hfn : C.prog.funcs[f]? = some fn)
    (witness : ∃ (w : World) (tape : Tape) (i : Input), w.os = os ∧ (w.forCall tape i).Shaped C.prog ∧ i.vars = [] ∧ Input.okWide C.prog (w.forCall tape i) .any w.heap.size f i ∧
     ((s.pre enc C.prog fn conds apart (w.forCall tape i).memory i.args ∧ X (w.forCall tape i).memory i.args) ∧ sizedMet enc C.prog fn (OpenSpec.ofChange s) apart (w.forCall tape i).memory i.args) ∧ a.holds C.prog (lone (Frame.enter C.prog f i.args .normal) [] (w.forCall tape i)))
    (contract : ∀ (W : World) (base : Nat) (args : Array Value) (ds gs : List (DataW H)) (before : List MemPlace),
     (∀ (j : Nat) t v, fn.params[j]? = some t → args[j]? = some v → Value.okWide C.prog W .any base t v) →
     DataW.Whole enc C.prog fn.params.toList s.vars apart W args.toList ds gs before →
     conds.all (PathCond.test C.prog ⟨fn.params.toList, ds, s.plain.varTypes C.prog, gs⟩) = true →
     (DataW.weightsEach C.prog (fn.params.toList ++ s.plain.varTypes C.prog) (ds ++ gs)).all (· ≤ reachBytes) = true → X W args → W.ShapedOpen C.prog →
     Calls C.prog f args W fun e W' => ∃ v, e = .returned v ∧ s.post enc C.prog fn apart fresh handsOn again W args v W') :
    ReturnsInHanded a C os f .any (fun w args => (s.pre enc C.prog fn conds apart w args ∧ X w args) ∧ sizedMet enc C.prog fn (OpenSpec.ofChange s) apart w args) (s.post enc C.prog fn apart fresh handsOn again) := by
 refine returnsInHanded_of_calls own started noInit witness ?_
 intro w tape i _ hsh _ hok hpre _
 obtain ⟨_, _, _, fn', hfn', _, _, _, _, hval⟩ := hok
 have e : fn' = fn := Option.some.inj (hfn'.symm.trans hfn)
 subst e
 obtain ⟨⟨⟨ds, gs, before, hw, hc⟩, hx⟩, hz⟩ := hpre
 have hw' := DataW.Whole.of_heap (w' := w.forCall tape i) (by rfl) hw
 refine (contract (w.forCall tape i) w.heap.size i.args ds gs before hval hw' hc (hz.weights hw) (hX _ _ _ (by rfl) hx) hsh).mono fun e W' ⟨v, he, hp⟩ => ?_
 subst he
 exact ChangeSpec.post_blind hp
theorem strs_of_reads {P : Program} {w : World} {name : String} {g t e n : Nat} {l : List (List UInt8)} (h : Lib.VarReads P w name (.agg (l.map fun s => .lit (.string s))))
    (hg : P.globalNamed name = some g) (ht : (P.globals[g]?).map (·.type) = some t) (hu : P.underlying t = some (.array n e)) (he : P.underlying e = some .string) (hc : P.cellsOf e = 1) :
    ∀ j (hj : j < l.length), w.cell? ⟨g, j, none⟩ = some (.string ⟨l[j].toArray⟩) := by
 obtain ⟨g', t', cs, fuel, p, h1, h2, h3, h4⟩ := h
 obtain rfl := Option.some.inj (hg.symm.trans h1)
 obtain rfl := Option.some.inj (ht.symm.trans h2)
 obtain ⟨xs, m, _, ex, hlen, hn, hel⟩ := DataW.trod_array hu h4
 have exx := DataW.agg.inj (Prod.mk.inj ex).1
 intro j hj
 have hxl : xs.length = l.length := by have := congrArg List.length exx; simpa using this.symm
 have hk := hel j (by omega)
 rw [hc, Nat.mul_one, List.getElem?_eq_getElem (by omega : j < xs.length)] at hk
 obtain ⟨s, hs, hx, _⟩ := DataW.trod_string he hk
 have hd : (xs[j]'(by omega)).1 = .lit (.string l[j]) := by
  have := congrArg (fun l => l[j]?) exx
  simp only [List.getElem?_map, List.getElem?_eq_getElem hj, List.getElem?_eq_getElem (by omega : j < xs.length), Option.map_some, Option.some.injEq] at this
  exact this.symm
 rw [hx] at hd
 have hsl : s.data.toList = l[j] := by simpa using hd
 rw [World.var?_cell hg h3 j]
 have hcs : (cs.toList.drop j).take 1 = [.string s] := hs
 have : cs.toList[j]? = some (.string s) := by
  cases hdj : cs.toList.drop j with
  | nil => rw [hdj] at hcs; cases hcs
  | cons a r =>
   rw [hdj] at hcs
   have ha : a = .string s := by simpa using hcs
   have h0 : (cs.toList.drop j)[0]? = some a := by rw [hdj]; rfl
   rw [List.getElem?_drop, Nat.add_zero] at h0
   rw [h0, ha]
 rw [← Array.getElem?_toList, this, ← hsl]
end Go.Proofs.YtmkppkjikifdlaaGreatDoor
