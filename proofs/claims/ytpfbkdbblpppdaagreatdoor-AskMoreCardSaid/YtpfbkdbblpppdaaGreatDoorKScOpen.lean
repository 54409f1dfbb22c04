/-
  DERIVED. Of: ScOpen.
-/
import Derived.Test.YtpfbkdbblpppdaaGreatDoorDScStkMem
import Derived.Test.YtpfbkdbblpppdaaGreatDoorKScStkMem
set_option linter.unusedVariables false
set_option linter.unusedSimpArgs false
namespace Go.Proofs.YtpfbkdbblpppdaaGreatDoor.Sc
open Go Go.Joins Go.Deep Go.ChangeShapes Go.WideShapes Go.RowKit
set_option maxRecDepth 20000 in
theorem stick_open2 {H : Type} {enc : TypeId × Value → H} {w : World} {base base2 : Nat} {spare : Nat → Bool} {held : Bool} {v : Value} {d : DataW H} {p : List MemPlace} {ts : List TypeId} {ds : List (DataW H)} {j : Nat} (hsz : (DataW.weightsEach Tryz.prog ts ds).all (· ≤ reachBytes) = true) (htj : ts[j]? = some 29) (hdj : ds[j]? = some d) (hok : Value.okWide Tryz.prog w .any base2 29 v) (h : DataW.Trod enc Tryz.prog w base spare held 29 v d p) :
    ∃ (n : Nat) (s : Stk) (vs : List Value), v = .agg vs.toArray ∧ (cStk n).rep w (fun _ => True) s vs := by
  obtain ⟨cs, rfl, -⟩ := okWide_struct Tryz.underlying29 hok
  obtain ⟨fuel, hf⟩ := h
  have hf' : DataW.trod enc Tryz.prog w base spare held fuel 29 cs.toList = some (d, p) := hf
  obtain ⟨n, s, hs⟩ := (stk_both fuel).1 _ _ hf' fun n hn => by simpa using List.all_eq_true.1 hsz n (DataW.weights_mem_each htj hdj n hn)
  exact ⟨n, s, cs.toList, by rw [Array.toArray_toList], hs⟩
end Go.Proofs.YtpfbkdbblpppdaaGreatDoor.Sc
