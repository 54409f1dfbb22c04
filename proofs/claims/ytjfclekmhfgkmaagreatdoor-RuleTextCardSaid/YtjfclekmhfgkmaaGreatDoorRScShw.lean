/- On the way. -/
import Derived.Test.YtjfclekmhfgkmaaGreatDoorRScShow
import Derived.Test.YtjfclekmhfgkmaaGreatDoorRRuAll
import Derived.Test.YtjfclekmhfgkmaaGreatDoorRRdZ
import Derived.Test.YtjfclekmhfgkmaaGreatDoorRScTk9
set_option linter.unusedVariables false
set_option linter.unusedSimpArgs false
namespace Go.Proofs.YtjfclekmhfgkmaaGreatDoor.Sc
open Go.RowKit
open Tk (Tok)
theorem show_fine (n : Nat) (cs : List Cmd) (v : Value) (F : Dom) (w : World) (hv : SAt (cCmd n) w F v cs) (hF : ∀ c ∈ cs, FormC c) (hFl : ∀ b, F b → b < w.heap.size) (htab : Tabs w w.heap.size) (hlen : (cs.flatMap wC).length ≤ 1000000) (h0 : checkS cs = 0) :
    Calls Tryz.prog 5 #[v] w fun e w' => (∃ G c, e = .returned (.tuple #[.slice G (cs.flatMap wC).length c, .int .i64 0]) ∧ SAt cTok w' (fun b => b < w'.heap.size) (.slice G (cs.flatMap wC).length c) (cs.flatMap wC)) ∧ Below w.heap.size w w' := by
 refine (show_any n cs v F w hv hF hFl htab hlen).mono ?_
 intro e w' h
 obtain ⟨-, h2, h3⟩ := h
 obtain ⟨u, rfl, hu⟩ := h2 h0
 obtain ⟨G, c, rfl⟩ := row_slice hu
 have hs : SAt cTok w' (fun _ => True) (.slice G (cs.flatMap wC).length c) (cs.flatMap wC) := SAt.of_row (f := tokC) (hf := fun _ => rfl) hu (fun _ _ => trivial)
 exact ⟨⟨G, c, rfl, (SAt.bd (fun _ _ hr => hr) hs).mono (fun _ hb => hb.2)⟩, h3⟩
end Go.Proofs.YtjfclekmhfgkmaaGreatDoor.Sc
