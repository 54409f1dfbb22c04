/- On the way. -/
import Derived.Test.YtmkppkjikifdlaaGreatDoorTScTst4
set_option linter.unusedVariables false
set_option linter.unusedSimpArgs false
namespace Go.Proofs.YtmkppkjikifdlaaGreatDoor.Sc
open Go.RowKit
open Tk (Tok)
theorem info_tst : (Tryz.prog.info? 158).map (fun i => (i.zero, i.size, i.bytes)) = some (some (.agg #[.int .i64 0, .int .i64 0, .int .i64 0, .slice none 0 0, .slice none 0 0, .bool false, .int .i64 0, .slice none 0 0]), 8, 112) := by kernel_rfl
theorem ORow.shape {α : Type} {c : Cod α} {e : TypeId} {w : World} {base : Nat} {D : Dom} {v : Value} {ps : Held α} (h : ORow c e w base D v ps) : ∃ G cap, v = .slice G ps.length cap := by
 rcases h.1.2 with ⟨rfl, h0⟩ | ⟨g, cap, cur, rfl, _⟩
 ·exact ⟨none, 0, by rw [h0]⟩
 ·exact ⟨_, _, rfl⟩
end Go.Proofs.YtmkppkjikifdlaaGreatDoor.Sc
