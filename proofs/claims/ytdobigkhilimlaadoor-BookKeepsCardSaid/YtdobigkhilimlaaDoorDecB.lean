/-
  DERIVED. Decode, handed a value of which the bytes are known.
-/
import Derived.Test.YtdobigkhilimlaaDoorDecode
namespace Go.Proofs.YtdobigkhilimlaaDoor
open Go.RowKit

theorem decode_bytes (v : Value) (l : List UInt8) (m : Int) (w : World) (h : Bytes w v l) (hl : l.length ≤ 200000) (hm : w.cell? ⟨0, 0, none⟩ = some (.int .i64 m)) :
    Calls Tryd.prog 12 #[v] w fun e w' => (∃ v, e = .returned (.tuple #[.agg #[.int .i64 (decodeV l).1.1, v], .int .i64 (decodeV l).2]) ∧ EntsAt w' v (decodeV l).1.2) ∧ Below w.heap.size w w' := by
  obtain ⟨a, cap, rfl, hcap, hat, hap⟩ := h
  exact decode_any a cap l m w hat hcap hap hl hm
theorem EntsAt.slice {w : World} {v : Value} {xs : List Ent} (h : EntsAt w v xs) : SliceOf v xs.length := by
  obtain ⟨G, cap, rfl, _⟩ := h
  exact ⟨G, cap, rfl⟩
end Go.Proofs.YtdobigkhilimlaaDoor
