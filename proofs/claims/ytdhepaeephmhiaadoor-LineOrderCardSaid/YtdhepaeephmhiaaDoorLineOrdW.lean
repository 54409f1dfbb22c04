/-
  DERIVED. The law LineOrder: its walk, with the card's arguments.
-/
import Derived.Test.YtdhepaeephmhiaaDoorLineOrder
namespace Go.Proofs.YtdhepaeephmhiaaDoor
open Go.RowKit
theorem lineOrdW_walk (a0 a1 a2 b0 b1 b2 : ByteArray) (G : Option Addr) (n c : Nat) (x : Nat → Nat → ByteArray) (bo : ByteArray) (z : Int) (m : Int) (w : World) (h0 : a0.size ≤ maxLen) (h1 : a1.size ≤ maxLen) (_h2 : a2.size ≤ maxLen) (_k0 : b0.size ≤ maxLen) (_k1 : b1.size ≤ maxLen) (_k2 : b2.size ≤ maxLen) (_hx : StrRows w G n 2 x ∧ n ≤ maxLen) (_hbo : bo.size ≤ maxLen) (hz : -9223372036854775808 ≤ z ∧ z ≤ 9223372036854775807) (hm : w.cell? ⟨0, 0, none⟩ = some (.int .i64 m)) :
    Calls Tryd.prog 4 #[.agg #[.string a0, .string a1, .string a2, .string b0, .string b1, .string b2, .slice G n c, .string bo], .int .i64 z] w fun e w' => e = .returned (.bool true) ∧ Below w.heap.size w w' :=
  lineOrder_walk a0 a1 a2 b0 b1 b2 G n c bo z m w h0 h1 hz.1 hz.2 hm
end Go.Proofs.YtdhepaeephmhiaaDoor
