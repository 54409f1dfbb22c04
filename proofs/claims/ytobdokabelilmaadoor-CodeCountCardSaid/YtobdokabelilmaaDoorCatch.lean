/-
  DERIVED. The deferred closure of 'List' of who: for a frame that panics, for one that returns.
-/
import Derived.Test.YtobdokabelilmaaDoorAddress
import Derived.Tactics
import Derived.Tactics2
import Derived.Defers
import Derived.Recover
namespace Go.Proofs.YtobdokabelilmaaDoor
open Go.RowKit

/-- 'p and q, two cells of their own blocks, were turned; all else is as it was' -/
def Turned (w w' : World) (p q : Nat) : Prop := w'.os = w.os ∧ w'.tape = w.tape ∧ w'.output = w.output ∧ w.heap.size ≤ w'.heap.size ∧ ∀ k, k ≠ p → k ≠ q → w'.heap[k]? = w.heap[k]?

theorem catch_idle (p q : Addr) (w : World) :
    CallsD Tryd.prog 82 #[.pointer (some p), .pointer (some q)] .returning w fun e u' w' => e = .returned (.tuple #[]) ∧ u' = .returning ∧ w' = w := by
  refine callsD_of_wpS Tryd.func82 rfl fun c₀ cs hu => ?_
  apply wpS_seq
  apply wpS_region
  simp [wpOpsS, go_sem, recoverD, hu, Tryd.ntmps82, Exit.thenS]
  refine wpS_of_wp ?_
  show Code.wp _ _ _ ⟨#[.pointer (some p), .pointer (some q), .nilIface, .nilIface, undef, undef, undef, undef], []⟩ w
  go_wp2
  cases c₀
  simp_all [bodyPostS, results, Tryd.results82]

theorem catch_panicking (p q : Nat) (x y : Value) (older : List PanicEntry) (w : World) (hp : w.cell? ⟨p, 0, none⟩ = some x) (hq : w.cell? ⟨q, 0, none⟩ = some y) (fp : w.frozen? ⟨p, 0, none⟩ = false) (fq : w.frozen? ⟨q, 0, none⟩ = false) (hne : p ≠ q) :
    CallsD Tryd.prog 82 #[.pointer (some ⟨p, 0, none⟩), .pointer (some ⟨q, 0, none⟩)] (.panicking ({ v := .iface 30 (.int .i64 3), recovered := false } :: older)) w fun e u' w' =>
      e = .returned (.tuple #[]) ∧ u' = .panicking ({ v := .iface 30 (.int .i64 3), recovered := true } :: older) ∧ w'.cell? ⟨p, 0, none⟩ = some (.slice none 0 0) ∧ w'.cell? ⟨q, 0, none⟩ = some (.int .i64 3) ∧ Turned w w' p q := by
  refine callsD_of_wpS Tryd.func82 rfl fun c₀ cs hu => ?_
  apply wpS_seq
  apply wpS_region
  simp [wpOpsS, go_sem, recoverD, hu, Tryd.ntmps82, Exit.thenS]
  refine wpS_of_wp ?_
  show Code.wp _ _ _ ⟨#[.pointer (some ⟨p, 0, none⟩), .pointer (some ⟨q, 0, none⟩), .iface 30 (.int .i64 3), .iface 30 (.int .i64 3), undef, undef, undef, undef], []⟩ w
  have hta : ∀ w, (Instr.typeAssert (.iface 30 (.int .i64 3)) 20 30 false).run Tryd.prog w = .ok (.int .i64 3) w := fun _ => by kernel_rfl
  go_wp2
  go_region
  have ne : (⟨q, 0, none⟩ : Addr) ≠ ⟨p, 0, none⟩ := fun e => hne (congrArg Addr.block e).symm
  have hq2 : (w.setCell ⟨p, 0, none⟩ (.slice none 0 0)).cell? ⟨q, 0, none⟩ = some y := (World.cell?_setCell_other _ _ _ _ (Ne.symm ne)).trans hq
  have e0 : ((w.setCell ⟨p, 0, none⟩ (.slice none 0 0)).setCell ⟨q, 0, none⟩ (.int .i64 3)).cell? ⟨p, 0, none⟩ = some (.slice none 0 0) :=
    (World.cell?_setCell_other _ _ _ _ ne).trans (World.cell?_setCell_same _ _ _ hp)
  have e1 : ((w.setCell ⟨p, 0, none⟩ (.slice none 0 0)).setCell ⟨q, 0, none⟩ (.int .i64 3)).cell? ⟨q, 0, none⟩ = some (.int .i64 3) := World.cell?_setCell_same _ _ _ hq2
  refine ⟨rfl, _, rfl, .tuple #[], by simp [results, Tryd.results82], rfl, rfl, e0, e1, rfl, rfl, rfl, by simp [World.setCell, World.drew], fun k h1 h2 => ?_⟩
  exact (Below.heap_setCell _ _ _ _ h2).trans (Below.heap_setCell _ _ _ _ h1)
end Go.Proofs.YtobdokabelilmaaDoor
