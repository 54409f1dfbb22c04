/- On the way. -/
import Derived.Test.YtpfbkdbblpppdaaGreatDoorEJgC
set_option linter.unusedVariables false
set_option linter.unusedSimpArgs false
set_option maxHeartbeats 4000000
set_option maxRecDepth 20000
namespace Go.Proofs.YtpfbkdbblpppdaaGreatDoor
open Go.RowKit
def oneL (l : List UInt8) : Bool := decide (l.length ≤ 2000) && match listL l with | some ys => ys.length == 1 | none => false
def SliceOf (v : Value) (n : Nat) : Prop := ∃ a cap, v = .slice a n cap
theorem SliceOf.own {w : World} {base e size n : Nat} {v : Value} {xs : List Value} (h : w.ownsRow base e size v n xs) : SliceOf v n := by
 rcases h.2 with ⟨rfl, rfl⟩ | ⟨g, cap, cur, rfl, _⟩
 ·exact ⟨none, 0, rfl⟩
 ·exact ⟨_, cap, rfl⟩
theorem list_big (s : ByteArray) (w : World) (hs : 2000 < s.size) (hs2 : s.size ≤ 1000000000) :
    Calls Tryz.prog 89 #[.string s] w fun e w' => e = .returned (.tuple #[.slice none 0 0, .int .i64 1]) ∧ Below w.heap.size w w' := by
 have hmf : ∀ (fn : Fn) (first cap : Array Value) (w : World), (Instr.makeFunc fn first cap).run Tryz.prog w = .ok (.func fn first cap) w := fun _ _ _ _ => rfl
 go_enter_defers Tryz.func89, Tryz.ntmps89
 go_wp2_with fail
 have e1 : ((w.alloc (.cells #[.slice none 0 0] 184)).alloc (.cells #[.int .i64 1] 42)).cell? ⟨w.heap.size + 1, 0, none⟩ = some (.int .i64 1) := by
  simp
 have e0 : ((w.alloc (.cells #[.slice none 0 0] 184)).alloc (.cells #[.int .i64 1] 42)).cell? ⟨w.heap.size, 0, none⟩ = some (.slice none 0 0) :=
  moved (alloc_cell w #[.slice none 0 0] 184 0 _ rfl) (ba (Below.refl _ _) _) (Nat.le_refl _)
 simp [bodyPostD, Leaves, results, Tryz.results89, go_sem, e0, e1]
 exact ba (ba (Below.refl _ w) _) _
theorem list_form (s : ByteArray) (m : Int) (w : World) (hs : s.size ≤ 1000000000) (hm : w.cell? ⟨6, 0, none⟩ = some (.int .i64 m)) :
    Calls Tryz.prog 89 #[.string s] w fun e w' => (∃ v n c, e = .returned (.tuple #[v, .int .i64 c]) ∧ SliceOf v n ∧ (oneL s.data.toList = true ↔ c = 0 ∧ n = 1)) ∧ Below w.heap.size w w' := by
 have hl : s.data.toList.length = s.size := by simp
 by_cases h : s.size ≤ 2000
 ·refine (list_any s m w h hm).mono ?_
  rintro e w' ⟨hsays, hb⟩
  refine ⟨?_, hb⟩
  have ho : oneL s.data.toList = (match listL s.data.toList with | some ys => ys.length == 1 | none => false) := by
   unfold oneL
   rw [decide_eq_true (by omega)]; rfl
  rw [ho]
  rcases hsays with ⟨hn, rfl⟩ | ⟨ys, hn, hy, rfl⟩ | ⟨ys, v, hn, hy, rfl, hown⟩
  ·exact ⟨_, 0, 3, rfl, ⟨none, 0, rfl⟩, by rw [hn]; simp⟩
  ·exact ⟨_, 0, 5, rfl, ⟨none, 0, rfl⟩, by rw [hn]; simp; omega⟩
  ·exact ⟨_, ys.length, 0, rfl, SliceOf.own hown, by rw [hn]; simp⟩
 ·refine (list_big s w (by omega) hs).mono ?_
  rintro e w' ⟨rfl, hb⟩
  refine ⟨⟨_, 0, 1, rfl, ⟨none, 0, rfl⟩, ?_⟩, hb⟩
  have ho : oneL s.data.toList = false := by
   unfold oneL
   rw [decide_eq_false (by omega)]; rfl
  rw [ho]; simp
end Go.Proofs.YtpfbkdbblpppdaaGreatDoor
