/-
  DERIVED. Small words that all texts of this seat share: 'picked', lists of bytes. No statement of the seat is proved here.
-/
import Derived.Test.YtpfbkdbblpppdaaGreatDoorProg
import Derived.WalkKit
import Derived.WalkLawsBesides
import Derived.WalkSpells
import Derived.Outline
import Derived.LoopTactic
import Derived.Lib.Hide
set_option linter.unusedVariables false
set_option linter.unusedSimpArgs false
namespace Go.Proofs.YtpfbkdbblpppdaaGreatDoor
open Go.RowKit

/-- an int's bounds -/
theorem wf_bd {n : Int} (h : (Lit.int .i64 n).wf = true) : -9223372036854775808 ≤ n ∧ n ≤ 9223372036854775807 := by
  have h1 : IntKind.i64.min = -9223372036854775808 := by decide
  have h2 : IntKind.i64.max = 9223372036854775807 := by decide
  simp only [Lit.wf, h1, h2, Bool.and_eq_true, decide_eq_true_eq] at h
  exact h
theorem ret_int {k : IntKind} {a b : Int} (h : a = b) : Ending.returned (.int k a) = .returned (.int k b) := by rw [h]

/-- 'picked(n, m)': a number from 0 to m - 1. -/
def pick (n m : Int) : Nat := ((if n < 0 then -(n + 1) else n) % m).toNat
theorem pick_lt (n : Int) (m : Nat) (h : 1 ≤ m) : pick n m < m := by
  unfold pick
  have : (if n < 0 then -(n + 1) else n) % (m : Int) < m := Int.emod_lt_of_pos _ (by omega)
  omega
theorem pick_lt_int (n m : Int) (h : 1 ≤ m) : (pick n m : Int) < m := by
  unfold pick
  have h1 : (if n < 0 then -(n + 1) else n) % m < m := Int.emod_lt_of_pos _ (by omega)
  have h2 : 0 ≤ (if n < 0 then -(n + 1) else n) % m := Int.emod_nonneg _ (by omega)
  omega
theorem pick_val (n m : Int) (h : 1 ≤ m) : (pick n m : Int) = (if n < 0 then -(n + 1) else n) % m := by
  unfold pick
  have h2 : 0 ≤ (if n < 0 then -(n + 1) else n) % m := Int.emod_nonneg _ (by omega)
  omega

set_option maxHeartbeats 400000 in
theorem picked_any (n m : Int) (w : World) (h0 : -9223372036854775808 ≤ n) (h1 : n ≤ 9223372036854775807) (h2 : 1 ≤ m) (h3 : m ≤ 9223372036854775807) :
    Calls Tryz.prog 15 #[.int .i64 n, .int .i64 m] w fun e w' => e = .returned (.int .i64 (pick n m)) ∧ w = w' := by
  have hv := pick_val n m h2
  have hm : (m == 0) = false := by simp; omega
  by_cases hn : n < 0
  · rw [if_pos hn] at hv
    have HV := Lib.hid hv; clear hv
    go_enter Tryz.func15, Tryz.ntmps15
    go_wp2
    go_ret
    exact ⟨ret_int (by rw [HV.out]; rw [← Int.neg_tmod]; exact Int.tmod_eq_emod_of_nonneg (by omega)), rfl⟩
  · rw [if_neg hn] at hv
    have hn' : 0 ≤ n := by omega
    have HV := Lib.hid hv; clear hv
    go_enter Tryz.func15, Tryz.ntmps15
    go_wp2
    go_ret
    exact ⟨ret_int (by rw [HV.out]), rfl⟩
theorem infoU8 : (Tryz.prog.info? 5).map (fun i => (i.zero, i.size, i.bytes)) = some (some (.int .u8 0), 1, 1) := by kernel_rfl
end Go.Proofs.YtpfbkdbblpppdaaGreatDoor
