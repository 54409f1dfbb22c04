/-
  DERIVED. Of: JdMore.
-/
import Derived.Test.YtpfbkdbblpppdaaGreatDoorDJdC
import Derived.Test.YtpfbkdbblpppdaaGreatDoorFJdGood
import Derived.Test.YtpfbkdbblpppdaaGreatDoorFRuAll
import Derived.Laws.StructEq
import Derived.BigQuiet
import Derived.Deep.RegionHeld3
set_option linter.unusedVariables false
set_option linter.unusedSimpArgs false
namespace Go.Proofs.YtpfbkdbblpppdaaGreatDoor.Jd
open Go.RowKit
open Sc (Str Tst Cmd cStr strC tstC cTst cCmd RW Stk cStk scriptS ruleS FormC GoodC wC reqC T0 cmdS)

/-! plain -/
theorem cB_two : ∀ m, m ≤ 2 → Sc.cB m ≤ 2000
  | 0, _ | 1, _ | 2, _ => by decide
theorem cmdS_okk (m : Nat) (hm : m ≤ 2) (x : Stk) : CmdOk (cmdS m x) := ⟨Sc.cmdS_form m x, Sc.cmdS_good m x, Sc.texts_small m x, cmdS_goodJ m x, Nat.le_trans (Sc.cmdS_len m x) (cB_two m hm)⟩
theorem cmdsS_okk (m : Nat) (hm : m ≤ 2) (l : List Stk) : ∀ c ∈ Sc.cmdsS m l, CmdOk c := fun c hc => by
  obtain ⟨y, -, rfl⟩ := List.mem_map.1 hc
  exact cmdS_okk m hm y
theorem one_okk {a : Cmd} (h : CmdOk a) : ∀ c ∈ [a], CmdOk c := fun c hc => by rw [List.mem_singleton] at hc; rw [hc]; exact h
/-! walks -/
set_option maxHeartbeats 2000000 in
set_option maxRecDepth 20000 in
theorem sameCrs_any (u1 u2 : Value) (c : Crs) (F1 F2 : Dom) (w : World) (h1 : SAt cAct w F1 u1 c.acts) (h2 : SAt cAct w F2 u2 c.acts) (hl : c.acts.length ≤ 1000000) :
    Calls Tryz.prog 22 #[.agg #[u1, .int .i64 c.flags, .bool c.asked, .int .i64 c.fault], .agg #[u2, .int .i64 c.flags, .bool c.asked, .int .i64 c.fault]] w fun e w' => e = .returned (.bool true) ∧ Below w.heap.size w w' := by
  obtain ⟨G1, c1, rfl, -⟩ := h1.form
  obtain ⟨G2, c2, rfl, -⟩ := h2.form
  have hA1 := ba (Below.refl w.heap.size w) (.cells #[.slice G1 c.acts.length c1, .int .i64 c.flags, .bool c.asked, .int .i64 c.fault] 53)
  have hA2 := ba hA1 (.cells #[.slice G2 c.acts.length c2, .int .i64 c.flags, .bool c.asked, .int .i64 c.fault] 53)
  have HC := Lib.hid (sameA_any _ _ c.acts _ _ _ (h1.down hA2) (h2.down hA2) hl)
  have HA := Lib.hid hA2
  obtain ⟨acts, flags, asked, fault⟩ := c
  dsimp only at HC HA ⊢
  obtain ⟨n, hn⟩ : ∃ n, n = acts.length := ⟨_, rfl⟩
  rw [← hn] at HC HA ⊢
  clear h1 h2 hA1 hA2 hl hn
  go_enter Tryz.func22, Tryz.ntmps22
  go_wp2_with fail
  refine HC.out.mono ?_
  rintro e w1 ⟨rfl, hb1⟩
  have HB := Lib.hid (bt HA.out hb1)
  clear hb1 HC HA
  go_wp2_with fail
  go_ret
  exact ⟨rfl, HB.out⟩
end Go.Proofs.YtpfbkdbblpppdaaGreatDoor.Jd
