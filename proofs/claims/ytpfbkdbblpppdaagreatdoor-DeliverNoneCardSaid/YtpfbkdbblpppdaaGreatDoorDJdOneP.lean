/-
  DERIVED. Of: JdOneP.
-/
import Derived.Test.YtpfbkdbblpppdaaGreatDoorDJdFlagP
set_option linter.unusedVariables false
set_option linter.unusedSimpArgs false
namespace Go.Proofs.YtpfbkdbblpppdaaGreatDoor.Jd
open Sc (Str Tst Cmd T0 reqC wC FormC GoodC ruleS Stk)

theorem rule_small (l : List Cmd) (hk : ∀ c ∈ l, c.kind ≠ 1) (hf : ∀ c ∈ l, Sc.fitC 0 c = true) (ht : (l.flatMap wC).length ≤ 300) (hr : Sc.cmdsR Sc.extL l = 0) : ruleS (reqC :: l) = 0 := by
  have hc : Sc.checkS (reqC :: l) = 0 := by
    have h1 : (wC reqC).length ≤ 100 := by decide
    unfold Sc.checkS
    rw [if_pos, if_neg]
    · rw [List.flatMap_cons, List.length_append]; omega
    · rw [List.all_cons, Sc.req_fit, Bool.true_and]
      exact List.all_eq_true.2 hf
  unfold ruleS
  rw [hc, if_neg (by decide), Sc.go_req, Sc.go_rest _ hk]
  exact hr
end Go.Proofs.YtpfbkdbblpppdaaGreatDoor.Jd
