/-
  DERIVED. Command of postroomkeep, at whatever kind and depth.
-/
import Derived.Test.YtlgbmnmoobpkkaaDoorScCmd2
namespace Go.Proofs.YtlgbmnmoobpkkaaDoor.Sc
open Go.RowKit
open Tk (Tok)

theorem CmdPost.up {c : Cmd} {n n' : Nat} {w w' : World} {e : Ending} (h : CmdPost c n w e w') (hn : n ≤ n') : CmdPost c n' w e w' := by
  obtain ⟨vs, h1, h2, h3⟩ := h
  exact ⟨vs, h1, cmd_le hn h2, h3⟩
theorem texts_if (x : Stk) : textsS 2 x = textsS 3 x := rfl
/-- Command at a depth of 2 - m -/
theorem cmd_all : ∀ (m : Nat), m ≤ 2 → CmdAt m (m * 7 + 1) (2 - (m : Int))
  | 0, _ => fun n y vs F w' hr => by
    obtain ⟨_, G, c, -, rfl, -, -, hb⟩ := stk_open hr
    rw [cmdS]
    by_cases h : kindC y = 2
    · rw [if_pos h, h, texts_if]
      exact cmd_plain 3 y _ _ w' hb (.inr ⟨h, rfl, by decide⟩) (by decide)
    · rw [if_neg h]
      exact cmd_plain _ y _ _ w' hb (.inl ⟨rfl, h⟩) (by decide)
  | m + 1, hm => fun n y vs F w' hr => by
    obtain ⟨n', G, c, -, rfl, hs, -, hb⟩ := stk_open hr
    have ih := cmd_all m (by omega)
    have e : (2 : Int) - ((m + 1 : Nat) : Int) + 1 = 2 - (m : Int) := by omega
    have hd : 0 ≤ (2 : Int) - ((m + 1 : Nat) : Int) ∧ (2 : Int) - ((m + 1 : Nat) : Int) ≤ 1 := by omega
    by_cases h : kindC y = 2
    · have := cmd_if m (m * 7 + 1) n' y _ _ F w' (by rw [e]; exact ih) hs hb h hd
      exact this.mono fun e w2 h => h.up (by omega)
    · rw [cmdS, if_neg h]
      exact (cmd_plain _ y _ _ w' hb (.inl ⟨rfl, h⟩) (by omega)).mono fun e w2 h => h.up (by omega)
end Go.Proofs.YtlgbmnmoobpkkaaDoor.Sc
