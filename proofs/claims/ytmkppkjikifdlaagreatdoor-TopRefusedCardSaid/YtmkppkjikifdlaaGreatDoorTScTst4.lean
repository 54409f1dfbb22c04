/- On the way. -/
import Derived.Test.YtmkppkjikifdlaaGreatDoorTScTstH
import Derived.Deep.DeepCutAuto
import Derived.Deep.CutBlock
import Derived.IntWalk
set_option linter.unusedVariables false
set_option linter.unusedSimpArgs false
namespace Go.Proofs.YtmkppkjikifdlaaGreatDoor.Sc
open Go.RowKit
open Tk (Tok)
theorem SAt.bd {α : Type} {c : Cod α} {w : World} {F : Dom} {v : Value} {xs : List α} (hr : ∀ x vs, c.rep w F x vs → c.rep w (fun b => F b ∧ b < w.heap.size) x vs) (h : SAt c w F v xs) : SAt c w (fun b => F b ∧ b < w.heap.size) v xs := by
 obtain ⟨G, cap, hv, hc, hf⟩ := h
 refine ⟨G, cap, hv, hc, fun i x hi => ?_⟩
 obtain ⟨g, off, hG, hF, hg, vs, h1, h2⟩ := hf i x hi
 exact ⟨g, off, hG, ⟨hF, hg⟩, hg, vs, hr x vs h1, h2⟩
theorem tst_bd : ∀ (n : Nat) {w : World} {F : Dom} {t : Tst} {vs : List Value}, (cTst n).rep w F t vs → (cTst n).rep w (fun b => F b ∧ b < w.heap.size) t vs
 | 0, _, _, _, _, h => h.elim
 | n + 1, _, _, _, _, ⟨vn, vk, vt, h, h1, h2, h3⟩ => ⟨vn, vk, vt, h, sat_lt h1, sat_lt h2, SAt.bd (fun _ _ hr => tst_bd n hr) h3⟩
theorem sat_one_tst {w : World} {F : Dom} {K : Nat} {t : Tst} {vs : List Value} {ty : TypeId} (h : (cTst K).rep w F t vs) : SAt (cTst K) (w.alloc (.cells vs.toArray ty)) (fun b => F b ∨ b = w.heap.size) (.slice (some ⟨w.heap.size, 0, none⟩) 1 1) [t] := by
 refine ⟨_, 1, rfl, Nat.le_refl _, fun i y hi => ?_⟩
 have h0 : i = 0 := by have := (List.getElem?_eq_some_iff.1 hi).1; simp at this; omega
 subst h0
 obtain rfl : t = y := Option.some.inj hi
 refine ⟨w.heap.size, 0, rfl, .inr rfl, by simp, vs, (cTst K).mono ((cTst K).stable h (Same.of_below (ba (Below.refl _ _) _)) (by simp)) (fun b hb => .inl hb), fun j u hj => ?_⟩
 have := (Has.alloc w vs ty).1 j u hj
 simpa using this
theorem oct_form {K : Nat} {w : World} {F : Dom} {t : Tst} {vs : List Value} (h : (cTst K).rep w F t vs) : ∃ k m p G1 n1 c1 G2 n2 c2 o l G3 n3 c3, vs = [.int .i64 k, .int .i64 m, .int .i64 p, .slice G1 n1 c1, .slice G2 n2 c2, .bool o, .int .i64 l, .slice G3 n3 c3] := by
 obtain ⟨_, G1, c1, G2, c2, G3, c3, -, rfl, -⟩ := tst_open h
 exact ⟨_, _, _, _, _, _, _, _, _, _, _, _, _, _, rfl⟩
end Go.Proofs.YtmkppkjikifdlaaGreatDoor.Sc
