/-
  DERIVED. A variable of twelve cells is written; a slice of one element. No program is walked here.
-/
import Derived.Test.YtpfbkdbblpppdaaGreatDoorScMem
set_option linter.unusedVariables false
set_option linter.unusedSimpArgs false
namespace Go.Proofs.YtpfbkdbblpppdaaGreatDoor.Sc
open Go.RowKit
open Tk (Tok)

theorem has_put12 {w : World} {b : Nat} {a0 a1 a2 a3 a4 a5 a6 a7 a8 a9 a10 a11 : Value} (h : Has w b [a0, a1, a2, a3, a4, a5, a6, a7, a8, a9, a10, a11]) (x0 x1 x2 x3 x4 x5 x6 x7 x8 x9 x10 x11 : Value) :
    Has ((((((((((((w.setCell ⟨b, 0, none⟩ x0).setCell ⟨b, 1, none⟩ x1).setCell ⟨b, 2, none⟩ x2).setCell ⟨b, 3, none⟩ x3).setCell ⟨b, 4, none⟩ x4).setCell ⟨b, 5, none⟩ x5).setCell ⟨b, 6, none⟩ x6).setCell ⟨b, 7, none⟩ x7).setCell ⟨b, 8, none⟩ x8).setCell ⟨b, 9, none⟩ x9).setCell ⟨b, 10, none⟩ x10).setCell ⟨b, 11, none⟩ x11) b [x0, x1, x2, x3, x4, x5, x6, x7, x8, x9, x10, x11] :=
  (((((((((((h.set' (i := 0) x0 (by simp)).set' (i := 1) x1 (by simp)).set' (i := 2) x2 (by simp)).set' (i := 3) x3 (by simp)).set' (i := 4) x4 (by simp)).set' (i := 5) x5 (by simp)).set' (i := 6) x6 (by simp)).set' (i := 7) x7 (by simp)).set' (i := 8) x8 (by simp)).set' (i := 9) x9 (by simp)).set' (i := 10) x10 (by simp)).set' (i := 11) x11 (by simp)
theorem has_free {w : World} {b : Nat} {a0 a1 a2 a3 a4 a5 a6 a7 a8 a9 a10 a11 : Value} (h : Has w b [a0, a1, a2, a3, a4, a5, a6, a7, a8, a9, a10, a11]) : w.frozen? ⟨b, 0, none⟩ = false ∧ w.frozen? ⟨b, 1, none⟩ = false ∧ w.frozen? ⟨b, 2, none⟩ = false ∧ w.frozen? ⟨b, 3, none⟩ = false ∧ w.frozen? ⟨b, 4, none⟩ = false ∧ w.frozen? ⟨b, 5, none⟩ = false ∧ w.frozen? ⟨b, 6, none⟩ = false ∧ w.frozen? ⟨b, 7, none⟩ = false ∧ w.frozen? ⟨b, 8, none⟩ = false ∧ w.frozen? ⟨b, 9, none⟩ = false ∧ w.frozen? ⟨b, 10, none⟩ = false ∧ w.frozen? ⟨b, 11, none⟩ = false :=
  ⟨h.2.1 0 (by simp), h.2.1 1 (by simp), h.2.1 2 (by simp), h.2.1 3 (by simp), h.2.1 4 (by simp), h.2.1 5 (by simp), h.2.1 6 (by simp), h.2.1 7 (by simp), h.2.1 8 (by simp), h.2.1 9 (by simp), h.2.1 10 (by simp), h.2.1 11 (by simp)⟩
/-- 'only block b was written, and it holds vs' -/
structure Wrote (w w' : World) (b : Nat) (vs : List Value) : Prop where
  has : Has w' b vs
  size : w'.heap.size = w.heap.size
  keep : ∀ x, x ≠ b → w'.heap[x]? = w.heap[x]?
  below : ∀ (B : Nat) (w0 : World), Below B w0 w → B ≤ b → Below B w0 w'
theorem wrote12 {w : World} {b : Nat} {a0 a1 a2 a3 a4 a5 a6 a7 a8 a9 a10 a11 : Value} (h : Has w b [a0, a1, a2, a3, a4, a5, a6, a7, a8, a9, a10, a11]) (x0 x1 x2 x3 x4 x5 x6 x7 x8 x9 x10 x11 : Value) :
    Wrote w ((((((((((((w.setCell ⟨b, 0, none⟩ x0).setCell ⟨b, 1, none⟩ x1).setCell ⟨b, 2, none⟩ x2).setCell ⟨b, 3, none⟩ x3).setCell ⟨b, 4, none⟩ x4).setCell ⟨b, 5, none⟩ x5).setCell ⟨b, 6, none⟩ x6).setCell ⟨b, 7, none⟩ x7).setCell ⟨b, 8, none⟩ x8).setCell ⟨b, 9, none⟩ x9).setCell ⟨b, 10, none⟩ x10).setCell ⟨b, 11, none⟩ x11) b [x0, x1, x2, x3, x4, x5, x6, x7, x8, x9, x10, x11] :=
  ⟨has_put12 h .., by simp [World.setCell], fun x hx => ((Below.heap_setCell _ _ _ _ hx).trans ((Below.heap_setCell _ _ _ _ hx).trans ((Below.heap_setCell _ _ _ _ hx).trans ((Below.heap_setCell _ _ _ _ hx).trans ((Below.heap_setCell _ _ _ _ hx).trans ((Below.heap_setCell _ _ _ _ hx).trans ((Below.heap_setCell _ _ _ _ hx).trans ((Below.heap_setCell _ _ _ _ hx).trans ((Below.heap_setCell _ _ _ _ hx).trans ((Below.heap_setCell _ _ _ _ hx).trans ((Below.heap_setCell _ _ _ _ hx).trans ((Below.heap_setCell _ _ _ _ hx).trans rfl)))))))))))), fun B w0 h0 hB => ((((((((((((h0.setCell hB _).setCell hB _).setCell hB _).setCell hB _).setCell hB _).setCell hB _).setCell hB _).setCell hB _).setCell hB _).setCell hB _).setCell hB _).setCell hB _)⟩
theorem sat_lone {α : Type} {c : Cod α} {w : World} {F : Dom} {x : α} {vs : List Value} {b : Nat} (h : c.rep w F x vs) (hb : Has w b vs) (hF : F b) : SAt c w F (.slice (some ⟨b, 0, none⟩) 1 1) [x] := by
  refine ⟨_, 1, rfl, Nat.le_refl _, fun i y hi => ?_⟩
  have h0 : i = 0 := by have := (List.getElem?_eq_some_iff.1 hi).1; simp at this; omega
  subst h0
  obtain rfl : x = y := Option.some.inj hi
  exact ⟨b, 0, rfl, hF, hb.2.2, vs, h, fun j u hj => by simpa using hb.1 j u hj⟩
theorem ifC_rep {m : Nat} {w : World} {F : Dom} {t : Tst} {ts : List Value} {th el : List Cmd} {vh ve : Value} (ht : (cTst (m + 1)).rep w F t ts) (h1 : SAt (cCmd m) w F vh th) (h2 : SAt (cCmd m) w F ve el) : (cCmd (m + 1)).rep w F ⟨2, [], t, th, el⟩ (.int .i64 2 :: .slice none 0 0 :: (ts ++ [vh, ve])) :=
  ⟨_, ts, vh, ve, rfl, SAt.nil _ _ _, ht, h1, h2⟩
end Go.Proofs.YtpfbkdbblpppdaaGreatDoor.Sc
