/- On the way. -/
import Derived.Test.YtpfbkdbblpppdaaGreatDoorEBxA
import Derived.Test.YtpfbkdbblpppdaaGreatDoorEJgC
import Derived.BigQuiet
import Derived.Deep.QuietTactic
set_option linter.unusedVariables false
set_option linter.unusedSimpArgs false
set_option maxHeartbeats 2000000
set_option maxRecDepth 20000
namespace Go.Proofs.YtpfbkdbblpppdaaGreatDoor
open Go.RowKit
theorem kfind_any (v : Value) (a' : Option Addr) (n' c' : Nat) (l : List Bx) (F : Dom) (name : List UInt8) (w : World) (h : SAt cBox w F v l) (hl : l.length ≤ 1000) :
    Calls Tryz.prog 29 #[.agg #[v, .slice a' n' c'], .string ⟨name.toArray⟩] w fun e w' => e = .returned (.int .i64 (idx (findB l name))) ∧ Below w.heap.size w w' := by
 obtain ⟨G, cap, rfl, hcap⟩ := h.form
 have HX := Lib.hid (Has.alloc w [.slice G l.length cap, .slice a' n' c'] 73)
 have HA := Lib.hid (ba (Below.refl w.heap.size w) (.cells #[.slice G l.length cap, .slice a' n' c'] 73))
 have H := Lib.hid h
 clear h
 go_enter Tryz.func29, Tryz.ntmps29
 go_wp2_with fail
 obtain ⟨N, hN⟩ : ∃ N, N = w.heap.size := ⟨_, rfl⟩
 obtain ⟨W0, hW0⟩ : ∃ W0, W0 = w.alloc (.cells #[.slice G l.length cap, .slice a' n' c'] 73) := ⟨_, rfl⟩
 rw [← hW0] at HX HA ⊢
 rw [← hN] at HX ⊢
 clear hW0 hN
 obtain ⟨x0, x1, -, -⟩ := HX.out.two
 go_loop [5] (fun i => ∃ j : Nat, j ≤ l.length ∧ i = .int .i64 j ∧ (∀ k (hk : k < l.length), k < j → (l[k].name == name) = false)) (fun i => l.length - (intOf i).toNat)
 case atStart => exact ⟨0, Nat.zero_le _, rfl, fun k _ h => absurd h (Nat.not_lt_zero _)⟩
 case round =>
  obtain ⟨j, hj, rfl, hno⟩ := hrel
  have HNO := Lib.hid hno
  clear hno
  by_cases hlt : j < l.length
  ·obtain ⟨g, off, a, c, rfl, hF, hg, hac, hm, c0, c1, c2⟩ := box_get H.out HA.out j hlt
   clear hm
   cases hp : (l[j].name == name) with
   | true =>
    have hfi : Hid (idx (findB l name) = (j : Int)) := by
     have : findB l name = some j := by
      unfold findB
      rw [List.findIdx?_eq_some_iff_getElem]
      exact ⟨hlt, hp, fun k hk => by rw [HNO.out k (by omega) hk]; decide⟩
     unfold Hid; rw [this]; rfl
    clear HNO
    generalize l[j] = b at c0 c1 c2 hp
    go_wp2_with fail
    go_ret
    exact ⟨by rw [hfi.out]; rfl, HA.out⟩
   | false =>
    have hno2 : Hid (∀ k (hk : k < l.length), k < j + 1 → (l[k].name == name) = false) := by
     intro k hk hkj
     rcases Nat.lt_succ_iff_lt_or_eq.1 hkj with h | h
     ·exact HNO.out k hk h
     ·subst h; exact hp
    clear HNO
    generalize l[j] = b at c0 c1 c2 hp
    go_wp2_with fail
    go_round
    case rel => exact ⟨j + 1, hlt, by go_num, hno2.out⟩
    case measure => simp [intOf]; omega
  ·obtain rfl : j = l.length := by omega
   have hfi : Hid (idx (findB l name) = -1) := by
    have : findB l name = none := by
     unfold findB
     rw [List.findIdx?_eq_none_iff]
     intro b hb
     obtain ⟨k, hk, rfl⟩ := List.getElem_of_mem hb
     exact HNO.out k hk hk
    unfold Hid; rw [this]; rfl
   clear HNO
   go_wp2_with fail
   go_ret
   exact ⟨by rw [hfi.out]; rfl, HA.out⟩
end Go.Proofs.YtpfbkdbblpppdaaGreatDoor
