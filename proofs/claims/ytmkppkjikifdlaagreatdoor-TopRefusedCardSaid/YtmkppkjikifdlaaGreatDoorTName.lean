/- On the way. -/
import Derived.Test.YtmkppkjikifdlaaGreatDoorTKtA
import Derived.Deep.QuietTactic
import Derived.BigQuiet
set_option linter.unusedVariables false
set_option linter.unusedSimpArgs false
set_option maxHeartbeats 400000
namespace Go.Proofs.YtmkppkjikifdlaaGreatDoor
open Go.RowKit
def nameByte (c : UInt8) : Bool := 33 ≤ c && c ≤ 126
def nameCode (l : List UInt8) : Int := if l.length < 1 ∨ 12 < l.length then 1 else if l.all nameByte then 0 else 3
theorem all_take_next (s : ByteArray) (p : UInt8 → Bool) (k : Nat) (h : k < s.size) : (s.data.toList.take (k + 1)).all p = ((s.data.toList.take k).all p && p s[k]) := by
 rw [List.take_succ_eq_append_getElem (by simpa using h)]
 simp [List.all_append]; rfl
theorem nameByte_yes (c : UInt8) (h1 : 33 ≤ (c.toNat : Int)) (h2 : (c.toNat : Int) ≤ 126) : nameByte c = true := by
 simp [nameByte, UInt8.le_iff_toNat_le]; omega
theorem nameByte_no (c : UInt8) (h : (c.toNat : Int) < 33 ∨ 126 < (c.toNat : Int)) : nameByte c = false := by
 rw [Bool.eq_false_iff]; simp [nameByte, UInt8.le_iff_toNat_le]; omega
theorem not_all_name (s : ByteArray) (p : UInt8 → Bool) (k : Nat) (h : k < s.size) (hp : p s[k] = false) : s.data.toList.all p = false := by
 rw [List.all_eq_false]
 exact ⟨s[k], by simp [ByteArray.getElem_eq_getElem_data], by simp [hp]⟩
theorem rname_any (s : ByteArray) (w : World) (hs : s.size ≤ 9223372036854775807) :
    Calls Tryz.prog 58 #[.string s] w fun e w' => e = .returned (.int .i64 (nameCode s.data.toList)) ∧ w = w' := by
 have hl : s.data.toList.length = s.size := by simp
 by_cases h0 : s.size < 1
 ·have hv : nameCode s.data.toList = 1 := by unfold nameCode; rw [if_pos (by omega)]
  have HV := Lib.hid hv; clear hv hl
  go_enter Tryz.func58, Tryz.ntmps58
  go_wp2
  go_ret
  exact ⟨ret_int (by rw [HV.out]), rfl⟩
 by_cases h1 : 12 < s.size
 ·have hv : nameCode s.data.toList = 1 := by unfold nameCode; rw [if_pos (by omega)]
  have HV := Lib.hid hv; clear hv hl
  go_enter Tryz.func58, Tryz.ntmps58
  go_wp2
  go_ret
  exact ⟨ret_int (by rw [HV.out]), rfl⟩
 ·have hv : nameCode s.data.toList = if s.data.toList.all nameByte then 0 else 3 := by unfold nameCode; rw [if_neg (by omega)]
  have HV := Lib.hid hv; clear hv hl
  go_enter Tryz.func58, Tryz.ntmps58
  go_wp2
  go_loop [3, 14] (fun _ i => ∃ k : Nat, k ≤ s.size ∧ i = .int .i64 k ∧ (s.data.toList.take k).all nameByte = true) (fun _ i => s.size - (intOf i).toNat)
  case atStart => exact ⟨0, Nat.zero_le _, rfl, rfl⟩
  case round =>
   obtain ⟨k, hk, rfl, ha⟩ := hrel
   have HA := Lib.hid ha; clear ha
   by_cases hlt : k < s.size
   ·by_cases hb : 33 ≤ (s[k].toNat : Int) ∧ (s[k].toNat : Int) ≤ 126
    ·obtain ⟨hb1, hb2⟩ := hb
     go_wp2
     go_round
     case rel => exact ⟨k + 1, by omega, by go_num, by rw [all_take_next s _ k hlt, HA.out, nameByte_yes _ hb1 hb2]; rfl⟩
     case measure => simp [intOf]; omega
    ·have hb' : (s[k].toNat : Int) < 33 ∨ 126 < (s[k].toNat : Int) := by omega
     have HN := Lib.hid (not_all_name s nameByte k hlt (nameByte_no _ hb'))
     clear hb
     rcases hb' with hb | hb
     all_goals
      go_wp2
      go_ret
      exact ⟨ret_int (by rw [HV.out, HN.out]; rfl), rfl⟩
   ·go_wp2
    go_ret
    exact ⟨ret_int (by rw [HV.out, ← (HA.out : (s.data.toList.take k).all nameByte = true), List.take_of_length_le (by simp; omega)]; simp), rfl⟩
end Go.Proofs.YtmkppkjikifdlaaGreatDoor
