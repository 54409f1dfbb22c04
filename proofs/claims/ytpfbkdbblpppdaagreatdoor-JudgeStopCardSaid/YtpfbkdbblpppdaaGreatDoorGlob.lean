/-
  DERIVED. The packages 'glob' and the small words of 'postroomkeep' on texts: what each function answers.
-/
import Derived.Test.YtpfbkdbblpppdaaGreatDoorBase
import Derived.Test.YtpfbkdbblpppdaaGreatDoorKit
set_option linter.unusedVariables false
set_option linter.unusedSimpArgs false
namespace Go.Proofs.YtpfbkdbblpppdaaGreatDoor
open Go.RowKit

/-- the small letter of a byte -/
def sml (c : UInt8) : UInt8 := if 65 ≤ c.toNat ∧ c.toNat ≤ 90 then c + 32 else c
theorem sml_up (c : UInt8) (h1 : 65 ≤ c.toNat) (h2 : c.toNat ≤ 90) : (sml c).toNat = c.toNat + 32 := by
  unfold sml; rw [if_pos ⟨h1, h2⟩, UInt8.toNat_add]; simp; omega
theorem sml_no (c : UInt8) (h : ¬ (65 ≤ c.toNat ∧ c.toNat ≤ 90)) : sml c = c := by unfold sml; rw [if_neg h]

set_option maxHeartbeats 400000 in
theorem small_any (c : UInt8) (w : World) :
    Calls Tryz.prog 226 #[.int .u8 (c.toNat : Int)] w fun e w' => e = .returned (.int .u8 ((sml c).toNat : Int)) ∧ w = w' := by
  have hb : c.toNat < 256 := c.toNat_lt
  by_cases h : 65 ≤ c.toNat ∧ c.toNat ≤ 90
  · obtain ⟨h1, h2⟩ := h
    have H := Lib.hid (sml_up c h1 h2)
    go_enter Tryz.func226, Tryz.ntmps226
    go_wp2
    go_ret
    exact ⟨ret_int (by rw [H.out]; omega), rfl⟩
  · have H := Lib.hid (sml_no c h)
    by_cases h1 : 65 ≤ c.toNat
    · have h2 : 90 < c.toNat := by omega
      clear h
      go_enter Tryz.func226, Tryz.ntmps226
      go_wp2
      go_ret
      exact ⟨ret_int (by rw [H.out]), rfl⟩
    · clear h
      have h1' : c.toNat < 65 := by omega
      clear h1
      go_enter Tryz.func226, Tryz.ntmps226
      go_wp2
      go_ret
      exact ⟨ret_int (by rw [H.out]), rfl⟩

/-- what 'fold' answers -/
def foldL (l : List UInt8) : List UInt8 := l.map sml
theorem foldL_length (l : List UInt8) : (foldL l).length = l.length := by simp [foldL]
/-- the row behind i rounds -/
def foldTo (l : List UInt8) (i : Nat) : List UInt8 := (l.take i).map sml ++ l.drop i
theorem foldTo_length (l : List UInt8) (i : Nat) : (foldTo l i).length = l.length := by simp [foldTo]; omega
theorem foldTo_zero (l : List UInt8) : foldTo l 0 = l := by simp [foldTo]
theorem foldTo_all (l : List UInt8) : foldTo l l.length = foldL l := by simp [foldTo, foldL]
theorem foldTo_get (l : List UInt8) (i : Nat) (h : i < l.length) : (foldTo l i)[i]'(by rw [foldTo_length]; exact h) = l[i] := by
  simp only [foldTo]
  rw [List.getElem_append_right (by simp; omega)]
  simp [Nat.min_eq_left (Nat.le_of_lt h)]
theorem foldTo_step (l : List UInt8) (i : Nat) (h : i < l.length) : (foldTo l i).set i (sml l[i]) = foldTo l (i + 1) := by
  unfold foldTo
  rw [List.set_append_right _ _ (by simp; omega), List.take_succ_eq_append_getElem h, List.map_append, List.append_assoc]
  congr 1
  rw [List.length_map, List.length_take, Nat.min_eq_left (Nat.le_of_lt h), Nat.sub_self, List.drop_eq_getElem_cons h]
  rfl

set_option maxHeartbeats 400000 in
theorem fold_any (s : ByteArray) (w : World) (hs : s.size ≤ 9223372036854775807) :
    Calls Tryz.prog 203 #[.string s] w fun e w' => e = .returned (.string ⟨(foldL s.data.toList).toArray⟩) ∧ Below w.heap.size w w' := by
  have kc := Lib.run_convert_string_bytes (P := Tryz.prog) w 9 134 5 s Tryz.underlying9 Tryz.underlying134 Tryz.underlying5
  have hH := HasB.fresh w 5 s
  have hB := bytesWorld_below w 5 s
  obtain ⟨cap, hcap⟩ : ∃ cap, cap = grownCap w s.size 0 5 := ⟨_, rfl⟩
  obtain ⟨w1, hw1⟩ : ∃ w1, w1 = Lib.bytesWorld w 5 s := ⟨_, rfl⟩
  rw [← hcap, ← hw1] at kc
  rw [← hw1] at hH hB
  clear hcap hw1
  obtain ⟨l, hl⟩ : ∃ l, l = s.data.toList := ⟨_, rfl⟩
  have hls : s.size = l.length := by rw [hl]; simp
  rw [← hl] at hH ⊢
  rw [hls] at kc hs
  have HL := Lib.hid hls
  clear hl hls
  go_enter Tryz.func203, Tryz.ntmps203
  go_wp2_with fail
  go_loopw [4, 5, 10] (fun _ _ i wr => ∃ k : Nat, k ≤ l.length ∧ i = .int .i64 k ∧ HasB wr w.heap.size (foldTo l k) ∧ Below w.heap.size w wr) (fun _ _ i _ => l.length - (intOf i).toNat)
  case atStart => exact ⟨0, Nat.zero_le _, rfl, by rw [foldTo_zero]; exact hH, hB⟩
  case round =>
    obtain ⟨k, hk, rfl, hh, hb⟩ := hrel
    clear hH hB kc
    by_cases hlt : k < l.length
    · have hc : wr.cell? ⟨w.heap.size, k, none⟩ = some (.int .u8 (l[k].toNat : Int)) := by
        rw [hh.1 k (by rw [foldTo_length]; exact hlt), foldTo_get l k hlt]
      have hf : wr.frozen? ⟨w.heap.size, k, none⟩ = false := hh.2 k (by rw [foldTo_length]; exact hlt)
      have HS := Lib.hid (foldTo_step l k hlt ▸ hh.stored k (sml l[k]))
      go_wp2_with (go_at_call 226; refine (small_any _ _).mono ?_; rintro e w' ⟨rfl, rfl⟩)
      go_roundw
      case rel => exact ⟨k + 1, by omega, by go_num, HS.out, hb.setCell (Nat.le_refl _) _⟩
      case measure => simp [intOf]; omega
    · obtain rfl : k = l.length := by omega
      rw [foldTo_all] at hh
      have hcv := hh.str cap Tryz.underlying134 Tryz.underlying5 Tryz.underlying9
      rw [foldL_length] at hcv
      go_wp2
      go_ret
      exact ⟨rfl, hb⟩
end Go.Proofs.YtpfbkdbblpppdaaGreatDoor
