/- On the way. -/
import Derived.Test.YtmkppkjikifdlaaGreatDoorTJgB
import Derived.BigRegion
import Derived.Handy
import Derived.Lib.IndexMore
import Derived.Lib.SlTrimSet
import Derived.Lib.IndexBytes
set_option linter.unusedVariables false
set_option linter.unusedSimpArgs false
set_option maxHeartbeats 4000000
set_option maxRecDepth 20000
namespace Go.Proofs.YtmkppkjikifdlaaGreatDoor
open Go.RowKit
def valB (n i : Nat) (c : UInt8) : UInt8 := if c = 13 ∨ c = 10 ∨ ((c = 32 ∨ c = 9) ∧ (i = 0 ∨ i + 1 = n ∨ i = 39)) then 121 else c
def valU (l : List UInt8) (k : Nat) : List UInt8 := (List.range k).map fun i => valB l.length i (l.getD i 0)
def valueL (l : List UInt8) : List UInt8 := valU l (min l.length 40)
theorem valU_len (l : List UInt8) (k : Nat) : (valU l k).length = k := by simp [valU]
theorem valU_snoc (l : List UInt8) (k : Nat) (h : k < l.length) : valU l (k + 1) = valU l k ++ [valB l.length k l[k]] := by
 unfold valU
 rw [List.range_succ, List.map_append]
 simp [List.getD, List.getElem?_eq_getElem h]
theorem val_cases (n k : Nat) (c : UInt8) :
    (valB n k c = 121 ∧ (((c.toNat : Int) == 13) = true ∨ ((c.toNat : Int) == 13) = false ∧ ((c.toNat : Int) == 10) = true ∨
     ((c.toNat : Int) == 13) = false ∧ ((c.toNat : Int) == 10) = false ∧ (((c.toNat : Int) == 32) = true ∨ ((c.toNat : Int) == 32) = false ∧ ((c.toNat : Int) == 9) = true) ∧
      (((k : Int) == 0) = true ∨ ((k : Int) == 0) = false ∧ ((k : Int) == (n : Int) - 1) = true ∨ ((k : Int) == 0) = false ∧ ((k : Int) == (n : Int) - 1) = false ∧ ((k : Int) == 39) = true))) ∨
    (valB n k c = c ∧ ((c.toNat : Int) == 13) = false ∧ ((c.toNat : Int) == 10) = false ∧ ((((c.toNat : Int) == 32) = true ∨ ((c.toNat : Int) == 32) = false ∧ ((c.toNat : Int) == 9) = true) ∧ ((k : Int) == 0) = false ∧ ((k : Int) == (n : Int) - 1) = false ∧ ((k : Int) == 39) = false ∨
     ((c.toNat : Int) == 32) = false ∧ ((c.toNat : Int) == 9) = false)) := by
 have T : ∀ d : UInt8, c = d → ((c.toNat : Int) == (d.toNat : Int)) = true := fun d h => by rw [h]; exact beq_self_eq_true _
 have F : ∀ d : UInt8, c ≠ d → ((c.toNat : Int) == (d.toNat : Int)) = false := fun d h => beq_eq_false_iff_ne.2 (fun e => h (UInt8.toNat_inj.1 (Int.ofNat_inj.1 e)))
 by_cases h13 : c = 13
 ·exact .inl ⟨by unfold valB; rw [if_pos (.inl h13)], .inl (T 13 h13)⟩
 ·by_cases h10 : c = 10
  ·exact .inl ⟨by unfold valB; rw [if_pos (.inr (.inl h10))], .inr (.inl ⟨F 13 h13, T 10 h10⟩)⟩
  ·by_cases hbl : c = 32 ∨ c = 9
   ·have hb : ((c.toNat : Int) == 32) = true ∨ ((c.toNat : Int) == 32) = false ∧ ((c.toNat : Int) == 9) = true := by
     by_cases h32 : c = 32
     ·exact .inl (T 32 h32)
     ·exact .inr ⟨F 32 h32, T 9 (hbl.resolve_left h32)⟩
    by_cases h0 : k = 0
    ·exact .inl ⟨by unfold valB; rw [if_pos (.inr (.inr ⟨hbl, .inl h0⟩))], .inr (.inr ⟨F 13 h13, F 10 h10, hb, .inl (beq_iff_eq.2 (by omega))⟩)⟩
    ·by_cases h1 : k + 1 = n
     ·exact .inl ⟨by unfold valB; rw [if_pos (.inr (.inr ⟨hbl, .inr (.inl h1)⟩))], .inr (.inr ⟨F 13 h13, F 10 h10, hb, .inr (.inl ⟨beq_eq_false_iff_ne.2 (by omega), beq_iff_eq.2 (by omega)⟩)⟩)⟩
     ·by_cases h39 : k = 39
      ·exact .inl ⟨by unfold valB; rw [if_pos (.inr (.inr ⟨hbl, .inr (.inr h39)⟩))], .inr (.inr ⟨F 13 h13, F 10 h10, hb, .inr (.inr ⟨beq_eq_false_iff_ne.2 (by omega), beq_eq_false_iff_ne.2 (by omega), beq_iff_eq.2 (by omega)⟩)⟩)⟩
      ·refine .inr ⟨?_, F 13 h13, F 10 h10, .inl ⟨hb, beq_eq_false_iff_ne.2 (by omega), beq_eq_false_iff_ne.2 (by omega), beq_eq_false_iff_ne.2 (by omega)⟩⟩
       unfold valB
       rw [if_neg]
       rintro (h | h | ⟨_, h | h | h⟩)
       ·exact h13 h
       ·exact h10 h
       ·exact h0 h
       ·exact h1 h
       ·exact h39 h
   ·refine .inr ⟨?_, F 13 h13, F 10 h10, .inr ⟨F 32 (fun e => hbl (.inl e)), F 9 (fun e => hbl (.inr e))⟩⟩
    unfold valB
    rw [if_neg]
    rintro (h | h | ⟨h, _⟩)
    ·exact h13 h
    ·exact h10 h
    ·exact hbl h
theorem value_any (s : ByteArray) (w : World) (hs : s.size ≤ 9223372036854775807) :
    Calls Tryz.prog 24 #[.string s] w fun e w' => e = .returned (.string ⟨(valueL s.data.toList).toArray⟩) ∧ Below w.heap.size w w' := by
 obtain ⟨i0, hi, hz0, hz1, hz2⟩ := info_parts infoU8
 have hI := Lib.hid hi; have hZ0 := Lib.hid hz0; have hZ1 := Lib.hid hz1; have hZ2 := Lib.hid hz2
 have hsl : s.data.toList.length = s.size := by simp
 obtain ⟨l, hl⟩ : ∃ l, l = s.data.toList := ⟨_, rfl⟩
 rw [← hl] at hsl ⊢
 have HSN : Hid (∀ k (h : k < s.size), valU l (k + 1) = valU l k ++ [valB s.size k s[k]]) := by
  intro k h
  subst hl
  exact valU_snoc s.data.toList k (by omega)
 have HSL := Lib.hid hsl
 clear hi hz0 hz1 hz2 hl hsl
 go_enter Tryz.func24, Tryz.ntmps24
 go_wp2
 go_loopw [3, 4] (fun v i wr => ∃ k : Nat, k ≤ s.size ∧ k ≤ 40 ∧ i = .int .i64 k ∧ OwnB wr w.heap.size 5 v (valU l k) ∧ Below w.heap.size w wr) (fun _ i _ => 40 - (intOf i).toNat)
 case atStart => exact ⟨0, Nat.zero_le _, by omega, rfl, World.ownsRow_nil _ _ _ _, Below.refl _ _⟩
 case round =>
  obtain ⟨k, hk, hk8, rfl, hown, hb⟩ := hrel
  have hsz : w.heap.size ≤ wr.heap.size := hb.size
  by_cases hlt : k < s.size ∧ k < 40
  ·obtain ⟨h1, h2⟩ := hlt
   have HT := Lib.hid (HSN.out k h1)
   have hLl : (valU l k).length ≤ 40 := by rw [valU_len]; omega
   obtain ⟨L, hL⟩ : ∃ L, L = valU l k := ⟨_, rfl⟩
   rw [← hL] at hown hLl
   have HL := Lib.hid hL; clear hL
   rcases val_cases s.size k s[k] with ⟨hv, hcs⟩ | ⟨hv, e13, e10, hcs⟩
   ·have HV := Lib.hid hv; clear hv
    rcases hcs with e13 | ⟨e13, e10⟩ | ⟨e13, e10, e32 | ⟨e32, e9⟩, k0 | ⟨k0, k1⟩ | ⟨k0, k1, k39⟩⟩
    all_goals
     go_wp2_with (at_builtin; refine wpList_append_own _ rfl _ _ 68 rfl w.heap.size 5 i0 (.int .u8 0) 1 1 Tryz.underlying68 hI.out hZ0.out hZ1.out hZ2.out rfl (by decide) u3 L.length (bcells L) rfl (hown.alloc _) ⟨wr.heap.size, 0, none⟩ 1 1 [.int .u8 121] rfl rfl (cell_one_new _ _ _) ?c2 ?c3 ?c4 ?c5 ?_)
     case c2 => intro u hu; simp at hu; subst hu; rfl
     case c3 => unfold maxLen; omega
     case c4 => omega
     case c5 => simp; omega
     intro v' w1 hown' hgrow _
     have hb1 := (hb.alloc hsz _).grown hgrow (by simp; omega) (fun k' h => (hown.lt k' h).1)
     have hown1 : OwnB w1 w.heap.size 5 v' (valU l (k + 1)) := by
      unfold OwnB
      rw [HT.out, bcells_append, ← HL.out, List.length_append, HV.out]
      exact hown'
     clear hown' hgrow
     go_wp2
     go_roundw
     case rel => exact ⟨k + 1, by omega, by omega, by go_num, hown1, hb1⟩
     case measure => simp [intOf]; omega
   ·have HV := Lib.hid hv; clear hv
    rcases hcs with ⟨e32 | ⟨e32, e9⟩, k0, k1, k39⟩ | ⟨e32, e9⟩
    all_goals
     go_wp2_with (at_builtin; refine wpList_append_own _ rfl _ _ 68 rfl w.heap.size 5 i0 (.int .u8 0) 1 1 Tryz.underlying68 hI.out hZ0.out hZ1.out hZ2.out rfl (by decide) u3 L.length (bcells L) rfl (hown.alloc _) ⟨wr.heap.size, 0, none⟩ 1 1 [.int .u8 (s[k].toNat : Int)] rfl rfl (cell_one_new _ _ _) ?c2 ?c3 ?c4 ?c5 ?_)
     case c2 => intro u hu; simp at hu; subst hu; rfl
     case c3 => unfold maxLen; omega
     case c4 => omega
     case c5 => simp; omega
     intro v' w1 hown' hgrow _
     have hb1 := (hb.alloc hsz _).grown hgrow (by simp; omega) (fun k' h => (hown.lt k' h).1)
     have hown1 : OwnB w1 w.heap.size 5 v' (valU l (k + 1)) := by
      unfold OwnB
      rw [HT.out, bcells_append, ← HL.out, List.length_append, HV.out]
      exact hown'
     clear hown' hgrow
     go_wp2
     go_roundw
     case rel => exact ⟨k + 1, by omega, by omega, by go_num, hown1, hb1⟩
     case measure => simp [intOf]; omega
  ·have HW : Hid (valueL l = valU l k) := by
    unfold Hid valueL
    have h1 := HSL.out
    congr 1
    omega
   obtain ⟨L, hL⟩ : ∃ L, L = valU l k := ⟨_, rfl⟩
   rw [← hL] at hown
   have HL := Lib.hid hL; clear hL
   have hcv := run_str_own hown Tryz.underlying68 Tryz.underlying5 Tryz.underlying9
   by_cases hks : k < s.size
   ·have hd : decide (k < 40) = false := by simp; omega
    go_wp2
    go_ret
    exact ⟨by rw [HW.out, ← HL.out]; rfl, hb⟩
   ·have hd : decide (k < s.size) = false := by simpa using hks
    go_wp2
    go_ret
    exact ⟨by rw [HW.out, ← HL.out]; rfl, hb⟩
end Go.Proofs.YtmkppkjikifdlaaGreatDoor
