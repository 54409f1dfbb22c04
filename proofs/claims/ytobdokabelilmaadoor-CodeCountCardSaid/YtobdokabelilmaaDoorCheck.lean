/-
  DERIVED. 'Check' and 'Part' of who, 'Address' of postroomkeep: what each answers.
-/
import Derived.Test.YtobdokabelilmaaDoorDottedAll
namespace Go.Proofs.YtobdokabelilmaaDoor
open Go.RowKit

/-- what Check answers of an address -/
def chk (a d : List UInt8) : Nat := if dotOK true a && dotOK true d then (if 100 < a.length + 1 + d.length then 1 else 0) else 3
theorem chk_le (a d : List UInt8) : chk a d ≤ 3 := by unfold chk; split <;> (try split) <;> omega
set_option maxHeartbeats 1000000 in
theorem check_any (a d : ByteArray) (m : Int) (w : World) (ha : a.size ≤ 1000000) (hd : d.size ≤ 1000000) (hm : w.cell? ⟨6, 0, none⟩ = some (.int .i64 m)) :
    Calls Tryd.prog 96 #[.agg #[.string a, .string d]] w fun e w' => e = .returned (.int .i64 (chk a.data.toList d.data.toList)) ∧ Below w.heap.size w w' := by
  have hM := Lib.hid hm
  have hbase : Hid (∀ o, Below w.heap.size w (w.alloc o)) := fun o => ba (Below.refl _ w) o
  have hC : Hid (chk a.data.toList d.data.toList = if dotOK true a.data.toList && dotOK true d.data.toList then (if 100 < a.size + 1 + d.size then 1 else 0) else 3) := by unfold Hid chk; simp
  obtain ⟨ra, hra⟩ : ∃ ra, ra = dotOK true a.data.toList := ⟨_, rfl⟩
  obtain ⟨rd, hrd⟩ : ∃ rd, rd = dotOK true d.data.toList := ⟨_, rfl⟩
  have hA : Hid (∀ w, w.cell? ⟨6, 0, none⟩ = some (.int .i64 m) → Calls Tryd.prog 98 #[.string a] w fun e w' => e = .returned (.bool ra) ∧ Below w.heap.size w w') := by
    intro w h; rw [hra]; exact dotted_any a m w ha h
  have hD : Hid (∀ w, w.cell? ⟨6, 0, none⟩ = some (.int .i64 m) → Calls Tryd.prog 98 #[.string d] w fun e w' => e = .returned (.bool rd) ∧ Below w.heap.size w w') := by
    intro w h; rw [hrd]; exact dotted_any d m w hd h
  rw [← hra, ← hrd] at hC
  obtain ⟨q, hq⟩ : ∃ q, q = chk a.data.toList d.data.toList := ⟨_, rfl⟩
  rw [← hq] at hC ⊢
  clear hra hrd hm hq
  go_enter Tryd.func96, Tryd.ntmps96
  go_wp2_with fail
  refine (hA.out _ (moved hM.out (hbase.out _) (Nat.le_refl _))).mono ?_
  rintro e w1 ⟨rfl, hb1⟩
  have c0 := moved (alloc_cell w #[.string a, .string d] 139 0 _ rfl) hb1 (Nat.le_refl _)
  have c1 := moved (alloc_cell w #[.string a, .string d] 139 1 _ rfl) hb1 (Nat.le_refl _)
  have hm1 := Lib.hid (moved (moved hM.out (hbase.out _) (Nat.le_refl _)) hb1 (Nat.le_refl _))
  have hw1 := Lib.hid (bt (hbase.out _) hb1)
  have hs1 := (hw1.out).size
  have hs2 := hb1.size
  cases ra with
  | false =>
    have hq : Hid (q = 3) := by unfold Hid; rw [hC.out]; rfl
    clear hC
    go_wp2_with fail
    go_ret
    exact ⟨by rw [hq.out]; rfl, hw1.out⟩
  | true =>
    go_wp2_with fail
    refine (hD.out _ hm1.out).mono ?_
    rintro e w2 ⟨rfl, hb2⟩
    have d0 := moved c0 hb2 (Nat.le_refl _)
    have d1 := moved c1 hb2 (Nat.le_refl _)
    have hw2 := Lib.hid (bt hw1.out hb2)
    clear c0 c1
    cases rd with
    | false =>
      have hq : Hid (q = 3) := by unfold Hid; rw [hC.out]; rfl
      clear hC
      go_wp2_with fail
      go_ret
      exact ⟨by rw [hq.out]; rfl, hw2.out⟩
    | true =>
      have hC2 : Hid (q = if 100 < a.size + 1 + d.size then 1 else 0) := by unfold Hid; rw [hC.out]; rfl
      clear hC
      by_cases hl : 100 < a.size + 1 + d.size
      · have hq : Hid (q = 1) := by unfold Hid; rw [hC2.out, if_pos hl]
        clear hC2
        go_wp2_with fail
        go_ret
        exact ⟨by rw [hq.out]; rfl, hw2.out⟩
      · have hq : Hid (q = 0) := by unfold Hid; rw [hC2.out, if_neg hl]
        have hl' : decide (100 < a.size + 1 + d.size) = false := decide_eq_false hl
        clear hC2
        go_wp2_with fail
        go_ret
        exact ⟨by rw [hq.out]; rfl, hw2.out⟩
end Go.Proofs.YtobdokabelilmaaDoor
