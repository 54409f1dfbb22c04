/-
  DERIVED. 'Part' of who, 'Address' of postroomkeep: what each answers.
-/
import Derived.Test.YtdhepaeephmhiaaDoorCheck
import Derived.Test.YtdhepaeephmhiaaDoorDots
import Derived.BigRegion
import Derived.Handy
namespace Go.Proofs.YtdhepaeephmhiaaDoor
open Go.RowKit

/-- what Part answers -/
def partV (z : Int) (a d : ByteArray) : ByteArray × Nat :=
  if chk a.data.toList d.data.toList ≠ 0 then (⟨#[]⟩, chk a.data.toList d.data.toList) else if z = 1 then (a ++ ⟨#[64]⟩ ++ d, 0) else if z = 2 then (a, 0) else if z = 3 then (d, 0) else (⟨#[]⟩, 2)

set_option maxHeartbeats 1000000 in
theorem part_any (z : Int) (a d : ByteArray) (m : Int) (w : World) (ha : a.size ≤ 1000000) (hd : d.size ≤ 1000000) (hm : w.cell? ⟨0, 0, none⟩ = some (.int .i64 m)) :
    Calls Tryd.prog 81 #[.int .i64 z, .agg #[.string a, .string d]] w fun e w' => e = .returned (.tuple #[.string (partV z a d).1, .int .i64 (partV z a d).2]) ∧ Below w.heap.size w w' := by
  have hM := Lib.hid hm
  have hbase : Hid (∀ o, Below w.heap.size w (w.alloc o)) := fun o => ba (Below.refl _ w) o
  obtain ⟨q, hq⟩ : ∃ q, q = chk a.data.toList d.data.toList := ⟨_, rfl⟩
  have hq3 : q ≤ 3 := by rw [hq]; exact chk_le _ _
  have hC : Hid (∀ w, w.cell? ⟨0, 0, none⟩ = some (.int .i64 m) → Calls Tryd.prog 43 #[.agg #[.string a, .string d]] w fun e w' => e = .returned (.int .i64 q) ∧ Below w.heap.size w w') := by
    intro w h; rw [hq]; exact check_any a d m w ha hd h
  have hP : Hid (partV z a d = if q ≠ 0 then (⟨#[]⟩, q) else if z = 1 then (a ++ ⟨#[64]⟩ ++ d, 0) else if z = 2 then (a, 0) else if z = 3 then (d, 0) else (⟨#[]⟩, 2)) := by unfold Hid; rw [hq]; rfl
  obtain ⟨p, hp⟩ : ∃ p, p = partV z a d := ⟨_, rfl⟩
  rw [← hp] at hP ⊢
  clear hp hq hm
  go_enter Tryd.func81, Tryd.ntmps81
  go_wp2_with fail
  refine (hC.out _ (moved hM.out (hbase.out _) (Nat.le_refl _))).mono ?_
  rintro e w1 ⟨rfl, hb1⟩
  have c0 := moved (alloc_cell w #[.string a, .string d] 44 0 _ rfl) hb1 (Nat.le_refl _)
  have c1 := moved (alloc_cell w #[.string a, .string d] 44 1 _ rfl) hb1 (Nat.le_refl _)
  have hw1 := Lib.hid (bt (hbase.out _) hb1)
  by_cases hz : q = 0
  · subst hz
    have hP2 : Hid (p = if z = 1 then (a ++ ⟨#[64]⟩ ++ d, 0) else if z = 2 then (a, 0) else if z = 3 then (d, 0) else (⟨#[]⟩, 2)) := hP.out
    clear hP
    by_cases h1 : z = 1
    · have hv : Hid (p = (a ++ ⟨#[64]⟩ ++ d, 0)) := by unfold Hid; rw [hP2.out, if_pos h1]
      subst h1
      clear hP2
      go_wp2_with fail
      go_ret2
      exact ⟨by rw [hv.out]; rfl, hw1.out⟩
    · by_cases h2 : z = 2
      · have hv : Hid (p = (a, 0)) := by unfold Hid; rw [hP2.out, if_neg h1, if_pos h2]
        subst h2
        clear hP2
        go_wp2_with fail
        go_ret2
        exact ⟨by rw [hv.out]; rfl, hw1.out⟩
      · by_cases h3 : z = 3
        · have hv : Hid (p = (d, 0)) := by unfold Hid; rw [hP2.out, if_neg h1, if_neg h2, if_pos h3]
          subst h3
          clear hP2
          go_wp2_with fail
          go_ret2
          exact ⟨by rw [hv.out]; rfl, hw1.out⟩
        · have hv : Hid (p = (⟨#[]⟩, 2)) := by unfold Hid; rw [hP2.out, if_neg h1, if_neg h2, if_neg h3]
          have e1 : (z == 1) = false := by simpa using h1
          have e2 : (z == 2) = false := by simpa using h2
          have e3 : (z == 3) = false := by simpa using h3
          clear hP2
          go_wp2_with fail
          go_ret2
          exact ⟨by rw [hv.out]; rfl, hw1.out⟩
  · have hv : Hid (p = (⟨#[]⟩, q)) := by unfold Hid; rw [hP.out, if_pos hz]
    have hne : ((q : Int) == 0) = false := by simpa using hz
    clear hP
    go_wp2_with fail
    go_ret2
    exact ⟨by rw [hv.out]; rfl, hw1.out⟩

/-- what Address makes -/
def addrL (l : List UInt8) : ByteArray := ⟨(wordL l).toArray⟩
def addrD (l : List UInt8) : ByteArray := ⟨(wordL l).toArray⟩ ++ ⟨#[46, 111, 114, 103]⟩
theorem wordL_le (l : List UInt8) : (wordL l).length ≤ 8 := by
  unfold wordL
  split
  · decide
  · rw [List.length_map, List.length_take]; omega
theorem wordL_pos (l : List UInt8) : 1 ≤ (wordL l).length := by
  unfold wordL
  cases l with
  | nil => decide
  | cons a l => simp
theorem addrL_size (l : List UInt8) : (addrL l).size ≤ 8 := wordL_le l

set_option maxHeartbeats 1000000 in
set_option maxRecDepth 20000 in
theorem address_any (a d v : ByteArray) (w : World) (ha : a.size ≤ 9223372036854775807) (hd : d.size ≤ 9223372036854775807) :
    Calls Tryd.prog 11 #[.agg #[.string a, .string d, .string v]] w fun e w' => e = .returned (.agg #[.string (addrL a.data.toList), .string (addrD d.data.toList)]) ∧ Below w.heap.size w w' := by
  have hbase : Hid (∀ o, Below w.heap.size w (w.alloc o)) := fun o => ba (Below.refl _ w) o
  have hWd : Hid (∀ (s : ByteArray) (w : World), s.size ≤ 9223372036854775807 → Calls Tryd.prog 22 #[.string s] w fun e w' => e = .returned (.string (addrL s.data.toList)) ∧ Below w.heap.size w w') := fun s w h => word_any s w h
  have hdd : Hid (addrD d.data.toList = addrL d.data.toList ++ ⟨#[46, 111, 114, 103]⟩) := rfl
  rw [hdd.out]
  clear hdd
  obtain ⟨W0, hW0⟩ : ∃ W0, W0 = (w.alloc (.cells #[.string a, .string d, .string v] 39)).alloc (.cells #[.string ⟨#[]⟩, .string ⟨#[]⟩] 44) := ⟨_, rfl⟩
  have hFW : Hid (∀ w', Below W0.heap.size W0 w' → w'.cell? ⟨w.heap.size, 0, none⟩ = some (.string a) ∧ w'.cell? ⟨w.heap.size, 1, none⟩ = some (.string d) ∧ w'.cell? ⟨w.heap.size + 1, 0, none⟩ = some (.string ⟨#[]⟩) ∧ w'.cell? ⟨w.heap.size + 1, 1, none⟩ = some (.string ⟨#[]⟩) ∧
      w'.frozen? ⟨w.heap.size + 1, 0, none⟩ = false ∧ w'.frozen? ⟨w.heap.size + 1, 1, none⟩ = false ∧ w.heap.size + 2 ≤ w'.heap.size ∧ Below w.heap.size w w') := by
    intro w' hb
    have hz : W0.heap.size = w.heap.size + 2 := by rw [hW0]; simp
    have c0 : ∀ j x, #[Value.string a, .string d, .string v][j]? = some x → W0.cell? ⟨w.heap.size, j, none⟩ = some x := by
      intro j x hx
      rw [hW0]; exact moved (alloc_cell w _ _ j x hx) (ba (Below.refl _ _) _) (Nat.le_refl _)
    have c1 : ∀ j x, #[Value.string ⟨#[]⟩, .string ⟨#[]⟩][j]? = some x → W0.cell? ⟨w.heap.size + 1, j, none⟩ = some x := by
      intro j x hx
      have := alloc_cell (w.alloc (.cells #[.string a, .string d, .string v] 39)) _ 44 j x hx
      rw [show (w.alloc (.cells #[.string a, .string d, .string v] 39)).heap.size = w.heap.size + 1 by simp] at this
      rw [hW0]; exact this
    have f1 : ∀ j, W0.frozen? ⟨w.heap.size + 1, j, none⟩ = false := by
      intro j
      have hh : W0.heap[w.heap.size + 1]? = some (.cells #[.string ⟨#[]⟩, .string ⟨#[]⟩] 44 (0, 0)) := by
        have := heap_alloc_new (w.alloc (.cells #[.string a, .string d, .string v] 39)) (.cells #[.string ⟨#[]⟩, .string ⟨#[]⟩] 44 (0, 0))
        rw [show (w.alloc (.cells #[.string a, .string d, .string v] 39)).heap.size = w.heap.size + 1 by simp] at this
        rw [hW0]; exact this
      simp only [World.frozen?, hh]
      simp
    refine ⟨moved (c0 0 _ rfl) hb (Nat.le_refl _), moved (c0 1 _ rfl) hb (Nat.le_refl _), moved (c1 0 _ rfl) hb (Nat.le_refl _), moved (c1 1 _ rfl) hb (Nat.le_refl _), ?_, ?_, by have := hb.size; omega, ?_⟩
    · rw [hb.frozen (p := ⟨w.heap.size + 1, 0, none⟩) (by show w.heap.size + 1 < _; omega)]; exact f1 0
    · rw [hb.frozen (p := ⟨w.heap.size + 1, 1, none⟩) (by show w.heap.size + 1 < _; omega)]; exact f1 1
    · refine bt ?_ hb
      rw [hW0]; exact ba (ba (Below.refl _ w) _) _
  have HW0 := Lib.hid hW0
  have za := addrL_size a.data.toList
  have zd := addrL_size d.data.toList
  clear hW0
  go_enter Tryd.func11, Tryd.ntmps11
  go_wp2_with fail
  rw [show (w.alloc (.cells #[.string a, .string d, .string v] 39)).alloc (.cells #[.string ⟨#[]⟩, .string ⟨#[]⟩] 44) = W0 from HW0.out.symm]
  have hbd := Below.drew (Below.refl W0.heap.size W0)
  obtain ⟨a0, a1, a2, a3, a4, a5, a6, a7⟩ := hFW.out W0 (Below.refl _ _)
  go_region_with (go_at_call 22; refine (hWd.out _ _ (by assumption)).mono ?_; rintro e w1 ⟨rfl, hb1⟩; replace hbd := bt hbd hb1; obtain ⟨b0, b1, b2, b3, b4, b5, b6, b7⟩ := hFW.out w1 hbd)
  all_goals
    have e0 : ((w1.setCell ⟨w.heap.size + 1, 0, none⟩ (.string (addrL a.data.toList))).setCell ⟨w.heap.size + 1, 1, none⟩ (.string (addrL d.data.toList ++ ⟨#[46, 111, 114, 103]⟩))).cell? ⟨w.heap.size + 1, 0, none⟩ = some (.string (addrL a.data.toList)) := by
      rw [World.cell?_setCell_other (h := by simp), World.cell?_setCell_same (h := b2)]
    have e1 : ((w1.setCell ⟨w.heap.size + 1, 0, none⟩ (.string (addrL a.data.toList))).setCell ⟨w.heap.size + 1, 1, none⟩ (.string (addrL d.data.toList ++ ⟨#[46, 111, 114, 103]⟩))).cell? ⟨w.heap.size + 1, 1, none⟩ = some (.string (addrL d.data.toList ++ ⟨#[46, 111, 114, 103]⟩)) := by
      rw [World.cell?_setCell_same (h := by rw [World.cell?_setCell_other (h := by simp)]; exact b3)]
    have hb9 : Below w.heap.size w ((w1.setCell ⟨w.heap.size + 1, 0, none⟩ (.string (addrL a.data.toList))).setCell ⟨w.heap.size + 1, 1, none⟩ (.string (addrL d.data.toList ++ ⟨#[46, 111, 114, 103]⟩))) := (b7.setCell (by show w.heap.size ≤ w.heap.size + 1; omega) _).setCell (by show w.heap.size ≤ w.heap.size + 1; omega) _
    obtain ⟨w2, hw2⟩ : ∃ w2, w2 = (w1.setCell ⟨w.heap.size + 1, 0, none⟩ (.string (addrL a.data.toList))).setCell ⟨w.heap.size + 1, 1, none⟩ (.string (addrL d.data.toList ++ ⟨#[46, 111, 114, 103]⟩)) := ⟨_, rfl⟩
    rw [← hw2] at e0 e1 hb9 ⊢
    clear hw2
    go_wp2_with fail
    refine bodyPost_ret (v := .agg #[.string (addrL a.data.toList), .string (addrL d.data.toList ++ ⟨#[46, 111, 114, 103]⟩)]) (by simp [results, Tryd.results11, go_sem, e0, e1]) rfl ⟨rfl, hb9⟩
end Go.Proofs.YtdhepaeephmhiaaDoor
