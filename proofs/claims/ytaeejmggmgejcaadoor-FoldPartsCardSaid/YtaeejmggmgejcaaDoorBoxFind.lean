/-
  DERIVED. 'find' of box: the walk.
-/
import Derived.Test.YtaeejmggmgejcaaDoorBoxSize
namespace Go.Proofs.YtaeejmggmgejcaaDoor
open Go.RowKit

set_option maxHeartbeats 1000000 in
theorem findc_any (b : Bx) (a : Option Addr) (n c : Nat) (name : List UInt8) (N : Nat) (w : World) (hN : w.cell? ⟨N, 0, none⟩ = some (.string ⟨name.toArray⟩)) :
    Calls Tryd.prog 31 #[.agg #[.string ⟨b.name.toArray⟩, .int .i64 b.next, .slice a n c], .pointer (some ⟨N, 0, none⟩)] w fun e w' => e = .returned (.bool (b.name == name)) ∧ Below w.heap.size w w' := by
  have hNa := moved hN (ba (Below.refl w.heap.size w) (.cells #[.string ⟨b.name.toArray⟩, .int .i64 b.next, .slice a n c] 52)) (Nat.le_refl _)
  have hA := Lib.hid (ba (Below.refl w.heap.size w) (.cells #[.string ⟨b.name.toArray⟩, .int .i64 b.next, .slice a n c] 52))
  go_enter Tryd.func31, Tryd.ntmps31
  go_wp2_with fail
  go_ret
  exact ⟨rfl, hA.out⟩
set_option maxHeartbeats 2000000 in
set_option maxRecDepth 20000 in
theorem indexB_any (v : Value) (l : List Bx) (F : Dom) (name : List UInt8) (N : Nat) (w : World) (h : SAt cBox w F v l) (hl : l.length ≤ 1000) (hN : w.cell? ⟨N, 0, none⟩ = some (.string ⟨name.toArray⟩)) :
    Calls Tryd.prog 30 #[v, .func (.func 31) #[] #[.pointer (some ⟨N, 0, none⟩)]] w fun e w' => e = .returned (.int .i64 (idx (findB l name))) ∧ Below w.heap.size w w' := by
  obtain ⟨G, cap, rfl, hcap⟩ := h.form
  have H := Lib.hid h; have HN := Lib.hid hN
  clear h hN
  go_enter Tryd.func30, Tryd.ntmps30
  go_wp2_with fail
  go_loopw [8] (fun i wr => ∃ j : Nat, j ≤ l.length ∧ i = .int .i64 j ∧ (∀ k (hk : k < l.length), k < j → l[k].name ≠ name) ∧ Below w.heap.size w wr) (fun i _ => l.length - (intOf i).toNat)
  case atStart => exact ⟨0, Nat.zero_le _, rfl, (fun k _ h => absurd h (Nat.not_lt_zero _)), Below.refl _ _⟩
  case round =>
    obtain ⟨j, hj, rfl, hno, hb⟩ := hrel
    have HNO := Lib.hid hno
    clear hno
    by_cases hlt : j < l.length
    · obtain ⟨g, off, a, c, rfl, hF, hg, hac, hm, c0, c1, c2⟩ := box_get H.out hb j hlt
      have hC := Lib.hid (findc_any l[j] a l[j].mails.length c name N wr (moved HN.out hb (Nat.le_refl _)))
      have hgr : g < wr.heap.size := Nat.lt_of_lt_of_le hg hb.size
      by_cases he : l[j].name = name
      · have hfi : Hid (idx (findB l name) = (j : Int)) := by
          have : findB l name = some j := by
            unfold findB
            rw [List.findIdx?_eq_some_iff_getElem]
            exact ⟨hlt, by simpa using he, fun k hk => by simpa using HNO.out k (by omega) hk⟩
          unfold Hid; rw [this]; rfl
        have hC2 : Hid (Calls Tryd.prog 31 #[.agg #[.string ⟨l[j].name.toArray⟩, .int .i64 l[j].next, .slice a l[j].mails.length c], .pointer (some ⟨N, 0, none⟩)] wr fun e w' => e = .returned (.bool true) ∧ Below wr.heap.size wr w') := by
          have := hC.out
          rwa [show (l[j].name == name) = true by simpa using he] at this
        clear he hC hm HNO
        generalize l[j] = b at c0 c1 c2 hC2 hac
        go_wp2_with fail
        refine hC2.out.mono ?_
        rintro e w1 ⟨rfl, hb1⟩
        have HB := Lib.hid (bt hb hb1)
        clear c0 c1 c2 hb1 hb
        go_wp2_with fail
        go_ret
        exact ⟨by rw [hfi.out]; rfl, HB.out⟩
      · have hno2 : Hid (∀ k (hk : k < l.length), k < j + 1 → l[k].name ≠ name) := by
          intro k hk hkj
          rcases Nat.lt_succ_iff_lt_or_eq.1 hkj with h | h
          · exact HNO.out k hk h
          · subst h; exact he
        have hC2 : Hid (Calls Tryd.prog 31 #[.agg #[.string ⟨l[j].name.toArray⟩, .int .i64 l[j].next, .slice a l[j].mails.length c], .pointer (some ⟨N, 0, none⟩)] wr fun e w' => e = .returned (.bool false) ∧ Below wr.heap.size wr w') := by
          have := hC.out
          rwa [show (l[j].name == name) = false by simpa using he] at this
        clear he hC hm HNO
        generalize l[j] = b at c0 c1 c2 hC2 hac
        go_wp2_with fail
        refine hC2.out.mono ?_
        rintro e w1 ⟨rfl, hb1⟩
        have HB := Lib.hid (bt hb hb1)
        clear c0 c1 c2 hb1 hb
        go_wp2_with fail
        go_roundw
        case rel => exact ⟨j + 1, hlt, by go_num, hno2.out, HB.out⟩
        case measure => simp [intOf]; omega
    · obtain rfl : j = l.length := by omega
      have hfi : Hid (idx (findB l name) = -1) := by
        have : findB l name = none := by
          unfold findB
          rw [List.findIdx?_eq_none_iff]
          intro b hb
          obtain ⟨k, hk, rfl⟩ := List.getElem_of_mem hb
          simpa using HNO.out k hk hk
        unfold Hid; rw [this]; rfl
      clear HNO
      go_wp2_with fail
      go_ret
      exact ⟨by rw [hfi.out]; rfl, hb⟩
set_option maxHeartbeats 1000000 in
theorem find_any (v : Value) (l : List Bx) (F : Dom) (name : List UInt8) (w : World) (h : SAt cBox w F v l) (hl : l.length ≤ 1000) :
    Calls Tryd.prog 18 #[v, .string ⟨name.toArray⟩] w fun e w' => e = .returned (.int .i64 (idx (findB l name))) ∧ Below w.heap.size w w' := by
  have hA := ba (Below.refl w.heap.size w) (.cells #[.string ⟨name.toArray⟩] 9)
  have hI := Lib.hid (indexB_any v l F name w.heap.size (w.alloc (.cells #[.string ⟨name.toArray⟩] 9)) (h.down hA) hl ((Has.alloc w [.string ⟨name.toArray⟩] 9).1 0 _ rfl))
  have HA := Lib.hid hA
  obtain ⟨G, cap, rfl, hcap⟩ := h.form
  obtain ⟨r, hr⟩ : ∃ r, r = idx (findB l name) := ⟨_, rfl⟩
  rw [← hr] at hI ⊢
  clear h hA hr
  go_enter Tryd.func18, Tryd.ntmps18
  go_wp2_with fail
  refine hI.out.mono ?_
  rintro e w1 ⟨rfl, hb1⟩
  have HB := Lib.hid (bt HA.out hb1)
  clear hb1
  go_wp2_with fail
  go_ret
  exact ⟨rfl, HB.out⟩
end Go.Proofs.YtaeejmggmgejcaaDoor
