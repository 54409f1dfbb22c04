/-
  DERIVED. 'IndexFunc' and 'DeleteFunc' over mails: the walks.
-/
import Derived.Test.YtaeejmggmgejcaaDoorBoxSize
import Derived.Test.YtaeejmggmgejcaaDoorBoxRows
namespace Go.Proofs.YtaeejmggmgejcaaDoor
open Go.RowKit

def delB (m : Mail) : Bool := m.flags &&& 8 != 0
theorem bits8 : ∀ f : Fin 32, (bits .and .i64 ((f.val : Nat) : Int) 8 != 0) = (f.val &&& 8 != 0) := by decide +kernel
set_option maxHeartbeats 1000000 in
theorem delc_any (m : Mail) (w : World) (hf : m.flags ≤ 31) :
    Calls Tryd.prog 26 #[.agg #[.int .i64 m.uid, .int .i64 m.flags, .string ⟨m.text.toArray⟩]] w fun e w' => e = .returned (.bool (delB m)) ∧ Below w.heap.size w w' := by
  have hA := Lib.hid (ba (Below.refl w.heap.size w) (.cells #[.int .i64 m.uid, .int .i64 m.flags, .string ⟨m.text.toArray⟩] 54))
  have hb := Lib.hid (bits8 ⟨m.flags, by omega⟩)
  go_enter Tryd.func26, Tryd.ntmps26
  go_wp2_with fail
  go_ret
  exact ⟨congrArg (fun b => Ending.returned (.bool b)) hb.out, hA.out⟩
def uidB (u : Nat) (m : Mail) : Bool := m.uid == u
set_option maxHeartbeats 1000000 in
theorem uidc_any (m : Mail) (N u : Nat) (w : World) (hN : w.cell? ⟨N, 2, none⟩ = some (.int .i64 u)) :
    Calls Tryd.prog 28 #[.agg #[.int .i64 m.uid, .int .i64 m.flags, .string ⟨m.text.toArray⟩], .pointer (some ⟨N, 0, none⟩)] w fun e w' => e = .returned (.bool (uidB u m)) ∧ Below w.heap.size w w' := by
  have hNa := moved hN (ba (Below.refl w.heap.size w) (.cells #[.int .i64 m.uid, .int .i64 m.flags, .string ⟨m.text.toArray⟩] 54)) (Nat.le_refl _)
  have hA := Lib.hid (ba (Below.refl w.heap.size w) (.cells #[.int .i64 m.uid, .int .i64 m.flags, .string ⟨m.text.toArray⟩] 54))
  have hb : Hid (((m.uid : Int) == (u : Int)) = uidB u m) := by
    unfold Hid uidB
    rw [Bool.eq_iff_iff]; simp; omega
  go_enter Tryd.func28, Tryd.ntmps28
  go_wp2_with fail
  go_ret
  exact ⟨congrArg (fun b => Ending.returned (.bool b)) hb.out, hA.out⟩

set_option maxHeartbeats 2000000 in
set_option maxRecDepth 20000 in
theorem indexD_any (v : Value) (l : List Mail) (F : Dom) (w : World) (h : SAt cMail w F v l) (hl : l.length ≤ 1000) (hf : ∀ m ∈ l, m.flags ≤ 31) :
    Calls Tryd.prog 27 #[v, .func (.func 26) #[] #[]] w fun e w' => e = .returned (.int .i64 (idx (l.findIdx? delB))) ∧ Below w.heap.size w w' := by
  obtain ⟨G, cap, rfl, hcap⟩ := h.form
  have H := Lib.hid h; have HH := Lib.hid hf
  clear h hf
  go_enter Tryd.func27, Tryd.ntmps27
  go_wp2_with fail
  go_loopw [8] (fun i wr => ∃ j : Nat, j ≤ l.length ∧ i = .int .i64 j ∧ (∀ k (hk : k < l.length), k < j → delB l[k] = false) ∧ Below w.heap.size w wr) (fun i _ => l.length - (intOf i).toNat)
  case atStart => exact ⟨0, Nat.zero_le _, rfl, (fun k _ h => absurd h (Nat.not_lt_zero _)), Below.refl _ _⟩
  case round =>
    obtain ⟨j, hj, rfl, hno, hb⟩ := hrel
    have HNO := Lib.hid hno
    clear hno
    by_cases hlt : j < l.length
    · obtain ⟨g, off, rfl, hF, hg, c0, c1, c2⟩ := mail_get H.out hb j hlt
      have hC := Lib.hid (delc_any l[j] wr (HH.out _ (List.getElem_mem _)))
      have hgr : g < wr.heap.size := Nat.lt_of_lt_of_le hg hb.size
      cases hp : delB l[j] with
      | true =>
        have hfi : Hid (idx (l.findIdx? delB) = (j : Int)) := by
          have : l.findIdx? delB = some j := by
            rw [List.findIdx?_eq_some_iff_getElem]
            exact ⟨hlt, hp, fun k hk => by rw [HNO.out k (by omega) hk]; decide⟩
          unfold Hid; rw [this]; rfl
        rw [hp] at hC
        clear HNO hp
        generalize l[j] = m at c0 c1 c2 hC
        go_wp2_with fail
        refine hC.out.mono ?_
        rintro e w1 ⟨rfl, hb1⟩
        have HB := Lib.hid (bt hb hb1)
        clear c0 c1 c2 hb1 hb
        go_wp2_with fail
        go_ret
        exact ⟨by rw [hfi.out]; rfl, HB.out⟩
      | false =>
        have hno2 : Hid (∀ k (hk : k < l.length), k < j + 1 → delB l[k] = false) := by
          intro k hk hkj
          rcases Nat.lt_succ_iff_lt_or_eq.1 hkj with h | h
          · exact HNO.out k hk h
          · subst h; exact hp
        rw [hp] at hC
        clear HNO hp
        generalize l[j] = m at c0 c1 c2 hC
        go_wp2_with fail
        refine hC.out.mono ?_
        rintro e w1 ⟨rfl, hb1⟩
        have HB := Lib.hid (bt hb hb1)
        clear c0 c1 c2 hb1 hb
        go_wp2_with fail
        go_roundw
        case rel => exact ⟨j + 1, hlt, by go_num, hno2.out, HB.out⟩
        case measure => simp [intOf]; omega
    · obtain rfl : j = l.length := by omega
      have hfi : Hid (idx (l.findIdx? delB) = -1) := by
        have : l.findIdx? delB = none := by
          rw [List.findIdx?_eq_none_iff]
          intro b hb
          obtain ⟨k, hk, rfl⟩ := List.getElem_of_mem hb
          exact HNO.out k hk hk
        unfold Hid; rw [this]; rfl
      clear HNO
      go_wp2_with fail
      go_ret
      exact ⟨by rw [hfi.out]; rfl, hb⟩

set_option maxHeartbeats 2000000 in
set_option maxRecDepth 20000 in
theorem indexU_any (v : Value) (l : List Mail) (F : Dom) (N u : Nat) (w : World) (h : SAt cMail w F v l) (hl : l.length ≤ 1000) (hN : w.cell? ⟨N, 2, none⟩ = some (.int .i64 u)) :
    Calls Tryd.prog 27 #[v, .func (.func 28) #[] #[.pointer (some ⟨N, 0, none⟩)]] w fun e w' => e = .returned (.int .i64 (idx (l.findIdx? (uidB u)))) ∧ Below w.heap.size w w' := by
  obtain ⟨G, cap, rfl, hcap⟩ := h.form
  have H := Lib.hid h; have HH := Lib.hid hN
  clear h hN
  go_enter Tryd.func27, Tryd.ntmps27
  go_wp2_with fail
  go_loopw [8] (fun i wr => ∃ j : Nat, j ≤ l.length ∧ i = .int .i64 j ∧ (∀ k (hk : k < l.length), k < j → (uidB u) l[k] = false) ∧ Below w.heap.size w wr) (fun i _ => l.length - (intOf i).toNat)
  case atStart => exact ⟨0, Nat.zero_le _, rfl, (fun k _ h => absurd h (Nat.not_lt_zero _)), Below.refl _ _⟩
  case round =>
    obtain ⟨j, hj, rfl, hno, hb⟩ := hrel
    have HNO := Lib.hid hno
    clear hno
    by_cases hlt : j < l.length
    · obtain ⟨g, off, rfl, hF, hg, c0, c1, c2⟩ := mail_get H.out hb j hlt
      have hC := Lib.hid (uidc_any l[j] N u wr (moved HH.out hb (Nat.le_refl _)))
      have hgr : g < wr.heap.size := Nat.lt_of_lt_of_le hg hb.size
      cases hp : (uidB u) l[j] with
      | true =>
        have hfi : Hid (idx (l.findIdx? (uidB u)) = (j : Int)) := by
          have : l.findIdx? (uidB u) = some j := by
            rw [List.findIdx?_eq_some_iff_getElem]
            exact ⟨hlt, hp, fun k hk => by rw [HNO.out k (by omega) hk]; decide⟩
          unfold Hid; rw [this]; rfl
        rw [hp] at hC
        clear HNO hp
        generalize l[j] = m at c0 c1 c2 hC
        go_wp2_with fail
        refine hC.out.mono ?_
        rintro e w1 ⟨rfl, hb1⟩
        have HB := Lib.hid (bt hb hb1)
        clear c0 c1 c2 hb1 hb
        go_wp2_with fail
        go_ret
        exact ⟨by rw [hfi.out]; rfl, HB.out⟩
      | false =>
        have hno2 : Hid (∀ k (hk : k < l.length), k < j + 1 → (uidB u) l[k] = false) := by
          intro k hk hkj
          rcases Nat.lt_succ_iff_lt_or_eq.1 hkj with h | h
          · exact HNO.out k hk h
          · subst h; exact hp
        rw [hp] at hC
        clear HNO hp
        generalize l[j] = m at c0 c1 c2 hC
        go_wp2_with fail
        refine hC.out.mono ?_
        rintro e w1 ⟨rfl, hb1⟩
        have HB := Lib.hid (bt hb hb1)
        clear c0 c1 c2 hb1 hb
        go_wp2_with fail
        go_roundw
        case rel => exact ⟨j + 1, hlt, by go_num, hno2.out, HB.out⟩
        case measure => simp [intOf]; omega
    · obtain rfl : j = l.length := by omega
      have hfi : Hid (idx (l.findIdx? (uidB u)) = -1) := by
        have : l.findIdx? (uidB u) = none := by
          rw [List.findIdx?_eq_none_iff]
          intro b hb
          obtain ⟨k, hk, rfl⟩ := List.getElem_of_mem hb
          exact HNO.out k hk hk
        unfold Hid; rw [this]; rfl
      clear HNO
      go_wp2_with fail
      go_ret
      exact ⟨by rw [hfi.out]; rfl, hb⟩
end Go.Proofs.YtaeejmggmgejcaaDoor
