/-
  DERIVED. 'Check' of book: the walk.
-/
import Derived.Test.YtaeejmggmgejcaaDoorEnts
import Derived.Test.YtaeejmggmgejcaaDoorHas
namespace Go.Proofs.YtaeejmggmgejcaaDoor
open Go.RowKit

def firstBad : List Ent → Int
  | [] => 0
  | x :: l => if formV x = 0 then firstBad l else formV x
/-- what Check answers -/
def bcheckV (user : Nat) (xs : List Ent) : Int := if 3 ≤ user then 6 else if xs.length < 1 ∨ 10 < xs.length then 1 else firstBad xs
theorem firstBad_drop (xs : List Ent) (j : Nat) (x : Ent) (h : xs[j]? = some x) : firstBad (xs.drop j) = if formV x = 0 then firstBad (xs.drop (j + 1)) else formV x := by
  obtain ⟨hl, rfl⟩ := List.getElem?_eq_some_iff.1 h
  rw [List.drop_eq_getElem_cons hl]; rfl
theorem firstBad_zero : ∀ {xs : List Ent}, (∀ x ∈ xs, formV x = 0) → firstBad xs = 0
  | [], _ => rfl
  | x :: l, h => by
    show (if formV x = 0 then firstBad l else formV x) = 0
    rw [if_pos (h x (List.mem_cons_self ..)), firstBad_zero fun y hy => h y (List.mem_cons_of_mem _ hy)]
theorem firstBad_all : ∀ {xs : List Ent}, firstBad xs = 0 → ∀ x ∈ xs, formV x = 0
  | [], _, _, h => by cases h
  | y :: l, h, x, hx => by
    have h' : (if formV y = 0 then firstBad l else formV y) = 0 := h
    by_cases hy : formV y = 0
    · rw [if_pos hy] at h'
      rcases List.mem_cons.1 hx with rfl | hx
      · exact hy
      · exact firstBad_all h' x hx
    · rw [if_neg hy] at h'; exact absurd h' hy
theorem bcheck_ok {user : Nat} {xs : List Ent} (hu : user < 3) (hl : 1 ≤ xs.length ∧ xs.length ≤ 10) (h : ∀ x ∈ xs, formV x = 0) : bcheckV user xs = 0 := by
  unfold bcheckV
  rw [if_neg (by omega), if_neg (by omega), firstBad_zero h]
theorem bcheck_inv {user : Nat} {xs : List Ent} (h : bcheckV user xs = 0) : user < 3 ∧ (1 ≤ xs.length ∧ xs.length ≤ 10) ∧ ∀ x ∈ xs, formV x = 0 := by
  unfold bcheckV at h
  split at h
  · cases h
  · split at h
    · cases h
    · exact ⟨by omega, by omega, firstBad_all h⟩
theorem firstBad_nn : ∀ xs : List Ent, 0 ≤ firstBad xs
  | [] => Int.le_refl 0
  | x :: l => by
    show 0 ≤ if formV x = 0 then firstBad l else formV x
    have h1 := firstBad_nn l
    have h2 : 0 ≤ formV x := by
      unfold formV
      have hb := nameCode_cases x.box
      have ht := nameCode_cases x.to
      repeat' split
      all_goals omega
    split <;> omega

set_option maxHeartbeats 4000000 in
set_option maxRecDepth 20000 in
theorem bcheck_any (user : Nat) (xs : List Ent) (v : Value) (m : Int) (w : World) (he : EntsAt w v xs) (hf : ∀ x ∈ xs, Fits x) (hu : user < 1000000) (hl : xs.length ≤ 1000000) (hm : w.cell? ⟨0, 0, none⟩ = some (.int .i64 m)) :
    Calls Tryd.prog 10 #[.agg #[.int .i64 user, v]] w fun e w' => e = .returned (.int .i64 (bcheckV user xs)) ∧ Below w.heap.size w w' := by
  obtain ⟨G, cap, rfl, -, hat⟩ := he
  have HF : Hid (∀ (x : Ent) (w : World), Fits x → w.cell? ⟨0, 0, none⟩ = some (.int .i64 m) → Calls Tryd.prog 14 #[.agg #[.int .i64 x.kind, .string ⟨x.box.toArray⟩, .int .i64 x.uid, .int .i64 x.flags, .string ⟨x.to.toArray⟩, .string ⟨x.text.toArray⟩]] w fun e w' => e = .returned (.int .i64 (formV x)) ∧ Below w.heap.size w w') := by
    intro x w h hm
    obtain ⟨h1, h2, h3, h4, h5, h6⟩ := h
    exact form_any x m w (by omega) (by omega) (by omega) (by omega) (by omega) (by omega) hm
  have HAT := Lib.hid hat; have HFIT := Lib.hid hf; have HM := Lib.hid hm
  clear hat hf hm
  have hb0 := Lib.hid (ba (Below.refl _ w) (.cells #[.int .i64 user, .slice G xs.length cap] 34))
  by_cases h3 : 3 ≤ user
  · have hv : Hid (bcheckV user xs = 6) := by unfold Hid bcheckV; rw [if_pos h3]
    go_enter Tryd.func10, Tryd.ntmps10
    go_wp2_with fail
    go_ret
    exact ⟨ret_int hv.out.symm, hb0.out⟩
  by_cases h10 : xs.length < 1 ∨ 10 < xs.length
  · have hv : Hid (bcheckV user xs = 1) := by unfold Hid bcheckV; rw [if_neg h3, if_pos h10]
    rcases h10 with h | h
    · go_enter Tryd.func10, Tryd.ntmps10
      go_wp2_with fail
      go_ret
      exact ⟨ret_int hv.out.symm, hb0.out⟩
    · go_enter Tryd.func10, Tryd.ntmps10
      go_wp2_with fail
      go_ret
      exact ⟨ret_int hv.out.symm, hb0.out⟩
  · have hv : Hid (bcheckV user xs = firstBad xs) := by unfold Hid bcheckV; rw [if_neg h3, if_neg h10]
    go_enter Tryd.func10, Tryd.ntmps10
    go_wp2_with fail
    go_loopw [27] (fun i wr => ∃ j : Nat, j ≤ xs.length ∧ i = .int .i64 j ∧ Hid (firstBad xs = firstBad (xs.drop j)) ∧ Below w.heap.size w wr) (fun i _ => xs.length - (intOf i).toNat)
    case atStart => exact ⟨0, Nat.zero_le _, rfl, rfl, hb0.out⟩
    case round =>
      obtain ⟨j, hj, rfl, hfb, hb⟩ := hrel
      by_cases hlt : j < xs.length
      · obtain ⟨x, hx⟩ : ∃ x, xs[j]? = some x := ⟨_, List.getElem?_eq_getElem hlt⟩
        obtain ⟨g, hG, hg, hin⟩ := HAT.out j x hx
        have hfit := Lib.hid (HFIT.out x (List.mem_of_getElem? hx))
        obtain ⟨m0, m1, m2, m3, m4, m5⟩ := hin.down hb
        have hd := Lib.hid (firstBad_drop xs j x hx)
        subst hG
        have HB := Lib.hid hb
        clear hx hin hb
        go_wp2_with fail
        refine (HF.out x _ hfit.out (moved HM.out (ba HB.out _) (Nat.le_refl _))).mono ?_
        rintro e w1 ⟨rfl, hb1⟩
        have hb2 := Lib.hid (bt (ba HB.out _) hb1)
        clear m0 m1 m2 m3 m4 m5 hb1
        by_cases hz : formV x = 0
        · have hn : Hid (firstBad xs = firstBad (xs.drop (j + 1))) := by unfold Hid; rw [hfb.out, hd.out, if_pos hz]
          go_wp2_with fail
          go_roundw
          case rel => exact ⟨j + 1, by omega, by go_num, hn, hb2.out⟩
          case measure => simp [intOf]; omega
        · have hn : Hid (firstBad xs = formV x) := by unfold Hid; rw [hfb.out, hd.out, if_neg hz]
          go_wp2_with fail
          go_ret
          exact ⟨ret_int (by rw [hv.out, hn.out]), hb2.out⟩
      · obtain rfl : j = xs.length := by omega
        go_wp2_with fail
        go_ret
        exact ⟨ret_int (by rw [hv.out, hfb.out, List.drop_length]; rfl), hb⟩
end Go.Proofs.YtaeejmggmgejcaaDoor
