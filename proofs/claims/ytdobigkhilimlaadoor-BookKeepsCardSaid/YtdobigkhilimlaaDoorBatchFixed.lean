/-
  DERIVED. BatchFixed: the walk.
-/
import Derived.Test.YtdobigkhilimlaaDoorBatchTorn
namespace Go.Proofs.YtdobigkhilimlaaDoor
open Go.RowKit

theorem conv_at {w : World} {a : Option Addr} {cap : Nat} {x : List UInt8} (hat : BytesAt w a x) : (convert 27 9 (.slice a x.length cap)).run Tryd.prog w = .ok (.string ⟨x.toArray⟩) w := by
  cases a with
  | none =>
    cases x with
    | nil => exact run_convert_bytes_nil (P := Tryd.prog) w _ _ Tryd.underlying27 Tryd.underlying5 0 cap _ Tryd.underlying9
    | cons c l =>
      obtain ⟨g, off, ha, _⟩ := hat 0 c rfl
      cases ha
  | some A =>
    refine run_convert_bytes_back w _ _ _ A cap x Tryd.underlying27 Tryd.underlying5 Tryd.underlying9 ?_
    intro j hj
    obtain ⟨g, off, ha, _, hc⟩ := hat j x[j] (List.getElem?_eq_getElem hj)
    obtain rfl := Option.some.inj ha
    rw [Addr.add_lit]
    exact hc

set_option maxHeartbeats 1500000 in
set_option maxRecDepth 20000 in
theorem decode_big (a : Option Addr) (cap n : Nat) (w : World) (hn : 100000 < n) (hx : n ≤ 9223372036854775807) :
    Calls Tryd.prog 12 #[.slice a n cap] w fun e w' => (∃ v, e = .returned (.tuple #[.agg #[.int .i64 (0 : Nat), v], .int .i64 1]) ∧ EntsAt w' v []) ∧ Below w.heap.size w w' := by
  have hb0 := ba (Below.refl _ w) (.cells #[.int .i64 0, .slice none 0 0] 25)
  have h0 := Has.alloc w [.int .i64 0, .slice none 0 0] 25
  go_enter Tryd.func12, Tryd.ntmps12
  go_wp2_with fail
  exact decode_end (R := w.heap.size) rfl rfl rfl h0 (ents_nil _) hb0
theorem decode_all (v : Value) (l : List UInt8) (m : Int) (w : World) (h : Bytes w v l) (hl : l.length ≤ 9223372036854775807) (hm : w.cell? ⟨0, 0, none⟩ = some (.int .i64 m)) :
    Calls Tryd.prog 12 #[v] w fun e w' => (∃ v, e = .returned (.tuple #[.agg #[.int .i64 (decodeV l).1.1, v], .int .i64 (decodeV l).2]) ∧ EntsAt w' v (decodeV l).1.2) ∧ Below w.heap.size w w' := by
  by_cases hb : 100000 < l.length
  · have hd : decodeV l = ((0, []), 1) := by unfold decodeV; rw [if_pos hb]
    rw [hd]
    obtain ⟨a, cap, rfl, _⟩ := h
    exact decode_big a cap l.length w hb hl
  · exact decode_bytes v l m w h (by omega) hm
theorem decodeV_err {l : List UInt8} (h : (decodeV l).2 ≠ 0) : (decodeV l).1 = (0, []) := by
  unfold decodeV at h ⊢
  by_cases hl : 100000 < l.length
  · rw [if_pos hl]
  · rw [if_neg hl] at h ⊢
    cases hd : (decodeL l).2 with
    | none => rfl
    | some r =>
      rw [hd] at h
      cases r with
      | cons c r => rfl
      | nil =>
        simp only at h ⊢
        by_cases hc : bcheckV (decodeL l).1.1 (decodeL l).1.2 = 0
        · rw [if_pos hc] at h; exact absurd rfl h
        · rw [if_neg hc]

set_option maxHeartbeats 8000000 in
set_option maxRecDepth 20000 in
theorem batchFixed_walk (a : Option Addr) (cap : Nat) (l : List UInt8) (m : Int) (w : World) (h : BytesAt w a l) (hl : l.length ≤ 140737488351232) (hm : w.cell? ⟨0, 0, none⟩ = some (.int .i64 m)) :
    Calls Tryd.prog 4 #[.slice a l.length cap] w fun e w' => e = .returned (.bool true) ∧ Below w.heap.size w w' := by
  obtain ⟨i0, hi, hz0, hz1, hz2⟩ := info_parts infoU8
  have HI := Lib.hid hi; have HZ0 := Lib.hid hz0; have HZ1 := Lib.hid hz1; have HZ2 := Lib.hid hz2
  clear hi hz0 hz1 hz2
  have hDe : Hid (∀ v w', OwnB w' w.heap.size 5 v l → w'.cell? ⟨0, 0, none⟩ = some (.int .i64 m) → Calls Tryd.prog 12 #[v] w' fun e w'' => (∃ v, e = .returned (.tuple #[.agg #[.int .i64 (decodeV l).1.1, v], .int .i64 (decodeV l).2]) ∧ EntsAt w'' v (decodeV l).1.2) ∧ Below w'.heap.size w' w'') :=
    fun v w' ho hm => decode_all v l m w' ho.bytes (by omega) hm
  have hCV : Hid (∀ w', Below w.heap.size w w' → (convert 27 9 (.slice a l.length cap)).run Tryd.prog w' = .ok (.string ⟨l.toArray⟩) w') := by
    intro w' hb
    refine conv_at (fun i c hi => ?_)
    obtain ⟨g, off, h1, h2, h3⟩ := h i c hi
    exact ⟨g, off, h1, Nat.lt_of_lt_of_le h2 hb.size, moved h3 hb (Nat.le_refl _)⟩
  have hCopy : Hid (a = none ∧ l = [] ∨ ∃ x, a = some x ∧ ∀ j u, (bcells l)[j]? = some u → w.cell? (x.add j) = some u) := by
    cases a with
    | none =>
      left
      refine ⟨rfl, ?_⟩
      cases l with
      | nil => rfl
      | cons c l => obtain ⟨g, off, ha, _⟩ := h 0 c rfl; cases ha
    | some x =>
      right
      refine ⟨_, rfl, fun j u hj => ?_⟩
      have hjl : j < l.length := by have := (List.getElem?_eq_some_iff.1 hj).1; rwa [bcells_length] at this
      rw [bcells_get _ j hjl] at hj
      obtain rfl := Option.some.inj hj
      obtain ⟨g', off', ha', _, hc⟩ := h j _ (List.getElem?_eq_getElem hjl)
      cases ha'
      rw [Addr.add_lit]
      exact hc
  have hEn : Hid ((decodeV l).2 = 0 → ∀ v w', EntsAt w' v (decodeV l).1.2 → w'.cell? ⟨0, 0, none⟩ = some (.int .i64 m) → Calls Tryd.prog 11 #[.agg #[.int .i64 (decodeV l).1.1, v]] w' fun e w'' => (∃ v', e = .returned (.tuple #[v', .int .i64 0]) ∧ OwnB w'' w'.heap.size 5 v' l) ∧ Below w'.heap.size w' w'') := by
    intro hz v w' he hm
    obtain ⟨e1, hg⟩ := decodeV_ok hz
    obtain ⟨g1, g2, g3⟩ := bcheck_inv hg
    have := encode_any (decodeV l).1.1 (decodeV l).1.2 v m w' he (fun x hx => (small_of_form (g3 x hx)).fits) (by omega) (by omega) hm
    rw [show bcheckV (decodeV l).1.1 (decodeV l).1.2 = 0 from hg, if_pos rfl, ← e1] at this
    exact this
  have hErr : Hid ((decodeV l).2 ≠ 0 → (decodeV l).1 = (0, [])) := decodeV_err
  have HM := Lib.hid hm
  clear h hm
  rcases hCopy.out with ⟨rfl, rfl⟩ | ⟨x, rfl, hcells⟩
  · go_enter Tryd.func4, Tryd.ntmps4
    go_wp2_with fail
    have hown5 : Hid (OwnB w w.heap.size 5 (.slice none 0 0) []) := World.ownsRow_nil _ _ _ _
    have HD4 := Lib.hid (Below.refl w.heap.size w)
    go_wp2_with fail
    refine (hDe.out _ _ hown5.out (moved HM.out HD4.out (Nat.le_refl _))).mono ?_
    rintro e w5 ⟨⟨v5, rfl, he5⟩, hb5⟩
    obtain ⟨G5, cp5, rfl⟩ := he5.slice
    have hA := ba (Below.refl w5.heap.size w5) (.cells #[.int .i64 (decodeV []).1.1, .slice G5 (decodeV []).1.2.length cp5] 25)
    have HE5 := Lib.hid (he5.down hA)
    have HB5 := Lib.hid (bt (bt HD4.out hb5) hA)
    clear he5 hb5 hA hown5 hDe
    by_cases hz : (decodeV []).2 = 0
    · exact absurd (hz.symm.trans (show (decodeV []).2 = 4 from rfl)) (by decide)
    · have he := hErr.out hz
      obtain ⟨c, hc⟩ : ∃ c, c = (decodeV []).2 := ⟨_, rfl⟩
      rw [← hc] at hz ⊢
      have he1 : (decodeV []).1.1 = 0 := by rw [he]
      have he2 : (decodeV []).1.2 = [] := by rw [he]
      rw [he1, he2] at HB5 ⊢
      simp only [List.length_nil] at HB5 ⊢
      clear hEn hErr he hc HE5 he1 he2
      go_wp2_with fail
      go_ret
      exact ⟨rfl, HB5.out⟩
  · have HCE := Lib.hid hcells
    clear hcells
    go_enter Tryd.func4, Tryd.ntmps4
    go_wp2_with (at_builtin; refine wpList_append_own _ rfl _ _ 27 rfl w.heap.size 5 i0 (.int .u8 0) 1 1 Tryd.underlying27 HI.out HZ0.out HZ1.out HZ2.out rfl (by decide) (.slice none 0 0) 0 [] rfl (World.ownsRow_nil _ _ _ _) x l.length cap (bcells l) rfl (by rw [bcells_length, Nat.mul_one]) HCE.out (bcells_one l) (by unfold maxLen; omega) (by omega) (Nat.le_refl _) ?_)
    intro v4 w4 hown4 hgrow4 _
    have hd4 := below_grown_none hgrow4
    have hown5 : Hid (OwnB w4 w.heap.size 5 v4 l) := by simpa [Hid, OwnB] using hown4
    have HD4 := Lib.hid hd4
    clear hgrow4 hd4 hown4
    go_wp2_with fail
    refine (hDe.out _ _ hown5.out (moved HM.out HD4.out (Nat.le_refl _))).mono ?_
    rintro e w5 ⟨⟨v5, rfl, he5⟩, hb5⟩
    obtain ⟨G5, cp5, rfl⟩ := he5.slice
    have hA := ba (Below.refl w5.heap.size w5) (.cells #[.int .i64 (decodeV l).1.1, .slice G5 (decodeV l).1.2.length cp5] 25)
    have HE5 := Lib.hid (he5.down hA)
    have HB5 := Lib.hid (bt (bt HD4.out hb5) hA)
    clear he5 hb5 hA hown5 hDe
    by_cases hz : (decodeV l).2 = 0
    · have HEN := Lib.hid (hEn.out hz)
      have HZ := Lib.hid hz
      clear hz hEn hErr
      obtain ⟨u, hu⟩ : ∃ u, u = (decodeV l).1.1 := ⟨_, rfl⟩
      obtain ⟨xs, hxs⟩ : ∃ xs, xs = (decodeV l).1.2 := ⟨_, rfl⟩
      rw [← hu, ← hxs] at HE5 HEN HB5 ⊢
      rw [HZ.out]
      clear hu hxs
      go_wp2_with fail
      refine (HEN.out _ _ HE5.out (moved HM.out HB5.out (Nat.le_refl _))).mono ?_
      rintro e w6 ⟨⟨v6, rfl, ho6⟩, hb6⟩
      have HB6 := Lib.hid (bt HB5.out hb6)
      have hc1 := hCV.out w6 HB6.out
      have hc2 := conv_bytes ho6.bytes
      clear hb6
      go_wp2_with fail
      go_ret
      exact ⟨rfl, HB6.out⟩
    · have he := hErr.out hz
      obtain ⟨c, hc⟩ : ∃ c, c = (decodeV l).2 := ⟨_, rfl⟩
      rw [← hc] at hz ⊢
      have he1 : (decodeV l).1.1 = 0 := by rw [he]
      have he2 : (decodeV l).1.2 = [] := by rw [he]
      rw [he1, he2] at HB5 ⊢
      simp only [List.length_nil] at HB5 ⊢
      clear hEn hErr he hc HE5 he1 he2
      go_wp2_with fail
      go_ret
      exact ⟨rfl, HB5.out⟩
end Go.Proofs.YtdobigkhilimlaaDoor
