/-
  DERIVED. quote of token: the walk.
-/
import Derived.Test.YtpjiiipabbchiaaDoorTkBuild
import Derived.Test.YtpjiiipabbchiaaDoorTokMore
import Derived.Lib.ReplaceLaws
namespace Go.Proofs.YtpjiiipabbchiaaDoor.Tk
open Go.RowKit

theorem replaceK_one (c : UInt8) (new : List UInt8) : ∀ (s : List UInt8) (k : Nat), Go.Lib.count s [c] ≤ k → Go.Lib.replaceK [c] new k s = s.flatMap (fun x => if x = c then new else [x])
  | [], 0, _ => rfl
  | [], k + 1, _ => by unfold Go.Lib.replaceK; rw [if_pos (by rfl)]; rfl
  | b :: l, k, h => by
    by_cases hb : b = c
    · subst hb
      rw [Go.Lib.count_cons_eq] at h
      obtain ⟨k', rfl⟩ : ∃ k', k = k' + 1 := ⟨k - 1, by omega⟩
      have h0 : Go.Lib.index (b :: l) [b] = ((0 : Nat) : Int) := by unfold Go.Lib.index; rw [if_pos (by simp)]; rfl
      rw [Go.Lib.replaceK_hit _ _ _ _ 0 h0, List.flatMap_cons, if_pos rfl]
      show [] ++ new ++ Go.Lib.replaceK [b] new k' l = _
      rw [replaceK_one b new l k' (by omega)]
      rfl
    · rw [Go.Lib.count_cons_ne _ _ _ hb] at h
      have ih := replaceK_one c new l k h
      rw [List.flatMap_cons, if_neg hb]
      cases k with
      | zero =>
        show b :: l = _
        have : l = Go.Lib.replaceK [c] new 0 l := rfl
        rw [← ih, ← this]; rfl
      | succ k =>
        have hp : List.isPrefixOf [c] (b :: l) = false := by
          simp only [List.isPrefixOf, Bool.and_eq_false_imp, beq_iff_eq]
          intro e; exact absurd e.symm hb
        have hge := Go.Lib.index_ge l [c]
        by_cases hm : Go.Lib.index l [c] = -1
        · have hm2 : Go.Lib.index (b :: l) [c] = -1 := by unfold Go.Lib.index; rw [hp, hm]; rfl
          unfold Go.Lib.replaceK at ih ⊢
          rw [hm] at ih
          rw [hm2, if_pos (by rfl)]
          rw [if_pos (by rfl)] at ih
          rw [← ih]; rfl
        · obtain ⟨i, hi⟩ : ∃ i : Nat, Go.Lib.index l [c] = i := ⟨(Go.Lib.index l [c]).toNat, by omega⟩
          have hi2 : Go.Lib.index (b :: l) [c] = ((i + 1 : Nat) : Int) := by
            unfold Go.Lib.index
            rw [hp, hi]
            have : ((i : Int) == -1) = false := beq_eq_false_iff_ne.2 (by omega)
            rw [this]; simp
          rw [Go.Lib.replaceK_hit _ _ _ _ i hi] at ih
          rw [Go.Lib.replaceK_hit _ _ _ _ (i + 1) hi2, ← ih]
          simp [List.take_succ_cons]
theorem replaceAll_one (c : UInt8) (new s : List UInt8) (h : [c] ≠ new) : Go.Lib.replaceAll s [c] new = s.flatMap (fun x => if x = c then new else [x]) := by
  unfold Go.Lib.replaceAll Go.Lib.replace
  have h1 : ([c] == new) = false := beq_eq_false_iff_ne.2 h
  rw [h1]
  show Go.Lib.replaceK [c] new (Go.Lib.replaceNum s [c] (-1)) s = _
  refine replaceK_one c new s _ ?_
  unfold Go.Lib.replaceNum
  rw [if_pos (.inl (by decide))]
  exact Nat.le_refl _
theorem esc_two (s : List UInt8) : Go.Lib.replaceAll (Go.Lib.replaceAll s [92] [92, 92]) [34] [92, 34] = esc s := by
  rw [replaceAll_one 92 [92, 92] s (by simp), replaceAll_one 34 [92, 34] _ (by simp)]
  unfold esc
  induction s with
  | nil => rfl
  | cons c s ih =>
    rw [List.flatMap_cons, List.flatMap_append, ih, List.flatMap_cons]
    congr 1
    by_cases h1 : c = 92
    · subst h1; rfl
    · by_cases h2 : c = 34
      · subst h2; rfl
      · rw [if_neg h1, if_neg (by rintro (h | h); exact h2 h; exact h1 h)]
        simp [h2]
theorem quote_eq (x : ByteArray) {s : List UInt8} (h : x.data.toList = esc s) : (⟨#[34]⟩ : ByteArray) ++ x ++ ⟨#[34]⟩ = ⟨(quoteL s).toArray⟩ := by
  rw [← Lib.mk_data ((⟨#[34]⟩ : ByteArray) ++ x ++ ⟨#[34]⟩)]
  congr 2
  rw [ByteArray.toList_data_append, ByteArray.toList_data_append, h]
  rfl

set_option maxHeartbeats 2000000 in
set_option maxRecDepth 20000 in
theorem quote_any (x : ByteArray) (m : Int) (w : World) (hx : x.size ≤ 100000) (hm : w.cell? ⟨0, 0, none⟩ = some (.int .i64 m)) :
    Calls Tryd.prog 17 #[.string x] w fun e w' => e = .returned (.string ⟨(quoteL x.data.toList).toArray⟩) ∧ Below w.heap.size w w' := by
  have hc1 := Go.Lib.countB_mul_le ⟨#[92]⟩ (by decide) x.size x (Nat.le_refl _)
  have h1 := Tryd.strings_ReplaceAll x ⟨#[92]⟩ ⟨#[92, 92]⟩ m w (by omega) hm (by decide) (by show x.size + _ * 2 ≤ _; have : Go.Lib.countB x ⟨#[92]⟩ * 1 ≤ x.size := hc1; omega)
  obtain ⟨Y, hY⟩ : ∃ Y : ByteArray, Y = ⟨(Go.Lib.replaceAll x.data.toList (⟨#[92]⟩ : ByteArray).data.toList (⟨#[92, 92]⟩ : ByteArray).data.toList).toArray⟩ := ⟨_, rfl⟩
  rw [← hY] at h1
  have hYl : Y.data.toList = Go.Lib.replaceAll x.data.toList [92] [92, 92] := by rw [hY]
  have hYs : Y.size ≤ 200000 := by
    have e1 : Y.size = Y.data.toList.length := by simp
    have hf : ∀ l : List UInt8, (l.flatMap (fun z => if z = 92 then [92, 92] else [z])).length ≤ 2 * l.length := by
      intro l
      induction l with
      | nil => exact Nat.le_refl _
      | cons c l ih =>
        rw [List.flatMap_cons, List.length_append, List.length_cons]
        have : (if c = 92 then [92, 92] else [c] : List UInt8).length ≤ 2 := by split <;> simp
        omega
    have hl := hf x.data.toList
    have e2 : x.data.toList.length = x.size := by simp
    rw [e1, hYl, replaceAll_one 92 [92, 92] _ (by simp)]
    omega
  have hc2 := Go.Lib.countB_mul_le ⟨#[34]⟩ (by decide) Y.size Y (Nat.le_refl _)
  have h2 : Hid (∀ w', w'.cell? ⟨0, 0, none⟩ = some (.int .i64 m) → Calls Tryd.prog 31 #[.string Y, .string ⟨#[34]⟩, .string ⟨#[92, 34]⟩] w' fun e w'' => (∃ Z : ByteArray, e = .returned (.string Z) ∧ Z.data.toList = esc x.data.toList ∧ Z.size ≤ 400000) ∧ Below w'.heap.size w' w'') := by
    intro w' hm'
    refine (Tryd.strings_ReplaceAll Y ⟨#[34]⟩ ⟨#[92, 34]⟩ m w' (by omega) hm' (by decide) (by show Y.size + _ * 2 ≤ _; have : Go.Lib.countB Y ⟨#[34]⟩ * 1 ≤ Y.size := hc2; omega)).mono ?_
    rintro e w'' ⟨rfl, hb⟩
    refine ⟨⟨_, rfl, ?_, ?_⟩, hb⟩
    · show Go.Lib.replaceAll Y.data.toList [34] [92, 34] = _
      rw [hYl, esc_two]
    · show (List.toArray _).size ≤ _
      rw [List.size_toArray]
      show (Go.Lib.replaceAll Y.data.toList [34] [92, 34]).length ≤ _
      rw [hYl, esc_two]
      have := esc_len x.data.toList
      have e2 : x.data.toList.length = x.size := by simp
      omega
  have H1 := Lib.hid h1; have HM := Lib.hid hm
  clear hc1 hc2 h1 hm hY hYl hYs
  go_enter Tryd.func17, Tryd.ntmps17
  go_wp2_with fail
  refine H1.out.mono ?_
  rintro e w1 ⟨rfl, hb1⟩
  have HM1 := moved HM.out hb1 (Nat.le_refl _)
  have H2 := Lib.hid (h2.out w1 HM1)
  have HB1 := Lib.hid hb1
  clear HM1 hb1 H1
  go_wp2_with fail
  refine H2.out.mono ?_
  rintro e w2 ⟨⟨Z, rfl, hz, hzs⟩, hb2⟩
  have HQ := Lib.hid (quote_eq Z hz)
  have HB2 := Lib.hid (bt HB1.out hb2)
  clear hz hb2 h2 H2
  go_wp2_with fail
  go_ret
  exact ⟨congrArg (fun b => Ending.returned (Value.string b)) HQ.out, HB2.out⟩
end Go.Proofs.YtpjiiipabbchiaaDoor.Tk
