/-
  DERIVED. LetterFixed: the walk.
-/
import Derived.Test.YtkchoempejdleaaDoorFixPlain
namespace Go.Proofs.YtkchoempejdleaaDoor
open Go.RowKit

set_option maxHeartbeats 2000000 in
set_option maxRecDepth 20000 in
theorem parse_big (s : ByteArray) (w : World) (hs : 2000 < s.size) :
    Calls Tryd.prog 22 #[.string s] w fun e w' => e = .returned (.tuple #[.agg #[.slice none 0 0, .string ⟨#[]⟩], .int .i64 0, .int .i64 1]) ∧ Below w.heap.size w w' := by
  obtain ⟨R, hR⟩ : ∃ R, R = w.heap.size := ⟨_, rfl⟩
  have hp0 : Pair (w.alloc (.cells #[.slice none 0 0, .string ⟨#[]⟩] 45)) R (.slice none 0 0) (.string ⟨#[]⟩) := by rw [hR]; exact Pair.alloc w _ _ _
  have hb0 := ba (Below.refl _ w) (.cells #[.slice none 0 0, .string ⟨#[]⟩] 45)
  obtain ⟨W0, hW0⟩ : ∃ W0, W0 = w.alloc (.cells #[.slice none 0 0, .string ⟨#[]⟩] 45) := ⟨_, rfl⟩
  rw [← hW0] at hp0 hb0
  have HW0 := Lib.hid hW0.symm
  obtain ⟨d0, d1, g0, g1, hbl2⟩ := hp0
  have HR := Lib.hid hR
  clear hW0 hR
  go_enter Tryd.func22, Tryd.ntmps22
  have c0 : (w.alloc (.cells #[.slice none 0 0, .string ⟨#[]⟩] 45)).cell? ⟨w.heap.size, 0, none⟩ = some (.slice none 0 0) := alloc_cell w _ _ 0 _ rfl
  have c1 : (w.alloc (.cells #[.slice none 0 0, .string ⟨#[]⟩] 45)).cell? ⟨w.heap.size, 1, none⟩ = some (.string ⟨#[]⟩) := alloc_cell w _ _ 1 _ rfl
  go_wp2_with fail
  rw [HW0.out, ← HR.out]
  refine bodyPost_ret (v := .tuple #[.agg #[.slice none 0 0, .string ⟨#[]⟩], .int .i64 0, .int .i64 1]) (by simp [results, Tryd.results22, go_sem, d0, d1]) rfl ?_
  rw [HR.out]
  exact ⟨rfl, hb0⟩
/-- what Parse answers of whatever text -/
def FixSays (w' : World) (e : Ending) : Prop :=
  (∃ (G : Option Addr) (cap n c : Nat), c ≠ 0 ∧ e = .returned (.tuple #[.agg #[.slice G 0 cap, .string ⟨#[]⟩], .int .i64 n, .int .i64 c])) ∨
  (∃ (v : Value) (fs : List Fld) (B : ByteArray) (n : Nat), (∀ f ∈ fs, Good f) ∧ fs.length ≤ 30 ∧ (showF fs).length ≤ 2120 ∧ B.size ≤ 2120 ∧ e = .returned (.tuple #[.agg #[v, .string B], .int .i64 n, .int .i64 0]) ∧ FldsAt w' v fs)
theorem parse_whatever (s : ByteArray) (m : Int) (w : World) (hm : w.cell? ⟨0, 0, none⟩ = some (.int .i64 m)) :
    Calls Tryd.prog 22 #[.string s] w fun e w' => FixSays w' e ∧ Below w.heap.size w w' := by
  by_cases hs : 2000 < s.size
  · refine (parse_big s w hs).mono ?_
    rintro e w' ⟨rfl, hb⟩
    exact ⟨.inl ⟨none, 0, 0, 1, by omega, rfl⟩, hb⟩
  · refine (parse_any s m w (by omega) hm).mono ?_
    rintro e w' ⟨⟨v, he, hv⟩, hb⟩
    have hl : s.data.toList.length = s.size := by simp
    obtain ⟨i1, i2⟩ := parse_inv (s.data.toList.length + 1) 0 [] s.data.toList (by omega) (by simp) (by simp) (by show 0 + _ ≤ _; omega)
    refine ⟨?_, hb⟩
    by_cases h0 : (parseL 0 [] s.data.toList).2.2 = 0
    · obtain ⟨j1, j2, j3, j4⟩ := i2 h0
      refine .inr ⟨v, (parseL 0 [] s.data.toList).1.1, ⟨(parseL 0 [] s.data.toList).1.2.toArray⟩, (parseL 0 [] s.data.toList).2.1, j1, j2, j3, ?_, ?_, FldsAt.of_row hv⟩
      · show (List.toArray _).size ≤ _
        rw [List.size_toArray]; exact j4
      · rw [he, h0]; rfl
    · have hn := i1 h0
      have hn' : (parseL 0 [] s.data.toList).1 = ([], []) := hn
      rw [hn'] at he hv
      obtain ⟨G, cap, rfl, _⟩ := FldsAt.of_row hv
      exact .inl ⟨G, cap, _, _, h0, he⟩

set_option maxHeartbeats 8000000 in
set_option maxRecDepth 20000 in
theorem letterFixedWalk (s : ByteArray) (m : Int) (w : World) (_hs : s.size ≤ maxLen) (hm : w.cell? ⟨0, 0, none⟩ = some (.int .i64 m)) :
    Calls Tryd.prog 10 #[.string s] w fun e w' => e = .returned (.bool true) ∧ Below w.heap.size w w' := by
  have HP0 : Hid (∀ w, w.cell? ⟨0, 0, none⟩ = some (.int .i64 m) → Calls Tryd.prog 22 #[.string ⟨#[]⟩] w fun e w' => (∃ G cap, e = .returned (.tuple #[.agg #[.slice G 0 cap, .string ⟨#[]⟩], .int .i64 0, .int .i64 4])) ∧ Below w.heap.size w w') := fun w h =>
    parse_walk_err ⟨#[]⟩ 0 4 m w (by decide) (parse_short rfl) h
  have HPs : Hid (∀ w, w.cell? ⟨0, 0, none⟩ = some (.int .i64 m) → Calls Tryd.prog 22 #[.string s] w fun e w' => FixSays w' e ∧ Below w.heap.size w w') := fun w h => parse_whatever s m w h
  have hM := Lib.hid hm
  clear hm
  go_enter Tryd.func10, Tryd.ntmps10
  go_wp2_with fail
  refine (HP0.out _ hM.out).mono ?_
  rintro e w1 ⟨⟨G, cap, rfl⟩, hw1⟩
  have hw1' := ba hw1 (.cells #[.slice G 0 cap, .string ⟨#[]⟩] 45)
  go_wp2_with fail
  refine (HPs.out _ (moved hM.out hw1' (Nat.le_refl _))).mono ?_
  rintro e w2 ⟨hsay, hb2⟩
  have hw2 := bt hw1' hb2
  rcases hsay with ⟨G2, cap2, n, c, hc, rfl⟩ | ⟨v, fs, B, n, hg, hl, hz, hB, rfl, hv⟩
  · have hcn : ((c : Int) == 0) = false := beq_eq_false_iff_ne.2 (by omega)
    have hw3 := ba hw2 (.cells #[.slice G2 0 cap2, .string ⟨#[]⟩] 45)
    go_wp2_with fail
    go_ret
    exact ⟨by first | rfl | exact congrArg (fun b => Ending.returned (Value.bool b)) (decide_eq_true (by omega)), hw3⟩
  · have p0 := alloc_cell w2 #[v, .string B] 45 0 v rfl
    have p1 := alloc_cell w2 #[v, .string B] 45 1 _ rfl
    have ha := ba (Below.refl _ w2) (.cells #[v, .string B] 45)
    have hv1 := hv.down ha
    have hw3 := bt hw2 ha
    have hshow := mshow_any fs v B m _ hv1 hg hl (by omega) (moved hM.out hw3 (Nat.le_refl _))
    obtain ⟨G3, c3, hvv, _⟩ := hv
    subst hvv
    by_cases h2k : 2000 < (showL fs B.data.toList).length
    · rw [if_pos h2k] at hshow
      have HC : Hid (∀ w, FldsAt w (.slice G3 fs.length c3) fs → w.cell? ⟨0, 0, none⟩ = some (.int .i64 m) → Calls Tryd.prog 25 #[.agg #[.slice G3 fs.length c3, .string B]] w fun e w' => e = .returned (.int .i64 1) ∧ Below w.heap.size w w') := fun w h1 h2 => by
        have := mcheck_any fs _ B m w h1 hg hl (by omega) h2
        rw [if_pos h2k] at this
        exact this
      clear hg h2k
      go_wp2_with fail
      refine hshow.mono ?_
      rintro e w4 ⟨rfl, hb4⟩
      have q0 := moved p0 hb4 (Nat.le_refl _)
      have q1 := moved p1 hb4 (Nat.le_refl _)
      have hw4 := bt hw3 hb4
      have hv4 := hv1.down hb4
      go_wp2_with fail
      refine (HC.out _ hv4 (moved hM.out hw4 (Nat.le_refl _))).mono ?_
      rintro e w5 ⟨rfl, hb5⟩
      have hw5 := bt hw4 hb5
      go_wp2_with fail
      go_ret
      exact ⟨rfl, hw5⟩
    · rw [if_neg h2k] at hshow
      obtain ⟨RES, hRES⟩ : ∃ RES : ByteArray, RES = ⟨(showL fs B.data.toList).toArray⟩ := ⟨_, rfl⟩
      have hRs : RES.size ≤ 2000 := by
        have h1 : RES.size = (showL fs B.data.toList).length := by rw [hRES]; show (List.toArray _).size = _; exact List.size_toArray
        omega
      have HP : Hid (∀ w, w.cell? ⟨0, 0, none⟩ = some (.int .i64 m) → Calls Tryd.prog 22 #[.string RES] w fun e w' => (∃ v, e = .returned (.tuple #[.agg #[v, .string B], .int .i64 0, .int .i64 0]) ∧ FldsAt w' v fs) ∧ Below w.heap.size w w') := fun w h => parse_walk RES B fs m w hRs (parse_back RES B fs hRES hg hl) h
      have HE : Hid (∀ v1 v2 w, FldsAt w v1 fs → FldsAt w v2 fs → Calls Tryd.prog 24 #[.agg #[v1, .string B], .agg #[v2, .string B]] w fun e w' => e = .returned (.bool true) ∧ Below w.heap.size w w') := fun v1 v2 w h1 h2 => same_any fs v1 v2 B w h1 h2 (by omega)
      rw [← hRES] at hshow
      clear hg h2k hRES hRs
      go_wp2_with fail
      refine hshow.mono ?_
      rintro e w4 ⟨rfl, hb4⟩
      have q0 := moved p0 hb4 (Nat.le_refl _)
      have q1 := moved p1 hb4 (Nat.le_refl _)
      have hw4 := bt hw3 hb4
      have hv4 := hv1.down hb4
      clear p0 p1 hv1
      go_wp2_with fail
      refine (HP.out _ (moved hM.out hw4 (Nat.le_refl _))).mono ?_
      rintro e w5 ⟨⟨u, rfl, hu⟩, hb5⟩
      have t0 := alloc_cell w5 #[u, .string B] 45 0 u rfl
      have t1 := alloc_cell w5 #[u, .string B] 45 1 _ rfl
      have hax := ba (Below.refl _ w5) (.cells #[u, .string B] 45)
      have hu5 := hu.down hax
      have hv5 := (hv4.down hb5).down hax
      have s0 := moved (moved q0 hb5 (Nat.le_refl _)) hax (Nat.le_refl _)
      have s1 := moved (moved q1 hb5 (Nat.le_refl _)) hax (Nat.le_refl _)
      have hw5 := bt (bt hw4 hb5) hax
      obtain ⟨G4, c4, huu, _⟩ := hu
      subst huu
      clear q0 q1 hv4 hax
      go_wp2_with fail
      refine (HE.out _ _ _ hv5 hu5).mono ?_
      rintro e w6 ⟨rfl, hb6⟩
      have hw6 := bt hw5 hb6
      go_wp2_with fail
      go_ret
      exact ⟨rfl, hw6⟩
end Go.Proofs.YtkchoempejdleaaDoor
