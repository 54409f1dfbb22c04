/-
  DERIVED. LetterTorn: the plain law and the walk.
-/
import Derived.Test.YtkchoempejdleaaDoorLetShow
namespace Go.Proofs.YtkchoempejdleaaDoor
open Go.RowKit

theorem crlf_take : ∀ (l : List UInt8) (p : Nat), sepL [13, 10] l = none → sepL [13, 10] (l.take p) = none
  | [], p, _ => by rw [List.take_nil]; rfl
  | c :: l, 0, _ => rfl
  | c :: l, p + 1, h => by
    have hp : ¬ [13, 10].isPrefixOf (c :: l) = true := by
      intro h2; rw [sepL, if_pos h2] at h; cases h
    have hl : sepL [13, 10] l = none := by
      rw [sepL, if_neg hp] at h
      cases hs : sepL [13, 10] l with
      | none => rfl
      | some q => rw [hs] at h; cases h
    have hp2 : ¬ [13, 10].isPrefixOf (c :: l.take p) = true := by
      intro h2
      apply hp
      rw [List.isPrefixOf_iff_prefix] at h2 ⊢
      exact h2.trans (by
        show c :: l.take p <+: c :: l
        exact List.cons_prefix_cons.2 ⟨rfl, List.take_prefix p l⟩)
    show sepL [13, 10] (c :: l.take p) = none
    rw [sepL, if_neg hp2, crlf_take l p hl]; rfl
theorem crlf_snoc : ∀ (x : List UInt8), sepL [13, 10] x = none → sepL [13, 10] (x ++ [13]) = none
  | [], _ => by decide
  | c :: x, h => by
    have hp : ¬ [13, 10].isPrefixOf (c :: x) = true := by
      intro h2; rw [sepL, if_pos h2] at h; cases h
    have hl : sepL [13, 10] x = none := by
      rw [sepL, if_neg hp] at h
      cases hs : sepL [13, 10] x with
      | none => rfl
      | some q => rw [hs] at h; cases h
    have hp2 : ¬ [13, 10].isPrefixOf (c :: (x ++ [13])) = true := by
      intro h2
      cases x with
      | nil => simp [List.isPrefixOf] at h2
      | cons d x => apply hp; simpa [List.isPrefixOf] using h2
    show sepL [13, 10] (c :: (x ++ [13])) = none
    rw [sepL, if_neg hp2, crlf_snoc x hl]; rfl
theorem parse_torn : ∀ (fs : List Fld) (i : Nat) (acc : List Fld) (p : Nat), (∀ f ∈ fs, Good f) → acc.length + fs.length ≤ 30 → p < (showF fs).length + 2 →
    ∃ j, j ≤ fs.length ∧ parseL i acc ((showF fs ++ [13, 10]).take p) = (([], []), i + j, 4)
  | [], i, acc, p, _, _, hp => by
    refine ⟨0, Nat.le_refl _, parse_short ?_⟩
    have h0 : (showF []).length = 0 := rfl
    have hp2 : p = 0 ∨ p = 1 := by omega
    rcases hp2 with rfl | rfl <;> decide
  | f :: fs, i, acc, p, hg, hl, hp => by
    obtain ⟨g1, g2, g3⟩ := hg f (List.mem_cons_self ..)
    simp only [List.length_cons] at hl
    have hsplit : ∀ rest, showF (f :: fs) ++ rest = fieldL f ++ (showF fs ++ rest) := fun rest => by
      show (fieldL f ++ showF fs) ++ rest = _
      rw [List.append_assoc]
    have hlen : (showF (f :: fs)).length = (fieldL f).length + (showF fs).length := by
      show (fieldL f ++ showF fs).length = _
      rw [List.length_append]
    by_cases hc : (fieldL f).length ≤ p
    · obtain ⟨j, hj, he⟩ := parse_torn fs (i + 1) (acc ++ [rawF f]) (p - (fieldL f).length) (fun f' h => hg f' (List.mem_cons_of_mem _ h)) (by simp; omega) (by omega)
      refine ⟨j + 1, by simp; omega, ?_⟩
      rw [hsplit, List.take_append, List.take_of_length_le hc]
      have h1 := parse_shown [f] i acc ((showF fs ++ [13, 10]).take (p - (fieldL f).length)) (fun f' h => by rw [List.mem_singleton.1 h]; exact ⟨g1, g2, g3⟩) (by simp; omega)
      have h2 : showF [f] = fieldL f := by show fieldL f ++ [] = _; rw [List.append_nil]
      rw [h2] at h1
      rw [h1]
      show parseL (i + 1) (acc ++ [rawF f]) _ = _
      rw [he, show i + 1 + j = i + (j + 1) by omega]
    · refine ⟨0, Nat.zero_le _, parse_short ?_⟩
      rw [hsplit, List.take_append, show p - (fieldL f).length = 0 by omega, List.take_zero, List.append_nil]
      have hf : fieldL f = (f.1 ++ [58, 32] ++ f.2 ++ [13]) ++ [10] := by unfold fieldL; simp
      have hfl : (fieldL f).length = (f.1 ++ [58, 32] ++ f.2 ++ [13]).length + 1 := by rw [hf, List.length_append (bs := [10])]; rfl
      rw [hf, List.take_append_of_le_length (by omega)]
      exact crlf_take _ p (crlf_snoc _ (crlf_line g1 g2))
/-- Parse, of a text that is no message -/
theorem parse_walk_err (S : ByteArray) (n c : Nat) (m : Int) (w : World) (hs : S.size ≤ 2000) (h : parseL 0 [] S.data.toList = (([], []), n, c)) (hm : w.cell? ⟨0, 0, none⟩ = some (.int .i64 m)) :
    Calls Tryd.prog 22 #[.string S] w fun e w' => (∃ G cap, e = .returned (.tuple #[.agg #[.slice G 0 cap, .string ⟨#[]⟩], .int .i64 n, .int .i64 c])) ∧ Below w.heap.size w w' := by
  refine (parse_any S m w hs hm).mono ?_
  rintro e w' ⟨⟨v, he, hv⟩, hb⟩
  rw [h] at he hv
  obtain ⟨G, cap, rfl, _⟩ := FldsAt.of_row hv
  exact ⟨⟨G, cap, he⟩, hb⟩

set_option maxHeartbeats 4000000 in
set_option maxRecDepth 20000 in
theorem letterTornWalk (a : Option Addr) (len cap : Nat) (x : Nat → Nat → ByteArray) (z : Int) (m : Int) (w : World) (hx : StrRows w a len 2 x) (hlen : len ≤ maxLen) (hz0 : (Lit.int .i64 z).wf = true) (hm : w.cell? ⟨0, 0, none⟩ = some (.int .i64 m)) :
    Calls Tryd.prog 11 #[.slice a len cap, .int .i64 z] w fun e w' => e = .returned (.bool true) ∧ Below w.heap.size w w' := by
  obtain ⟨hz1, hz2⟩ := wf_bd hz0
  have hMs := message_walk a len cap x ⟨#[]⟩ ⟨#[]⟩ w rfl hx hlen (Nat.zero_le _)
  have hg := msg_good x (min len 6)
  have hl6 : (msgL x (min len 6)).length ≤ 6 := by rw [msgL_len]; omega
  have hsz0 := msg_size x (min len 6)
  obtain ⟨fs, hfs⟩ : ∃ fs, fs = msgL x (min len 6) := ⟨_, rfl⟩
  rw [← hfs] at hMs hg hl6 hsz0
  have hsz : (showF fs).length + 2 + (⟨#[]⟩ : ByteArray).size ≤ 2000 := by show _ + 2 + 0 ≤ 2000; omega
  obtain ⟨RES, hRES⟩ : ∃ RES : ByteArray, RES = ⟨(showL fs (⟨#[]⟩ : ByteArray).data.toList).toArray⟩ := ⟨_, rfl⟩
  have hRl : RES.data.toList = showF fs ++ [13, 10] := by rw [hRES]; unfold showL; simp
  have hRs : RES.size = (showF fs).length + 2 := by
    have : RES.size = RES.data.toList.length := by simp
    rw [this, hRl]; simp
  obtain ⟨p, hpl, hp⟩ : ∃ p : Nat, p < RES.size ∧ ∀ w, Calls Tryd.prog 17 #[.int .i64 z, .int .i64 RES.size] w fun e w' => e = .returned (.int .i64 p) ∧ w = w' :=
    ⟨pick z (RES.size : Nat), pick_lt z RES.size (by omega), fun w => picked_any z RES.size w hz1 hz2 (by omega) (by omega)⟩
  obtain ⟨j, hj, hpj⟩ := parse_torn fs 0 [] p hg (by simp; omega) (by omega)
  have HS : Hid (∀ v w, FldsAt w v fs → w.cell? ⟨0, 0, none⟩ = some (.int .i64 m) → Calls Tryd.prog 23 #[.agg #[v, .string ⟨#[]⟩]] w fun e w' => e = .returned (.tuple #[.string RES, .int .i64 0]) ∧ Below w.heap.size w w') := fun v w h1 h2 => show_walk fs v ⟨#[]⟩ RES m w hRES h1 hg (by omega) hsz h2
  have HP : Hid (∀ w, w.cell? ⟨0, 0, none⟩ = some (.int .i64 m) → Calls Tryd.prog 22 #[.string (RES.extract 0 p)] w fun e w' => (∃ G cap, e = .returned (.tuple #[.agg #[.slice G 0 cap, .string ⟨#[]⟩], .int .i64 j, .int .i64 4])) ∧ Below w.heap.size w w') := fun w h => by
    refine parse_walk_err (RES.extract 0 p) j 4 m w (by rw [ByteArray.size_extract]; omega) ?_ h
    rw [extract_take]
    show parseL 0 [] (RES.data.toList.take p) = _
    rw [hRl, hpj, Nat.zero_add]
  have hRpos : 2 ≤ RES.size ∧ RES.size ≤ 2000 := by omega
  obtain ⟨hR1, hR2⟩ := hRpos
  have HPk := Lib.hid hp
  have hM := Lib.hid hm
  have HMs := Lib.hid hMs
  clear hm hMs hRES hg hfs hsz hsz0 hx hp hpj hRl hRs
  have hne : ((RES.size : Int) == 0) = false := beq_eq_false_iff_ne.2 (by omega)
  go_enter Tryd.func11, Tryd.ntmps11
  go_wp2_with fail
  refine HMs.out.mono ?_
  rintro e w1 ⟨⟨v, rfl, hv⟩, hw1⟩
  have p0 := alloc_cell w1 #[v, .string ⟨#[]⟩] 45 0 v rfl
  have p1 := alloc_cell w1 #[v, .string ⟨#[]⟩] 45 1 _ rfl
  have ha := ba (Below.refl _ w1) (.cells #[v, .string ⟨#[]⟩] 45)
  have hv1 := hv.down ha
  have hw1' := bt hw1 ha
  obtain ⟨G, c, hvv, _⟩ := hv
  subst hvv
  go_wp2_with fail
  refine (HS.out _ _ hv1 (moved hM.out hw1' (Nat.le_refl _))).mono ?_
  rintro e w2 ⟨rfl, hb2⟩
  have q0 := moved p0 hb2 (Nat.le_refl _)
  have hw2 := bt hw1' hb2
  clear p0 p1 ha hv1
  go_wp2_with fail
  refine (HPk.out _).mono ?_
  rintro e w9 ⟨rfl, rfl⟩
  go_wp2_with fail
  refine (HP.out _ (moved hM.out hw2 (Nat.le_refl _))).mono ?_
  rintro e w3 ⟨⟨G2, c2, rfl⟩, hb3⟩
  have r0 := moved q0 hb3 (Nat.le_refl _)
  have hw3 := bt hw2 hb3
  have s0 := moved r0 (ba (Below.refl _ w3) (.cells #[.slice G2 0 c2, .string ⟨#[]⟩] 45)) (Nat.le_refl _)
  have hw4 := ba hw3 (.cells #[.slice G2 0 c2, .string ⟨#[]⟩] 45)
  clear q0 r0
  go_wp2_with fail
  go_ret
  exact ⟨rfl, hw4⟩
end Go.Proofs.YtkchoempejdleaaDoor
