/-
  DERIVED. 'quoted' of who's reader.
-/
import Derived.Test.YtobdokabelilmaaDoorRun
import Derived.BigRegion
import Derived.StillTailTactics
namespace Go.Proofs.YtobdokabelilmaaDoor
open Go.RowKit

/-- behind a quote: what is left behind the quote that ends it -/
def quotL : List UInt8 → Option (List UInt8)
  | [] => none
  | c :: l => if c = 34 then some l else if c = 92 then (match l with | [] => none | _ :: r => quotL r) else quotL l
theorem quotL_34 (c : UInt8) (l : List UInt8) (h : c = 34) : quotL (c :: l) = some l := by rw [quotL.eq_def]; simp only [if_pos h]
theorem quotL_92n (c : UInt8) (h : c = 92) : quotL [c] = none := by subst h; rfl
theorem quotL_92 (c d : UInt8) (l : List UInt8) (h : c = 92) : quotL (c :: d :: l) = quotL l := by
  subst h
  rw [quotL.eq_def]; simp only [if_neg (show ¬ (92 : UInt8) = 34 by decide), if_true]
theorem quotL_else (c : UInt8) (l : List UInt8) (h : c ≠ 34) (h2 : c ≠ 92) : quotL (c :: l) = quotL l := by rw [quotL.eq_def]; simp only [if_neg h, if_neg h2]
theorem meas {w w' : World} {b n n' k : Nat} (h : posAt w' b = n') (h2 : posAt w b = n) (h3 : n < n') (h4 : n < k) : k - posAt w' b < k - posAt w b := by rw [h, h2]; omega
/-- the panic, and nothing that was there has turned but the reader -/
def Out (b : Nat) (w : World) (e : Ending) (w' : World) : Prop := e = .panicked [{ v := .iface 30 (.int .i64 3), recovered := false }] ∧ w.grownBy w' (some b)
theorem nextL_ne (c : UInt8) (l : List UInt8) (d : UInt8) (h : c ≠ d) (z : Int) (hz : z = (d.toNat : Int)) : (((nextL (c :: l)).toNat : Int) == z) = false :=
  beq_eq_false_iff_ne.2 (fun e => h (UInt8.toNat_inj.1 (by rw [hz] at e; exact Int.ofNat_inj.1 e)))
theorem nextL_eq (c : UInt8) (l : List UInt8) (d : UInt8) (h : c = d) (z : Int) (hz : z = (d.toNat : Int)) : (((nextL (c :: l)).toNat : Int) == z) = true := by
  subst h; subst hz; exact beq_self_eq_true _

set_option maxHeartbeats 4000000 in
set_option maxRecDepth 20000 in
/-- the reader stands at the quote that begins it -/
theorem quoted_any (b : Nat) (s : ByteArray) (c0 : UInt8) (l : List UInt8) (w : World) (hs : s.size ≤ 100000) (h : RdrL w b s (c0 :: l)) :
    Calls Tryd.prog 91 #[.pointer (some ⟨b, 0, none⟩)] w fun e w' => (∃ r, quotL l = some r ∧ e = .returned (.tuple #[]) ∧ RdrL w' b s r ∧ w.grownBy w' (some b)) ∨ (quotL l = none ∧ Out b w e w') := by
  obtain ⟨n0, hr0, hrd0⟩ := h
  obtain ⟨hlt0, _, hr1⟩ := hr0.cons
  have HR1 := Lib.hid hr1; clear hr0 hr1
  have HN : Hid (∀ n l w, Rest s n l → Rdr w b s n → Calls Tryd.prog 86 #[.pointer (some ⟨b, 0, none⟩)] w fun e w' => e = .returned (.int .u8 ((nextL l).toNat : Int)) ∧ Below w.heap.size w w') := fun n l w h1 h2 => next_any b n s l w hs h1 h2
  have hrd0' := hrd0
  obtain ⟨d0, d1, g1, hb0⟩ := hrd0'
  go_enter Tryd.func91, Tryd.ntmps91
  go_wp2_with fail
  go_loopw [9] (fun _ wr => ∃ l', RdrL wr b s l' ∧ Hid (quotL l' = quotL l) ∧ w.grownBy wr (some b)) (fun _ wr => s.size - posAt wr b)
  case atStart => exact ⟨l, ⟨n0 + 1, HR1.out, hrd0.step⟩, rfl, Go.Lib.grownBy_setB (World.grownBy.refl _ _) 1 _⟩
  case round =>
    clear d0 d1 g1 hb0
    obtain ⟨l', ⟨n, hr, hrd⟩, hsk, hg⟩ := hrel
    have hpos := Lib.hid hrd.pos
    have HR := Lib.hid hr; clear hr
    cases l' with
    | nil =>
      have e1 : (((nextL []).toNat : Int) == 34) = false := rfl
      have e2 : (((nextL []).toNat : Int) == 92) = false := rfl
      have hn : n = s.size := HR.out.nil
      go_wp2_with fail
      refine (HN.out n [] _ HR.out hrd).mono ?_
      rintro e w1 ⟨rfl, hb1⟩
      have hrd1 := hrd.below hb1
      go_wp2_with fail
      refine (HN.out n [] _ HR.out hrd1).mono ?_
      rintro e w2 ⟨rfl, hb2⟩
      have hrd2 := hrd1.below hb2
      have hg2 := Go.Lib.grownBy_below (Go.Lib.grownBy_below hg hb1) hb2
      have hdd : decide (n < s.size) = false := decide_eq_false (by omega)
      have hrd3 := hrd2
      obtain ⟨d0, d1, g1, hb0⟩ := hrd3
      clear e1 e2 hb1 hb2 hrd1 hrd
      go_wp2_with fail
      go_still_tail 10, (by kernel_rfl)
      change wpList _ _ _ _ _ w2.drew
      go_wp2_with fail
      refine (must_false _).mono ?_
      rintro e w3 ⟨rfl, rfl⟩
      go_wp2
      exact ⟨rfl, .inr ⟨by rw [← hsk.out]; rfl, rfl, Go.Lib.grownBy_below hg2 (Below.drew (Below.refl _ _))⟩⟩
    | cons c r =>
      obtain ⟨hlt, _, hr1⟩ := HR.out.cons
      have HR1 := Lib.hid hr1; clear hr1
      by_cases h34 : c = 34
      · have e1 := nextL_eq c r 34 h34 34 rfl
        have hq : Hid (quotL l = some r) := by unfold Hid; rw [← hsk.out, quotL_34 c r h34]
        clear h34
        go_wp2_with fail
        refine (HN.out n (c :: r) _ HR.out hrd).mono ?_
        rintro e w1 ⟨rfl, hb1⟩
        have hrd1 := hrd.below hb1
        have hg1 := Go.Lib.grownBy_below hg hb1
        have hrd3 := hrd1
        obtain ⟨d0, d1, g1, hb0⟩ := hrd3
        go_wp2_with fail
        go_returns
        exact .inl ⟨r, hq.out, rfl, ⟨n + 1, HR1.out, hrd1.step⟩, Go.Lib.grownBy_setB hg1 1 _⟩
      · have e1 := nextL_ne c r 34 h34 34 rfl
        by_cases h92 : c = 92
        · have e2 := nextL_eq c r 92 h92 92 rfl
          have H92 := Lib.hid h92
          clear h34 h92
          go_wp2_with fail
          refine (HN.out n (c :: r) _ HR.out hrd).mono ?_
          rintro e w1 ⟨rfl, hb1⟩
          have hrd1 := hrd.below hb1
          go_wp2_with fail
          refine (HN.out n (c :: r) _ HR.out hrd1).mono ?_
          rintro e w2 ⟨rfl, hb2⟩
          have hrd2 := hrd1.below hb2
          have hg2 := Go.Lib.grownBy_below (Go.Lib.grownBy_below hg hb1) hb2
          clear hb1 hb2 hrd1 hrd
          have hrd5 := hrd2.step
          have hg5 := Go.Lib.grownBy_setB hg2 1 (.int .i64 ((n : Int) + 1))
          have hrd3 := hrd2
          obtain ⟨d0, d1, g1, hb0⟩ := hrd3
          have hrd6 := hrd5
          obtain ⟨k0, k1, i1, ib0⟩ := hrd6
          cases r with
          | nil =>
            have hn : n + 1 = s.size := HR1.out.nil
            have hdd : decide ((n : Int) + 1 < (s.size : Int)) = false := decide_eq_false (by omega)
            have hq : Hid (quotL l = none) := by unfold Hid; rw [← hsk.out, quotL_92n c H92.out]
            go_wp2_with fail
            obtain ⟨w3, hw3⟩ : ∃ w3, w3 = w2.setCell ⟨b, 1, none⟩ (.int .i64 ((n : Int) + 1)) := ⟨_, rfl⟩
            rw [← hw3] at k0 k1 i1 ib0 hg5 ⊢
            clear hw3 d0 d1 g1 hb0
            go_still_tail 10, (by kernel_rfl)
            change wpList _ _ _ _ _ w3.drew
            go_wp2_with fail
            refine (must_false _).mono ?_
            rintro e w4 ⟨rfl, rfl⟩
            go_wp2
            exact ⟨rfl, .inr ⟨hq.out, rfl, Go.Lib.grownBy_below hg5 (Below.drew (Below.refl _ _))⟩⟩
          | cons d r2 =>
            obtain ⟨hlt2, _, hr2⟩ := HR1.out.cons
            have HR2 := Lib.hid hr2; clear hr2
            have hq : Hid (quotL r2 = quotL l) := by unfold Hid; rw [← hsk.out, quotL_92 c d r2 H92.out]
            have hdd : decide ((n : Int) + 1 < (s.size : Int)) = true := decide_eq_true (by omega)
            go_wp2_with fail
            go_quiet ((go_at_call 85; exact Calls.quiet_of_same ((must_true _).mono (by rintro e w ⟨rfl, rfl⟩; exact ⟨rfl, rfl⟩))))
            go_wp2_with fail
            go_roundw
            case rel => exact ⟨r2, ⟨n + 2, HR2.out, (hrd5.drewN _).step⟩, hq, Go.Lib.grownBy_setB (Go.Lib.grownBy_below hg5 (below_drewN _ _)) 1 _⟩
            case measure => exact meas ((hrd5.drewN _).set (n + 2)).pos hpos.out (by omega) (by omega)
        · have e2 := nextL_ne c r 92 h92 92 rfl
          have hq : Hid (quotL r = quotL l) := by unfold Hid; rw [← hsk.out, quotL_else c r h34 h92]
          clear h34 h92
          go_wp2_with fail
          refine (HN.out n (c :: r) _ HR.out hrd).mono ?_
          rintro e w1 ⟨rfl, hb1⟩
          have hrd1 := hrd.below hb1
          go_wp2_with fail
          refine (HN.out n (c :: r) _ HR.out hrd1).mono ?_
          rintro e w2 ⟨rfl, hb2⟩
          have hrd2 := hrd1.below hb2
          have hg2 := Go.Lib.grownBy_below (Go.Lib.grownBy_below hg hb1) hb2
          clear hb1 hb2 hrd1 hrd
          have hrd3 := hrd2
          obtain ⟨d0, d1, g1, hb0⟩ := hrd3
          have hdd : decide (n < s.size) = true := decide_eq_true hlt
          go_wp2_with fail
          go_quiet ((go_at_call 85; exact Calls.quiet_of_same ((must_true _).mono (by rintro e w ⟨rfl, rfl⟩; exact ⟨rfl, rfl⟩))))
          go_wp2_with fail
          go_roundw
          case rel => exact ⟨r, ⟨n + 1, HR1.out, (hrd2.drewN _).step⟩, hq, Go.Lib.grownBy_setB (Go.Lib.grownBy_below hg2 (below_drewN _ _)) 1 _⟩
          case measure =>
            rw [(hrd2.drewN _).step.pos, hpos.out]
            omega
end Go.Proofs.YtobdokabelilmaaDoor
