/-
  DERIVED. 'address' of who's reader: the walk.
-/
import Derived.Test.YtobdokabelilmaaDoorAddr
namespace Go.Proofs.YtobdokabelilmaaDoor
open Go.RowKit

theorem next_ne (l : List UInt8) (d : UInt8) (h : nextL l ≠ d) (z : Int) (hz : z = (d.toNat : Int)) : (((nextL l).toNat : Int) == z) = false :=
  beq_eq_false_iff_ne.2 (fun e => h (UInt8.toNat_inj.1 (by rw [hz] at e; exact Int.ofNat_inj.1 e)))

set_option maxHeartbeats 8000000 in
set_option maxRecDepth 20000 in
theorem address_read (b : Nat) (s : ByteArray) (l : List UInt8) (m : Int) (w : World) (hs : s.size ≤ 100000) (hb : b ≠ 6) (hm : w.cell? ⟨6, 0, none⟩ = some (.int .i64 m)) (h : RdrL w b s l) :
    Calls Tryd.prog 83 #[.pointer (some ⟨b, 0, none⟩)] w fun e w' => (∃ x y r, addrL' true l = some ((x, y), r) ∧ e = .returned (.agg #[.string ⟨x.toArray⟩, .string ⟨y.toArray⟩]) ∧ RdrL w' b s r ∧ w.grownBy w' (some b)) ∨ (addrL' true l = none ∧ Out b w e w') := by
  have HN : Hid (∀ n l w, Rest s n l → Rdr w b s n → Calls Tryd.prog 86 #[.pointer (some ⟨b, 0, none⟩)] w fun e w' => e = .returned (.int .u8 ((nextL l).toNat : Int)) ∧ Below w.heap.size w w') := fun n l w h1 h2 => next_any b n s l w hs h1 h2
  have HS : Hid (∀ l w, RdrL w b s l → Calls Tryd.prog 84 #[.pointer (some ⟨b, 0, none⟩)] w fun e w' => e = .returned (.tuple #[]) ∧ RdrL w' b s (skipL l) ∧ w.grownBy w' (some b)) := fun l w h => skip_any b s l w hs h
  have HRun : Hid (∀ l w, RdrL w b s l → Calls Tryd.prog 93 #[.pointer (some ⟨b, 0, none⟩)] w fun e w' => e = .returned (.string ⟨(runT l).toArray⟩) ∧ RdrL w' b s (runR l) ∧ w.grownBy w' (some b)) := fun l w h => run_any b s l w hs h
  have HQ : Hid (∀ c0 l w, RdrL w b s (c0 :: l) → Calls Tryd.prog 91 #[.pointer (some ⟨b, 0, none⟩)] w fun e w' => (∃ r, quotL l = some r ∧ e = .returned (.tuple #[]) ∧ RdrL w' b s r ∧ w.grownBy w' (some b)) ∨ (quotL l = none ∧ Out b w e w')) := fun c0 l w h => quoted_any b s c0 l w hs h
  have HB : Hid (∀ loc l w, loc.length ≤ 100000 → w.cell? ⟨6, 0, none⟩ = some (.int .i64 m) → RdrL w b s l → Calls Tryd.prog 92 #[.pointer (some ⟨b, 0, none⟩), .string ⟨loc.toArray⟩] w fun e w' => (∃ d r, bareL loc l = some (d, r) ∧ e = .returned (.agg #[.string ⟨loc.toArray⟩, .string ⟨d.toArray⟩]) ∧ RdrL w' b s r ∧ w.grownBy w' (some b)) ∨ (bareL loc l = none ∧ Out b w e w')) := fun loc l w h1 h2 h3 => bare_any b s loc l m w hs h1 hb h2 h3
  have hblt : b < w.heap.size := by obtain ⟨n, _, hr⟩ := h; exact hr.2.2.2
  have hl0 := h.pos.2
  have h0 := h.below (ba (Below.refl _ w) (.cells #[.string ⟨#[]⟩, .string ⟨#[]⟩] 139))
  have tR := Two.alloc w ⟨#[]⟩ ⟨#[]⟩ 139
  have hg0 : w.grownBy (w.alloc (.cells #[.string ⟨#[]⟩, .string ⟨#[]⟩] 139)) (some b) := Go.Lib.grownBy_allocR (World.grownBy.refl _ _) _
  have hbR : w.heap.size ≠ b := by omega
  have hRw : w.heap.size ≤ w.heap.size := Nat.le_refl _
  obtain ⟨R, hRe⟩ : ∃ R, R = w.heap.size := ⟨_, rfl⟩
  obtain ⟨w0, hw0⟩ : ∃ w0, w0 = w.alloc (.cells #[.string ⟨#[]⟩, .string ⟨#[]⟩] 139) := ⟨_, rfl⟩
  rw [← hw0] at h0 tR hg0
  rw [← hRe] at tR hbR
  have hRw : w.heap.size ≤ R := by omega
  have HM := Lib.hid hm
  have HW0 := Lib.hid hw0; have HRe := Lib.hid hRe
  clear hm hw0 hRe h
  go_enter Tryd.func83, Tryd.ntmps83
  go_wp2_with fail
  rw [show w.alloc (.cells #[.string ⟨#[]⟩, .string ⟨#[]⟩] 139) = w0 from HW0.out.symm, show w.heap.size = R from HRe.out.symm]
  go_loopw [3] (fun v wr => ∃ (k : Nat) (l' : List UInt8), v = .int .i64 k ∧ k + l'.length ≤ s.size ∧ RdrL wr b s l' ∧ Two wr R ⟨#[]⟩ ⟨#[]⟩ ∧ w.grownBy wr (some b) ∧ Hid (addrL' (k == 0) l' = addrL' true l)) (fun _ wr => s.size - posAt wr b)
  case atStart => exact ⟨0, l, rfl, by omega, h0, tR, hg0, rfl⟩
  case round =>
    clear h0 tR hg0
    obtain ⟨k, l', rfl, hk, hrl, tR, hg, heq⟩ := hrel
    have hsl := skip_le l'
    go_wp2_with fail
    refine (HS.out l' _ hrl).mono ?_
    rintro e w1 ⟨rfl, h1, g1⟩
    have t1 := tR.grown g1 hbR
    have hg1 := Go.Lib.grownBy_trans hg g1
    obtain ⟨L, hL⟩ : ∃ L, L = skipL l' := ⟨_, rfl⟩
    rw [← hL] at h1 hsl
    have HLs := Lib.hid hL.symm
    clear hL tR g1 hg
    go_wp2_with fail
    obtain ⟨n1, hr1, hrd1⟩ := h1
    refine (HN.out n1 L _ hr1 hrd1).mono ?_
    rintro e w2 ⟨rfl, hb2⟩
    have t2 := t1.below hb2 (Nat.le_refl _)
    have hg2 := Go.Lib.grownBy_below hg1 hb2
    have h2 := RdrL.below ⟨n1, hr1, hrd1⟩ hb2
    clear t1 hg1 hb2 hr1 hrd1
    by_cases h34 : nextL L = 34
    · have hcons := tail_lt h34 (by decide)
      obtain ⟨r, hr⟩ : ∃ r, r = L.tail := ⟨_, rfl⟩
      rw [← hr] at hcons
      clear hr
      subst hcons
      have e1 := nextL_eq 34 r 34 rfl 34 rfl
      have hq := Lib.hid (addr_quote (k == 0) l' r HLs.out)
      simp only [List.length_cons] at hsl
      clear h34
      go_wp2_with fail
      refine (HQ.out 34 r _ h2).mono ?_
      rintro e w3 (⟨r2, hqq, rfl, h3, g3⟩ | ⟨hqq, rfl, g3⟩)
      · have hlt := quot_lt _ _ r2 (Nat.le_refl _) hqq
        have hfin : Hid (addrL' false r2 = addrL' true l) := by unfold Hid; rw [← heq.out, hq.out, hqq]; rfl
        have t3 := t2.grown g3 hbR
        have hg3 := Go.Lib.grownBy_trans hg2 g3
        clear hqq hq heq
        go_wp2_with fail
        go_roundw
        case rel => exact ⟨k + 1, r2, by go_num, by omega, h3, t3, hg3, hfin⟩
        case measure => exact measL hrl h3 (by omega)
      · have hfin : Hid (addrL' true l = none) := by unfold Hid; rw [← heq.out, hq.out, hqq]; rfl
        clear hqq hq heq
        go_wp2_with fail
        exact ⟨rfl, .inr ⟨hfin.out, rfl, Go.Lib.grownBy_trans hg2 g3⟩⟩
    · by_cases h60 : nextL L = 60
      · have hcons := tail_lt h60 (by decide)
        obtain ⟨r, hr⟩ : ∃ r, r = L.tail := ⟨_, rfl⟩
        rw [← hr] at hcons
        clear hr
        subst hcons
        have e0 := nextL_ne 60 r 34 (by decide) 34 rfl
        have e1 := nextL_eq 60 r 60 rfl 60 rfl
        have hq := Lib.hid (addr_lt (k == 0) l' r HLs.out)
        simp only [List.length_cons] at hsl
        clear h34 h60
        obtain ⟨n2, hr2, hrd2⟩ := h2
        obtain ⟨hlt, _, hr3⟩ := hr2.cons
        have hrd3 := hrd2.step
        have t3 := t2.else0 (i := 1) hbR (.int .i64 ((n2 : Int) + 1))
        have hg3 := Go.Lib.grownBy_setB hg2 1 (.int .i64 ((n2 : Int) + 1))
        obtain ⟨d0, d1, f1, hb0⟩ := hrd2
        have HR2 := Lib.hid hr2; have HR3 := Lib.hid hr3
        clear hr2 hr3
        go_wp2_with fail
        refine (HRun.out r _ ⟨n2 + 1, HR3.out, hrd3⟩).mono ?_
        rintro e w4 ⟨rfl, h4, g4⟩
        have t4 := t3.grown g4 hbR
        have hg4 := Go.Lib.grownBy_trans hg3 g4
        clear d0 d1 f1 hb0 hrd3 t3 hg3 g4 t2 hg2
        go_wp2_with fail
        have hrl := run_len r
        refine (HB.out (runT r) (runR r) _ (by omega) (cell_kept HM.out hg4 (Ne.symm hb)) h4).mono ?_
        rintro e w5 (⟨d, r2, hqq, rfl, h5, g5⟩ | ⟨hqq, rfl, g5⟩)
        · have hq2 : Hid (addrL' true l = if nextL r2 = 62 then some ((runT r, d), r2.tail) else none) := by unfold Hid; rw [← heq.out, hq.out, hqq]; rfl
          have t5 := t4.grown g5 hbR
          have hg5 := Go.Lib.grownBy_trans hg4 g5
          have hz5 : w5.heap.size ≠ b := by have := hg5.size; omega
          have hal := ba (Below.refl _ w5) (.cells #[.string ⟨(runT r).toArray⟩, .string ⟨d.toArray⟩] 139)
          have t6 := t5.below hal (Nat.le_refl _)
          have hg6 := Go.Lib.grownBy_below hg5 hal
          have h6 := h5.below hal
          have tX := Two.alloc w5 ⟨(runT r).toArray⟩ ⟨d.toArray⟩ 139
          obtain ⟨A, hA⟩ : ∃ A : ByteArray, A = ⟨(runT r).toArray⟩ := ⟨_, rfl⟩
          obtain ⟨D, hD⟩ : ∃ D : ByteArray, D = ⟨d.toArray⟩ := ⟨_, rfl⟩
          rw [← hA, ← hD] at tX t6 hg6 h6 ⊢
          have HA := Lib.hid hA; have HD := Lib.hid hD
          clear hA hD hqq hq heq t4 hg4 g5 t5 hg5 h5 h4 hal
          go_wp2_with fail
          obtain ⟨n6, hr6, hrd6⟩ := h6
          refine (HN.out n6 r2 _ hr6 hrd6).mono ?_
          rintro e w7 ⟨rfl, hb7⟩
          have t7 := t6.below hb7 (Nat.le_refl _)
          have tY := tX.below hb7 (Nat.le_refl _)
          have hg7 := Go.Lib.grownBy_below hg6 hb7
          have hrd7 := hrd6.below hb7
          clear t6 tX hg6 hrd6 hb7
          by_cases h62 : nextL r2 = 62
          · have hcons := tail_lt h62 (by decide)
            obtain ⟨r3, hr⟩ : ∃ r3, r3 = r2.tail := ⟨_, rfl⟩
            rw [← hr] at hcons
            clear hr
            subst hcons
            have hfin : Hid (addrL' true l = some ((runT r, d), r3)) := by unfold Hid; rw [hq2.out, if_pos h62]; rfl
            have e3 := nextL_eq 62 r3 62 rfl 62 rfl
            obtain ⟨_, _, hr8⟩ := hr6.cons
            have hrd8 := hrd7.step
            have t8 := t7.else0 (i := 1) hbR (.int .i64 ((n6 : Int) + 1))
            have HR8 := Lib.hid hr8
            clear h62 hq2 hr6 hr8
            go_wp2_with fail
            refine (must_true _).mono ?_
            rintro e w8 ⟨rfl, rfl⟩
            obtain ⟨d0, d1, f1, hb0⟩ := hrd7
            have tY8 := tY.else0 (i := 1) hz5 (.int .i64 ((n6 : Int) + 1))
            have hg8 := Go.Lib.grownBy_setB hg7 1 (.int .i64 ((n6 : Int) + 1))
            have tF := Two.set t8 A D
            have q0 := tF.1
            have q1 := tF.2.1
            obtain ⟨x0, x1, y0, y1, z1⟩ := tY8
            obtain ⟨x2, x3, y2, y3, z2⟩ := t8
            clear tF t7 tY hg7
            go_wp2_with fail
            refine bodyPost_ret (v := .agg #[.string A, .string D]) (by simp [results, Tryd.results83, go_sem, q0, q1]) rfl (.inl ⟨runT r, d, r3, hfin.out, by rw [HA.out, HD.out], ?_, ?_⟩)
            · exact ((RdrL.else0 ⟨n6 + 1, HR8.out, hrd8⟩ hbR 0 _).else0 hbR 1 _)
            · exact grownBy_setNew (grownBy_setNew hg8 hRw 0 _) hRw 1 _
          · have hfin : Hid (addrL' true l = none) := by unfold Hid; rw [hq2.out, if_neg h62]
            have e3 := next_ne r2 62 h62 62 rfl
            clear h62 hq2
            go_wp2_with fail
            refine (must_false _).mono ?_
            rintro e w8 ⟨rfl, rfl⟩
            go_wp2
            exact ⟨rfl, .inr ⟨hfin.out, rfl, hg7⟩⟩
        · have hfin : Hid (addrL' true l = none) := by unfold Hid; rw [← heq.out, hq.out, hqq]; rfl
          clear hqq hq heq
          go_wp2_with fail
          exact ⟨rfl, .inr ⟨hfin.out, rfl, Go.Lib.grownBy_trans hg4 g5⟩⟩
      · have e0 := next_ne L 34 h34 34 rfl
        have e1 := next_ne L 60 h60 60 rfl
        have hq := Lib.hid (addr_else (k == 0) l' L HLs.out h34 h60)
        clear h34 h60
        go_wp2_with fail
        refine (HRun.out L _ h2).mono ?_
        rintro e w3 ⟨rfl, h3, g3⟩
        have t3 := t2.grown g3 hbR
        have hg3 := Go.Lib.grownBy_trans hg2 g3
        clear h2 t2 hg2 g3
        go_wp2_with fail
        obtain ⟨n3, hr3, hrd3⟩ := h3
        refine (HN.out n3 (runR L) _ hr3 hrd3).mono ?_
        rintro e w4 ⟨rfl, hb4⟩
        have t4 := t3.below hb4 (Nat.le_refl _)
        have hg4 := Go.Lib.grownBy_below hg3 hb4
        have h4 := RdrL.below ⟨n3, hr3, hrd3⟩ hb4
        have hrl2 := run_len L
        clear t3 hg3 hb4 hr3 hrd3
        by_cases h64 : nextL (runR L) = 64
        · have e2 : (((nextL (runR L)).toNat : Int) == 64) = true := by rw [h64]; rfl
          by_cases hk0 : k = 0
          · subst hk0
            have hq2 : Hid (addrL' true l = (bareL (runT L) (runR L)).map fun dr => ((runT L, dr.1), dr.2)) := by unfold Hid; rw [← heq.out, hq.out, if_pos ⟨h64, rfl⟩]
            clear hq heq h64
            go_wp2_with fail
            refine (HB.out (runT L) (runR L) _ (by omega) (cell_kept HM.out hg4 (Ne.symm hb)) h4).mono ?_
            rintro e w5 (⟨d, r2, hqq, rfl, h5, g5⟩ | ⟨hqq, rfl, g5⟩)
            · have hfin : Hid (addrL' true l = some ((runT L, d), r2)) := by unfold Hid; rw [hq2.out, hqq]; rfl
              have t5 := t4.grown g5 hbR
              have hg5 := Go.Lib.grownBy_trans hg4 g5
              have tF := Two.set t5 ⟨(runT L).toArray⟩ ⟨d.toArray⟩
              have q0 := tF.1
              have q1 := tF.2.1
              obtain ⟨x2, x3, y2, y3, z2⟩ := t5
              clear tF t4 hg4 g5 hqq hq2
              go_wp2_with fail
              refine bodyPost_ret (v := .agg #[.string ⟨(runT L).toArray⟩, .string ⟨d.toArray⟩]) (by simp [results, Tryd.results83, go_sem, q0, q1]) rfl (.inl ⟨runT L, d, r2, hfin.out, rfl, ?_, ?_⟩)
              · exact (h5.else0 hbR 0 _).else0 hbR 1 _
              · exact grownBy_setNew (grownBy_setNew hg5 hRw 0 _) hRw 1 _
            · have hfin : Hid (addrL' true l = none) := by unfold Hid; rw [hq2.out, hqq]; rfl
              clear hqq hq2
              go_wp2_with fail
              exact ⟨rfl, .inr ⟨hfin.out, rfl, Go.Lib.grownBy_trans hg4 g5⟩⟩
          · have e3 : ((k : Int) == 0) = false := beq_eq_false_iff_ne.2 (by omega)
            have hq2 : Hid (addrL' true l = if (runT L).isEmpty then none else addrL' false (runR L)) := by unfold Hid; rw [← heq.out, hq.out, if_neg (by rintro ⟨_, h⟩; exact hk0 (by simpa using h))]
            clear hq heq h64
            cases he : (runT L).isEmpty with
            | true =>
              have hfin : Hid (addrL' true l = none) := by unfold Hid; rw [hq2.out, he]; rfl
              clear hq2
              go_wp2_with fail
              refine (must_false _).mono ?_
              rintro e w5 ⟨rfl, rfl⟩
              go_wp2
              exact ⟨rfl, .inr ⟨hfin.out, rfl, hg4⟩⟩
            | false =>
              have hfin : Hid (addrL' false (runR L) = addrL' true l) := by unfold Hid; rw [hq2.out, he]; rfl
              have hpos : 1 ≤ (runT L).length := by
                cases ht : runT L with
                | nil => rw [ht] at he; cases he
                | cons a b => simp
              clear hq2
              go_wp2_with fail
              refine (must_true _).mono ?_
              rintro e w5 ⟨rfl, rfl⟩
              go_wp2_with fail
              go_roundw
              case rel => exact ⟨k + 1, runR L, by go_num, by omega, h4, t4, hg4, hfin⟩
              case measure => exact measL hrl h4 (by omega)
        · have e2 := next_ne (runR L) 64 h64 64 rfl
          have hq2 : Hid (addrL' true l = if (runT L).isEmpty then none else addrL' false (runR L)) := by unfold Hid; rw [← heq.out, hq.out, if_neg (by rintro ⟨h, _⟩; exact h64 h)]
          clear hq heq h64
          cases he : (runT L).isEmpty with
          | true =>
            have hfin : Hid (addrL' true l = none) := by unfold Hid; rw [hq2.out, he]; rfl
            clear hq2
            go_wp2_with fail
            refine (must_false _).mono ?_
            rintro e w5 ⟨rfl, rfl⟩
            go_wp2
            exact ⟨rfl, .inr ⟨hfin.out, rfl, hg4⟩⟩
          | false =>
            have hfin : Hid (addrL' false (runR L) = addrL' true l) := by unfold Hid; rw [hq2.out, he]; rfl
            have hpos : 1 ≤ (runT L).length := by
              cases ht : runT L with
              | nil => rw [ht] at he; cases he
              | cons a b => simp
            clear hq2
            go_wp2_with fail
            refine (must_true _).mono ?_
            rintro e w5 ⟨rfl, rfl⟩
            go_wp2_with fail
            go_roundw
            case rel => exact ⟨k + 1, runR L, by go_num, by omega, h4, t4, hg4, hfin⟩
            case measure => exact measL hrl h4 (by omega)
end Go.Proofs.YtobdokabelilmaaDoor
