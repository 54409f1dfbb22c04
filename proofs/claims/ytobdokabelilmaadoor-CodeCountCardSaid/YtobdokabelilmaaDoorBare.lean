/-
  DERIVED. 'bare' of who's reader: an address whose local part was read.
-/
import Derived.Test.YtobdokabelilmaaDoorQuoted
namespace Go.Proofs.YtobdokabelilmaaDoor
open Go.RowKit

theorem block_kept {w w' : World} {b k : Nat} (h : w.grownBy w' (some b)) (hne : k ≠ b) (hk : k < w.heap.size) : w'.heap[k]? = w.heap[k]? := h.block k hk (by intro e; exact hne (Option.some.inj e))
theorem cell_kept {w w' : World} {b k o : Nat} {v : Value} (hc : w.cell? ⟨k, o, none⟩ = some v) (h : w.grownBy w' (some b)) (hne : k ≠ b) : w'.cell? ⟨k, o, none⟩ = some v :=
  (World.cell?_of_block (w := w) (a := ⟨k, o, none⟩) (block_kept h hne (World.block_lt_of_cell? _ _ hc))).trans hc
theorem Two.grown {w w' : World} {b R : Nat} {x y : ByteArray} (t : Two w R x y) (h : w.grownBy w' (some b)) (hne : R ≠ b) : Two w' R x y :=
  ⟨cell_kept t.1 h hne, cell_kept t.2.1 h hne, (World.frozen?_of_block (w := w) (a := ⟨R, 0, none⟩) (block_kept h hne t.2.2.2.2)).trans t.2.2.1, (World.frozen?_of_block (w := w) (a := ⟨R, 1, none⟩) (block_kept h hne t.2.2.2.2)).trans t.2.2.2.1, Nat.lt_of_lt_of_le t.2.2.2.2 h.size⟩

theorem grownBy_setNew {w w' : World} {row : Option Nat} (h : w.grownBy w' row) {R : Nat} (hR : w.heap.size ≤ R) (i : Nat) (v : Value) : w.grownBy (w'.setCell ⟨R, i, none⟩ v) row :=
  ⟨h.os, h.tape, h.output, by have := h.size; simpa [World.setCell] using this, fun k hk hne => (Below.heap_setCell _ _ _ _ (by show k ≠ R; omega)).trans (h.block k hk hne)⟩
theorem Rdr.else0 {w : World} {b n R : Nat} {s : ByteArray} (h : Rdr w b s n) (hne : R ≠ b) (i : Nat) (v : Value) : Rdr (w.setCell ⟨R, i, none⟩ v) b s n :=
  ⟨(World.cell?_setCell_other _ _ _ _ (by intro e; exact hne (congrArg Addr.block e))).trans h.1, (World.cell?_setCell_other _ _ _ _ (by intro e; exact hne (congrArg Addr.block e))).trans h.2.1, (World.frozen?_setCell ..).trans h.2.2.1, by have := h.2.2.2; simpa [World.setCell] using this⟩
theorem RdrL.else0 {w : World} {b R : Nat} {s : ByteArray} {l : List UInt8} (h : RdrL w b s l) (hne : R ≠ b) (i : Nat) (v : Value) : RdrL (w.setCell ⟨R, i, none⟩ v) b s l := by
  obtain ⟨n, h1, h2⟩ := h; exact ⟨n, h1, h2.else0 hne i v⟩
/-- behind a local part: the domain, and what is left -/
def bareL (loc : List UInt8) : List UInt8 → Option (List UInt8 × List UInt8)
  | [] => none
  | c :: r => if c = 64 then (if chk loc (runT r) = 0 then some (runT r, runR r) else none) else none
theorem runT_le (l : List UInt8) : (runT l).length ≤ l.length := by
  have := congrArg List.length (run_both l); rw [List.length_append] at this; omega

set_option maxHeartbeats 4000000 in
set_option maxRecDepth 20000 in
theorem bare_any (b : Nat) (s : ByteArray) (loc l : List UInt8) (m : Int) (w : World) (hs : s.size ≤ 100000) (hl : loc.length ≤ 100000) (hb : b ≠ 6) (hm : w.cell? ⟨6, 0, none⟩ = some (.int .i64 m)) (h : RdrL w b s l) :
    Calls Tryd.prog 92 #[.pointer (some ⟨b, 0, none⟩), .string ⟨loc.toArray⟩] w fun e w' => (∃ d r, bareL loc l = some (d, r) ∧ e = .returned (.agg #[.string ⟨loc.toArray⟩, .string ⟨d.toArray⟩]) ∧ RdrL w' b s r ∧ w.grownBy w' (some b)) ∨ (bareL loc l = none ∧ Out b w e w') := by
  have HN : Hid (∀ n l w, Rest s n l → Rdr w b s n → Calls Tryd.prog 86 #[.pointer (some ⟨b, 0, none⟩)] w fun e w' => e = .returned (.int .u8 ((nextL l).toNat : Int)) ∧ Below w.heap.size w w') := fun n l w h1 h2 => next_any b n s l w hs h1 h2
  have HRun : Hid (∀ l w, RdrL w b s l → Calls Tryd.prog 93 #[.pointer (some ⟨b, 0, none⟩)] w fun e w' => e = .returned (.string ⟨(runT l).toArray⟩) ∧ RdrL w' b s (runR l) ∧ w.grownBy w' (some b)) := fun l w h => run_any b s l w hs h
  obtain ⟨X, hX⟩ : ∃ X : ByteArray, X = ⟨loc.toArray⟩ := ⟨_, rfl⟩
  have hXl : X.data.toList = loc := by rw [hX]
  have hXs : X.size ≤ 100000 := by rw [hX]; exact hl
  have HC : Hid (∀ d : List UInt8, d.length ≤ 100000 → ∀ w, w.cell? ⟨6, 0, none⟩ = some (.int .i64 m) → Calls Tryd.prog 96 #[.agg #[.string X, .string ⟨d.toArray⟩]] w fun e w' => e = .returned (.int .i64 (chk loc d)) ∧ Below w.heap.size w w') := by
    intro d hd w h
    have := check_any X ⟨d.toArray⟩ m w (by omega) (by show d.length ≤ 1000000; omega) h
    rw [hXl] at this
    exact this
  rw [← hX]
  clear hX hXl
  obtain ⟨n, hr, hrd⟩ := h
  have HR := Lib.hid hr; clear hr
  have hrdR := hrd.below (ba (Below.refl _ w) (.cells #[.string ⟨#[]⟩, .string ⟨#[]⟩] 139))
  have tR := Two.alloc w ⟨#[]⟩ ⟨#[]⟩ 139
  have hg0 : w.grownBy (w.alloc (.cells #[.string ⟨#[]⟩, .string ⟨#[]⟩] 139)) (some b) := Go.Lib.grownBy_allocR (World.grownBy.refl _ _) _
  have hbR : w.heap.size ≠ b := by have := hrd.2.2.2; omega
  obtain ⟨R, hRe⟩ : ∃ R, R = w.heap.size := ⟨_, rfl⟩
  obtain ⟨w0, hw0⟩ : ∃ w0, w0 = w.alloc (.cells #[.string ⟨#[]⟩, .string ⟨#[]⟩] 139) := ⟨_, rfl⟩
  rw [← hw0] at hrdR tR hg0
  rw [← hRe] at tR hbR
  have HM := Lib.hid hm
  have HW0 := Lib.hid hw0; have HRe := Lib.hid hRe
  clear hm hw0 hRe
  go_enter Tryd.func92, Tryd.ntmps92
  go_wp2_with fail
  rw [show w.alloc (.cells #[.string ⟨#[]⟩, .string ⟨#[]⟩] 139) = w0 from HW0.out.symm, show w.heap.size = R from HRe.out.symm]
  refine (HN.out n l _ HR.out hrdR).mono ?_
  rintro e w1 ⟨rfl, hb1⟩
  have hrd1 := hrdR.below hb1
  have t1 := tR.below hb1 (Nat.le_refl _)
  have hg1 := Go.Lib.grownBy_below hg0 hb1
  clear hrdR tR hg0 hb1 hrd
  have hfail : l = [] ∨ (∃ c r, l = c :: r ∧ c ≠ 64) ∨ ∃ r, l = 64 :: r := by
    cases l with
    | nil => exact .inl rfl
    | cons c r => by_cases hc : c = 64
                  · exact .inr (.inr ⟨r, by rw [hc]⟩)
                  · exact .inr (.inl ⟨c, r, rfl, hc⟩)
  rcases hfail with rfl | ⟨c, r, rfl, hc⟩ | ⟨r, rfl⟩
  · have e1 : (((nextL []).toNat : Int) == 64) = false := rfl
    go_wp2_with fail
    refine (must_false _).mono ?_
    rintro e w2 ⟨rfl, rfl⟩
    go_wp2
    exact ⟨rfl, .inr ⟨rfl, rfl, hg1⟩⟩
  · have e1 := nextL_ne c r 64 hc 64 rfl
    have hq : Hid (bareL loc (c :: r) = none) := by show (if c = 64 then (if chk loc (runT r) = 0 then some (runT r, runR r) else none) else none) = none; rw [if_neg hc]
    clear hc
    go_wp2_with fail
    refine (must_false _).mono ?_
    rintro e w2 ⟨rfl, rfl⟩
    go_wp2
    exact ⟨rfl, .inr ⟨hq.out, rfl, hg1⟩⟩
  · have e1 := nextL_eq 64 r 64 rfl 64 rfl
    obtain ⟨hlt, _, hr1⟩ := HR.out.cons
    have HR1 := Lib.hid hr1; clear hr1
    have hrlen : r.length ≤ 100000 := by have := HR1.out.1; omega
    have hq : Hid (bareL loc (64 :: r) = if chk loc (runT r) = 0 then some (runT r, runR r) else none) := rfl
    go_wp2_with fail
    refine (must_true _).mono ?_
    rintro e w2 ⟨rfl, rfl⟩
    have hrd2 := hrd1.step
    have t2 := t1.else0 (i := 1) hbR (.int .i64 ((n : Int) + 1))
    have hg2 := Go.Lib.grownBy_setB hg1 1 (.int .i64 ((n : Int) + 1))
    have hrd1' := hrd1
    obtain ⟨d0, d1, g1, hb0⟩ := hrd1'
    go_wp2_with fail
    refine (HRun.out r _ ⟨n + 1, HR1.out, hrd2⟩).mono ?_
    rintro e w3 ⟨rfl, hrd3, hgr⟩
    have t3 := t2.grown hgr hbR
    have hg3 := Go.Lib.grownBy_trans hg2 hgr
    clear d0 d1 g1 hb0 t2 hrd2 hg2 hgr t1 hrd1 hg1
    go_wp2_with fail
    have hal := ba (Below.refl _ w3) (.cells #[.string X, .string ⟨(runT r).toArray⟩] 139)
    refine (HC.out (runT r) (Nat.le_trans (runT_le r) hrlen) _ (moved (cell_kept HM.out hg3 (Ne.symm hb)) hal (Nat.le_refl _))).mono ?_
    rintro e w4 ⟨rfl, hb4⟩
    have t4 := t3.below (bt hal hb4) (Nat.le_refl _)
    have tX := (Two.alloc w3 X ⟨(runT r).toArray⟩ 139).below hb4 (Nat.le_refl _)
    have hrd4 := hrd3.below (bt hal hb4)
    have hg4 := Go.Lib.grownBy_below hg3 (bt hal hb4)
    have hRw : w.heap.size ≤ R := by rw [HRe.out]; exact Nat.le_refl _
    clear t3 hb4 hrd3 hg3 hal
    by_cases hz : chk loc (runT r) = 0
    · have hq2 : Hid (bareL loc (64 :: r) = some (runT r, runR r)) := by unfold Hid; rw [hq.out, if_pos hz]
      rw [hz]
      clear hq hz
      go_wp2_with fail
      refine (must_true _).mono ?_
      rintro e w5 ⟨rfl, rfl⟩
      have tF := Two.set t4 X ⟨(runT r).toArray⟩
      have q0 := tF.1
      have q1 := tF.2.1
      obtain ⟨a0, a1, f0, f1, z1⟩ := t4
      obtain ⟨b0, b1, f2, f3, z2⟩ := tX
      go_wp2_with fail
      refine bodyPost_ret (v := .agg #[.string X, .string ⟨(runT r).toArray⟩]) (by simp [results, Tryd.results92, go_sem, q0, q1]) rfl (.inl ⟨runT r, runR r, hq2.out, rfl, ?_, ?_⟩)
      · exact (hrd4.else0 hbR 0 _).else0 hbR 1 _
      · exact grownBy_setNew (grownBy_setNew hg4 hRw 0 _) hRw 1 _
    · have hq2 : Hid (bareL loc (64 :: r) = none) := by unfold Hid; rw [hq.out, if_neg hz]
      have hzz : ((chk loc (runT r) : Int) == 0) = false := beq_eq_false_iff_ne.2 (by omega)
      clear hq hz
      go_wp2_with fail
      refine (must_false _).mono ?_
      rintro e w5 ⟨rfl, rfl⟩
      go_wp2
      exact ⟨rfl, .inr ⟨hq2.out, rfl, hg4⟩⟩
end Go.Proofs.YtobdokabelilmaaDoor
