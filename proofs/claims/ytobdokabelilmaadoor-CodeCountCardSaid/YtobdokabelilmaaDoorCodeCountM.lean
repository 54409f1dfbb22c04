/-
  DERIVED. Merged of: CoPlain, CoMem, CoLeaf, CoPut, CoHere, CoOwn, CoTest, CoTst2, CoTst3, CoAll, CoCount, CodeCount.
-/
import Derived.Test.YtobdokabelilmaaDoorScTree
import Derived.Test.YtobdokabelilmaaDoorScPut
import Derived.Deep.AppendLies
import Derived.Handy
import Derived.Test.YtobdokabelilmaaDoorRuAll
import Derived.Test.YtobdokabelilmaaDoorScTest
import Derived.Deep.RegionLaw
import Derived.Deep.RegionHeld3
import Derived.Deep.MidRow
import Derived.Test.YtobdokabelilmaaDoorShelf
import Derived.Deep.DeepCutAuto
import Derived.Deep.CutBlock
import Derived.StillTailTactics
namespace Go.Proofs.YtobdokabelilmaaDoor.Sc
open Tk (Tok)

/-! how many ops -/
mutual
def opsT : Tst → Nat
  | ⟨k, _, _, _, _, _, _, ts⟩ => if k = 3 then opsTs ts + 1 else if k = 4 ∨ k = 5 then opsTs ts + (ts.length - 1) else 1
def opsTs : List Tst → Nat
  | [] => 0
  | t :: l => opsT t + opsTs l
end
theorem opsT_eq (t : Tst) : opsT t = if t.kind = 3 then opsTs t.tests + 1 else if t.kind = 4 ∨ t.kind = 5 then opsTs t.tests + (t.tests.length - 1) else 1 := by obtain ⟨k, m, p, ns, ks, o, l, ts⟩ := t; rw [opsT]
mutual
def opsC : Cmd → Nat
  | ⟨k, _, t, th, el⟩ => if k = 2 then opsT t + 1 + opsCs th + (if el.length = 0 then 0 else 1 + opsCs el) else 1
def opsCs : List Cmd → Nat
  | [] => 0
  | c :: l => opsC c + opsCs l
end
theorem opsC_eq (c : Cmd) : opsC c = if c.kind = 2 then opsT c.test + 1 + opsCs c.thn + (if c.els.length = 0 then 0 else 1 + opsCs c.els) else 1 := by obtain ⟨k, tx, t, th, el⟩ := c; rw [opsC]
/-! leaves, and what 'counted' counts -/
mutual
def leavesT : Tst → Nat
  | ⟨_, _, _, _, _, _, _, ts⟩ => if ts.length = 0 then 1 else leavesTs ts
def leavesTs : List Tst → Nat
  | [] => 0
  | t :: l => leavesT t + leavesTs l
end
theorem leavesT_eq (t : Tst) : leavesT t = if t.tests.length = 0 then 1 else leavesTs t.tests := by obtain ⟨k, m, p, ns, ks, o, l, ts⟩ := t; rw [leavesT]
mutual
def doesC : Cmd → Nat
  | ⟨k, _, _, th, el⟩ => if k = 2 then doesCs th + doesCs el else 1
def doesCs : List Cmd → Nat
  | [] => 0
  | c :: l => doesC c + doesCs l
end
theorem doesC_eq (c : Cmd) : doesC c = if c.kind = 2 then doesCs c.thn + doesCs c.els else 1 := by obtain ⟨k, tx, t, th, el⟩ := c; rw [doesC]
mutual
def asksC : Cmd → Nat
  | ⟨k, _, t, th, el⟩ => if k = 2 then asksCs th + asksCs el + leavesT t else 0
def asksCs : List Cmd → Nat
  | [] => 0
  | c :: l => asksC c + asksCs l
end
theorem asksC_eq (c : Cmd) : asksC c = if c.kind = 2 then asksCs c.thn + asksCs c.els + leavesT c.test else 0 := by obtain ⟨k, tx, t, th, el⟩ := c; rw [asksC]

/-! there are no more ops than tokens -/
theorem seqT_flat : ∀ l : List (List Tok), (seqT l).length = l.flatten.length + l.length
  | [] => rfl
  | x :: l => by
    have : ∀ l : List (List Tok), (l.flatMap fun y => M 44 :: y).length = l.flatten.length + l.length := by
      intro l
      induction l with
      | nil => rfl
      | cons a l ih => rw [List.flatMap_cons, List.length_append, List.flatten_cons, List.length_append, ih, List.length_cons, List.length_cons]; omega
    show (M 40 :: x ++ l.flatMap fun y => M 44 :: y).length = _
    rw [List.length_append, this, List.flatten_cons, List.length_append, List.length_cons, List.length_cons]; omega
mutual
theorem opsT_len : ∀ t : Tst, opsT t ≤ (wT t).length
  | ⟨k, m, p, ns, ks, o, l, ts⟩ => by
    have h := opsTs_len ts
    rw [opsT, wT, List.length_cons]
    split
    · rename_i e
      have : bodyT k m p ns ks o l (wTs ts) = (wTs ts).flatten := by unfold bodyT; rw [if_pos e]
      rw [this]; omega
    · rename_i e
      split
      · rename_i e2
        have : bodyT k m p ns ks o l (wTs ts) = seqT (wTs ts) ++ [M 41] := by unfold bodyT; rw [if_neg e, if_pos e2]
        rw [this, List.length_append, seqT_flat]
        have hl : (wTs ts).length = ts.length := by rw [wTs_map, List.length_map]
        omega
      · omega
theorem opsTs_len : ∀ l : List Tst, opsTs l ≤ (wTs l).flatten.length
  | [] => Nat.le_refl _
  | t :: l => by
    have h1 := opsT_len t
    have h2 := opsTs_len l
    rw [opsTs, wTs, List.flatten_cons, List.length_append]; omega
end
mutual
theorem opsC_len : ∀ c : Cmd, opsC c ≤ (wC c).length
  | ⟨k, tx, t, th, el⟩ => by
    have h0 := opsT_len t
    have h1 := opsCs_len th
    have h2 := opsCs_len el
    have h3 := elseT_len el
    rw [← wCs_flat, ← wBs_map] at h3
    rw [opsC, wC, List.length_cons]
    split
    · rw [List.length_append, List.length_append]
      have hb : (blkT (wCs th)).length = (wCs th).length + 2 := by unfold blkT; rw [List.length_cons, List.length_append]; rfl
      rw [hb]
      split <;> omega
    · omega
theorem opsCs_len : ∀ l : List Cmd, opsCs l ≤ (wCs l).length
  | [] => Nat.le_refl _
  | c :: l => by
    have h1 := opsC_len c
    have h2 := opsCs_len l
    rw [opsCs, wCs, List.length_append]; omega
end
/-! steps along a list -/
theorem opsTs_step (l : List Tst) (j : Nat) (hj : j < l.length) : opsTs (l.take (j + 1)) = opsTs (l.take j) + opsT l[j] := by
  induction l generalizing j with
  | nil => exact absurd hj (Nat.not_lt_zero _)
  | cons a l ih =>
    cases j with
    | zero => rw [List.take_succ_cons, List.take_zero, List.take_zero, opsTs, opsTs, opsTs]; simp
    | succ j =>
      rw [List.take_succ_cons, List.take_succ_cons, opsTs, opsTs, ih j (by simpa using hj)]
      simp; omega
theorem leavesTs_step (l : List Tst) (j : Nat) (hj : j < l.length) : leavesTs (l.take (j + 1)) = leavesTs (l.take j) + leavesT l[j] := by
  induction l generalizing j with
  | nil => exact absurd hj (Nat.not_lt_zero _)
  | cons a l ih =>
    cases j with
    | zero => rw [List.take_succ_cons, List.take_zero, List.take_zero, leavesTs, leavesTs, leavesTs]; simp
    | succ j =>
      rw [List.take_succ_cons, List.take_succ_cons, leavesTs, leavesTs, ih j (by simpa using hj)]
      simp; omega
theorem opsCs_step (l : List Cmd) (j : Nat) (hj : j < l.length) : opsCs (l.take (j + 1)) = opsCs (l.take j) + opsC l[j] := by
  induction l generalizing j with
  | nil => exact absurd hj (Nat.not_lt_zero _)
  | cons a l ih =>
    cases j with
    | zero => rw [List.take_succ_cons, List.take_zero, List.take_zero, opsCs, opsCs, opsCs]; simp
    | succ j =>
      rw [List.take_succ_cons, List.take_succ_cons, opsCs, opsCs, ih j (by simpa using hj)]
      simp; omega
theorem doesCs_step (l : List Cmd) (j : Nat) (hj : j < l.length) : doesCs (l.take (j + 1)) = doesCs (l.take j) + doesC l[j] := by
  induction l generalizing j with
  | nil => exact absurd hj (Nat.not_lt_zero _)
  | cons a l ih =>
    cases j with
    | zero => rw [List.take_succ_cons, List.take_zero, List.take_zero, doesCs, doesCs, doesCs]; simp
    | succ j =>
      rw [List.take_succ_cons, List.take_succ_cons, doesCs, doesCs, ih j (by simpa using hj)]
      simp; omega
theorem asksCs_step (l : List Cmd) (j : Nat) (hj : j < l.length) : asksCs (l.take (j + 1)) = asksCs (l.take j) + asksC l[j] := by
  induction l generalizing j with
  | nil => exact absurd hj (Nat.not_lt_zero _)
  | cons a l ih =>
    cases j with
    | zero => rw [List.take_succ_cons, List.take_zero, List.take_zero, asksCs, asksCs, asksCs]; simp
    | succ j =>
      rw [List.take_succ_cons, List.take_succ_cons, asksCs, asksCs, ih j (by simpa using hj)]
      simp; omega
theorem leavesTs_take : ∀ (l : List Tst) (j : Nat), leavesTs (l.take j) ≤ leavesTs l
  | [], j => by rw [List.take_nil]; exact Nat.le_refl _
  | t :: l, 0 => by rw [List.take_zero, leavesTs]; exact Nat.zero_le _
  | t :: l, j + 1 => by rw [List.take_succ_cons, leavesTs, leavesTs]; have := leavesTs_take l j; omega
theorem opsTs_take : ∀ (l : List Tst) (j : Nat), opsTs (l.take j) ≤ opsTs l
  | [], j => by rw [List.take_nil]; exact Nat.le_refl _
  | t :: l, 0 => by rw [List.take_zero, opsTs]; exact Nat.zero_le _
  | t :: l, j + 1 => by rw [List.take_succ_cons, opsTs, opsTs]; have := opsTs_take l j; omega
theorem opsCs_take : ∀ (l : List Cmd) (j : Nat), opsCs (l.take j) ≤ opsCs l
  | [], j => by rw [List.take_nil]; exact Nat.le_refl _
  | t :: l, 0 => by rw [List.take_zero, opsCs]; exact Nat.zero_le _
  | t :: l, j + 1 => by rw [List.take_succ_cons, opsCs, opsCs]; have := opsCs_take l j; omega
theorem doesCs_take : ∀ (l : List Cmd) (j : Nat), doesCs (l.take j) ≤ doesCs l
  | [], j => by rw [List.take_nil]; exact Nat.le_refl _
  | t :: l, 0 => by rw [List.take_zero, doesCs]; exact Nat.zero_le _
  | t :: l, j + 1 => by rw [List.take_succ_cons, doesCs, doesCs]; have := doesCs_take l j; omega
theorem asksCs_take : ∀ (l : List Cmd) (j : Nat), asksCs (l.take j) ≤ asksCs l
  | [], j => by rw [List.take_nil]; exact Nat.le_refl _
  | t :: l, 0 => by rw [List.take_zero, asksCs]; exact Nat.zero_le _
  | t :: l, j + 1 => by rw [List.take_succ_cons, asksCs, asksCs]; have := asksCs_take l j; omega
/-! no count is greater than the ops -/
mutual
theorem leavesT_ops : ∀ t : Tst, FormT t → leavesT t ≤ opsT t
  | ⟨k, m, p, ns, ks, o, l, ts⟩, h => by
    rw [FormT] at h
    have h2 := leavesTs_ops ts h.2
    have h1 := h.1
    rw [leavesT, opsT]
    unfold Form1 at h1
    split
    · split
      · omega
      · split
        · omega
        · omega
    · split
      · omega
      · split
        · omega
        · omega
theorem leavesTs_ops : ∀ l : List Tst, FormTs l → leavesTs l ≤ opsTs l
  | [], _ => Nat.le_refl _
  | t :: l, h => by
    rw [FormTs] at h
    have h1 := leavesT_ops t h.1
    have h2 := leavesTs_ops l h.2
    rw [leavesTs, opsTs]; omega
end
/-! kinds of ops: so many asks, so many commands -/
def asksL (ks : List Int) : Nat := ks.countP (· == 1)
def doesL (ks : List Int) : Nat := ks.countP (· == 6)
theorem asksL_append (a b : List Int) : asksL (a ++ b) = asksL a + asksL b := List.countP_append
theorem doesL_append (a b : List Int) : doesL (a ++ b) = doesL a + doesL b := List.countP_append
theorem asksL_le (a : List Int) : asksL a ≤ a.length := List.countP_le_length
theorem doesL_le (a : List Int) : doesL a ≤ a.length := List.countP_le_length
end Go.Proofs.YtobdokabelilmaaDoor.Sc
namespace Go.Proofs.YtobdokabelilmaaDoor.Sc
open Go.RowKit

theorem info_op : (Tryd.prog.info? 58).map (fun i => (i.zero, i.size, i.bytes)) = some (some (.agg #[.int .i64 0, .int .i64 0, .int .i64 0, .int .i64 0, .int .i64 0, .slice none 0 0, .slice none 0 0, .bool false, .int .i64 0, .slice none 0 0, .int .i64 0, .slice none 0 0, .int .i64 0, .int .i64 0, .int .i64 0, .slice none 0 0, .slice none 0 0, .bool false, .int .i64 0, .slice none 0 0, .slice none 0 0, .slice none 0 0]), 22, 320) := by kernel_rfl
/-- 'these cells hold ops of these kinds' -/
def KindsAt (xs : List Value) (ks : List Int) : Prop := ∀ i k, ks[i]? = some k → xs[i * 22]? = some (.int .i64 k)
/-- 'the maker in block R has ops of these kinds; its row lies from base on' -/
def Wo (w : World) (base R : Nat) (ks : List Int) : Prop := ∃ v xs, Has w R [v] ∧ base ≤ R ∧ w.ownsRow base 58 22 v ks.length xs ∧ KindsAt xs ks ∧ v.ownBlock ≠ some R
theorem Wo.down {w w' : World} {base R : Nat} {ks : List Int} (h : Wo w base R ks) (hb : Below w.heap.size w w') : Wo w' base R ks := by
  obtain ⟨v, xs, h1, h2, h3, h4, h5⟩ := h
  exact ⟨v, xs, h1.down hb, h2, row_down h3 hb, h4, h5⟩
theorem Wo.new {w : World} {base R : Nat} {ks : List Int} (h : Wo w base R ks) : R < w.heap.size ∧ w.heap.size ≠ R ∧ rowB w R ≠ some w.heap.size := by
  obtain ⟨v, xs, h1, h2, h3, _, h4⟩ := h
  refine ⟨h1.2.2, by have := h1.2.2; omega, ?_⟩
  rw [rowB_has h1]
  intro e
  have := (World.ownsRow.lt h3 _ e).2
  omega
theorem Wo.below {w w' : World} {base R : Nat} {ks : List Int} (h : Wo w base R ks) (hz : base ≤ w.heap.size) (k : WStep R w w') : Below base w w' := by
  obtain ⟨v, xs, h1, h2, h3, _, h4⟩ := h
  refine ⟨k.os, k.tape, k.output, k.size, fun i hi => k.keep i (by omega) (by omega) ?_⟩
  rw [rowB_has h1]
  intro e
  have := (World.ownsRow.lt h3 _ e).1
  omega
theorem KindsAt.snoc {xs vs : List Value} {ks : List Int} {k : Int} (h : KindsAt xs ks) (hl : xs.length = ks.length * 22) (hk : vs[0]? = some (.int .i64 k)) : KindsAt (xs ++ vs) (ks ++ [k]) := by
  intro i u hu
  by_cases hi : i < ks.length
  · rw [List.getElem?_append_left hi] at hu
    rw [List.getElem?_append_left (by omega)]
    exact h i u hu
  · have hi2 : i = ks.length := by
      have := (List.getElem?_eq_some_iff.1 hu).1
      rw [List.length_append, List.length_singleton] at this; omega
    subst hi2
    rw [List.getElem?_append_right (Nat.le_refl _), Nat.sub_self] at hu
    obtain rfl : k = u := Option.some.inj hu
    rw [List.getElem?_append_right (by omega), hl, Nat.sub_self]
    exact hk
theorem KindsAt.set {xs : List Value} {ks : List Int} (h : KindsAt xs ks) (i : Nat) (u : Value) : KindsAt (xs.set (i * 22 + 1) u) ks := by
  intro j k hk
  rw [List.getElem?_set_ne (by omega)]
  exact h j k hk
theorem row_cells {w : World} {B k n : Nat} {t : TypeId} {v : Value} {L : List Value} (h : w.ownsRow B t k v n L) : L.length = n * k := h.1
theorem wo_put {w w1 w6 : World} {base R g cap n : Nat} {ks : List Int} {k : Int} {v : Value} {xs vs : List Value} (hb1 : Below w.heap.size w w1) (h1 : Has w R [v]) (hR : base ≤ R) (hK : KindsAt xs ks) (hr : w.ownsRow base 58 22 v n xs) (h2 : v.ownBlock ≠ some R) (hn : n = ks.length) (hk : vs[0]? = some (.int .i64 k))
    (hown : w6.ownsRow base 58 22 (.slice (some ⟨g, 0, none⟩) (n + 1) cap) (n + 1) (xs ++ vs)) (hgrow : w1.grownBy w6 v.ownBlock) (hat : v.ownBlock = some g ∨ w.heap.size ≤ g) :
    Has w6 R [v] ∧ Wo (w6.setCell ⟨R, 0, none⟩ (.slice (some ⟨g, 0, none⟩) (n + 1) cap)) base R (ks ++ [k]) ∧ WStep R w (w6.setCell ⟨R, 0, none⟩ (.slice (some ⟨g, 0, none⟩) (n + 1) cap)) := by
  subst hn
  have hRl := h1.2.2
  have hgR : g ≠ R := by
    rcases hat with h | h
    · rintro rfl; exact h2 h
    · omega
  have h6 : Has w6 R [v] := (h1.down hb1).kept hgrow (fun e => h2 e.symm)
  have hne : (Value.slice (some ⟨g, 0, none⟩) (ks.length + 1) cap).ownBlock ≠ some R := fun e => hgR (Option.some.inj e)
  refine ⟨h6, ⟨_, _, h6.set' (i := 0) _ (by simp), hR, ?_, hK.snoc (row_cells hr) hk, hne⟩, ?_⟩
  · have := row_off hown hne 0 (.slice (some ⟨g, 0, none⟩) (ks.length + 1) cap)
    rw [List.length_append]; exact this
  · have hnew : Has (w6.setCell ⟨R, 0, none⟩ (.slice (some ⟨g, 0, none⟩) (ks.length + 1) cap)) R [.slice (some ⟨g, 0, none⟩) (ks.length + 1) cap] := h6.set' (i := 0) _ (by simp)
    refine ⟨hgrow.os.trans hb1.os, hgrow.tape.trans hb1.tape, hgrow.output.trans hb1.output, ?_, fun b hb hbR hbr => ?_, fun b e => ?_⟩
    · have h := Nat.le_trans hb1.size hgrow.size
      simpa [World.setCell] using h
    · rw [rowB_has h1] at hbr
      refine (Below.heap_setCell _ _ _ _ hbR).trans ((hgrow.block b (Nat.lt_of_lt_of_le hb hb1.size) (fun e => hbr e.symm)).trans (hb1.block b hb))
    · rw [rowB_has hnew] at e
      rw [rowB_has h1]
      obtain rfl : g = b := Option.some.inj e
      exact hat
end Go.Proofs.YtobdokabelilmaaDoor.Sc
namespace Go.Proofs.YtobdokabelilmaaDoor.Sc
open Go.RowKit

def NumPost (k : Nat) (w : World) (e : Ending) (w' : World) : Prop := e = .returned (.int .i64 k) ∧ Below w.heap.size w w'
def LeafN (n : Nat) : Prop := ∀ (t : Tst) (vs : List Value) (F : Dom) (w : World), (cTst n).rep w F t vs → LenTs t → leavesT t ≤ 1000000 →
    Calls Tryd.prog 40 #[.agg vs.toArray] w (NumPost (leavesT t) w)
set_option maxHeartbeats 8000000 in
set_option maxRecDepth 20000 in
theorem leaf_one (n : Nat) (hIH : LeafN n) : LeafN (n + 1) := by
  intro t vs F w hrep hlen hmax
  obtain ⟨m, Gn, cn, Gk, ck, Gt, ct, hm, rfl, -, -, ht⟩ := tst_open hrep
  obtain rfl : n = m := by omega
  obtain ⟨-, -, -, -, ltn⟩ := hlen.one
  have hsub := hlen.sub
  have heq := leavesT_eq t
  obtain ⟨R, hR⟩ : ∃ R, R = leavesT t := ⟨_, rfl⟩
  rw [← hR] at heq hmax ⊢
  obtain ⟨kind, mat, part, ns, ks, ov, lim, ts⟩ := t
  simp only [tstC] at *
  have HX := Lib.hid (Has.alloc w [.int .i64 kind, .int .i64 mat, .int .i64 part, .slice Gn ns.length cn, .slice Gk ks.length ck, .bool ov, .int .i64 lim, .slice Gt ts.length ct] 26)
  have HB0 := Lib.hid (ba (Below.refl w.heap.size w) (.cells #[.int .i64 kind, .int .i64 mat, .int .i64 part, .slice Gn ns.length cn, .slice Gk ks.length ck, .bool ov, .int .i64 lim, .slice Gt ts.length ct] 26))
  have HT := Lib.hid ht; have HEQ := Lib.hid heq; have HSUB := Lib.hid hsub; have HIH := Lib.hid hIH; have HMAX := Lib.hid hmax
  clear hrep hlen ht heq hR hm hsub hIH hmax
  go_enter Tryd.func40, Tryd.ntmps40
  by_cases h0 : ts.length = 0
  · have hz : Hid (R = 1) := by unfold Hid; rw [HEQ.out, if_pos h0]
    obtain rfl := List.eq_nil_of_length_eq_zero h0
    clear h0 ltn
    go_wp2_with fail
    go_ret
    exact ⟨by rw [hz.out]; rfl, HB0.out⟩
  · have hz : Hid (R = leavesTs ts) := by unfold Hid; rw [HEQ.out, if_neg h0]
    have hp : (0 : Int) < ts.length := by omega
    have hq0 : ((ts.length : Int) == 0) = false := beq_false_of_ne (by omega)
    go_wp2_with fail
    go_loopw [3, 4] (fun vn v wr => ∃ j m : Nat, vn = .int .i64 (m : Nat) ∧ v = .int .i64 j ∧ j ≤ ts.length ∧ Hid (m = leavesTs (ts.take j)) ∧ Has wr w.heap.size [.int .i64 kind, .int .i64 mat, .int .i64 part, .slice Gn ns.length cn, .slice Gk ks.length ck, .bool ov, .int .i64 lim, .slice Gt ts.length ct] ∧ Below w.heap.size w wr) (fun _ v _ => ts.length - (intOf v).toNat)
    case atStart => exact ⟨0, 0, rfl, rfl, Nat.zero_le _, rfl, HX.out, HB0.out⟩
    case round =>
      obtain ⟨j, m, rfl, rfl, hj, HD, hX, hb⟩ := hrel
      have HBJ := Lib.hid hb; have HXJ := Lib.hid hX
      obtain ⟨c0, c1, c2, c3, c4, c5, c6, c7⟩ := has_eight hX
      by_cases hlt : j < ts.length
      · obtain ⟨g, off, Gn', cn', Gk', ck', Gt', ct', rfl, hr, e0, e1, e2, e3, e4, e5, e6, e7⟩ := tst_get HT.out (Same.of_below hb) hb.size j hlt
        have hst := leavesTs_step ts j hlt
        have ha1 := leavesTs_take ts (j + 1)
        have hls := HSUB.out _ (List.getElem_mem hlt)
        generalize ts[j] = x at hr e0 e1 e2 e3 e4 e5 e6 e7 hst hls
        rw [← HD.out] at hst
        have hmx := HMAX.out
        rw [hz.out] at hmx
        obtain ⟨q, hq⟩ : ∃ q, q = leavesT x := ⟨_, rfl⟩
        have hsum : m + q ≤ 1000000 := by omega
        have HC := Lib.hid (HIH.out x _ F wr hr hls (by omega))
        rw [← hq] at hst HC
        have HST := Lib.hid hst
        have hjn : (j : Int) < ts.length := by omega
        unfold tstC at HC
        clear hr hls hb hst hq hX ha1 hmx
        go_wp2_with fail
        refine HC.out.mono ?_
        rintro e w3 ⟨rfl, hb3⟩
        have HB3 := Lib.hid (bt HBJ.out hb3); have HX3 := Lib.hid (HXJ.out.down hb3)
        clear hb3 HC e0 e1 e2 e3 e4 e5 e6 e7
        go_wp2_with fail
        go_roundw
        case rel => exact ⟨j + 1, m + q, by go_num, by go_num, hlt, HST.out.symm, HX3.out, HB3.out⟩
        case measure => simp [intOf]; omega
      · obtain rfl : j = ts.length := by omega
        have hm : m = R := by rw [HD.out, hz.out, List.take_length]
        clear hb hX
        subst hm
        go_wp2_with fail
        go_ret
        exact ⟨rfl, HBJ.out⟩
theorem leaf_all : ∀ n, LeafN n
  | 0 => fun _ _ _ _ h => h.elim
  | n + 1 => leaf_one n (leaf_all n)
end Go.Proofs.YtobdokabelilmaaDoor.Sc
namespace Go.Proofs.YtobdokabelilmaaDoor.Sc
open Go.RowKit



theorem step_load_mid {P : Program} {ops : Array Oper} {op : Oper} {a : Act} {w : World} {K : Act → World → Prop} {Q : Exit → Act → World → Prop} {E : Prop} (hg : op.guard = none) (ty : TypeId) (x : Operand) (ho : op.op = .load ty x)
    (b o : Nat) (hx : a.eval x = .pointer (some ⟨b, o, none⟩)) (cs : List Value) (d : TypeDesc) (hc : w.rangeAt b o cs)
    (hu : P.underlying ty = some d) (hd : d.isRow = true) (hi : (P.info? ty).map (·.size) = some cs.length)
    (h : K (a.put op.dst (.agg cs.toArray)) w) : if Region.wanted op (yielded ops a.tmps) = true then Oper.wp P op a w K Q else E := by
  have hw : Region.wanted op (yielded ops a.tmps) = true := by simp [Region.wanted, hg]
  rw [if_pos hw]
  exact wp_load_mid ty x ho b o hx cs d hc hu hd hi h
set_option maxHeartbeats 8000000 in
set_option maxRecDepth 20000 in
theorem put_op (base R : Nat) (ks : List Int) (k a b c l d : Int) (o : Bool) (s1 s2 s3 s4 : Value) (h1 : s1.oneCell' = true) (h2 : s2.oneCell' = true) (h3 : s3.oneCell' = true) (h4 : s4.oneCell' = true) (w : World) (hz : base ≤ w.heap.size) (h : Wo w base R ks) (hl : ks.length ≤ 10000000) :
    Calls Tryd.prog 58 #[.pointer (some ⟨R, 0, none⟩), .agg #[.int .i64 k, .int .i64 0, .int .i64 a, .int .i64 b, .int .i64 c, s1, s2, .bool o, .int .i64 l, s3, .int .i64 d, s4, .int .i64 0, .int .i64 0, .int .i64 0, .slice none 0 0, .slice none 0 0, .bool false, .int .i64 0, .slice none 0 0, .slice none 0 0, .slice none 0 0]] w fun e w' => e = .returned (.int .i64 ks.length) ∧ Wo w' base R (ks ++ [k]) ∧ WStep R w w' := by
  obtain ⟨v, xs, q1, hR, hrow, hks, q2⟩ := h
  obtain ⟨Gv, cv, rfl⟩ := row_slice hrow
  obtain ⟨i0, hi, hz0, hz1, hz2⟩ := info_three info_op
  obtain ⟨n, hn⟩ : ∃ n, n = ks.length := ⟨_, rfl⟩
  have HI := Lib.hid hi; have HZ0 := Lib.hid hz0; have HZ1 := Lib.hid hz1; have HZ2 := Lib.hid hz2
  have HA := Lib.hid q1; have HRO := Lib.hid hrow; have HZ := Lib.hid hz; have HN := Lib.hid q2; have HKS := Lib.hid hks
  have HL := Lib.hid hl
  have HNL := Lib.hid hn
  rw [← hn] at HA HRO HN HL ⊢
  have HONE : Hid (∀ u ∈ ([.int .i64 k, .int .i64 0, .int .i64 a, .int .i64 b, .int .i64 c, s1, s2, .bool o, .int .i64 l, s3, .int .i64 d, s4, .int .i64 0, .int .i64 0, .int .i64 0, .slice none 0 0, .slice none 0 0, .bool false, .int .i64 0, .slice none 0 0, .slice none 0 0, .slice none 0 0] : List Value), u.oneCell' = true) := by
    intro u hu
    simp only [List.mem_cons, List.not_mem_nil, or_false] at hu
    rcases hu with rfl | rfl | rfl | rfl | rfl | rfl | rfl | rfl | rfl | rfl | rfl | rfl | rfl | rfl | rfl | rfl | rfl | rfl | rfl | rfl | rfl | rfl
    all_goals first | rfl | exact h1 | exact h2 | exact h3 | exact h4
  have H0 : Hid (Has (w.alloc (.cells #[.int .i64 k, .int .i64 0, .int .i64 a, .int .i64 b, .int .i64 c, s1, s2, .bool o, .int .i64 l, s3, .int .i64 d, s4, .int .i64 0, .int .i64 0, .int .i64 0, .slice none 0 0, .slice none 0 0, .bool false, .int .i64 0, .slice none 0 0, .slice none 0 0, .slice none 0 0] 58)) w.heap.size [.int .i64 k, .int .i64 0, .int .i64 a, .int .i64 b, .int .i64 c, s1, s2, .bool o, .int .i64 l, s3, .int .i64 d, s4, .int .i64 0, .int .i64 0, .int .i64 0, .slice none 0 0, .slice none 0 0, .bool false, .int .i64 0, .slice none 0 0, .slice none 0 0, .slice none 0 0] ∧ Below w.heap.size w (w.alloc (.cells #[.int .i64 k, .int .i64 0, .int .i64 a, .int .i64 b, .int .i64 c, s1, s2, .bool o, .int .i64 l, s3, .int .i64 d, s4, .int .i64 0, .int .i64 0, .int .i64 0, .slice none 0 0, .slice none 0 0, .bool false, .int .i64 0, .slice none 0 0, .slice none 0 0, .slice none 0 0] 58))) := ⟨Has.alloc w _ _, ba (Below.refl _ _) _⟩
  clear hi hz0 hz1 hz2 q1 hrow hz q2 hl hn hks h1 h2 h3 h4
  have hl' : n ≤ 10000000 := HL.out
  go_enter Tryd.func58, Tryd.ntmps58
  go_upto_region 1 with fail
  refine wp_at (R := fun W => Has W w.heap.size [.int .i64 k, .int .i64 0, .int .i64 a, .int .i64 b, .int .i64 c, s1, s2, .bool o, .int .i64 l, s3, .int .i64 d, s4, .int .i64 0, .int .i64 0, .int .i64 0, .slice none 0 0, .slice none 0 0, .bool false, .int .i64 0, .slice none 0 0, .slice none 0 0, .slice none 0 0] ∧ Below w.heap.size w W) H0.out (fun W hW => ?_)
  clear H0
  generalize hII : w.heap.size = I at hW ⊢
  have HII := Lib.hid hII
  obtain ⟨hI, hB⟩ := hW
  rw [← hII] at hB
  have hA := HA.out.down hB
  obtain ⟨c0, f0, hRl⟩ := has_one hA
  have hzw : base ≤ W.heap.size := Nat.le_trans HZ.out hB.size
  have HZW := Lib.hid hzw
  have HB := Lib.hid hB
  have hb1 := Below.drew (Below.refl W.heap.size W)
  have hb2 := ba hb1 (.cells #[.int .i64 k, .int .i64 0, .int .i64 a, .int .i64 b, .int .i64 c, s1, s2, .bool o, .int .i64 l, s3, .int .i64 d, s4, .int .i64 0, .int .i64 0, .int .i64 0, .slice none 0 0, .slice none 0 0, .bool false, .int .i64 0, .slice none 0 0, .slice none 0 0, .slice none 0 0] 58)
  have hb3 := ba (Below.refl W.heap.size W) (.cells #[.int .i64 k, .int .i64 0, .int .i64 a, .int .i64 b, .int .i64 c, s1, s2, .bool o, .int .i64 l, s3, .int .i64 d, s4, .int .i64 0, .int .i64 0, .int .i64 0, .slice none 0 0, .slice none 0 0, .bool false, .int .i64 0, .slice none 0 0, .slice none 0 0, .slice none 0 0] 58)
  have hb4 := Below.drew hb3
  have HRG : Hid (W.drew.rangeAt I 0 [.int .i64 k, .int .i64 0, .int .i64 a, .int .i64 b, .int .i64 c, s1, s2, .bool o, .int .i64 l, s3, .int .i64 d, s4, .int .i64 0, .int .i64 0, .int .i64 0, .slice none 0 0, .slice none 0 0, .bool false, .int .i64 0, .slice none 0 0, .slice none 0 0, .slice none 0 0]) := fun j v hv => by rw [Nat.zero_add]; exact (hI.down hb1).1 j v hv
  have c1 := moved c0 hb1 (Nat.le_refl _); have c2 := moved c0 hb2 (Nat.le_refl _); have c3 := moved c0 hb3 (Nat.le_refl _); have c4 := moved c0 hb4 (Nat.le_refl _)
  have f1 := (hb1.frozen (p := ⟨R, 0, none⟩) hRl).trans f0
  have f2 := (hb2.frozen (p := ⟨R, 0, none⟩) hRl).trans f0
  have f3 := (hb3.frozen (p := ⟨R, 0, none⟩) hRl).trans f0
  have f4 := (hb4.frozen (p := ⟨R, 0, none⟩) hRl).trans f0
  have HB4 := Lib.hid hb4; have HB2 := Lib.hid hb2
  have HRO4 := Lib.hid (row_down (row_down HRO.out hB) hb4)
  have HRO2 := Lib.hid (row_down (row_down HRO.out hB) hb2)
  have HNW : Hid (∀ j u, ([.int .i64 k, .int .i64 0, .int .i64 a, .int .i64 b, .int .i64 c, s1, s2, .bool o, .int .i64 l, s3, .int .i64 d, s4, .int .i64 0, .int .i64 0, .int .i64 0, .slice none 0 0, .slice none 0 0, .bool false, .int .i64 0, .slice none 0 0, .slice none 0 0, .slice none 0 0] : List Value)[j]? = some u → (W.alloc (.cells #[.int .i64 k, .int .i64 0, .int .i64 a, .int .i64 b, .int .i64 c, s1, s2, .bool o, .int .i64 l, s3, .int .i64 d, s4, .int .i64 0, .int .i64 0, .int .i64 0, .slice none 0 0, .slice none 0 0, .bool false, .int .i64 0, .slice none 0 0, .slice none 0 0, .slice none 0 0] 58)).drew.cell? (Addr.add ⟨W.heap.size, 0, none⟩ j) = some u) := fun j u hu => news_of W [.int .i64 k, .int .i64 0, .int .i64 a, .int .i64 b, .int .i64 c, s1, s2, .bool o, .int .i64 l, s3, .int .i64 d, s4, .int .i64 0, .int .i64 0, .int .i64 0, .slice none 0 0, .slice none 0 0, .bool false, .int .i64 0, .slice none 0 0, .slice none 0 0, .slice none 0 0] 58 j u hu
  have HNW2 : Hid (∀ j u, ([.int .i64 k, .int .i64 0, .int .i64 a, .int .i64 b, .int .i64 c, s1, s2, .bool o, .int .i64 l, s3, .int .i64 d, s4, .int .i64 0, .int .i64 0, .int .i64 0, .slice none 0 0, .slice none 0 0, .bool false, .int .i64 0, .slice none 0 0, .slice none 0 0, .slice none 0 0] : List Value)[j]? = some u → (W.drew.alloc (.cells #[.int .i64 k, .int .i64 0, .int .i64 a, .int .i64 b, .int .i64 c, s1, s2, .bool o, .int .i64 l, s3, .int .i64 d, s4, .int .i64 0, .int .i64 0, .int .i64 0, .slice none 0 0, .slice none 0 0, .bool false, .int .i64 0, .slice none 0 0, .slice none 0 0, .slice none 0 0] 58)).cell? (Addr.add ⟨W.heap.size, 0, none⟩ j) = some u) := fun j u hu => news_of W.drew [.int .i64 k, .int .i64 0, .int .i64 a, .int .i64 b, .int .i64 c, s1, s2, .bool o, .int .i64 l, s3, .int .i64 d, s4, .int .i64 0, .int .i64 0, .int .i64 0, .slice none 0 0, .slice none 0 0, .bool false, .int .i64 0, .slice none 0 0, .slice none 0 0, .slice none 0 0] 58 j u hu
  clear hb1 hb2 hb3 hb4 hI hB hA hzw
  clear hII
  refine wp_region_noPanic ?_
  refine wp_region_any (by kernel_rfl) ?_
  change wpAny _ _ _ _ _ _ _ (World.drew _)
  refine wpAny_take (i := 0) (v := ?_) (by (simp only [List.getElem?_toArray, List.getElem?_cons_zero]; rfl)) (by kernel_rfl) (by kernel_rfl) (by kernel_rfl) (fun _ _ _ h => h) (Or.inl ⟨by rfl, ?_⟩) ?_
  rotate_left 1
  · intro w'; (go_simp) <;> with_reducible rfl
  try simp only [Act.put, List.setIfInBounds_toArray, List.set_cons_zero, List.set_cons_succ]
  refine wpAny_take (i := 1) (v := ?_) (by (simp only [List.getElem?_toArray, List.getElem?_cons_succ, List.getElem?_cons_zero]; rfl)) (by kernel_rfl) (by kernel_rfl) (by kernel_rfl) (fun _ _ _ h => h) (Or.inl ⟨by rfl, ?_⟩) ?_
  rotate_left 1
  · intro w'; (go_simp) <;> with_reducible rfl
  try simp only [Act.put, List.setIfInBounds_toArray, List.set_cons_zero, List.set_cons_succ]
  refine wpAny_take (i := 2) (v := ?_) (by (simp only [List.getElem?_toArray, List.getElem?_cons_succ, List.getElem?_cons_zero]; rfl)) (by kernel_rfl) (by kernel_rfl) (by kernel_rfl) (fun _ _ _ h => h) (Or.inl ⟨by rfl, ?_⟩) ?_
  rotate_left 1
  · intro w'; (go_simp) <;> with_reducible rfl
  try simp only [Act.put, List.setIfInBounds_toArray, List.set_cons_zero, List.set_cons_succ]
  refine wpAny_take (i := 3) (v := ?_) (by (simp only [List.getElem?_toArray, List.getElem?_cons_succ, List.getElem?_cons_zero]; rfl)) (by kernel_rfl) (by kernel_rfl) (by kernel_rfl) (fun _ _ _ h => h) (Or.inl ⟨by rfl, ?_⟩) ?_
  rotate_left 1
  · intro w'; (go_simp) <;> with_reducible rfl
  try simp only [Act.put, List.setIfInBounds_toArray, List.set_cons_zero, List.set_cons_succ]
  refine wpAny_ready (rs := [4, 5]) (by kernel_rfl) (by simp) ?_
  refine AllReady.cons (by (simp only [List.getElem?_toArray, List.getElem?_cons_succ, List.getElem?_cons_zero]; rfl)) (fun K hK => ?_) ?_
  · go_simp
    refine hK _ _ ?_
    clear hK K
    try simp only [Act.put, List.setIfInBounds_toArray, List.set_cons_zero, List.set_cons_succ]
    refine wpAny_ready (rs := [5]) (by kernel_rfl) (by simp) ?_
    refine AllReady.cons (by (simp only [List.getElem?_toArray, List.getElem?_cons_succ, List.getElem?_cons_zero]; rfl)) (fun K hK => ?_) ?_
    · refine step_load_mid rfl _ _ rfl I 0 (by rfl) [.int .i64 k, .int .i64 0, .int .i64 a, .int .i64 b, .int .i64 c, s1, s2, .bool o, .int .i64 l, s3, .int .i64 d, s4, .int .i64 0, .int .i64 0, .int .i64 0, .slice none 0 0, .slice none 0 0, .bool false, .int .i64 0, .slice none 0 0, .slice none 0 0, .slice none 0 0] _ HRG.out Tryd.underlying58 rfl (by kernel_rfl) ?_
      refine hK _ _ ?_
      clear hK K
      try simp only [Act.put, List.setIfInBounds_toArray, List.set_cons_zero, List.set_cons_succ]
      refine wpAny_ready (rs := [6]) (by kernel_rfl) (by simp) ?_
      refine AllReady.cons (by (simp only [List.getElem?_toArray, List.getElem?_cons_succ, List.getElem?_cons_zero]; rfl)) (fun K hK => ?_) ?_
      · go_simp
        refine hK _ _ ?_
        clear hK K
        try simp only [Act.put, List.setIfInBounds_toArray, List.set_cons_zero, List.set_cons_succ]
        refine wpAny_ready (rs := [7]) (by kernel_rfl) (by simp) ?_
        refine AllReady.cons (by (simp only [List.getElem?_toArray, List.getElem?_cons_succ, List.getElem?_cons_zero]; rfl)) (fun K hK => ?_) ?_
        · refine step_append_lies _ (by rfl) _ _ _ (by rfl) base 58 i0 _ 22 320 Tryd.underlying54 HI.out HZ0.out HZ1.out HZ2.out rfl (by omega) (.slice Gv n cv) n xs (by rfl) HRO2.out ⟨W.heap.size, 0, none⟩ 1 1 [.int .i64 k, .int .i64 0, .int .i64 a, .int .i64 b, .int .i64 c, s1, s2, .bool o, .int .i64 l, s3, .int .i64 d, s4, .int .i64 0, .int .i64 0, .int .i64 0, .slice none 0 0, .slice none 0 0, .bool false, .int .i64 0, .slice none 0 0, .slice none 0 0, .slice none 0 0] (by rfl) (by rfl) HNW2.out HONE.out (by omega) (by unfold maxLen; omega) (by omega) (by simp; have := HZW.out; omega) (W.heap.size + 1) (by simp) ?_
          intro gg cap6 w6 hown6 hgrow hat hlt6
          obtain ⟨k1, k2, k3⟩ := wo_put (k := k) (bt HB.out HB2.out) HA.out hR HKS.out HRO.out HN.out HNL.out rfl hown6 hgrow (by have := HB.out.size; rcases hat with h | h; exact .inl h; exact .inr (by omega))
          obtain ⟨d0, e0, -⟩ := has_one k1
          have K2 := Lib.hid k2; have K3 := Lib.hid k3
          clear k1 k2 k3 hown6 hgrow hat
          refine hK _ _ ?_
          clear hK K
          try simp only [Act.put, List.setIfInBounds_toArray, List.set_cons_zero, List.set_cons_succ]
          refine wpAny_take (i := 8) (v := ?_) (by (simp only [List.getElem?_toArray, List.getElem?_cons_succ, List.getElem?_cons_zero]; rfl)) (by kernel_rfl) (by kernel_rfl) (by kernel_rfl) (fun _ _ _ h => h) (Or.inl ⟨by rfl, ?_⟩) ?_
          rotate_left 1
          · intro w'; (go_simp) <;> with_reducible rfl
          try simp only [Act.put, List.setIfInBounds_toArray, List.set_cons_zero, List.set_cons_succ]
          refine wpAny_take (i := 9) (v := ?_) (by (simp only [List.getElem?_toArray, List.getElem?_cons_succ, List.getElem?_cons_zero]; rfl)) (by kernel_rfl) (by kernel_rfl) (by kernel_rfl) (fun _ _ _ h => h) (Or.inl ⟨by rfl, ?_⟩) ?_
          rotate_left 1
          · intro w'; (go_simp) <;> with_reducible rfl
          try simp only [Act.put, List.setIfInBounds_toArray, List.set_cons_zero, List.set_cons_succ]
          refine wpAny_ready (rs := [10]) (by kernel_rfl) (by simp) ?_
          refine AllReady.cons (by (simp only [List.getElem?_toArray, List.getElem?_cons_succ, List.getElem?_cons_zero]; rfl)) (fun K hK => ?_) ?_
          · go_simp
            refine hK _ _ ?_
            clear hK K
            try simp only [Act.put, List.setIfInBounds_toArray, List.set_cons_zero, List.set_cons_succ]
            refine wpAny_done (by kernel_rfl) ?_ _
            refine NoPanic.normal ?_
            go_wp2_with fail
            obtain ⟨v', xs', p1, p2, p3, p4, p5⟩ := K2.out
            go_returns
            exact ⟨by go_num, K2.out, K3.out⟩
          exact AllReady.nil
        exact AllReady.nil
      exact AllReady.nil
    exact AllReady.nil
  refine AllReady.cons (by (simp only [List.getElem?_toArray, List.getElem?_cons_succ, List.getElem?_cons_zero]; rfl)) (fun K hK => ?_) ?_
  · refine step_load_mid rfl _ _ rfl I 0 (by rfl) [.int .i64 k, .int .i64 0, .int .i64 a, .int .i64 b, .int .i64 c, s1, s2, .bool o, .int .i64 l, s3, .int .i64 d, s4, .int .i64 0, .int .i64 0, .int .i64 0, .slice none 0 0, .slice none 0 0, .bool false, .int .i64 0, .slice none 0 0, .slice none 0 0, .slice none 0 0] _ HRG.out Tryd.underlying58 rfl (by kernel_rfl) ?_
    refine hK _ _ ?_
    clear hK K
    try simp only [Act.put, List.setIfInBounds_toArray, List.set_cons_zero, List.set_cons_succ]
    refine wpAny_ready (rs := [4, 6]) (by kernel_rfl) (by simp) ?_
    refine AllReady.cons (by (simp only [List.getElem?_toArray, List.getElem?_cons_succ, List.getElem?_cons_zero]; rfl)) (fun K hK => ?_) ?_
    · go_simp
      refine hK _ _ ?_
      clear hK K
      try simp only [Act.put, List.setIfInBounds_toArray, List.set_cons_zero, List.set_cons_succ]
      refine wpAny_ready (rs := [6]) (by kernel_rfl) (by simp) ?_
      refine AllReady.cons (by (simp only [List.getElem?_toArray, List.getElem?_cons_succ, List.getElem?_cons_zero]; rfl)) (fun K hK => ?_) ?_
      · go_simp
        refine hK _ _ ?_
        clear hK K
        try simp only [Act.put, List.setIfInBounds_toArray, List.set_cons_zero, List.set_cons_succ]
        refine wpAny_ready (rs := [7]) (by kernel_rfl) (by simp) ?_
        refine AllReady.cons (by (simp only [List.getElem?_toArray, List.getElem?_cons_succ, List.getElem?_cons_zero]; rfl)) (fun K hK => ?_) ?_
        · refine step_append_lies _ (by rfl) _ _ _ (by rfl) base 58 i0 _ 22 320 Tryd.underlying54 HI.out HZ0.out HZ1.out HZ2.out rfl (by omega) (.slice Gv n cv) n xs (by rfl) HRO2.out ⟨W.heap.size, 0, none⟩ 1 1 [.int .i64 k, .int .i64 0, .int .i64 a, .int .i64 b, .int .i64 c, s1, s2, .bool o, .int .i64 l, s3, .int .i64 d, s4, .int .i64 0, .int .i64 0, .int .i64 0, .slice none 0 0, .slice none 0 0, .bool false, .int .i64 0, .slice none 0 0, .slice none 0 0, .slice none 0 0] (by rfl) (by rfl) HNW2.out HONE.out (by omega) (by unfold maxLen; omega) (by omega) (by simp; have := HZW.out; omega) (W.heap.size + 1) (by simp) ?_
          intro gg cap6 w6 hown6 hgrow hat hlt6
          obtain ⟨k1, k2, k3⟩ := wo_put (k := k) (bt HB.out HB2.out) HA.out hR HKS.out HRO.out HN.out HNL.out rfl hown6 hgrow (by have := HB.out.size; rcases hat with h | h; exact .inl h; exact .inr (by omega))
          obtain ⟨d0, e0, -⟩ := has_one k1
          have K2 := Lib.hid k2; have K3 := Lib.hid k3
          clear k1 k2 k3 hown6 hgrow hat
          refine hK _ _ ?_
          clear hK K
          try simp only [Act.put, List.setIfInBounds_toArray, List.set_cons_zero, List.set_cons_succ]
          refine wpAny_take (i := 8) (v := ?_) (by (simp only [List.getElem?_toArray, List.getElem?_cons_succ, List.getElem?_cons_zero]; rfl)) (by kernel_rfl) (by kernel_rfl) (by kernel_rfl) (fun _ _ _ h => h) (Or.inl ⟨by rfl, ?_⟩) ?_
          rotate_left 1
          · intro w'; (go_simp) <;> with_reducible rfl
          try simp only [Act.put, List.setIfInBounds_toArray, List.set_cons_zero, List.set_cons_succ]
          refine wpAny_take (i := 9) (v := ?_) (by (simp only [List.getElem?_toArray, List.getElem?_cons_succ, List.getElem?_cons_zero]; rfl)) (by kernel_rfl) (by kernel_rfl) (by kernel_rfl) (fun _ _ _ h => h) (Or.inl ⟨by rfl, ?_⟩) ?_
          rotate_left 1
          · intro w'; (go_simp) <;> with_reducible rfl
          try simp only [Act.put, List.setIfInBounds_toArray, List.set_cons_zero, List.set_cons_succ]
          refine wpAny_ready (rs := [10]) (by kernel_rfl) (by simp) ?_
          refine AllReady.cons (by (simp only [List.getElem?_toArray, List.getElem?_cons_succ, List.getElem?_cons_zero]; rfl)) (fun K hK => ?_) ?_
          · go_simp
            refine hK _ _ ?_
            clear hK K
            try simp only [Act.put, List.setIfInBounds_toArray, List.set_cons_zero, List.set_cons_succ]
            refine wpAny_done (by kernel_rfl) ?_ _
            refine NoPanic.normal ?_
            go_wp2_with fail
            obtain ⟨v', xs', p1, p2, p3, p4, p5⟩ := K2.out
            go_returns
            exact ⟨by go_num, K2.out, K3.out⟩
          exact AllReady.nil
        exact AllReady.nil
      exact AllReady.nil
    refine AllReady.cons (by (simp only [List.getElem?_toArray, List.getElem?_cons_succ, List.getElem?_cons_zero]; rfl)) (fun K hK => ?_) ?_
    · go_simp
      refine hK _ _ ?_
      clear hK K
      try simp only [Act.put, List.setIfInBounds_toArray, List.set_cons_zero, List.set_cons_succ]
      refine wpAny_ready (rs := [4]) (by kernel_rfl) (by simp) ?_
      refine AllReady.cons (by (simp only [List.getElem?_toArray, List.getElem?_cons_succ, List.getElem?_cons_zero]; rfl)) (fun K hK => ?_) ?_
      · go_simp
        refine hK _ _ ?_
        clear hK K
        try simp only [Act.put, List.setIfInBounds_toArray, List.set_cons_zero, List.set_cons_succ]
        refine wpAny_ready (rs := [7]) (by kernel_rfl) (by simp) ?_
        refine AllReady.cons (by (simp only [List.getElem?_toArray, List.getElem?_cons_succ, List.getElem?_cons_zero]; rfl)) (fun K hK => ?_) ?_
        · refine step_append_lies _ (by rfl) _ _ _ (by rfl) base 58 i0 _ 22 320 Tryd.underlying54 HI.out HZ0.out HZ1.out HZ2.out rfl (by omega) (.slice Gv n cv) n xs (by rfl) HRO2.out ⟨W.heap.size, 0, none⟩ 1 1 [.int .i64 k, .int .i64 0, .int .i64 a, .int .i64 b, .int .i64 c, s1, s2, .bool o, .int .i64 l, s3, .int .i64 d, s4, .int .i64 0, .int .i64 0, .int .i64 0, .slice none 0 0, .slice none 0 0, .bool false, .int .i64 0, .slice none 0 0, .slice none 0 0, .slice none 0 0] (by rfl) (by rfl) HNW2.out HONE.out (by omega) (by unfold maxLen; omega) (by omega) (by simp; have := HZW.out; omega) (W.heap.size + 1) (by simp) ?_
          intro gg cap6 w6 hown6 hgrow hat hlt6
          obtain ⟨k1, k2, k3⟩ := wo_put (k := k) (bt HB.out HB2.out) HA.out hR HKS.out HRO.out HN.out HNL.out rfl hown6 hgrow (by have := HB.out.size; rcases hat with h | h; exact .inl h; exact .inr (by omega))
          obtain ⟨d0, e0, -⟩ := has_one k1
          have K2 := Lib.hid k2; have K3 := Lib.hid k3
          clear k1 k2 k3 hown6 hgrow hat
          refine hK _ _ ?_
          clear hK K
          try simp only [Act.put, List.setIfInBounds_toArray, List.set_cons_zero, List.set_cons_succ]
          refine wpAny_take (i := 8) (v := ?_) (by (simp only [List.getElem?_toArray, List.getElem?_cons_succ, List.getElem?_cons_zero]; rfl)) (by kernel_rfl) (by kernel_rfl) (by kernel_rfl) (fun _ _ _ h => h) (Or.inl ⟨by rfl, ?_⟩) ?_
          rotate_left 1
          · intro w'; (go_simp) <;> with_reducible rfl
          try simp only [Act.put, List.setIfInBounds_toArray, List.set_cons_zero, List.set_cons_succ]
          refine wpAny_take (i := 9) (v := ?_) (by (simp only [List.getElem?_toArray, List.getElem?_cons_succ, List.getElem?_cons_zero]; rfl)) (by kernel_rfl) (by kernel_rfl) (by kernel_rfl) (fun _ _ _ h => h) (Or.inl ⟨by rfl, ?_⟩) ?_
          rotate_left 1
          · intro w'; (go_simp) <;> with_reducible rfl
          try simp only [Act.put, List.setIfInBounds_toArray, List.set_cons_zero, List.set_cons_succ]
          refine wpAny_ready (rs := [10]) (by kernel_rfl) (by simp) ?_
          refine AllReady.cons (by (simp only [List.getElem?_toArray, List.getElem?_cons_succ, List.getElem?_cons_zero]; rfl)) (fun K hK => ?_) ?_
          · go_simp
            refine hK _ _ ?_
            clear hK K
            try simp only [Act.put, List.setIfInBounds_toArray, List.set_cons_zero, List.set_cons_succ]
            refine wpAny_done (by kernel_rfl) ?_ _
            refine NoPanic.normal ?_
            go_wp2_with fail
            obtain ⟨v', xs', p1, p2, p3, p4, p5⟩ := K2.out
            go_returns
            exact ⟨by go_num, K2.out, K3.out⟩
          exact AllReady.nil
        exact AllReady.nil
      exact AllReady.nil
    exact AllReady.nil
  exact AllReady.nil
end Go.Proofs.YtobdokabelilmaaDoor.Sc
namespace Go.Proofs.YtobdokabelilmaaDoor.Sc
open Go.RowKit

/-- what holds at a world on the way: of the maker, and of a variable -/
structure Mt (w w1 : World) (base R H : Nat) (vs : List Value) (ks : List Int) : Prop where
  wo : Wo w1 base R ks
  st : WStep R w w1
  has : Has w1 H vs
  off : rowB w1 R ≠ some H
  z : base ≤ w1.heap.size
theorem Mt.next {w w1 w2 : World} {base R H : Nat} {vs : List Value} {l l' : List Int} (h : Mt w w1 base R H vs l) (hne : H ≠ R) (hw : Wo w2 base R l') (hs : WStep R w1 w2) : Mt w w2 base R H vs l' :=
  ⟨hw, h.st.trans hs, hs.has h.has hne h.off, hs.off h.has.2.2 h.off, Nat.le_trans h.z hs.size⟩
theorem Mt.down {w w1 w2 : World} {base R H : Nat} {vs : List Value} {l : List Int} (h : Mt w w1 base R H vs l) (hb : Below w1.heap.size w1 w2) : Mt w w2 base R H vs l :=
  have hR := h.wo.new.1
  ⟨h.wo.down hb, h.st.trans ((WStep.refl R w1).down hR hb), h.has.down hb, by rw [rowB_of (hb.block R hR)]; exact h.off, Nat.le_trans h.z hb.size⟩
theorem mt_start {w : World} {base R : Nat} {l : List Int} {vs : List Value} (t : TypeId) (hz : base ≤ w.heap.size) (hw : Wo w base R l) : Mt w (w.alloc (.cells vs.toArray t)) base R w.heap.size vs l ∧ w.heap.size ≠ R := by
  have hb : Below w.heap.size w (w.alloc (.cells vs.toArray t)) := ba (Below.refl _ _) _
  refine ⟨⟨hw.down hb, (WStep.refl R w).down hw.new.1 hb, Has.alloc w vs t, ?_, Nat.le_trans hz hb.size⟩, hw.new.2.1⟩
  rw [rowB_of (hb.block R hw.new.1)]; exact hw.new.2.2
/-- places, in a slice that is no row of the maker's -/
def IntsAt (w : World) (v : Value) (l : List Nat) (R : Nat) : Prop := ∃ G cap, v = .slice G l.length cap ∧ ∀ (j x : Nat), l[j]? = some x → ∃ g, G = some ⟨g, 0, none⟩ ∧ w.cell? ⟨g, j, none⟩ = some (.int .i64 (x : Nat)) ∧ g ≠ R ∧ rowB w R ≠ some g
theorem IntsAt.step {w w' : World} {v : Value} {l : List Nat} {R : Nat} (h : IntsAt w v l R) (k : WStep R w w') : IntsAt w' v l R := by
  obtain ⟨G, cap, hv, hf⟩ := h
  refine ⟨G, cap, hv, fun j x hj => ?_⟩
  obtain ⟨g, hG, hc, h1, h2⟩ := hf j x hj
  have hg := World.block_lt_of_cell? w ⟨g, j, none⟩ hc
  exact ⟨g, hG, (World.cell?_of_block (w := w) (a := ⟨g, j, none⟩) (k.keep g hg h1 h2)).trans hc, h1, k.off hg h2⟩
/-- a place of an op is stored into -/
theorem wo_here {w : World} {base R i : Nat} {ks : List Int} (h : Wo w base R ks) (hi : i < ks.length) (u : Value) : ∃ g cap x, Has w R [.slice (some ⟨g, 0, none⟩) ks.length cap] ∧ w.cell? ⟨g, i * 22 + 1, none⟩ = some x ∧ w.frozen? ⟨g, i * 22 + 1, none⟩ = false ∧ g ≠ R ∧ Wo (w.setCell ⟨g, i * 22 + 1, none⟩ u) base R ks ∧ WStep R w (w.setCell ⟨g, i * 22 + 1, none⟩ u) := by
  obtain ⟨v, xs, h1, h2, h3, h4, h5⟩ := h
  obtain ⟨g, cap, rfl, hb, hg⟩ := World.ownsRow.form h3 (by omega)
  have hgR : g ≠ R := fun e => h5 (congrArg some e)
  have hlen := h3.1
  have hj : i * 22 + 1 < ks.length * 22 := by omega
  have hx := h3.cellAt (i * 22 + 1) hj
  obtain ⟨k1, k2⟩ := h3.stored (i * 22 + 1) u
  have hR : Has (w.setCell ⟨g, i * 22 + 1, none⟩ u) R [.slice (some ⟨g, 0, none⟩) ks.length cap] := h1.else' (fun e => hgR e.symm) u
  refine ⟨g, cap, xs[i * 22 + 1]'(by omega), h1, by rw [hx, List.getElem?_eq_getElem], h3.frozenAt _, hgR, ⟨_, _, hR, h2, k1, h4.set i u, h5⟩, ?_⟩
  refine ⟨k2.os, k2.tape, k2.output, k2.size, fun b hb1 hbR hbr => k2.block b hb1 (fun e => ?_), fun b e => ?_⟩
  · rw [rowB_has h1] at hbr
    obtain rfl : b = g := Option.some.inj e
    exact hbr rfl
  · rw [rowB_has hR] at e
    rw [rowB_has h1]; exact .inl e
set_option maxHeartbeats 4000000 in
set_option maxRecDepth 20000 in
theorem here_any (base R : Nat) (ks : List Int) (l : List Nat) (v : Value) (w : World) (h : Wo w base R ks) (hv : IntsAt w v l R) (hl : ∀ i ∈ l, i < ks.length) (hk : ks.length ≤ 10000000) (hn : l.length ≤ 10000000) :
    Calls Tryd.prog 61 #[.pointer (some ⟨R, 0, none⟩), v] w fun e w' => e = .returned (.tuple #[]) ∧ Wo w' base R ks ∧ WStep R w w' := by
  have HV := Lib.hid hv
  obtain ⟨G, cap, rfl, -⟩ := hv
  have H0 := Lib.hid h; have HL := Lib.hid hl; have HK := Lib.hid hk
  clear h hl hk
  go_enter Tryd.func61, Tryd.ntmps61
  go_wp2_with fail
  go_loopw [8] (fun v wr => ∃ j : Nat, v = .int .i64 j ∧ j ≤ l.length ∧ Wo wr base R ks ∧ WStep R w wr) (fun v _ => l.length - (intOf v).toNat)
  case atStart => exact ⟨0, rfl, Nat.zero_le _, H0.out, WStep.refl _ _⟩
  case round =>
    obtain ⟨j, rfl, hj, hw, hb⟩ := hrel
    have HW := Lib.hid hw; have HB := Lib.hid hb
    by_cases hlt : j < l.length
    · obtain ⟨x, hx⟩ : ∃ x, l[j]? = some x := ⟨_, List.getElem?_eq_getElem hlt⟩
      obtain ⟨G', cap', hv', hf⟩ := HV.out.step hb
      obtain ⟨g, rfl, c0, -, -⟩ := hf j x hx
      cases hv'
      have hxl : x < ks.length := HL.out x (List.mem_of_getElem? hx)
      obtain ⟨g2, cap2, y, q1, q2, q3, q4, q5, q6⟩ := wo_here hw hxl (.int .i64 (ks.length : Nat))
      obtain ⟨d0, e0, -⟩ := has_one q1
      have K5 := Lib.hid q5; have K6 := Lib.hid (hb.trans q6)
      have hjn : (j : Int) < l.length := by omega
      have hx1 : (x : Int) < ks.length := by omega
      have hx0 : (0 : Int) ≤ x := by omega
      have q2' : wr.drew.cell? ⟨g2, x * 22 + 1, none⟩ = some y := q2
      clear hf hx q1 q5 q6 hb hw hxl
      go_wp2_with fail
      go_region
      all_goals
        have hdr := Below.drew (Below.refl (wr.setCell ⟨g2, x * 22 + 1, none⟩ (.int .i64 (ks.length : Nat))).heap.size (wr.setCell ⟨g2, x * 22 + 1, none⟩ (.int .i64 (ks.length : Nat))))
        have K7 := Lib.hid (K5.out.down hdr)
        have K8 := Lib.hid (K6.out.down H0.out.new.1 hdr)
        clear hdr
        go_wp2_with fail
        go_roundw
        case rel => exact ⟨j + 1, by go_num, by omega, K7.out, K8.out⟩
        case measure => simp [intOf]; omega
    · obtain rfl : j = l.length := by omega
      clear hw hb
      go_wp2_with fail
      go_returns
      exact ⟨rfl, HW.out, HB.out⟩
/-- slices.Clone of texts -/
theorem clone_str (l : List Str) (v : Value) (F : Dom) (w : World) (h : SAt cStr w F v l) (hl : l.length ≤ 1000000) : Calls Tryd.prog 59 #[v] w fun e w' => ∃ G n c, e = .returned (.slice G n c) ∧ Below w.heap.size w w' := by
  obtain ⟨G, c, rfl, -⟩ := h.form
  cases G with
  | none =>
    refine (Tryd.slices_Clone_string_nil _ _ w).mono ?_
    rintro e w' ⟨rfl, rfl⟩
    exact ⟨none, 0, 0, rfl, Below.refl _ _⟩
  | some a =>
    by_cases h0 : l.length = 0
    · rw [h0]
      refine (Tryd.slices_Clone_string_zero a c w).mono ?_
      rintro e w' ⟨v', rfl, hr, -, hb⟩
      obtain ⟨Gv, cv, rfl⟩ := row_slice hr
      exact ⟨_, _, _, rfl, hb⟩
    · obtain ⟨g, off, hG, hc0⟩ := str_get h (Same.refl _ _) (Nat.le_refl _) 0 (by omega)
      cases hG
      refine (Tryd.slices_Clone_string g off l.length c (l.map fun s => ⟨s.toArray⟩) w (by rw [List.length_map]; exact Nat.le_refl _) (by omega) (fun j hj => ?_)).mono ?_
      · rw [List.length_map] at hj
        obtain ⟨g', off', hG, hc⟩ := str_get h (Same.refl _ _) (Nat.le_refl _) j hj
        cases hG
        rw [hc, List.getD, List.getElem?_map, List.getElem?_eq_getElem hj]; rfl
      · rintro e w' ⟨v', rfl, hr, -, hb⟩
        obtain ⟨Gv, cv, rfl⟩ := row_slice hr
        exact ⟨_, _, _, rfl, hb⟩
end Go.Proofs.YtobdokabelilmaaDoor.Sc
namespace Go.Proofs.YtobdokabelilmaaDoor.Sc
open Go.RowKit

def OwnPost (k m p l : Int) (o : Bool) (vt : Value) (w : World) (e : Ending) (w' : World) : Prop := ∃ G1 n1 c1 G2 n2 c2, e = .returned (.agg #[.int .i64 k, .int .i64 m, .int .i64 p, .slice G1 n1 c1, .slice G2 n2 c2, .bool o, .int .i64 l, vt]) ∧ Below w.heap.size w w'
set_option maxHeartbeats 4000000 in
set_option maxRecDepth 20000 in
theorem own_any (n : Nat) (t : Tst) (vs : List Value) (F : Dom) (w : World) (h : (cTst n).rep w F t vs) (hl : t.names.length ≤ 1000000 ∧ t.keys.length ≤ 1000000) :
    ∃ vt, vs[7]? = some vt ∧ Calls Tryd.prog 79 #[.agg vs.toArray] w (OwnPost t.kind t.mat t.part t.limit t.over vt w) := by
  obtain ⟨m, Gn, cn, Gk, ck, Gt, ct, -, rfl, hN, hK, -⟩ := tst_open h
  refine ⟨.slice Gt t.tests.length ct, rfl, ?_⟩
  obtain ⟨hl1, hl2⟩ := hl
  have HN : Hid (∀ w', Below w.heap.size w w' → Calls Tryd.prog 59 #[.slice Gn t.names.length cn] w' (fun e w'' => ∃ G n c, e = .returned (.slice G n c) ∧ Below w'.heap.size w' w'')) := fun w' hb => clone_str t.names _ F w' (hN.down hb) hl1
  have HK : Hid (∀ w', Below w.heap.size w w' → Calls Tryd.prog 59 #[.slice Gk t.keys.length ck] w' (fun e w'' => ∃ G n c, e = .returned (.slice G n c) ∧ Below w'.heap.size w' w'')) := fun w' hb => clone_str t.keys _ F w' (hK.down hb) hl2
  obtain ⟨k, mt, p, ns, ks, o, lm, ts⟩ := t
  simp only [tstC] at *
  have H0 : Hid (Has ((w.alloc (.cells #[.int .i64 k, .int .i64 mt, .int .i64 p, .slice Gn ns.length cn, .slice Gk ks.length ck, .bool o, .int .i64 lm, .slice Gt ts.length ct] 26)).alloc (.cells #[.int .i64 0, .int .i64 0, .int .i64 0, .slice none 0 0, .slice none 0 0, .bool false, .int .i64 0, .slice none 0 0] 26)) w.heap.size [.int .i64 k, .int .i64 mt, .int .i64 p, .slice Gn ns.length cn, .slice Gk ks.length ck, .bool o, .int .i64 lm, .slice Gt ts.length ct] ∧
      Has ((w.alloc (.cells #[.int .i64 k, .int .i64 mt, .int .i64 p, .slice Gn ns.length cn, .slice Gk ks.length ck, .bool o, .int .i64 lm, .slice Gt ts.length ct] 26)).alloc (.cells #[.int .i64 0, .int .i64 0, .int .i64 0, .slice none 0 0, .slice none 0 0, .bool false, .int .i64 0, .slice none 0 0] 26)) (w.heap.size + 1) [.int .i64 0, .int .i64 0, .int .i64 0, .slice none 0 0, .slice none 0 0, .bool false, .int .i64 0, .slice none 0 0] ∧
      Below w.heap.size w ((w.alloc (.cells #[.int .i64 k, .int .i64 mt, .int .i64 p, .slice Gn ns.length cn, .slice Gk ks.length ck, .bool o, .int .i64 lm, .slice Gt ts.length ct] 26)).alloc (.cells #[.int .i64 0, .int .i64 0, .int .i64 0, .slice none 0 0, .slice none 0 0, .bool false, .int .i64 0, .slice none 0 0] 26))) := by
    have h1 := Has.alloc w [.int .i64 k, .int .i64 mt, .int .i64 p, .slice Gn ns.length cn, .slice Gk ks.length ck, .bool o, .int .i64 lm, .slice Gt ts.length ct] 26
    have h2 := Has.alloc (w.alloc (.cells #[.int .i64 k, .int .i64 mt, .int .i64 p, .slice Gn ns.length cn, .slice Gk ks.length ck, .bool o, .int .i64 lm, .slice Gt ts.length ct] 26)) [.int .i64 0, .int .i64 0, .int .i64 0, .slice none 0 0, .slice none 0 0, .bool false, .int .i64 0, .slice none 0 0] 26
    rw [World.size_alloc] at h2
    exact ⟨h1.down (ba (Below.refl _ _) _), h2, ba (ba (Below.refl _ _) _) _⟩
  clear h hN hK hl1 hl2
  go_enter Tryd.func79, Tryd.ntmps79
  go_upto_region 1 with fail
  refine wp_at (R := fun W => Has W w.heap.size [.int .i64 k, .int .i64 mt, .int .i64 p, .slice Gn ns.length cn, .slice Gk ks.length ck, .bool o, .int .i64 lm, .slice Gt ts.length ct] ∧ Has W (w.heap.size + 1) [.int .i64 0, .int .i64 0, .int .i64 0, .slice none 0 0, .slice none 0 0, .bool false, .int .i64 0, .slice none 0 0] ∧ Below w.heap.size w W) H0.out (fun W hW => ?_)
  clear H0
  generalize hII : w.heap.size = I at hW ⊢
  have HII := Lib.hid hII
  clear hII
  obtain ⟨hI, hJ, hB⟩ := hW
  rw [← HII.out] at hB
  have HB := Lib.hid hB
  have HI := Lib.hid hI; have HJ := Lib.hid hJ
  have hdr := Below.drew (Below.refl W.heap.size W)
  obtain ⟨c0, c1, c2, c3, c4, c5, c6, c7⟩ := has_oct' (hI.down hdr)
  clear hI hJ hB
  go_region_with (go_at_call 59; first
    | (refine (HN.out _ (bt HB.out hdr)).mono ?_; rintro e w1 ⟨G1, n1, d1', rfl, hb1⟩; have x3 := moved c3 hb1 (Nat.le_refl _); have x4 := moved c4 hb1 (Nat.le_refl _))
    | (refine (HK.out _ (bt (bt HB.out hdr) hb1)).mono ?_; rintro e w2 ⟨G2, n2, d2', rfl, hb2⟩; have h9 := ((HI.out.down hdr).down hb1).down hb2; have x3' := h9.1 3 _ rfl; have x4' := h9.1 4 _ rfl; have y3 := h9.2.1 3 (by simp); have y4 := h9.2.1 4 (by simp); have H9 := Lib.hid h9; clear h9))
  all_goals
    have h5 := (H9.out.set' (i := 3) (.slice G1 n1 d1') (by simp)).set' (i := 4) (.slice G2 n2 d2') (by simp)
    have j5 := ((((HJ.out.down hdr).down hb1).down hb2).else' (c := I) (i := 3) (by omega) (.slice G1 n1 d1')).else' (c := I) (i := 4) (by omega) (.slice G2 n2 d2')
    have b5 := ((bt (bt (bt HB.out hdr) hb1) hb2).setCell (p := ⟨I, 3, none⟩) (by show w.heap.size ≤ I; rw [HII.out]; exact Nat.le_refl _) (.slice G1 n1 d1')).setCell (p := ⟨I, 4, none⟩) (by show w.heap.size ≤ I; rw [HII.out]; exact Nat.le_refl _) (.slice G2 n2 d2')
    have H5 := Lib.hid (And.intro h5 (And.intro j5 b5))
    clear h5 j5 b5 hb1 hb2 hdr c0 c1 c2 c3 c4 c5 c6 c7 x3 x4 x3' x4' y3 y4
    go_upto_region 2 with fail
    refine wp_at (R := fun W => Has W I [.int .i64 k, .int .i64 mt, .int .i64 p, .slice G1 n1 d1', .slice G2 n2 d2', .bool o, .int .i64 lm, .slice Gt ts.length ct] ∧ Has W (I + 1) [.int .i64 0, .int .i64 0, .int .i64 0, .slice none 0 0, .slice none 0 0, .bool false, .int .i64 0, .slice none 0 0] ∧ Below w.heap.size w W) H5.out (fun V hV => ?_)
    clear H5 H9
    obtain ⟨hI, hJ, hB⟩ := hV
    obtain ⟨c0, c1, c2, c3, c4, c5, c6, c7⟩ := has_oct' hI
    obtain ⟨d0, d1, d2, d3, d4, d5, d6, d7⟩ := has_oct' hJ
    have f0 := hJ.2.1 0 (by simp); have f1 := hJ.2.1 1 (by simp); have f2 := hJ.2.1 2 (by simp); have f3 := hJ.2.1 3 (by simp)
    have f4 := hJ.2.1 4 (by simp); have f5 := hJ.2.1 5 (by simp); have f6 := hJ.2.1 6 (by simp); have f7 := hJ.2.1 7 (by simp)
    have hJ' : Has V (I + 1) res8 := hJ
    obtain ⟨r0, r1, r2, r3, r4, r5, r6, r7⟩ := has_oct' (put8_has hJ' (.int .i64 k) (.int .i64 mt) (.int .i64 p) (.slice G1 n1 d1') (.slice G2 n2 d2') (.bool o) (.int .i64 lm) (.slice Gt ts.length ct))
    have HBV := Lib.hid (put8_below (R := I + 1) hB (by rw [HII.out]; exact Nat.le_succ _) (.int .i64 k) (.int .i64 mt) (.int .i64 p) (.slice G1 n1 d1') (.slice G2 n2 d2') (.bool o) (.int .i64 lm) (.slice Gt ts.length ct))
    unfold put8 at r0 r1 r2 r3 r4 r5 r6 r7 HBV
    clear hI hJ hB hJ'
    go_wp2_with fail
    refine bodyPost_ret (v := .agg #[.int .i64 k, .int .i64 mt, .int .i64 p, .slice G1 n1 d1', .slice G2 n2 d2', .bool o, .int .i64 lm, .slice Gt ts.length ct]) ?_ rfl ⟨_, _, _, _, _, _, rfl, HBV.out⟩
    simp [results, Tryd.results79, go_sem, r0, r1, r2, r3, r4, r5, r6, r7]
end Go.Proofs.YtobdokabelilmaaDoor.Sc
namespace Go.Proofs.YtobdokabelilmaaDoor.Sc
open Go.RowKit

def TstOut (base R : Nat) (ks : List Int) (n a : Nat) (w : World) (e : Ending) (w' : World) : Prop := e = .returned (.tuple #[]) ∧ (∃ new, Wo w' base R (ks ++ new) ∧ asksL new = a ∧ doesL new = 0 ∧ new.length = n) ∧ WStep R w w'
def CtT (n : Nat) : Prop := ∀ (t : Tst) (vs : List Value) (F : Dom) (base R : Nat) (ks : List Int) (w : World), (cTst n).rep w F t vs → FormT t → LenTs t → (∀ b, F b → b < base) → base ≤ w.heap.size → Wo w base R ks → ks.length + opsT t ≤ 4000000 →
    Calls Tryd.prog 60 #[.pointer (some ⟨R, 0, none⟩), .agg vs.toArray] w (TstOut base R ks (opsT t) (leavesT t) w)
def PutPost (base R : Nat) (ks : List Int) (k : Int) (w : World) (e : Ending) (w' : World) : Prop := e = .returned (.int .i64 ks.length) ∧ Wo w' base R (ks ++ [k]) ∧ WStep R w w'
/-- an op of a kind alone -/
theorem put_kind (base R : Nat) (ks : List Int) (k : Int) (w : World) (hz : base ≤ w.heap.size) (h : Wo w base R ks) (hl : ks.length ≤ 10000000) :
    Calls Tryd.prog 58 #[.pointer (some ⟨R, 0, none⟩), .agg #[.int .i64 k, .int .i64 0, .int .i64 0, .int .i64 0, .int .i64 0, .slice none 0 0, .slice none 0 0, .bool false, .int .i64 0, .slice none 0 0, .int .i64 0, .slice none 0 0, .int .i64 0, .int .i64 0, .int .i64 0, .slice none 0 0, .slice none 0 0, .bool false, .int .i64 0, .slice none 0 0, .slice none 0 0, .slice none 0 0]] w (PutPost base R ks k w) :=
  put_op base R ks k 0 0 0 0 0 false (.slice none 0 0) (.slice none 0 0) (.slice none 0 0) (.slice none 0 0) rfl rfl rfl rfl w hz h hl
/-- an op that asks a test -/
theorem put_ask (base R : Nat) (ks : List Int) (a b c l : Int) (o : Bool) (G1 G2 G3 : Option Addr) (n1 c1 n2 c2 n3 c3 : Nat) (w : World) (hz : base ≤ w.heap.size) (h : Wo w base R ks) (hl : ks.length ≤ 10000000) :
    Calls Tryd.prog 58 #[.pointer (some ⟨R, 0, none⟩), .agg #[.int .i64 1, .int .i64 0, .int .i64 a, .int .i64 b, .int .i64 c, .slice G1 n1 c1, .slice G2 n2 c2, .bool o, .int .i64 l, .slice G3 n3 c3, .int .i64 0, .slice none 0 0, .int .i64 0, .int .i64 0, .int .i64 0, .slice none 0 0, .slice none 0 0, .bool false, .int .i64 0, .slice none 0 0, .slice none 0 0, .slice none 0 0]] w (PutPost base R ks 1 w) :=
  put_op base R ks 1 a b c l 0 o _ _ _ _ rfl rfl rfl rfl w hz h hl
/-- out's row: places of jumps -/
def ORw (w : World) (B R : Nat) (v : Value) (l : List Nat) : Prop := w.ownsRow B 3 1 v l.length (l.map fun i : Nat => Value.int .i64 i) ∧ ∀ b, v.ownBlock = some b → b ≠ R ∧ rowB w R ≠ some b
theorem ORw.step {w w' : World} {B R : Nat} {v : Value} {l : List Nat} (h : ORw w B R v l) (k : WStep R w w') : ORw w' B R v l := by
  obtain ⟨h1, h2⟩ := h
  refine ⟨⟨h1.1, ?_⟩, fun b hb => ⟨(h2 b hb).1, k.off (h1.lt b hb).2 (h2 b hb).2⟩⟩
  rcases h1.2 with h3 | ⟨g, cap, cur, rfl, e1, e2, e3⟩
  · exact .inl h3
  · have hg := h2 g rfl
    exact .inr ⟨g, cap, cur, rfl, e1, (k.keep g (h1.lt g rfl).2 hg.1 hg.2).trans e2, e3⟩
theorem ORw.ints {w : World} {B R : Nat} {v : Value} {l : List Nat} (h : ORw w B R v l) : IntsAt w v l R := by
  obtain ⟨h1, h2⟩ := h
  by_cases h0 : 0 < l.length
  · obtain ⟨g, cap, rfl, hb, hg⟩ := World.ownsRow.form h1 h0
    refine ⟨_, cap, rfl, fun j x hj => ⟨g, rfl, ?_, (h2 g rfl).1, (h2 g rfl).2⟩⟩
    have hl := (List.getElem?_eq_some_iff.1 hj).1
    rw [h1.cellAt j (by omega), List.getElem?_map, hj]; rfl
  · obtain rfl : l = [] := List.eq_nil_of_length_eq_zero (by omega)
    obtain ⟨Gv, cv, rfl⟩ := row_slice h1
    exact ⟨Gv, cv, rfl, fun j x hj => by simp at hj⟩
theorem info_int : (Tryd.prog.info? 3).map (fun i => (i.zero, i.size, i.bytes)) = some (some (.int .i64 0), 1, 8) := by kernel_rfl
/-- behind an append to out -/
theorem out_more {w wr w2 w6 : World} {base R H B g cap : Nat} {vs : List Value} {ks : List Int} {v : Value} {l : List Nat} {x : Nat} (hM : Mt w wr base R H vs ks) (hb : Below wr.heap.size wr w2) (hr : ORw wr B R v l) (hBw : w.heap.size ≤ B) (hH : H < B) (hRB : R < B)
    (hown : w6.ownsRow B 3 1 (.slice (some ⟨g, 0, none⟩) (l.length + 1) cap) (l.length + 1) ((l.map fun i : Nat => Value.int .i64 i) ++ [.int .i64 x])) (hgrow : w2.grownBy w6 v.ownBlock) (hat : v.ownBlock = some g ∨ wr.heap.size ≤ g) :
    Mt w w6 base R H vs ks ∧ ORw w6 B R (.slice (some ⟨g, 0, none⟩) (l.length + 1) cap) (l ++ [x]) ∧ (∀ b, b < wr.heap.size → v.ownBlock ≠ some b → w6.heap[b]? = wr.heap[b]?) := by
  have hRl := hM.wo.new.1
  have hkeep : ∀ b, b < wr.heap.size → v.ownBlock ≠ some b → w6.heap[b]? = wr.heap[b]? := fun b h1 h2 => (hgrow.block b (Nat.lt_of_lt_of_le h1 hb.size) (fun e => h2 e.symm)).trans (hb.block b h1)
  have hvlo : ∀ b, v.ownBlock = some b → B ≤ b := fun b e => (hr.1.lt b e).1
  have hRk : w6.heap[R]? = wr.heap[R]? := hkeep R hRl (fun e => by have := hvlo R e; omega)
  have hrow : rowB w6 R = rowB wr R := rowB_of hRk
  have hbase : base ≤ R := by obtain ⟨_, _, _, h2, _⟩ := hM.wo; exact h2
  refine ⟨⟨?_, ?_, ?_, by rw [hrow]; exact hM.off, Nat.le_trans hM.z (Nat.le_trans hb.size hgrow.size)⟩, ⟨?_, fun b e => ?_⟩, hkeep⟩
  · obtain ⟨v', xs, h1, h2, h3, h4, h5⟩ := hM.wo.down hb
    refine ⟨v', xs, h1.kept hgrow (fun e => by have := hvlo R e.symm; omega), h2, h3.kept hgrow ?_, h4, h5⟩
    by_cases e : v'.ownBlock = none
    · exact .inl e
    · refine .inr fun e2 => ?_
      obtain ⟨b, hb1⟩ := Option.ne_none_iff_exists'.1 e
      have hrb : rowB wr R = some b := by
        have := rowB_has h1
        rw [rowB_of (hb.block R hRl)] at this
        rw [this]; exact hb1
      exact (hr.2 b (e2.symm.trans hb1)).2 hrb
  · refine ⟨hgrow.os.trans (hb.os.trans hM.st.os), hgrow.tape.trans (hb.tape.trans hM.st.tape), hgrow.output.trans (hb.output.trans hM.st.output), Nat.le_trans hM.st.size (Nat.le_trans hb.size hgrow.size), fun b hb1 hb2 hb3 => ?_, fun b e => ?_⟩
    · exact (hkeep b (Nat.lt_of_lt_of_le hb1 hM.st.size) (fun e => by have := hvlo b e; omega)).trans (hM.st.keep b hb1 hb2 hb3)
    · rw [hrow] at e; exact hM.st.row b e
  · have h2 := hM.has.down hb
    exact h2.kept hgrow (fun e => by have := hvlo H e.symm; omega)
  · have e1 : (l ++ [x]).length = l.length + 1 := by simp
    have e2 : (l ++ [x]).map (fun i : Nat => Value.int .i64 i) = (l.map fun i : Nat => Value.int .i64 i) ++ [.int .i64 x] := by simp
    rw [e1, e2]; exact hown
  · obtain rfl : g = b := Option.some.inj e
    rw [hrow]
    rcases hat with h | h
    · exact hr.2 g h
    · refine ⟨by omega, fun e2 => ?_⟩
      obtain ⟨v', xs, h1, h2, h3, h4, h5⟩ := hM.wo
      rw [rowB_has h1] at e2
      have := (h3.lt g e2).2
      omega
end Go.Proofs.YtobdokabelilmaaDoor.Sc
namespace Go.Proofs.YtobdokabelilmaaDoor.Sc
open Go.RowKit

theorem asks_one : asksL [1] = 1 ∧ doesL [1] = 0 := ⟨rfl, rfl⟩
theorem base_le {w : World} {base R : Nat} {ks : List Int} (h : Wo w base R ks) : base ≤ R := by obtain ⟨_, _, _, h2, _⟩ := h; exact h2
set_option maxHeartbeats 8000000 in
set_option maxRecDepth 20000 in
theorem ct_leaf (n : Nat) (t : Tst) (vs : List Value) (F : Dom) (base R : Nat) (kl : List Int) (w : World) (h : (cTst n).rep w F t vs) (hF : FormT t) (hL : LenTs t) (_hFl : ∀ b, F b → b < base) (hz : base ≤ w.heap.size) (hw : Wo w base R kl) (hlen : kl.length + opsT t ≤ 4000000)
    (hk : t.kind < 3 ∨ 5 < t.kind) : Calls Tryd.prog 60 #[.pointer (some ⟨R, 0, none⟩), .agg vs.toArray] w (TstOut base R kl (opsT t) (leavesT t) w) := by
  have hrep := h
  obtain ⟨m, Gn, cn, Gk, ck, Gt, ct, hm, rfl, -, -, -⟩ := tst_open h
  have h1 := hF.one
  have hln := hL.one
  have ho := opsT_eq t
  have hlv := leavesT_eq t
  rw [if_neg (by omega), if_neg (by omega)] at ho
  have ht0 : t.tests.length = 0 := by unfold Form1 at h1; omega
  rw [if_pos ht0] at hlv
  rw [ho] at hlen
  rw [ho, hlv]
  have HO : Hid (∀ w', Below w.heap.size w w' → ∃ vt, (tstC t (.slice Gn t.names.length cn) (.slice Gk t.keys.length ck) (.slice Gt t.tests.length ct))[7]? = some vt ∧ Calls Tryd.prog 79 #[.agg (tstC t (.slice Gn t.names.length cn) (.slice Gk t.keys.length ck) (.slice Gt t.tests.length ct)).toArray] w' (OwnPost t.kind t.mat t.part t.limit t.over vt w')) :=
    fun w' hb => own_any n t _ F w' ((cTst n).stable hrep (Same.of_below hb) hb.size) ⟨hln.2.2.1, hln.2.2.2.1⟩
  obtain ⟨k, mt, p, ns, ks, o, lm, ts⟩ := t
  simp only [tstC] at *
  have HOW : Hid (∀ w', Below w.heap.size w w' → Calls Tryd.prog 79 #[.agg #[.int .i64 k, .int .i64 mt, .int .i64 p, .slice Gn ns.length cn, .slice Gk ks.length ck, .bool o, .int .i64 lm, .slice Gt ts.length ct]] w' (OwnPost k mt p lm o (.slice Gt ts.length ct) w')) := fun w' hb => by
    obtain ⟨vt, h7, hc⟩ := HO.out w' hb
    obtain rfl : Value.slice Gt ts.length ct = vt := Option.some.inj h7
    exact hc
  have hM0 := mt_start (vs := [.int .i64 k, .int .i64 mt, .int .i64 p, .slice Gn ns.length cn, .slice Gk ks.length ck, .bool o, .int .i64 lm, .slice Gt ts.length ct]) 26 hz hw
  have HM0 := Lib.hid hM0.1
  have HB0 := Lib.hid (ba (Below.refl w.heap.size w) (.cells #[.int .i64 k, .int .i64 mt, .int .i64 p, .slice Gn ns.length cn, .slice Gk ks.length ck, .bool o, .int .i64 lm, .slice Gt ts.length ct] 26))
  have q3 : (k == 3) = false := beq_eq_false_iff_ne.2 (by omega)
  have q4 : (k == 4) = false := beq_eq_false_iff_ne.2 (by omega)
  have q5 : (k == 5) = false := beq_eq_false_iff_ne.2 (by omega)
  have HLEN := Lib.hid hlen
  clear h hrep hF hL h1 hln ho hlv ht0 hM0 HO hz hw hlen hm hk
  go_enter Tryd.func60, Tryd.ntmps60
  go_wp2_with fail
  refine (HOW.out _ HB0.out).mono ?_
  rintro e w2 ⟨G1, n1, c1, G2, n2, c2, rfl, hb2⟩
  have HM2 := Lib.hid (HM0.out.down hb2)
  clear hb2
  go_wp2_with fail
  refine (put_ask base R kl k mt p lm o G1 G2 Gt n1 c1 n2 c2 ts.length ct w2 HM2.out.z HM2.out.wo (by have := HLEN.out; omega)).mono ?_
  rintro e w3 ⟨rfl, hw3, hs3⟩
  have HW3 := Lib.hid hw3; have HS3 := Lib.hid (HM2.out.st.trans hs3)
  clear hw3 hs3
  go_wp2_with fail
  go_returns
  exact ⟨rfl, ⟨[1], HW3.out, rfl, rfl, rfl⟩, HS3.out⟩
set_option maxHeartbeats 8000000 in
set_option maxRecDepth 20000 in
theorem ct_not (n : Nat) (IH : CtT n) (t : Tst) (vs : List Value) (F : Dom) (base R : Nat) (kl : List Int) (w : World) (h : (cTst (n + 1)).rep w F t vs) (hF : FormT t) (hL : LenTs t) (hFl : ∀ b, F b → b < base) (hz : base ≤ w.heap.size) (hw : Wo w base R kl) (hlen : kl.length + opsT t ≤ 4000000)
    (hk : t.kind = 3) : Calls Tryd.prog 60 #[.pointer (some ⟨R, 0, none⟩), .agg vs.toArray] w (TstOut base R kl (opsT t) (leavesT t) w) := by
  obtain ⟨m, Gn, cn, Gk, ck, Gt, ct, hm, rfl, -, -, hT⟩ := tst_open h
  obtain rfl : n = m := by omega
  have h1 := hF.one
  have hFa := hF.all
  have hsub := hL.sub
  have ho := opsT_eq t
  have hlv := leavesT_eq t
  rw [if_pos hk] at ho
  have ht1 : t.tests.length = 1 := by unfold Form1 at h1; omega
  rw [if_neg (by omega)] at hlv
  obtain ⟨k, mt, p, ns, ks, o, lm, ts⟩ := t
  simp only [tstC] at *
  obtain ⟨s, rfl⟩ := List.length_eq_one_iff.1 ht1
  obtain rfl : k = 3 := hk
  have hos : opsTs [s] = opsT s := by rw [opsTs, opsTs]; omega
  have hls : leavesTs [s] = leavesT s := by rw [leavesTs, leavesTs]; omega
  rw [hos] at ho
  rw [hls] at hlv
  rw [ho] at hlen
  rw [ho, hlv]
  obtain ⟨g, off, Ga, ca, Gb, cb, Gc, cc, rfl, hrep, e0, e1, e2, e3, e4, e5, e6, e7⟩ := tst_get hT (Same.refl _ _) (Nat.le_refl _) 0 (by simp)
  simp only [List.getElem_cons_zero, Nat.zero_mul, Nat.add_zero] at hrep e0 e1 e2 e3 e4 e5 e6 e7
  have hq : ([s] : List Tst).length = 1 := rfl
  rw [hq] at *
  have hM0 := mt_start (vs := [.int .i64 3, .int .i64 mt, .int .i64 p, .slice Gn ns.length cn, .slice Gk ks.length ck, .bool o, .int .i64 lm, .slice (some ⟨g, off, none⟩) 1 ct]) 26 hz hw
  have hB0 := ba (Below.refl w.heap.size w) (.cells #[.int .i64 3, .int .i64 mt, .int .i64 p, .slice Gn ns.length cn, .slice Gk ks.length ck, .bool o, .int .i64 lm, .slice (some ⟨g, off, none⟩) 1 ct] 26)
  have HM0 := Lib.hid hM0.1
  have hcall := IH s _ F base R kl _ ((cTst n).stable hrep (Same.of_below hB0) hB0.size) (hFa s (List.mem_singleton_self _)) (hsub s (List.mem_singleton_self _)) hFl hM0.1.z hM0.1.wo (by omega)
  unfold tstC at hcall
  have HC := Lib.hid hcall
  have g0 := moved e0 hB0 (Nat.le_refl _); have g1 := moved e1 hB0 (Nat.le_refl _); have g2 := moved e2 hB0 (Nat.le_refl _); have g3 := moved e3 hB0 (Nat.le_refl _)
  have g4 := moved e4 hB0 (Nat.le_refl _); have g5 := moved e5 hB0 (Nat.le_refl _); have g6 := moved e6 hB0 (Nat.le_refl _); have g7 := moved e7 hB0 (Nat.le_refl _)
  have HLEN := Lib.hid hlen
  obtain ⟨q1, hq1⟩ : ∃ q1, q1 = opsT s := ⟨_, rfl⟩
  obtain ⟨q2, hq2⟩ : ∃ q2, q2 = leavesT s := ⟨_, rfl⟩
  rw [← hq1, ← hq2] at HC
  rw [← hq1] at HLEN
  rw [← hq1, ← hq2]
  clear h hrep hF hL h1 hFa hsub ho hlv ht1 hM0 hz hw hlen hm hT hos hls hq hcall hB0 e0 e1 e2 e3 e4 e5 e6 e7 hq1 hq2
  go_enter Tryd.func60, Tryd.ntmps60
  go_wp2_with fail
  refine HC.out.mono ?_
  intro e w2 hp
  obtain ⟨rfl, ⟨new, hw2, ha, hd, hn⟩, hs2⟩ := hp
  have HW2 := Lib.hid hw2; have HS2 := Lib.hid (HM0.out.st.trans hs2); have HZ2 := Lib.hid (Nat.le_trans HM0.out.z hs2.size)
  have HA := Lib.hid ha; have HD := Lib.hid hd; have HN := Lib.hid hn
  clear hw2 hs2 ha hd hn HC g0 g1 g2 g3 g4 g5 g6 g7
  go_wp2_with fail
  refine (put_kind base R (kl ++ new) 2 w2 HZ2.out HW2.out (by rw [List.length_append, HN.out]; have := HLEN.out; omega)).mono ?_
  intro e w3 hp
  obtain ⟨rfl, hw3, hs3⟩ := hp
  have HW3 := Lib.hid hw3; have HS3 := Lib.hid (HS2.out.trans hs3)
  clear hw3 hs3
  go_wp2_with fail
  go_returns
  refine ⟨rfl, ⟨new ++ [2], ?_, ?_, ?_, ?_⟩, HS3.out⟩
  · rw [← List.append_assoc]; exact HW3.out
  · rw [asksL_append, HA.out]; rfl
  · rw [doesL_append, HD.out]; rfl
  · rw [List.length_append, HN.out]; rfl
end Go.Proofs.YtobdokabelilmaaDoor.Sc
namespace Go.Proofs.YtobdokabelilmaaDoor.Sc
open Go.RowKit

theorem has_same {w w' : World} {b : Nat} {vs : List Value} (h : Has w b vs) (hk : w'.heap[b]? = w.heap[b]?) (hz : b < w'.heap.size) : Has w' b vs :=
  ⟨fun i v hv => (World.cell?_of_block (w := w) (a := ⟨b, i, none⟩) hk).trans (h.1 i v hv), fun i hi => (World.frozen?_of_block (w := w) (a := ⟨b, i, none⟩) hk).trans (h.2.1 i hi), hz⟩
/-- how far the round is: ops so far -/
def Sofar (ts : List Tst) (j : Nat) (new : List Int) : Prop := asksL new = leavesTs (ts.take j) ∧ doesL new = 0 ∧ new.length = opsTs (ts.take j) + (j - 1)
set_option maxHeartbeats 8000000 in
set_option maxRecDepth 20000 in
theorem ct_all (n : Nat) (IH : CtT n) (t : Tst) (vs : List Value) (F : Dom) (base R : Nat) (kl : List Int) (w : World) (h : (cTst (n + 1)).rep w F t vs) (hF : FormT t) (hL : LenTs t) (hFl : ∀ b, F b → b < base) (hz : base ≤ w.heap.size) (hw : Wo w base R kl) (hlen : kl.length + opsT t ≤ 4000000)
    (hk : t.kind = 4 ∨ t.kind = 5) : Calls Tryd.prog 60 #[.pointer (some ⟨R, 0, none⟩), .agg vs.toArray] w (TstOut base R kl (opsT t) (leavesT t) w) := by
  obtain ⟨m, Gn, cn, Gk, ck, Gt, ct, hm, rfl, -, -, hT⟩ := tst_open h
  obtain rfl : n = m := by omega
  have h1 := hF.one
  have hFa := hF.all
  have hsub := hL.sub
  have hln := hL.one
  have ho := opsT_eq t
  have hlv := leavesT_eq t
  rw [if_neg (by omega), if_pos hk] at ho
  have ht1 : 0 < t.tests.length := by unfold Form1 at h1; omega
  rw [if_neg (by omega)] at hlv
  rw [ho] at hlen
  rw [ho, hlv]
  obtain ⟨k, mt, p, ns, ks, o, lm, ts⟩ := t
  simp only [tstC] at *
  have hM0 := mt_start (vs := [.int .i64 k, .int .i64 mt, .int .i64 p, .slice Gn ns.length cn, .slice Gk ks.length ck, .bool o, .int .i64 lm, .slice Gt ts.length ct]) 26 hz hw
  have H0 : Hid (Mt w (w.alloc (.cells #[.int .i64 k, .int .i64 mt, .int .i64 p, .slice Gn ns.length cn, .slice Gk ks.length ck, .bool o, .int .i64 lm, .slice Gt ts.length ct] 26)) base R w.heap.size [.int .i64 k, .int .i64 mt, .int .i64 p, .slice Gn ns.length cn, .slice Gk ks.length ck, .bool o, .int .i64 lm, .slice Gt ts.length ct] kl ∧ w.heap.size ≠ R) := hM0
  have hRl := hw.new.1
  have hbR := base_le hw
  have HW := Lib.hid hw; have HZ := Lib.hid hz; have HT := Lib.hid hT; have HFA := Lib.hid hFa; have HSUB := Lib.hid hsub; have HFL := Lib.hid hFl; have HIH := Lib.hid IH
  have hnn : ts.length ≤ 1000000 := hln.2.2.2.2
  have hot : ∀ j, opsTs (ts.take j) ≤ opsTs ts := fun j => opsTs_take ts j
  have HOT := Lib.hid hot
  clear hot
  have HLEN := Lib.hid hlen
  clear h hF hL h1 hFa hsub ho hlv hM0 hz hw hm hT IH hFl hln
  go_enter Tryd.func60, Tryd.ntmps60
  go_upto_region 1 with fail
  refine wp_at (R := fun W => Mt w W base R w.heap.size [.int .i64 k, .int .i64 mt, .int .i64 p, .slice Gn ns.length cn, .slice Gk ks.length ck, .bool o, .int .i64 lm, .slice Gt ts.length ct] kl ∧ w.heap.size ≠ R) H0.out (fun W0 hM => ?_)
  clear H0
  generalize hHH : w.heap.size = H at hM hRl ⊢
  have HHH := Lib.hid hHH
  clear hHH
  obtain ⟨hM, hne⟩ := hM
  have HM := Lib.hid hM
  obtain ⟨t0, t1, t2, t3, t4, t5, t6, t7⟩ := has_oct' hM.has
  have hHl := hM.has.2.2
  clear hM
  rcases hk with hk | hk
  all_goals
    subst hk
    go_wp2_with fail
    go_loopw [5, 35] (fun vo v wr => ∃ (j : Nat) (l : List Nat) (new : List Int), v = .int .i64 j ∧ j ≤ ts.length ∧ l.length ≤ j ∧ Mt w wr base R H [.int .i64 _, .int .i64 mt, .int .i64 p, .slice Gn ns.length cn, .slice Gk ks.length ck, .bool o, .int .i64 lm, .slice Gt ts.length ct] (kl ++ new) ∧ ORw wr (H + 1) R vo l ∧ (∀ i ∈ l, i < kl.length + new.length) ∧ Sofar ts j new) (fun _ v _ => ts.length - (intOf v).toNat)
    case atStart => exact ⟨0, [], [], rfl, Nat.zero_le _, Nat.zero_le _, by rw [List.append_nil]; exact HM.out, ⟨World.ownsRow_nil _ _ _ _, fun b hb => by cases hb⟩, (fun i hi => by cases hi), rfl, rfl, rfl⟩
    case round =>
      obtain ⟨j, l, new, rfl, hj, hll, hM, hO, hli, hS⟩ := hrel
      obtain ⟨Gv, cv, rfl⟩ := row_slice hO.1
      have HMJ := Lib.hid hM; have HOJ := Lib.hid hO; have HLI := Lib.hid hli
      obtain ⟨hS1, hS2, hS3⟩ := hS
      have hbel := HW.out.below HZ.out hM.st
      have hlen0 := HLEN.out
      obtain ⟨t0, t1, t2, t3, t4, t5, t6, t7⟩ := has_oct' hM.has
      have hHr := hM.has.2.2
      by_cases hlt : j < ts.length
      · obtain ⟨g, off, Ga, ca, Gb, cb, Gc, cc, rfl, hrep, e0, e1, e2, e3, e4, e5, e6, e7⟩ := tst_get HT.out (fun b hb _ => hbel.block b (HFL.out b hb)) hbel.size j hlt
        have hFx := HFA.out _ (List.getElem_mem hlt)
        have hLx := HSUB.out _ (List.getElem_mem hlt)
        have hst := opsTs_step ts j hlt
        have hsl := leavesTs_step ts j hlt
        have ho1 := HOT.out (j + 1)
        obtain ⟨x, hx⟩ : ∃ x, x = ts[j] := ⟨_, rfl⟩
        rw [← hx] at hrep e0 e1 e2 e3 e4 e5 e6 e7 hFx hLx hst hsl
        have hmx := mt_start (vs := tstC x (.slice Ga x.names.length ca) (.slice Gb x.keys.length cb) (.slice Gc x.tests.length cc)) 26 hM.z hM.wo
        have hal := ba (Below.refl wr.heap.size wr) (.cells #[.int .i64 x.kind, .int .i64 x.mat, .int .i64 x.part, .slice Ga x.names.length ca, .slice Gb x.keys.length cb, .bool x.over, .int .i64 x.limit, .slice Gc x.tests.length cc] 26)
        have HMX : Hid (Mt wr (wr.alloc (.cells #[.int .i64 x.kind, .int .i64 x.mat, .int .i64 x.part, .slice Ga x.names.length ca, .slice Gb x.keys.length cb, .bool x.over, .int .i64 x.limit, .slice Gc x.tests.length cc] 26)) base R wr.heap.size [.int .i64 x.kind, .int .i64 x.mat, .int .i64 x.part, .slice Ga x.names.length ca, .slice Gb x.keys.length cb, .bool x.over, .int .i64 x.limit, .slice Gc x.tests.length cc] (kl ++ new)) := hmx.1
        have HXR := Lib.hid hmx.2
        have HM1 := Lib.hid (hM.down hal)
        have HO1 := Lib.hid (hO.step ((WStep.refl R wr).down hM.wo.new.1 hal))
        have HIHX : Hid (∀ (w' : World) (kq : List Int), Below base w w' → wr.heap.size ≤ w'.heap.size → base ≤ w'.heap.size → Wo w' base R kq → kq.length + opsT x ≤ 4000000 → Calls Tryd.prog 60 #[.pointer (some ⟨R, 0, none⟩), .agg #[.int .i64 x.kind, .int .i64 x.mat, .int .i64 x.part, .slice Ga x.names.length ca, .slice Gb x.keys.length cb, .bool x.over, .int .i64 x.limit, .slice Gc x.tests.length cc]] w' (TstOut base R kq (opsT x) (leavesT x) w')) := fun w' kq hb' hs' hz' hw' hl' =>
          HIH.out x _ F base R kq w' ((cTst n).stable hrep (fun b hb _ => (hb'.block b (HFL.out b hb)).trans (hbel.block b (HFL.out b hb)).symm) hs') hFx hLx HFL.out hz' hw' hl'
        obtain ⟨q1, hq1⟩ : ∃ q1, q1 = opsT x := ⟨_, rfl⟩
        obtain ⟨q2, hq2⟩ : ∃ q2, q2 = leavesT x := ⟨_, rfl⟩
        rw [← hq1] at HIHX hst
        rw [← hq2] at HIHX hsl
        have hjn : (j : Int) < ts.length := by omega
        have HS1 := Lib.hid hS1; have HS2 := Lib.hid hS2; have HS3 := Lib.hid hS3; have HST := Lib.hid hst; have HSL := Lib.hid hsl; have HLT := Lib.hid hlt
        have hb1 : kl.length + new.length + q1 ≤ 4000000 := by omega
        have hb2 : 0 < j → kl.length + new.length + 1 + q1 ≤ 4000000 := by intro _; omega
        have HB1 := Lib.hid hb1; have HB2 := Lib.hid hb2
        have hnl : new.length ≤ 4000000 := by omega
        have hkl : kl.length ≤ 4000000 := by omega
        have hl9 : l.length ≤ 1000000 := by omega
        clear hrep hFx hLx hst hsl hx hmx hal hM hO hli hbel hS1 hS2 hS3 hlt hq1 hq2 hb1 hb2 ho1 hlen0
        rcases Nat.eq_zero_or_pos j with hj0 | hj0
        · have hgt : decide (0 < j) = false := decide_eq_false (by omega)
          have HJ0 := Lib.hid hj0
          clear hj0
          go_wp2_with fail
          refine (HIHX.out _ _ (HW.out.below HZ.out HM1.out.st) (by simp) HM1.out.z HM1.out.wo (by rw [List.length_append]; exact HB1.out)).mono ?_
          intro e w5 hp
          obtain ⟨rfl, ⟨nw, hw5, ha5, hd5, hn5⟩, hs5⟩ := hp
          have HM5 := Lib.hid (HM1.out.next hne hw5 hs5)
          have HO5 := Lib.hid (HO1.out.step hs5)
          have HS5 : Hid (Sofar ts (j + 1) (new ++ nw)) := by
            have := HJ0.out; have h1 := HS1.out; have h2 := HS2.out; have h3 := HS3.out; have h4 := HST.out; have h5 := HSL.out
            refine ⟨by rw [asksL_append]; omega, by rw [doesL_append]; omega, by rw [List.length_append]; omega⟩
          have HLI5 : Hid (∀ i ∈ l, i < kl.length + (new ++ nw).length) := fun i hi => by have := HLI.out i hi; rw [List.length_append]; omega
          clear hw5 hs5 ha5 hd5 hn5
          go_wp2_with fail
          go_roundw
          case rel => exact ⟨j + 1, l, new ++ nw, by go_num, HLT.out, by omega, by rw [← List.append_assoc]; exact HM5.out, HO5.out, HLI5.out, HS5.out⟩
          case measure => have := HLT.out; simp [intOf]; omega
        · have hgt : decide (0 < j) = true := decide_eq_true (by omega)
          have HJ0 := Lib.hid hj0
          obtain ⟨N, hN⟩ : ∃ N, N = (kl ++ new).length := ⟨_, rfl⟩
          have hNl : N ≤ 8000000 := by rw [hN, List.length_append]; omega
          have HNN := Lib.hid hN
          have HMN := Lib.hid HMJ.out.wo.new.1
          clear hj0 hN
          go_wp2_with fail
          refine (put_kind base R (kl ++ new) _ _ HM1.out.z HM1.out.wo (by rw [List.length_append]; omega)).mono ?_
          intro e w2 hp
          obtain ⟨kd, hkd, hp⟩ : ∃ kd : Int, (kd = 3 ∨ kd = 4) ∧ PutPost base R (kl ++ new) kd _ e w2 := ⟨_, by decide, hp⟩
          have hka : asksL [kd] = 0 := by rcases hkd with rfl | rfl <;> rfl
          have hkb : doesL [kd] = 0 := by rcases hkd with rfl | rfl <;> rfl
          have HKA := Lib.hid hka; have HKB := Lib.hid hkb
          obtain ⟨rfl, hw2, hs2⟩ := hp
          clear hkd hka hkb
          rw [← HNN.out]
          have HM2 := Lib.hid (HM1.out.next hne hw2 hs2)
          have HMX2 := Lib.hid (HMX.out.next HXR.out hw2 hs2)
          have ho2 := HO1.out.step hs2
          have hal2 := ba (Below.refl w2.heap.size w2) (.cells #[.int .i64 (N : Nat)] 3)
          have hrow := (row_down ho2.1 hal2)
          have HO2 := Lib.hid ho2; have HROW := Lib.hid hrow; have HAL2 := Lib.hid hal2
          obtain ⟨i0, hi, hz0, hz1, hz2⟩ := info_three info_int
          have HI0 := Lib.hid hi; have HZ0 := Lib.hid hz0; have HZ1 := Lib.hid hz1; have HZ2 := Lib.hid hz2
          have hHw2 : H < w2.heap.size := HM2.out.has.2.2
          clear hw2 hs2 ho2 hal2 hrow hi hz0 hz1 hz2
          go_wp2_with (at_builtin; refine wpList_append_lies _ (by rfl) _ _ _ (by rfl) (H + 1) 3 i0 _ 1 8 Tryd.underlying118 HI0.out HZ0.out HZ1.out HZ2.out rfl (by omega) (.slice Gv l.length cv) l.length (l.map fun i : Nat => Value.int .i64 i) (by rfl) HROW.out ⟨w2.heap.size, 0, none⟩ 1 1 [.int .i64 (N : Nat)] (by rfl) (by rfl) (news_of w2 _ _) (by simp [Value.oneCell']) (by omega) (by unfold maxLen; omega) (by omega) (by simp; omega) (w2.heap.size + 1) (by simp) ?_)
          intro g6 cap6 w6 hown6 hgrow6 hat6 hlt6
          obtain ⟨hm6, ho6, hk6⟩ := out_more HM2.out HAL2.out HO2.out (by rw [HHH.out]; exact Nat.le_succ _) (Nat.lt_succ_self _) (by omega) hown6 hgrow6 (by rcases hat6 with h | h; exact .inl h; exact .inr (by omega))
          have HM6 := Lib.hid hm6; have HO6 := Lib.hid ho6
          have hx6 := has_same HMX2.out.has (hk6 _ HMX2.out.has.2.2 (fun e => by have := (HOJ.out.1.lt _ e).2; omega)) (Nat.lt_of_lt_of_le HMX2.out.has.2.2 (Nat.le_trans HAL2.out.size hgrow6.size))
          obtain ⟨x0, x1, x2, x3, x4, x5, x6, x7⟩ := has_oct' hx6
          have hz26 : wr.heap.size ≤ w6.heap.size := Nat.le_of_lt hx6.2.2
          have HLI6 : Hid (∀ i ∈ l ++ [N], i < kl.length + new.length + 1) := fun i hi => by
            rcases List.mem_append.1 hi with hi | hi
            · have := HLI.out i hi; omega
            · obtain rfl := List.mem_singleton.1 hi; have := HNN.out; rw [List.length_append] at this; omega
          clear hown6 hgrow6 hat6 hlt6 hm6 ho6 hk6 hx6 HROW HAL2 HO2 HMX2 HM2 e0 e1 e2 e3 e4 e5 e6 e7
          go_wp2_with fail
          refine (HIHX.out _ _ (HW.out.below HZ.out HM6.out.st) hz26 HM6.out.z HM6.out.wo (by rw [List.length_append, List.length_append]; have := HB2.out HJ0.out; simp; omega)).mono ?_
          intro e w5 hp
          obtain ⟨rfl, ⟨nw, hw5, ha5, hd5, hn5⟩, hs5⟩ := hp
          have HM5 := Lib.hid (HM6.out.next hne hw5 hs5)
          have HO5 := Lib.hid (HO6.out.step hs5)
          have HS5 : Hid (Sofar ts (j + 1) (new ++ ([kd] ++ nw))) := by
            have := HJ0.out; have h1 := HS1.out; have h2 := HS2.out; have h3 := HS3.out; have h4 := HST.out; have h5 := HSL.out
            refine ⟨?_, ?_, ?_⟩
            · rw [asksL_append, asksL_append, h1, h5, ha5, HKA.out]; omega
            · rw [doesL_append, doesL_append, h2, hd5, HKB.out]
            · rw [List.length_append, List.length_append, h3, h4, hn5, List.length_singleton]; omega
          have HLI5 : Hid (∀ i ∈ l ++ [N], i < kl.length + (new ++ ([kd] ++ nw)).length) := fun i hi => by have := HLI6.out i hi; rw [List.length_append, List.length_append, List.length_singleton]; omega
          clear hw5 hs5 ha5 hd5 hn5 x0 x1 x2 x3 x4 x5 x6 x7
          go_wp2_with fail
          go_roundw
          case rel => exact ⟨j + 1, l ++ [N], new ++ ([kd] ++ nw), by go_num, HLT.out, by rw [List.length_append, List.length_singleton]; omega, by rw [← List.append_assoc, ← List.append_assoc]; exact HM5.out, HO5.out, HLI5.out, HS5.out⟩
          case measure => have := HLT.out; simp [intOf]; omega
      · have hjl : j = ts.length := by omega
        have hint := hO.ints
        have HEND : Hid (asksL new = leavesTs ts ∧ doesL new = 0 ∧ new.length = opsTs ts + (ts.length - 1)) := by
          rw [hjl, List.take_length] at hS1 hS3
          exact ⟨hS1, hS2, hS3⟩
        have hnl : new.length ≤ 4000000 := by have := HEND.out; omega
        have hl9 : l.length ≤ 1000000 := by omega
        have hnj : ¬ j < ts.length := hlt
        have HINT := Lib.hid hint
        clear hM hO hli hbel hS1 hS2 hS3 hint hlt hjl
        go_wp2_with fail
        refine (here_any base R (kl ++ new) l _ _ HMJ.out.wo HINT.out (fun i hi => by rw [List.length_append]; exact HLI.out i hi) (by rw [List.length_append]; omega) (by omega)).mono ?_
        rintro e w3 ⟨rfl, hw3, hs3⟩
        have HW3 := Lib.hid hw3; have HS3 := Lib.hid (HMJ.out.st.trans hs3)
        clear hw3 hs3
        go_wp2_with fail
        go_returns
        exact ⟨rfl, ⟨new, HW3.out, HEND.out⟩, HS3.out⟩
theorem ct_every : ∀ n, CtT n
  | 0 => fun _ _ _ _ _ _ _ h _ _ _ _ _ _ => h.elim
  | n + 1 => fun t vs F base R kl w h hF hL hFl hz hw hlen => by
    have hk := hF.one.kind
    by_cases h3 : t.kind = 3
    · exact ct_not n (ct_every n) t vs F base R kl w h hF hL hFl hz hw hlen h3
    · by_cases h4 : t.kind = 4 ∨ t.kind = 5
      · exact ct_all n (ct_every n) t vs F base R kl w h hF hL hFl hz hw hlen h4
      · exact ct_leaf (n + 1) t vs F base R kl w h hF hL hFl hz hw hlen (by omega)
end Go.Proofs.YtobdokabelilmaaDoor.Sc
namespace Go.Proofs.YtobdokabelilmaaDoor.Sc
open Go.RowKit

def AllOut (base R : Nat) (ks : List Int) (n a d : Nat) (w : World) (e : Ending) (w' : World) : Prop := e = .returned (.tuple #[]) ∧ (∃ new, Wo w' base R (ks ++ new) ∧ asksL new = a ∧ doesL new = d ∧ new.length = n) ∧ WStep R w w'
def CtC (n : Nat) : Prop := ∀ (l : List Cmd) (v : Value) (F : Dom) (base R : Nat) (ks : List Int) (w : World), SAt (cCmd n) w F v l → (∀ c ∈ l, FormC c) → (∀ c ∈ l, GoodC c) → (∀ b, F b → b < base) → base ≤ w.heap.size → Wo w base R ks → ks.length + opsCs l ≤ 3000000 → (l.flatMap wC).length ≤ 1000000 →
    Calls Tryd.prog 39 #[.pointer (some ⟨R, 0, none⟩), v] w (AllOut base R ks (opsCs l) (asksCs l) (doesCs l) w)
/-- an op that does a command -/
theorem put_do (base R : Nat) (ks : List Int) (d : Int) (G : Option Addr) (n c : Nat) (w : World) (hz : base ≤ w.heap.size) (h : Wo w base R ks) (hl : ks.length ≤ 10000000) :
    Calls Tryd.prog 58 #[.pointer (some ⟨R, 0, none⟩), .agg #[.int .i64 6, .int .i64 0, .int .i64 0, .int .i64 0, .int .i64 0, .slice none 0 0, .slice none 0 0, .bool false, .int .i64 0, .slice none 0 0, .int .i64 d, .slice G n c, .int .i64 0, .int .i64 0, .int .i64 0, .slice none 0 0, .slice none 0 0, .bool false, .int .i64 0, .slice none 0 0, .slice none 0 0, .slice none 0 0]] w (PutPost base R ks 6 w) :=
  put_op base R ks 6 0 0 0 0 d false (.slice none 0 0) (.slice none 0 0) (.slice none 0 0) (.slice G n c) rfl rfl rfl rfl w hz h hl
theorem ints_new {w : World} {base R N : Nat} {ks : List Int} (h : Wo w base R ks) (ty : TypeId) : IntsAt (w.alloc (.cells #[.int .i64 (N : Nat)] ty)) (.slice (some ⟨w.heap.size, 0, none⟩) 1 1) [N] R := by
  refine ⟨_, 1, rfl, fun j x hj => ⟨w.heap.size, rfl, ?_, h.new.2.1, ?_⟩⟩
  · have h0 : j = 0 := by have := (List.getElem?_eq_some_iff.1 hj).1; simp at this; omega
    subst h0
    obtain rfl : N = x := Option.some.inj hj
    exact (Has.alloc w [.int .i64 (N : Nat)] ty).1 0 _ rfl
  · rw [rowB_of ((ba (Below.refl w.heap.size w) _).block R h.new.1)]; exact h.new.2.2
theorem texts_wC (c : Cmd) (h : FormC c) : c.texts.length ≤ (wC c).length := by
  by_cases h2 : c.kind = 2
  · have h1 := ((FormC.iff c).1 h).1
    have : c.texts.length = 0 := by unfold Form2 at h1; omega
    omega
  · rw [wC_else h2, List.length_cons, List.length_append]
    have := listT_len c.texts
    split
    · rename_i e; rw [e]; exact Nat.zero_le _
    · omega
theorem subs_wC (c : Cmd) (h2 : c.kind = 2) : (c.thn.flatMap wC).length ≤ (wC c).length ∧ (c.els.flatMap wC).length ≤ (wC c).length := by
  obtain ⟨k, tx, t, th, el⟩ := c
  obtain rfl : k = 2 := h2
  have h3 := elseT_len el
  have key : (wC ⟨2, tx, t, th, el⟩).length = (wT t).length + ((th.flatMap wC).length + 2 + (elseT el (el.flatMap wC) (el.map wBr)).length) + 1 := by
    rw [wC_if rfl, wBr_eq, List.length_cons, List.length_append, List.length_append]
    have hb : (blkT (th.flatMap wC)).length = (th.flatMap wC).length + 2 := by unfold blkT; rw [List.length_cons, List.length_append]; rfl
    show (wT t).length + ((blkT (th.flatMap wC)).length + (elseT el (el.flatMap wC) (el.map wBr)).length) + 1 = _
    rw [hb]
  rw [key]
  exact ⟨by show (th.flatMap wC).length ≤ _; omega, by show (el.flatMap wC).length ≤ _; omega⟩
/-- how far the round is -/
def SofarC (l : List Cmd) (j : Nat) (new : List Int) : Prop := asksL new = asksCs (l.take j) ∧ doesL new = doesCs (l.take j) ∧ new.length = opsCs (l.take j)
theorem sofar_more {l : List Cmd} {j : Nat} {new nw : List Int} (h : SofarC l j new) (hj : j < l.length) (h1 : asksL nw = asksC l[j]) (h2 : doesL nw = doesC l[j]) (h3 : nw.length = opsC l[j]) : SofarC l (j + 1) (new ++ nw) :=
  ⟨by rw [asksL_append, h.1, h1, asksCs_step l j hj], by rw [doesL_append, h.2.1, h2, doesCs_step l j hj], by rw [List.length_append, h.2.2, h3, opsCs_step l j hj]⟩
set_option maxHeartbeats 8000000 in
set_option maxRecDepth 20000 in
theorem all_one (n : Nat) (hIH : ∀ k, n = k + 1 → CtC k) : CtC n := by
  intro l v F base R kl w hv hF hG hFl hz hw hlen hwc
  obtain ⟨G, cap, rfl, -⟩ := hv.form
  have hll : l.length ≤ 1000000 := Nat.le_trans (flatC_len l).1 hwc
  have hot : ∀ j, opsCs (l.take j) ≤ opsCs l := fun j => opsCs_take l j
  have HOT := Lib.hid hot
  have hwl := (flatC_len l).2
  have HWL := Lib.hid hwl
  obtain ⟨A, hA⟩ : ∃ A, A = asksCs l := ⟨_, rfl⟩
  obtain ⟨D, hD⟩ : ∃ D, D = doesCs l := ⟨_, rfl⟩
  obtain ⟨O, hO⟩ : ∃ O, O = opsCs l := ⟨_, rfl⟩
  have HA := Lib.hid hA; have HD := Lib.hid hD; have HO := Lib.hid hO
  rw [← hA, ← hD, ← hO]
  rw [← hO] at hlen
  have HV := Lib.hid hv; have HF := Lib.hid hF; have HG := Lib.hid hG; have HFL := Lib.hid hFl; have HZ := Lib.hid hz; have HW := Lib.hid hw; have HWC := Lib.hid hwc; have HIH := Lib.hid hIH; have HLEN := Lib.hid hlen
  clear hv hF hG hFl hz hw hwc hIH hot hwl hA hD hO hlen
  go_enter Tryd.func39, Tryd.ntmps39
  go_wp2_with fail
  go_loopw [10] (fun v wr => ∃ (j : Nat) (new : List Int), v = .int .i64 j ∧ j ≤ l.length ∧ Wo wr base R (kl ++ new) ∧ WStep R w wr ∧ SofarC l j new) (fun v _ => l.length - (intOf v).toNat)
  case atStart => exact ⟨0, [], rfl, Nat.zero_le _, by rw [List.append_nil]; exact HW.out, WStep.refl _ _, rfl, rfl, rfl⟩
  case round =>
    obtain ⟨j, new, rfl, hj, hwr, hst, hso⟩ := hrel
    have HWR := Lib.hid hwr; have HST := Lib.hid hst; have HSO := Lib.hid hso
    by_cases hlt : j < l.length
    · have hbel := HW.out.below HZ.out hst
      obtain ⟨g, off, Gx, cx, Gn, cn, Gk, ck, Gt, ct, Gh, ch, Ge, ce, rfl, hr, e0, e1, ⟨e2, e3, e4, e5, e6, e7, e8, e9⟩, e10, e11⟩ := cmd_get HV.out (fun b hb _ => hbel.block b (HFL.out b hb)) hbel.size j hlt
      have hmore := fun nw h1 h2 h3 => sofar_more (nw := nw) hso hlt h1 h2 h3
      have hFx := HF.out _ (List.getElem_mem hlt)
      have hGx := HG.out _ (List.getElem_mem hlt)
      have hWx := HWL.out _ (List.getElem_mem hlt)
      have hos := opsCs_step l j hlt
      have hoj := HOT.out (j + 1)
      rw [← HO.out] at hoj
      generalize l[j] = x at hr e0 e1 e2 e3 e4 e5 e6 e7 e8 e9 e10 e11 hmore hFx hGx hWx hos
      have hlx := hso.2.2
      have hbound : kl.length + new.length + opsC x ≤ 3000000 := by have := HLEN.out; omega
      have hwx : (wC x).length ≤ 1000000 := Nat.le_trans hWx HWC.out
      obtain ⟨X, hX⟩ : ∃ X, X = wr.heap.size := ⟨_, rfl⟩
      have hms := mt_start (vs := [.int .i64 x.kind, .slice Gx x.texts.length cx, .int .i64 x.test.kind, .int .i64 x.test.mat, .int .i64 x.test.part, .slice Gn x.test.names.length cn, .slice Gk x.test.keys.length ck, .bool x.test.over, .int .i64 x.test.limit, .slice Gt x.test.tests.length ct, .slice Gh x.thn.length ch, .slice Ge x.els.length ce]) 29 (Nat.le_trans HZ.out hst.size) hwr
      have H0 : Hid (Mt wr (wr.alloc (.cells #[.int .i64 x.kind, .slice Gx x.texts.length cx, .int .i64 x.test.kind, .int .i64 x.test.mat, .int .i64 x.test.part, .slice Gn x.test.names.length cn, .slice Gk x.test.keys.length ck, .bool x.test.over, .int .i64 x.test.limit, .slice Gt x.test.tests.length ct, .slice Gh x.thn.length ch, .slice Ge x.els.length ce] 29)) base R wr.heap.size [.int .i64 x.kind, .slice Gx x.texts.length cx, .int .i64 x.test.kind, .int .i64 x.test.mat, .int .i64 x.test.part, .slice Gn x.test.names.length cn, .slice Gk x.test.keys.length ck, .bool x.test.over, .int .i64 x.test.limit, .slice Gt x.test.tests.length ct, .slice Gh x.thn.length ch, .slice Ge x.els.length ce] (kl ++ new)) := hms.1
      have hXR := hms.2
      rw [← hX] at hXR
      have HX := Lib.hid hX
      obtain ⟨q, Gx', cx', Gn', cn', Gk', ck', Gt', ct', Gh', ch', Ge', ce', hq, hve, hxr, htr, hth, hel⟩ := cmd_open hr
      have hve' := hve
      unfold cmdC tstC at hve'
      injection hve' with _ hve'
      injection hve' with i1 hve'
      injection hve' with _ hve'
      injection hve' with _ hve'
      injection hve' with _ hve'
      injection hve' with i5 hve'
      injection hve' with i6 hve'
      injection hve' with _ hve'
      injection hve' with _ hve'
      injection hve' with i9 hve'
      injection hve' with i10 hve'
      injection hve' with i11 _
      rw [← i1] at hxr
      rw [← i5, ← i6, ← i9] at htr
      rw [← i10] at hth
      rw [← i11] at hel
      have hxl := Nat.le_trans (texts_wC x hFx) hwx
      have hsm : ∀ W', Below base w W' → Same F wr W' := fun W' hb' b hb _ => (hb'.block b (HFL.out b hb)).trans (hbel.block b (HFL.out b hb)).symm
      have HSM := Lib.hid hsm
      have HXR := Lib.hid hxr; have HTR := Lib.hid htr; have HTH := Lib.hid hth; have HEL := Lib.hid hel; have HMORE := Lib.hid hmore; have HFX := Lib.hid hFx; have HGX := Lib.hid hGx; have HBD := Lib.hid hbound; have HWX := Lib.hid hwx; have HQ := Lib.hid hq; have HXL := Lib.hid hxl
      have hjn : (j : Int) < l.length := by omega
      have HLT := Lib.hid hlt
      clear hwr hst hso hbel hr hmore hFx hGx hWx hos hoj hlx hbound hwx hms hq hve hxr htr hth hel i1 i5 i6 i9 i10 i11 hxl hsm hlt hX
      by_cases h2 : x.kind = 2
      · have hk2 : (x.kind != 2) = false := by simpa using h2
        have HC1 : Hid (Calls Tryd.prog 60 #[.pointer (some ⟨R, 0, none⟩), .agg #[.int .i64 x.test.kind, .int .i64 x.test.mat, .int .i64 x.test.part, .slice Gn x.test.names.length cn, .slice Gk x.test.keys.length ck, .bool x.test.over, .int .i64 x.test.limit, .slice Gt x.test.tests.length ct]] (wr.alloc (.cells #[.int .i64 x.kind, .slice Gx x.texts.length cx, .int .i64 x.test.kind, .int .i64 x.test.mat, .int .i64 x.test.part, .slice Gn x.test.names.length cn, .slice Gk x.test.keys.length ck, .bool x.test.over, .int .i64 x.test.limit, .slice Gt x.test.tests.length ct, .slice Gh x.thn.length ch, .slice Ge x.els.length ce] 29)) (TstOut base R (kl ++ new) (opsT x.test) (leavesT x.test) (wr.alloc (.cells #[.int .i64 x.kind, .slice Gx x.texts.length cx, .int .i64 x.test.kind, .int .i64 x.test.mat, .int .i64 x.test.part, .slice Gn x.test.names.length cn, .slice Gk x.test.keys.length ck, .bool x.test.over, .int .i64 x.test.limit, .slice Gt x.test.tests.length ct, .slice Gh x.thn.length ch, .slice Ge x.els.length ce] 29)))) := by
          obtain ⟨-, hFT, hFH, hFE⟩ := (((FormC.iff x).1 HFX.out).2.resolve_right (fun h => h.1 h2))
          obtain ⟨-, hLT, -⟩ := (GoodC.iff x).1 HGX.out
          have hb := HBD.out
          rw [opsC_eq, if_pos h2] at hb
          exact ct_every (q + 1) x.test _ F base R (kl ++ new) _ ((cTst (q + 1)).stable HTR.out (Same.of_below (ba (Below.refl _ _) _)) (by simp)) hFT hLT HFL.out H0.out.z H0.out.wo (by rw [List.length_append]; omega)
        have HAL : Hid (∀ (cs : List Cmd) (vc : Value), (cs = x.thn ∧ vc = .slice Gh x.thn.length ch ∨ cs = x.els ∧ vc = .slice Ge x.els.length ce) → ∀ (W' : World) (kq : List Int), Below base w W' → wr.heap.size ≤ W'.heap.size → base ≤ W'.heap.size → Wo W' base R kq → kq.length + opsCs cs ≤ 3000000 → Calls Tryd.prog 39 #[.pointer (some ⟨R, 0, none⟩), vc] W' (AllOut base R kq (opsCs cs) (asksCs cs) (doesCs cs) W')) := by
          intro cs vc hc W' kq h1 h3 h4 h5 h6
          obtain ⟨-, hFT, hFH, hFE⟩ := (((FormC.iff x).1 HFX.out).2.resolve_right (fun h => h.1 h2))
          obtain ⟨-, -, gH, gE⟩ := (GoodC.iff x).1 HGX.out
          have hsw := subs_wC x h2
          rcases hc with ⟨rfl, rfl⟩ | ⟨rfl, rfl⟩
          · exact HIH.out q HQ.out _ _ F base R kq W' (HTH.out.stable (HSM.out W' h1) h3) hFH gH HFL.out h4 h5 h6 (by have := HWX.out; omega)
          · exact HIH.out q HQ.out _ _ F base R kq W' (HEL.out.stable (HSM.out W' h1) h3) hFE gE HFL.out h4 h5 h6 (by have := HWX.out; omega)
        have hbd := HBD.out
        rw [opsC_eq, if_pos h2] at hbd
        have hac := asksC_eq x; rw [if_pos h2] at hac
        have hdc := doesC_eq x; rw [if_pos h2] at hdc
        have hoc := opsC_eq x; rw [if_pos h2] at hoc
        have HAC := Lib.hid hac; have HDC := Lib.hid hdc; have HOC := Lib.hid hoc; have HBB := Lib.hid hbd
        obtain ⟨t1, ht1⟩ : ∃ t1, t1 = opsT x.test := ⟨_, rfl⟩
        obtain ⟨t2, ht2⟩ : ∃ t2, t2 = leavesT x.test := ⟨_, rfl⟩
        rw [← ht1] at HC1 HOC HBB
        rw [← ht2] at HC1 HAC
        rw [h2] at e0 H0 HC1
        have HH1 := Lib.hid HAL.out
        have hXR' : wr.heap.size ≠ R := by rw [← HX.out]; exact hXR
        have hR0 := HWR.out.new.1
        clear h2 hbd hac hdc hoc ht1 ht2
        go_wp2_with fail
        refine HC1.out.mono ?_
        intro e w2 hp
        obtain ⟨rfl, ⟨n1, hw2, ha2, hd2, hn2⟩, hs2⟩ := hp
        have hm2 := H0.out.next hXR' hw2 hs2
        have HM2 := Lib.hid hm2
        have HA2 := Lib.hid ha2; have HD2 := Lib.hid hd2; have HN2 := Lib.hid hn2
        obtain ⟨N1, hN1⟩ : ∃ N1, N1 = (kl ++ new ++ n1).length := ⟨_, rfl⟩
        have hN1b : N1 ≤ 3000000 := by rw [hN1, List.length_append, List.length_append, hn2]; have := HBB.out; omega
        have HN1 := Lib.hid hN1
        clear hw2 ha2 hd2 hn2 hs2 hm2 HC1 H0 hN1
        go_wp2_with fail
        refine (put_kind base R (kl ++ new ++ n1) 4 w2 HM2.out.z HM2.out.wo (by rw [← HN1.out]; omega)).mono ?_
        intro e w3 hp
        obtain ⟨rfl, hw3, hs3⟩ := hp
        rw [← HN1.out]
        have hm3 := HM2.out.next hXR' hw3 hs3
        obtain ⟨c0, c1, c2, c3, c4, c5, c6, c7, c8, c9, c10, c11⟩ := has_12 hm3.has
        have HM3 := Lib.hid hm3
        clear hw3 hs3 hm3
        go_wp2_with fail
        refine (HAL.out x.thn _ (.inl ⟨rfl, rfl⟩) w3 _ (HW.out.below HZ.out (HST.out.trans HM3.out.st)) HM3.out.st.size HM3.out.z HM3.out.wo (by rw [List.length_append, ← HN1.out, HN1.out, List.length_append, List.length_append, HN2.out, List.length_singleton]; have := HBB.out; omega)).mono ?_
        intro e w4 hp
        obtain ⟨rfl, ⟨n2, hw4, ha4, hd4, hn4⟩, hs4⟩ := hp
        have hm4 := HM3.out.next hXR' hw4 hs4
        obtain ⟨d0, d1, d2, d3, d4, d5, d6, d7, d8, d9, d10, d11⟩ := has_12 hm4.has
        have HM4 := Lib.hid hm4
        have HA4 := Lib.hid ha4; have HD4 := Lib.hid hd4; have HN4 := Lib.hid hn4
        clear hw4 ha4 hd4 hn4 hs4 hm4 c0 c1 c2 c3 c4 c5 c6 c7 c8 c9 c10 c11 HM3 HM2
        by_cases h0 : x.els.length = 0
        · have hg0 : decide (0 < x.els.length) = false := decide_eq_false (by omega)
          have H0 := Lib.hid h0
          have hB5 := ba (Below.refl w4.heap.size w4) (.cells #[.int .i64 (N1 : Nat)] 3)
          have HM5 := Lib.hid (HM4.out.down hB5)
          have HI5 := Lib.hid (ints_new (N := N1) HM4.out.wo 3)
          clear h0 hB5
          go_wp2_with fail
          refine (here_any base R _ [N1] _ _ HM5.out.wo HI5.out (fun i hi => by obtain rfl := List.mem_singleton.1 hi; have := HN1.out; rw [List.length_append, List.length_append, ← this, List.length_singleton]; omega) (by rw [List.length_append, List.length_append, ← HN1.out, HN4.out, List.length_singleton]; have := HBB.out; omega) (by simp)).mono ?_
          rintro e w6 ⟨rfl, hw6, hs6⟩
          have HM6 := Lib.hid (HM5.out.next hXR' hw6 hs6)
          have HN : Hid (SofarC l (j + 1) (new ++ (n1 ++ ([4] ++ n2)))) := HMORE.out (n1 ++ ([4] ++ n2))
            (by rw [HAC.out, asksL_append, asksL_append, HA2.out, HA4.out]
                have : x.els = [] := List.eq_nil_of_length_eq_zero H0.out
                rw [this, asksCs]; show _ + (0 + _) = _; omega)
            (by rw [HDC.out, doesL_append, doesL_append, HD2.out, HD4.out]
                have : x.els = [] := List.eq_nil_of_length_eq_zero H0.out
                rw [this, doesCs]; show 0 + (0 + _) = _; omega)
            (by rw [HOC.out, if_pos H0.out, List.length_append, List.length_append, HN2.out, HN4.out, List.length_singleton]; omega)
          clear hw6 hs6 HI5 HM5 d0 d1 d2 d3 d4 d5 d6 d7 d8 d9 d10 d11
          go_wp2_with fail
          go_roundw
          case rel => exact ⟨j + 1, new ++ (n1 ++ ([4] ++ n2)), by go_num, HLT.out, by simpa only [List.append_assoc] using HM6.out.wo, HST.out.trans HM6.out.st, HN.out⟩
          case measure => have := HLT.out; simp [intOf]; omega
        · have hg0 : decide (0 < x.els.length) = true := decide_eq_true (by omega)
          have H0 := Lib.hid h0
          have hbb := HBB.out
          rw [if_neg h0] at hbb
          obtain ⟨N2, hN2⟩ : ∃ N2, N2 = (kl ++ new ++ n1 ++ [4] ++ n2).length := ⟨_, rfl⟩
          have hN2b : N2 + 1 + opsCs x.els ≤ 3000000 := by rw [hN2, List.length_append, List.length_append, List.length_append, List.length_append, HN2.out, HN4.out, List.length_singleton]; omega
          have hN12 : N1 < N2 := by rw [HN1.out, hN2]; simp only [List.length_append, List.length_singleton]; omega
          have HN2' := Lib.hid hN2; have HN2B := Lib.hid hN2b
          clear h0 hbb hN2 hN2b
          go_wp2_with fail
          refine (put_kind base R _ 5 w4 HM4.out.z HM4.out.wo (by rw [← HN2'.out]; have := HN2B.out; omega)).mono ?_
          intro e w5 hp
          obtain ⟨rfl, hw5, hs5⟩ := hp
          rw [← HN2'.out]
          have HM5 := Lib.hid (HM4.out.next hXR' hw5 hs5)
          have hB6 := ba (Below.refl w5.heap.size w5) (.cells #[.int .i64 (N1 : Nat)] 3)
          have HM6 := Lib.hid (HM5.out.down hB6)
          have HI6 := Lib.hid (ints_new (N := N1) HM5.out.wo 3)
          clear hw5 hs5 hB6 d0 d1 d2 d3 d4 d5 d6 d7 d8 d9 d10 d11
          go_wp2_with fail
          refine (here_any base R _ [N1] _ _ HM6.out.wo HI6.out (fun i hi => by obtain rfl := List.mem_singleton.1 hi; rw [List.length_append, ← HN2'.out, List.length_singleton]; omega) (by rw [List.length_append, ← HN2'.out, List.length_singleton]; have := HN2B.out; omega) (by simp)).mono ?_
          rintro e w7 ⟨rfl, hw7, hs7⟩
          have hm7 := HM6.out.next hXR' hw7 hs7
          obtain ⟨c0, c1, c2, c3, c4, c5, c6, c7, c8, c9, c10, c11⟩ := has_12 hm7.has
          have HM7 := Lib.hid hm7
          clear hw7 hs7 hm7 HM6 HI6 HM5
          go_wp2_with fail
          refine (HAL.out x.els _ (.inr ⟨rfl, rfl⟩) w7 _ (HW.out.below HZ.out (HST.out.trans HM7.out.st)) HM7.out.st.size HM7.out.z HM7.out.wo (by rw [List.length_append, ← HN2'.out, List.length_singleton]; exact HN2B.out)).mono ?_
          intro e w8 hp
          obtain ⟨rfl, ⟨n3, hw8, ha8, hd8, hn8⟩, hs8⟩ := hp
          have HM8 := Lib.hid (HM7.out.next hXR' hw8 hs8)
          have HA8 := Lib.hid ha8; have HD8 := Lib.hid hd8; have HN8 := Lib.hid hn8
          have hB9 := ba (Below.refl w8.heap.size w8) (.cells #[.int .i64 (N2 : Nat)] 3)
          have HM9 := Lib.hid (HM8.out.down hB9)
          have HI9 := Lib.hid (ints_new (N := N2) HM8.out.wo 3)
          clear hw8 ha8 hd8 hn8 hs8 hB9 c0 c1 c2 c3 c4 c5 c6 c7 c8 c9 c10 c11 HM7
          go_wp2_with fail
          refine (here_any base R _ [N2] _ _ HM9.out.wo HI9.out (fun i hi => by obtain rfl := List.mem_singleton.1 hi; rw [List.length_append, List.length_append, ← HN2'.out, List.length_singleton]; omega) (by rw [List.length_append, List.length_append, ← HN2'.out, List.length_singleton, HN8.out]; have := HN2B.out; omega) (by simp)).mono ?_
          rintro e w10 ⟨rfl, hw10, hs10⟩
          have HM10 := Lib.hid (HM9.out.next hXR' hw10 hs10)
          have HN : Hid (SofarC l (j + 1) (new ++ (n1 ++ ([4] ++ (n2 ++ ([5] ++ n3)))))) := HMORE.out (n1 ++ ([4] ++ (n2 ++ ([5] ++ n3))))
            (by rw [HAC.out, asksL_append, asksL_append, asksL_append, asksL_append, HA2.out, HA4.out, HA8.out]; show _ + (0 + (_ + (0 + _))) = _; omega)
            (by rw [HDC.out, doesL_append, doesL_append, doesL_append, doesL_append, HD2.out, HD4.out, HD8.out]; show 0 + (0 + (_ + (0 + _))) = _; omega)
            (by rw [HOC.out, if_neg H0.out, List.length_append, List.length_append, List.length_append, List.length_append, HN2.out, HN4.out, HN8.out, List.length_singleton, List.length_singleton]; omega)
          clear hw10 hs10 HI9 HM9 HM8
          go_wp2_with fail
          go_roundw
          case rel => exact ⟨j + 1, new ++ (n1 ++ ([4] ++ (n2 ++ ([5] ++ n3)))), by go_num, HLT.out, by simpa only [List.append_assoc] using HM10.out.wo, HST.out.trans HM10.out.st, HN.out⟩
          case measure => have := HLT.out; simp [intOf]; omega
      · have hk2 : (x.kind != 2) = true := by simpa using h2
        have H2 := Lib.hid h2
        clear h2
        go_upto_region 4 with fail
        refine wp_at (R := fun W => Mt wr W base R wr.heap.size [.int .i64 x.kind, .slice Gx x.texts.length cx, .int .i64 x.test.kind, .int .i64 x.test.mat, .int .i64 x.test.part, .slice Gn x.test.names.length cn, .slice Gk x.test.keys.length ck, .bool x.test.over, .int .i64 x.test.limit, .slice Gt x.test.tests.length ct, .slice Gh x.thn.length ch, .slice Ge x.els.length ce] (kl ++ new)) H0.out (fun W1 hM => ?_)
        rw [← HX.out] at hM ⊢
        clear H0
        have hdr := Below.drew (Below.refl W1.heap.size W1)
        have hMd := hM.down hdr
        obtain ⟨c0, c1, -⟩ := has_12 hMd.has
        have HMD := Lib.hid hMd
        clear hM hMd hdr e0 e1 e2 e3 e4 e5 e6 e7 e8 e9 e10 e11
        refine wp_region_noPanic ?_
        go_region_held3 (fun w' => w'.cell? ⟨X, 0, none⟩ = some (.int .i64 x.kind) ∧ w'.cell? ⟨X, 1, none⟩ = some (.slice Gx x.texts.length cx)) (first | exact ⟨c0, c1⟩ | exact ⟨c0', c1'⟩ | exact ⟨c0'', c1''⟩) (first
          | (go_at_call 59; refine (clone_str x.texts _ F _ (HXR.out.stable (HSM.out _ (HW.out.below HZ.out (HST.out.trans HMD.out.st))) HMD.out.st.size) HXL.out).mono ?_; rintro e w3 ⟨G3, n3, d3, rfl, hb3⟩; have hm3 := HMD.out.down hb3; obtain ⟨c0', c1', -⟩ := has_12 hm3.has; have HM3 := Lib.hid hm3; clear hm3)
          | (go_at_call 58; refine (put_do base R (kl ++ new) x.kind G3 n3 d3 _ HM3.out.z HM3.out.wo (by rw [List.length_append]; have := HBD.out; omega)).mono ?_; intro e w4 hp; obtain ⟨rfl, hw4, hs4⟩ := hp; have hm4 := HM3.out.next hXR hw4 hs4; obtain ⟨c0'', c1'', -⟩ := has_12 hm4.has; have HM4 := Lib.hid hm4; clear hm4 hw4 hs4))
        all_goals
          have HN : Hid (SofarC l (j + 1) (new ++ [6])) := HMORE.out [6] (by rw [asksC_eq, if_neg H2.out]; rfl) (by rw [doesC_eq, if_neg H2.out]; rfl) (by rw [opsC_eq, if_neg H2.out]; rfl)
          clear c0 c1 c0' c1' c0'' c1'' hb3
          refine NoPanic.normal ?_
          go_wp2_with fail
          go_roundw
          case rel => exact ⟨j + 1, new ++ [6], by go_num, HLT.out, by rw [← List.append_assoc]; exact HM4.out.wo, HST.out.trans HM4.out.st, HN.out⟩
          case measure => have := HLT.out; simp [intOf]; omega
    · have hjl : j = l.length := by omega
      have HEND : Hid (asksL new = A ∧ doesL new = D ∧ new.length = O) := by
        obtain ⟨a, b, c⟩ := hso
        rw [hjl, List.take_length] at a b c
        exact ⟨a.trans HA.out.symm, b.trans HD.out.symm, c.trans HO.out.symm⟩
      have hnj : ¬ j < l.length := hlt
      clear hwr hst hso hlt hjl
      go_wp2_with fail
      go_returns
      exact ⟨rfl, ⟨new, HWR.out, HEND.out⟩, HST.out⟩
theorem ctC_every : ∀ n, CtC n
  | 0 => all_one 0 (fun k h => by omega)
  | n + 1 => all_one (n + 1) (fun k h => by
      obtain rfl : n = k := by omega
      exact ctC_every n)
end Go.Proofs.YtobdokabelilmaaDoor.Sc
namespace Go.Proofs.YtobdokabelilmaaDoor.Sc
open Go.RowKit

def CountN (n : Nat) : Prop := ∀ (l : List Cmd) (v : Value) (F : Dom) (w : World), SAt (cCmd n) w F v l → (∀ c ∈ l, GoodC c) → l.length ≤ 1000000 → doesCs l ≤ 1000000 → asksCs l ≤ 1000000 →
    Calls Tryd.prog 24 #[v] w (fun e w' => e = .returned (.tuple #[.int .i64 (doesCs l : Nat), .int .i64 (asksCs l : Nat)]) ∧ Below w.heap.size w w')
set_option maxHeartbeats 8000000 in
set_option maxRecDepth 20000 in
theorem counted_rule (n : Nat) (hIH : ∀ k, n = k + 1 → CountN k) : CountN n := by
  intro l v F w hv hgood hlen hmd hma
  obtain ⟨G, cap, rfl, -⟩ := hv.form
  obtain ⟨A, hA⟩ : ∃ A, A = doesCs l := ⟨_, rfl⟩
  obtain ⟨B, hB⟩ : ∃ B, B = asksCs l := ⟨_, rfl⟩
  rw [← hA, ← hB]
  have HA := Lib.hid hA; have HB := Lib.hid hB; have HV := Lib.hid hv; have HG := Lib.hid hgood; have HIH := Lib.hid hIH; have HMD := Lib.hid hmd; have HMA := Lib.hid hma
  clear hv hgood hIH hA hB hmd hma
  go_enter Tryd.func24, Tryd.ntmps24
  go_wp2_with fail
  go_loopw [4, 5, 6] (fun vn vm v wr => ∃ j a b : Nat, vn = .int .i64 (a : Nat) ∧ vm = .int .i64 (b : Nat) ∧ v = .int .i64 j ∧ j ≤ l.length ∧ Hid (a = doesCs (l.take j)) ∧ Hid (b = asksCs (l.take j)) ∧ Below w.heap.size w wr) (fun _ _ v _ => l.length - (intOf v).toNat)
  case atStart => exact ⟨0, 0, 0, rfl, rfl, rfl, Nat.zero_le _, rfl, rfl, Below.refl _ _⟩
  case round =>
    obtain ⟨j, a, b, rfl, rfl, rfl, hj, HD, HE, hb⟩ := hrel
    have HBJ := Lib.hid hb
    by_cases hlt : j < l.length
    · obtain ⟨g, off, Gx, cx, Gn, cn, Gk, ck, Gt, ct, Gh, ch, Ge, ce, rfl, hr, e0, e1, ⟨e2, e3, e4, e5, e6, e7, e8, e9⟩, e10, e11⟩ := cmd_get HV.out (Same.of_below hb) hb.size j hlt
      have hst := doesCs_step l j hlt
      have hsu := asksCs_step l j hlt
      have hls := (GoodC.iff _).1 (HG.out _ (List.getElem_mem hlt))
      have ha1 := doesCs_take l (j + 1); have hb1 := asksCs_take l (j + 1)
      generalize l[j] = x at hr e0 e1 e2 e3 e4 e5 e6 e7 e8 e9 e10 e11 hst hsu hls
      obtain ⟨⟨-, -, -, ⟨k1, k2⟩, l1, l2⟩, ltt, gth, gel⟩ := hls
      obtain ⟨q, Gx', cx', Gn', cn', Gk', ck', Gt', ct', Gh', ch', Ge', ce', hq, hve, -, htr, hth, hel⟩ := cmd_open hr
      subst hq
      have hve' := hve
      unfold cmdC tstC at hve'
      injection hve' with _ hve'
      injection hve' with _ hve'
      injection hve' with _ hve'
      injection hve' with _ hve'
      injection hve' with _ hve'
      injection hve' with i5 hve'
      injection hve' with i6 hve'
      injection hve' with _ hve'
      injection hve' with _ hve'
      injection hve' with i9 hve'
      injection hve' with i10 hve'
      injection hve' with i11 _
      rw [← i5, ← i6, ← i9] at htr
      rw [← i10] at hth
      rw [← i11] at hel
      have heq := doesC_eq x
      have heq2 := asksC_eq x
      rw [← HD.out] at hst
      rw [← HE.out] at hsu
      rw [hst] at ha1
      rw [hsu] at hb1
      have hmd := HMD.out; have hma := HMA.out
      have key : x.kind = 1 ∨ x.kind = 2 ∨ x.kind = 3 ∨ x.kind = 4 ∨ x.kind = 5 ∨ x.kind = 6 ∨ x.kind = 7 ∨ x.kind = 8 ∨ x.kind = 9 ∨ x.kind = 10 := by omega
      have HST := Lib.hid hst; have HSU := Lib.hid hsu
      have hjn : (j : Int) < l.length := by omega
      by_cases h2 : x.kind = 2
      · rw [if_pos h2] at heq heq2
        obtain ⟨q1, hq1⟩ : ∃ q1, q1 = leavesT x.test := ⟨_, rfl⟩
        obtain ⟨q2, hq2⟩ : ∃ q2, q2 = doesCs x.thn := ⟨_, rfl⟩
        obtain ⟨q3, hq3⟩ : ∃ q3, q3 = asksCs x.thn := ⟨_, rfl⟩
        obtain ⟨q4, hq4⟩ : ∃ q4, q4 = doesCs x.els := ⟨_, rfl⟩
        obtain ⟨q5, hq5⟩ : ∃ q5, q5 = asksCs x.els := ⟨_, rfl⟩
        rw [← hq2, ← hq4] at heq
        rw [← hq1, ← hq3, ← hq5] at heq2
        have hsum1 : a + (q2 + q4) ≤ 1000000 := by omega
        have hsum2 : b + (q3 + q5 + q1) ≤ 1000000 := by omega
        have HT : Hid (∀ w', Below wr.heap.size wr w' → Calls Tryd.prog 40 #[.agg (tstC x.test (.slice Gn x.test.names.length cn) (.slice Gk x.test.keys.length ck) (.slice Gt x.test.tests.length ct)).toArray] w' (NumPost q1 w')) := fun w' hb' => by
          have h := leaf_all (q + 1) x.test _ F w' ((cTst (q + 1)).stable htr (Same.of_below hb') hb'.size) ltt (by omega)
          rwa [← hq1] at h
        have HA1 : Hid (∀ w', Below wr.heap.size wr w' → Calls Tryd.prog 24 #[.slice Gh x.thn.length ch] w' (fun e w'' => e = .returned (.tuple #[.int .i64 (q2 : Nat), .int .i64 (q3 : Nat)]) ∧ Below w'.heap.size w' w'')) := fun w' hb' => by
          have h := HIH.out q rfl x.thn _ F w' (hth.down hb') gth l1 (by omega) (by omega)
          rwa [← hq2, ← hq3] at h
        have HA2 : Hid (∀ w', Below wr.heap.size wr w' → Calls Tryd.prog 24 #[.slice Ge x.els.length ce] w' (fun e w'' => e = .returned (.tuple #[.int .i64 (q4 : Nat), .int .i64 (q5 : Nat)]) ∧ Below w'.heap.size w' w'')) := fun w' hb' => by
          have h := HIH.out q rfl x.els _ F w' (hel.down hb') gel l2 (by omega) (by omega)
          rwa [← hq4, ← hq5] at h
        rw [heq] at HST
        rw [heq2] at HSU
        rw [h2] at e0
        unfold tstC at HT
        clear hr hst hsu hb heq heq2 hve i5 i6 i9 i10 i11 htr hth hel ltt gth gel l1 l2 k1 k2 hq1 hq2 hq3 hq4 hq5 key h2 ha1 hb1 hmd hma
        go_wp2_with fail
        refine (HA1.out _ (Below.refl _ _)).mono ?_
        rintro e w2 ⟨rfl, hb2⟩
        have HB2 := Lib.hid hb2; have HB20 := Lib.hid (bt HBJ.out hb2)
        have d11 := moved e11 hb2 (Nat.le_refl _)
        clear hb2 HA1
        go_wp2_with fail
        refine (HA2.out _ HB2.out).mono ?_
        rintro e w3 ⟨rfl, hb3⟩
        have HB3 := Lib.hid (bt HB2.out hb3); have HB30 := Lib.hid (bt HB20.out hb3)
        have d2 := moved e2 HB3.out (Nat.le_refl _); have d3 := moved e3 HB3.out (Nat.le_refl _); have d4 := moved e4 HB3.out (Nat.le_refl _); have d5 := moved e5 HB3.out (Nat.le_refl _); have d6 := moved e6 HB3.out (Nat.le_refl _); have d7 := moved e7 HB3.out (Nat.le_refl _); have d8 := moved e8 HB3.out (Nat.le_refl _); have d9 := moved e9 HB3.out (Nat.le_refl _)
        clear hb3 HA2
        go_wp2_with fail
        refine (HT.out _ HB3.out).mono ?_
        rintro e w4 ⟨rfl, hb4⟩
        have HB40 := Lib.hid (bt HB30.out hb4)
        clear hb4 HT
        go_wp2_with fail
        go_roundw
        case rel => exact ⟨j + 1, a + (q2 + q4), b + (q3 + q5 + q1), by go_num, by go_num, by go_num, hlt, HST.out.symm, HSU.out.symm, HB40.out⟩
        case measure => simp [intOf]; omega
      · rw [if_neg h2] at heq heq2
        rw [heq] at HST
        rw [heq2] at HSU
        have hsum1 : a + 1 ≤ 1000000 := by omega
        obtain ⟨kk, hkk⟩ : ∃ kk, kk = x.kind := ⟨_, rfl⟩
        rw [← hkk] at e0 key h2
        have h6 : kk = 1 ∨ kk = 3 ∨ kk = 4 ∨ kk = 5 ∨ kk = 6 ∨ kk = 7 ∨ kk = 8 ∨ kk = 9 ∨ kk = 10 := by omega
        clear hr hst hsu hb heq heq2 hve i5 i6 i9 i10 i11 htr hth hel ltt gth gel l1 l2 k1 k2 key h2 ha1 hb1 hmd hma hkk
        rcases h6 with rfl | rfl | rfl | rfl | rfl | rfl | rfl | rfl | rfl
        all_goals
          go_wp2_with fail
          go_roundw
          case rel => exact ⟨j + 1, a + 1, b, by go_num, by go_num, by go_num, hlt, HST.out.symm, by unfold Hid; have := HSU.out; omega, HBJ.out⟩
          case measure => simp [intOf]; omega
    · obtain rfl : j = l.length := by omega
      have hz1 : a = A := by rw [HD.out, HA.out, List.take_length]
      have hz2 : b = B := by rw [HE.out, HB.out, List.take_length]
      clear hb
      subst hz1
      subst hz2
      go_wp2_with fail
      go_ret2
      exact ⟨rfl, HBJ.out⟩
theorem counted_all : ∀ n, CountN n
  | 0 => counted_rule 0 (fun k h => by omega)
  | n + 1 => counted_rule (n + 1) (fun k h => by
      obtain rfl : n = k := by omega
      exact counted_all n)
end Go.Proofs.YtobdokabelilmaaDoor.Sc
namespace Go.Proofs.YtobdokabelilmaaDoor.Sc
open Go.RowKit

/-- what Compile answers to scripts that may be -/
def CompPost (cs : List Cmd) (w : World) (e : Ending) (w' : World) : Prop := ∃ (v : Value) (xs : List Value) (ks : List Int) (base : Nat), e = .returned (.tuple #[v, .int .i64 0]) ∧ w'.ownsRow base 58 22 v ks.length xs ∧ KindsAt xs ks ∧ asksL ks = asksCs cs ∧ doesL ks = doesCs cs ∧ ks.length = opsCs cs ∧ Below w.heap.size w w'
set_option maxHeartbeats 4000000 in
set_option maxRecDepth 20000 in
theorem compile_any (n : Nat) (cs : List Cmd) (v : Value) (F : Dom) (m : Int) (w : World) (hv : SAt (cCmd n) w F v cs) (hF : ∀ c ∈ cs, FormC c) (hG : ∀ c ∈ cs, GoodC c) (hS : ∀ c ∈ cs, ∀ s ∈ c.texts, s.length ≤ 1000000) (hFl : ∀ b, F b → b < w.heap.size) (hW : RW w m) (hlen : (cs.flatMap wC).length ≤ 400) (hr : ruleS cs = 0) :
    Calls Tryd.prog 23 #[v] w (CompPost cs w) := by
  have hr1 := rule_any n cs v F m w hv hF hG hS hFl hW (by omega)
  rw [hr] at hr1
  have hops : opsCs cs ≤ 400 := by have := opsCs_len cs; rw [wCs_flat] at this; omega
  obtain ⟨G, cap, rfl, -⟩ := hv.form
  have HR := Lib.hid hr1; have HV := Lib.hid hv; have HF := Lib.hid hF; have HG := Lib.hid hG; have HFL := Lib.hid hFl; have HLEN := Lib.hid hlen; have HOPS := Lib.hid hops
  clear hr1 hv hF hG hS hFl hW hlen hr hops
  go_enter Tryd.func23, Tryd.ntmps23
  go_wp2_with fail
  refine HR.out.mono ?_
  rintro e w1 ⟨rfl, hb1⟩
  have HB1 := Lib.hid hb1
  have hb2 := ba (Below.refl w1.heap.size w1) (.cells #[.slice none 0 0] 89)
  have HB2 := Lib.hid (bt hb1 hb2)
  have hwo : Wo (w1.alloc (.cells #[.slice none 0 0] 89)) w1.heap.size w1.heap.size [] := ⟨_, [], Has.alloc w1 [.slice none 0 0] 89, Nat.le_refl _, World.ownsRow_nil _ _ _ _, fun i k h => by simp at h, fun e => by cases e⟩
  have HWO := Lib.hid hwo
  have HC := Lib.hid (ctC_every n cs _ F w1.heap.size w1.heap.size [] _ (HV.out.stable (Same.of_below (bt hb1 hb2)) (bt hb1 hb2).size) HF.out HG.out (fun b hb => Nat.lt_of_lt_of_le (HFL.out b hb) hb1.size) (by simp) hwo (by have := HOPS.out; simp; omega) (by have := HLEN.out; omega))
  clear hb1 hb2 hwo HR
  go_wp2_with fail
  refine HC.out.mono ?_
  intro e w3 hp
  obtain ⟨rfl, ⟨ks, hw3, ha, hd, hn⟩, hs3⟩ := hp
  rw [List.nil_append] at hw3
  have hb3 : Below w.heap.size w w3 := HB2.out.trans ((HWO.out.below (by simp) hs3).mono HB1.out.size)
  obtain ⟨v', xs, h1, h2, h3, h4, h5⟩ := hw3
  obtain ⟨Gv, cv, rfl⟩ := row_slice h3
  obtain ⟨c0, f0, -⟩ := has_one h1
  have HEND : Hid (CompPost cs w (.returned (.tuple #[.slice Gv ks.length cv, .int .i64 0])) w3) := ⟨_, xs, ks, _, rfl, h3, h4, ha, hd, hn, hb3⟩
  obtain ⟨nk, hnk⟩ : ∃ nk, nk = ks.length := ⟨_, rfl⟩
  have hkl : nk ≤ 400 := by rw [hnk, hn]; exact HOPS.out
  rw [← hnk] at HEND c0
  clear ha hd hn hs3 hb3 h1 h2 h3 h4 h5 hnk HC
  go_wp2_with fail
  go_ret2
  exact HEND.out
theorem does_pos (l : List Stk) : 0 < doesCs (scriptS l) := by
  obtain ⟨r, e, -⟩ := script_cons l
  rw [e, doesCs]
  have : doesC reqC = 1 := by rw [doesC_eq]; rfl
  omega
theorem kinds_step (ks : List Int) (j : Nat) (h : j < ks.length) : doesL (ks.take (j + 1)) = doesL (ks.take j) + (if ks[j] = 6 then 1 else 0) ∧ asksL (ks.take (j + 1)) = asksL (ks.take j) + (if ks[j] = 1 then 1 else 0) := by
  rw [List.take_succ_eq_append_getElem h, doesL_append, asksL_append]
  refine ⟨?_, ?_⟩
  · by_cases e : ks[j] = 6 <;> simp [doesL, e]
  · by_cases e : ks[j] = 1 <;> simp [asksL, e]
set_option maxHeartbeats 8000000 in
set_option maxRecDepth 20000 in
theorem codeCount_any (l : List Stk) (v : Value) (n : Nat) (F : Dom) (m : Int) (w : World) (hv : SAt (cStk n) w F v l) (hlen : l.length ≤ 140737488351232) (hW : RW w m) :
    Calls Tryd.prog 11 #[v] w fun e w' => e = .returned (.bool true) ∧ Below w.heap.size w w' := by
  have HRW : Hid (∀ w', Below w.heap.size w w' → RW w' m) := fun w' hb => hW.down hb
  have HSC := Lib.hid (script_any l v n F w hv hlen hW.tab)
  obtain ⟨G0, c0, rfl, -⟩ := hv.form
  have hF := script_form l; have hG := script_good l; have hS := script_small l; have hk := script_toks l
  have h0 := rule_allowed l; have hp0 := does_pos l; have hl5 := script_len l
  obtain ⟨cs, hcs⟩ : ∃ cs, cs = scriptS l := ⟨_, rfl⟩
  rw [← hcs] at HSC hF hG hS hk h0 hp0 hl5
  have HF := Lib.hid hF; have HG := Lib.hid hG; have HS := Lib.hid hS; have HK := Lib.hid hk; have H0 := Lib.hid h0; have HP0 := Lib.hid hp0; have HL5 := Lib.hid hl5
  clear hv hcs hF hG hS hk h0 hp0 hlen hW hl5
  go_enter Tryd.func11, Tryd.ntmps11
  go_wp2_with fail
  refine HSC.out.mono ?_
  intro e w1 h1
  obtain ⟨G1, c1, rfl, hs1, hb1⟩ := h1
  have HS1 := Lib.hid (SAt.bd (fun _ _ hr => cmd_bd 15 hr) hs1); have HB1 := Lib.hid hb1
  have HC := Lib.hid (compile_any 15 cs _ _ m w1 HS1.out HF.out HG.out HS.out (fun b hb => hb.2) (HRW.out _ hb1) HK.out H0.out)
  clear hs1 hb1 HSC
  go_wp2_with fail
  refine HC.out.mono ?_
  intro e w2 h2
  obtain ⟨v2, xs, ks, B, rfl, hr2, hk2, ha2, hd2, hn2, hb2⟩ := h2
  obtain ⟨Gv, cv, rfl⟩ := row_slice hr2
  have HR2 := Lib.hid hr2; have HK2 := Lib.hid hk2; have HA2 := Lib.hid ha2; have HD2 := Lib.hid hd2
  have hops : ks.length ≤ 400 := by rw [hn2]; have := opsCs_len cs; rw [wCs_flat] at this; have := HK.out; omega
  have hda : doesCs cs ≤ 400 := by have := doesL_le ks; omega
  have hac : asksCs cs ≤ 400 := by have := asksL_le ks; omega
  have HB2 := Lib.hid (bt HB1.out hb2)
  have HCN := Lib.hid (fun w' (hb : Below w2.heap.size w2 w') => counted_all 15 cs _ _ w' ((HS1.out.down hb2).down hb) HG.out (by have := HL5.out; omega) (by omega) (by omega))
  have HDA := Lib.hid hda; have HAC := Lib.hid hac
  clear hr2 hk2 ha2 hd2 hn2 hb2 HC hda hac
  go_wp2_with fail
  go_loop [6, 7, 8] (fun d a i => ∃ j p q : Nat, i = .int .i64 j ∧ d = .int .i64 (p : Nat) ∧ a = .int .i64 (q : Nat) ∧ j ≤ ks.length ∧ p ≤ j ∧ q ≤ j ∧ Hid (p = doesL (ks.take j)) ∧ Hid (q = asksL (ks.take j))) (fun _ _ i => ks.length - (intOf i).toNat)
  case atStart => exact ⟨0, 0, 0, rfl, rfl, rfl, Nat.zero_le _, Nat.le_refl _, Nat.le_refl _, rfl, rfl⟩
  case round =>
    obtain ⟨j, p, q, rfl, rfl, rfl, hj, hp, hq, HP, HQ⟩ := hrel
    by_cases hlt : j < ks.length
    · obtain ⟨g, cap, hGv, -, -⟩ := World.ownsRow.form HR2.out (by omega)
      cases hGv
      have hc := HR2.out.cellAt (j * 22) (by omega)
      have hkk := HK2.out j ks[j] (List.getElem?_eq_getElem hlt)
      rw [hkk] at hc
      obtain ⟨h1, h2⟩ := kinds_step ks j hlt
      rw [← HP.out] at h1
      rw [← HQ.out] at h2
      generalize ks[j] = k at hc h1 h2
      have hjn : (j : Int) < ks.length := by omega
      clear hkk HP HQ
      by_cases e6 : k = 6
      · subst e6
        rw [if_pos rfl] at h1
        rw [if_neg (by decide)] at h2
        have H1 := Lib.hid h1; have H2 := Lib.hid h2
        clear h1 h2
        go_wp2_with fail
        go_round
        case rel => exact ⟨j + 1, p + 1, q, by go_num, by go_num, by go_num, hlt, by omega, by omega, H1.out.symm, H2.out.symm⟩
        case measure => simp [intOf]; omega
      · by_cases e1 : k = 1
        · subst e1
          rw [if_neg (by decide)] at h1
          rw [if_pos rfl] at h2
          have H1 := Lib.hid h1; have H2 := Lib.hid h2
          clear h1 h2 e6
          go_wp2_with fail
          go_round
          case rel => exact ⟨j + 1, p, q + 1, by go_num, by go_num, by go_num, hlt, by omega, by omega, H1.out.symm, H2.out.symm⟩
          case measure => simp [intOf]; omega
        · rw [if_neg e6] at h1
          rw [if_neg e1] at h2
          have q6 : (k == 6) = false := beq_eq_false_iff_ne.2 e6
          have q1 : (k == 1) = false := beq_eq_false_iff_ne.2 e1
          have H1 := Lib.hid h1; have H2 := Lib.hid h2
          clear h1 h2 e6 e1
          go_wp2_with fail
          go_round
          case rel => exact ⟨j + 1, p, q, by go_num, by go_num, by go_num, hlt, by omega, by omega, H1.out.symm, H2.out.symm⟩
          case measure => simp [intOf]; omega
    · have hjl : j = ks.length := by omega
      obtain ⟨A, hA⟩ : ∃ A, A = doesCs cs := ⟨_, rfl⟩
      obtain ⟨D, hD⟩ : ∃ D, D = asksCs cs := ⟨_, rfl⟩
      have hpa : p = A := by rw [HP.out, hjl, List.take_length, HD2.out, hA]
      have hqa : q = D := by rw [HQ.out, hjl, List.take_length, HA2.out, hD]
      have hp0 : decide (0 < A) = true := decide_eq_true (by have := HP0.out; omega)
      have hcn := HCN.out _ (Below.refl _ _)
      rw [← hA, ← hD] at hcn
      have HC3 := Lib.hid hcn
      subst hpa
      subst hqa
      clear hcn hA hD HP HQ hjl
      go_wp2_with fail
      refine HC3.out.mono ?_
      rintro e w3 ⟨rfl, hb3⟩
      have HB3 := Lib.hid (bt HB2.out hb3)
      clear hb3 HC3
      go_wp2_with fail
      go_ret
      exact ⟨rfl, HB3.out⟩
theorem codeCount_walk (v : Value) (n : Nat) (l : List Stk) (mx : Int) (W : World) (h : SAt (cStk n) W (fun _ => True) v l) (hlen : l.length ≤ 140737488351232) (hT : Tabs W W.heap.size) (hE : ExtAt W ∧ 1 < W.heap.size) (hN : NamesAt W ∧ 0 < W.heap.size) (hmx : W.cell? ⟨6, 0, none⟩ = some (.int .i64 mx)) :
    Calls Tryd.prog 11 #[v] W fun e w' => e = .returned (.bool true) ∧ Below W.heap.size W w' := codeCount_any l v n _ mx W h hlen ⟨hT, hE, hN, hmx⟩
end Go.Proofs.YtobdokabelilmaaDoor.Sc
