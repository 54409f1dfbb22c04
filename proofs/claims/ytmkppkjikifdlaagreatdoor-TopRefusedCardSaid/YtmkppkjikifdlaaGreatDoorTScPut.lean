/- On the way. -/
import Derived.Test.YtmkppkjikifdlaaGreatDoorTScMem
import Derived.Deep.AppendLies
import Derived.Handy
set_option linter.unusedVariables false
set_option linter.unusedSimpArgs false
set_option maxHeartbeats 8000000
set_option maxRecDepth 20000
namespace Go.Proofs.YtmkppkjikifdlaaGreatDoor.Sc
open Go.RowKit
open Tk (Tok)
theorem info_tok : (Tryz.prog.info? 147).map (fun i => (i.zero, i.size, i.bytes)) = some (some (.agg #[.int .i64 0, .string ⟨#[]⟩, .int .i64 0]), 3, 32) := by kernel_rfl
theorem info_three {e : TypeId} {z : Value} {s b : Nat} (h : (Tryz.prog.info? e).map (fun i => (i.zero, i.size, i.bytes)) = some (some z, s, b)) : ∃ i, Tryz.prog.info? e = some i ∧ i.zero = some z ∧ i.size = s ∧ i.bytes = b := by
 cases hi : Tryz.prog.info? e with
 | none => rw [hi] at h; cases h
 | some i =>
  rw [hi] at h
  have := Option.some.inj h
  exact ⟨i, rfl, congrArg (·.1) this, congrArg (·.2.1) this, congrArg (·.2.2) this⟩
def tcells (l : List Tok) : List Value := l.flatMap tokC
theorem tcells_snoc (l : List Tok) (t : Tok) : tcells (l ++ [t]) = tcells l ++ tokC t := by simp [tcells]
def Wr (w : World) (base R : Nat) (l : List Tok) : Prop := ∃ v, Has w R [v] ∧ base ≤ R ∧ w.ownsRow base 147 3 v l.length (tcells l) ∧ v.ownBlock ≠ some R
theorem Wr.down {w w' : World} {base R : Nat} {l : List Tok} (h : Wr w base R l) (hb : Below w.heap.size w w') : Wr w' base R l := by
 obtain ⟨v, h1, h2, h3, h4⟩ := h
 exact ⟨v, h1.down hb, h2, row_down h3 hb, h4⟩
def rowB (w : World) (R : Nat) : Option Nat := match w.cell? ⟨R, 0, none⟩ with
 | some v => v.ownBlock
 | none => none
structure WStep (R : Nat) (w w' : World) : Prop where
 os : w'.os = w.os
 tape : w'.tape = w.tape
 output : w'.output = w.output
 size : w.heap.size ≤ w'.heap.size
 keep : ∀ b, b < w.heap.size → b ≠ R → rowB w R ≠ some b → w'.heap[b]? = w.heap[b]?
 row : ∀ b, rowB w' R = some b → rowB w R = some b ∨ w.heap.size ≤ b
theorem rowB_of {w w' : World} {R : Nat} (h : w'.heap[R]? = w.heap[R]?) : rowB w' R = rowB w R := by
 unfold rowB; rw [World.cell?_of_block (w := w) (a := ⟨R, 0, none⟩) h]
theorem rowB_has {w : World} {R : Nat} {v : Value} (h : Has w R [v]) : rowB w R = v.ownBlock := by unfold rowB; rw [h.1 0 v rfl]
theorem WStep.refl (R : Nat) (w : World) : WStep R w w := ⟨rfl, rfl, rfl, Nat.le_refl _, fun _ _ _ _ => rfl, fun _ h => .inl h⟩
theorem WStep.trans {R : Nat} {w a b : World} (h : WStep R w a) (k : WStep R a b) : WStep R w b :=
 ⟨k.os.trans h.os, k.tape.trans h.tape, k.output.trans h.output, Nat.le_trans h.size k.size, fun i hi hR hr => (k.keep i (Nat.lt_of_lt_of_le hi h.size) hR (fun e => by rcases h.row i e with h1 | h1; exact hr h1; omega)).trans (h.keep i hi hR hr),
  fun i e => by
   rcases k.row i e with h1 | h1
   ·exact h.row i h1
   ·exact .inr (Nat.le_trans h.size h1)⟩
theorem WStep.down {R : Nat} {w a b : World} (h : WStep R w a) (hR : R < w.heap.size) (k : Below a.heap.size a b) : WStep R w b :=
 h.trans ⟨k.os, k.tape, k.output, k.size, fun i hi _ _ => k.block i hi, fun i e => .inl ((rowB_of (k.block R (Nat.lt_of_lt_of_le hR h.size))).symm.trans e)⟩
theorem WStep.has {R H : Nat} {w w' : World} {vs : List Value} (h : WStep R w w') (k : Has w H vs) (hR : H ≠ R) (hr : rowB w R ≠ some H) : Has w' H vs := by
 have e := h.keep H k.2.2 hR hr
 exact ⟨fun i v hv => (World.cell?_of_block (w := w) (a := ⟨H, i, none⟩) e).trans (k.1 i v hv), fun i hi => (World.frozen?_of_block (w := w) (a := ⟨H, i, none⟩) e).trans (k.2.1 i hi), Nat.lt_of_lt_of_le k.2.2 h.size⟩
theorem WStep.off {R H : Nat} {w w' : World} (h : WStep R w w') (hH : H < w.heap.size) (hr : rowB w R ≠ some H) : rowB w' R ≠ some H := fun e => by
 rcases h.row H e with h1 | h1
 ·exact hr h1
 ·omega
theorem Wr.new {w : World} {base R : Nat} {l : List Tok} (h : Wr w base R l) : R < w.heap.size ∧ w.heap.size ≠ R ∧ rowB w R ≠ some w.heap.size := by
 obtain ⟨v, h1, h2, h3, h4⟩ := h
 refine ⟨h1.2.2, by have := h1.2.2; omega, ?_⟩
 rw [rowB_has h1]
 intro e
 have := (World.ownsRow.lt h3 _ e).2
 omega
theorem Wr.below {w w' : World} {base R : Nat} {l : List Tok} (h : Wr w base R l) (hz : base ≤ w.heap.size) (k : WStep R w w') : Below base w w' := by
 obtain ⟨v, h1, h2, h3, h4⟩ := h
 refine ⟨k.os, k.tape, k.output, k.size, fun i hi => k.keep i (by omega) (by omega) ?_⟩
 rw [rowB_has h1]
 intro e
 have := (World.ownsRow.lt h3 _ e).1
 omega
theorem row_slice {w : World} {B : Nat} {t : TypeId} {k n : Nat} {v : Value} {L : List Value} (h : w.ownsRow B t k v n L) : ∃ Gv cv, v = .slice Gv n cv := by
 rcases h.2 with ⟨h1, h2⟩ | ⟨g, cap, _, h1, _⟩
 ·exact ⟨none, 0, by rw [h1, h2]⟩
 ·exact ⟨_, _, h1⟩
theorem has_one {w : World} {b : Nat} {a : Value} (h : Has w b [a]) : w.cell? ⟨b, 0, none⟩ = some a ∧ w.frozen? ⟨b, 0, none⟩ = false ∧ b < w.heap.size := ⟨h.1 0 _ rfl, h.2.1 0 (by simp), h.2.2⟩
theorem wr_put {w w1 w6 : World} {base R g cap : Nat} {l : List Tok} {t : Tok} {v : Value} (hb1 : Below w.heap.size w w1) (_hz : base ≤ w.heap.size) (h1 : Has w R [v]) (hR : base ≤ R) (_hr : w.ownsRow base 147 3 v l.length (tcells l)) (h2 : v.ownBlock ≠ some R)
    (hown : w6.ownsRow base 147 3 (.slice (some ⟨g, 0, none⟩) (l.length + 1) cap) (l.length + 1) (tcells (l ++ [t]))) (hgrow : w1.grownBy w6 v.ownBlock) (hat : v.ownBlock = some g ∨ w.heap.size ≤ g) :
    Has w6 R [v] ∧ Wr (w6.setCell ⟨R, 0, none⟩ (.slice (some ⟨g, 0, none⟩) (l.length + 1) cap)) base R (l ++ [t]) ∧ WStep R w (w6.setCell ⟨R, 0, none⟩ (.slice (some ⟨g, 0, none⟩) (l.length + 1) cap)) := by
 have hRl := h1.2.2
 have hgR : g ≠ R := by
  rcases hat with h | h
  ·rintro rfl; exact h2 h
  ·omega
 have h6 : Has w6 R [v] := (h1.down hb1).kept hgrow (fun e => h2 e.symm)
 have hne : (Value.slice (some ⟨g, 0, none⟩) (l.length + 1) cap).ownBlock ≠ some R := fun e => hgR (Option.some.inj e)
 refine ⟨h6, ⟨_, h6.set' (i := 0) _ (by simp), hR, ?_, hne⟩, ?_⟩
 ·have := row_off hown hne 0 (.slice (some ⟨g, 0, none⟩) (l.length + 1) cap)
  rw [List.length_append]; exact this
 ·have hnew : Has (w6.setCell ⟨R, 0, none⟩ (.slice (some ⟨g, 0, none⟩) (l.length + 1) cap)) R [.slice (some ⟨g, 0, none⟩) (l.length + 1) cap] := h6.set' (i := 0) _ (by simp)
  refine ⟨hgrow.os.trans hb1.os, hgrow.tape.trans hb1.tape, hgrow.output.trans hb1.output, ?_, fun b hb hbR hbr => ?_, fun b e => ?_⟩
  ·have h := Nat.le_trans hb1.size hgrow.size
   simpa [World.setCell] using h
  ·rw [rowB_has h1] at hbr
   refine (Below.heap_setCell _ _ _ _ hbR).trans ((hgrow.block b (Nat.lt_of_lt_of_le hb hb1.size) (fun e => hbr e.symm)).trans (hb1.block b hb))
  ·rw [rowB_has hnew] at e
   rw [rowB_has h1]
   obtain rfl : g = b := Option.some.inj e
   exact hat
theorem put_any (base R : Nat) (l : List Tok) (k : Int) (s : ByteArray) (w : World) (hz : base ≤ w.heap.size) (h : Wr w base R l) (hl : l.length ≤ 10000000) :
    Calls Tryz.prog 138 #[.pointer (some ⟨R, 0, none⟩), .int .i64 k, .string s] w fun e w' => e = .returned (.tuple #[]) ∧ Wr w' base R (l ++ [⟨k, s.data.toList, 0⟩]) ∧ WStep R w w' := by
 obtain ⟨v, h1, hR, hrow, h2⟩ := h
 obtain ⟨Gv, cv, rfl⟩ := row_slice hrow
 obtain ⟨i0, hi, hz0, hz1, hz2⟩ := info_three info_tok
 obtain ⟨n, hn⟩ : ∃ n, n = l.length := ⟨_, rfl⟩
 have hmk : (⟨s.data.toList.toArray⟩ : ByteArray) = s := Lib.mk_data s
 have HC : Hid (tcells (l ++ [⟨k, s.data.toList, 0⟩]) = tcells l ++ [.int .i64 k, .string s, .int .i64 0]) := by
  unfold Hid; rw [tcells_snoc]; show tcells l ++ [_, .string ⟨s.data.toList.toArray⟩, _] = _; rw [hmk]
 have HI := Lib.hid hi; have HZ0 := Lib.hid hz0; have HZ1 := Lib.hid hz1; have HZ2 := Lib.hid hz2
 have hz' : base ≤ (w.alloc (.cells #[.int .i64 k, .string s, .int .i64 0] 147)).heap.size := by simp; omega
 have HA := Lib.hid h1; have HRO := Lib.hid hrow; have HZ := Lib.hid hz; have HN := Lib.hid h2; have HZ' := Lib.hid hz'
 obtain ⟨c0, f0, hRl⟩ := has_one h1
 have hb1 := ba (Below.refl _ w) (.cells #[.int .i64 k, .string s, .int .i64 0] 147)
 have HB1 := Lib.hid hb1
 have HRO1 := Lib.hid (row_down hrow hb1)
 rw [← hn] at c0 HA HRO1 HN HRO
 have HL := Lib.hid hl
 rw [← hn] at HL
 have HNL := Lib.hid hn
 clear hi hz0 hz1 hz2 hmk h1 hrow hz h2 hb1 hl hn hz'
 have hl' : n ≤ 10000000 := HL.out
 go_enter Tryz.func138, Tryz.ntmps138
 go_wp2_with (at_builtin; refine wpList_append_lies _ (by rfl) _ _ _ (by rfl) base 147 i0 _ 3 32 Tryz.underlying112 HI.out HZ0.out HZ1.out HZ2.out rfl (by omega) (.slice Gv n cv) n (tcells l) (by rfl) HRO1.out ⟨w.heap.size, 0, none⟩ 1 1 [.int .i64 k, .string s, .int .i64 0] (by rfl) (by rfl) (news_of w _ _) (by simp [Value.oneCell']) (by omega) (by unfold maxLen; omega) (by omega) HZ'.out (w.heap.size + 1) (by simp) ?_)
 intro gg cap6 w6 hown6 hgrow hat hlt6
 rw [← HC.out] at hown6
 have hkey : Has w6 R [.slice Gv n cv] ∧ Wr (w6.setCell ⟨R, 0, none⟩ (.slice (some ⟨gg, 0, none⟩) (n + 1) cap6)) base R (l ++ [⟨k, s.data.toList, 0⟩]) ∧ WStep R w (w6.setCell ⟨R, 0, none⟩ (.slice (some ⟨gg, 0, none⟩) (n + 1) cap6)) := by
  have := HNL.out
  subst this
  exact wr_put HB1.out HZ.out HA.out hR HRO.out HN.out hown6 hgrow (by rcases hat with h | h; exact .inl h; exact .inr (by omega))
 obtain ⟨k1, k2, k3⟩ := hkey
 obtain ⟨d0, e0, -⟩ := has_one k1
 have K2 := Lib.hid k2; have K3 := Lib.hid k3
 clear k1 k2 k3 hown6 hgrow hat HA HRO HN HRO1 HC
 go_wp2_with fail
 go_returns
 exact ⟨rfl, K2.out, K3.out⟩
theorem flag_any (b : Bool) (w : World) : Calls Tryz.prog 163 #[.bool b] w fun e w' => e = .returned (.int .i64 (if b = true then 1 else 0)) ∧ w = w' := by
 cases b
 all_goals
  go_enter Tryz.func163, Tryz.ntmps163
  go_wp2_with fail
  go_ret
  exact ⟨rfl, rfl⟩
theorem put_str (base R : Nat) (l : List Tok) (k : Int) (s : Str) (w : World) (hz : base ≤ w.heap.size) (h : Wr w base R l) (hl : l.length ≤ 10000000) :
    Calls Tryz.prog 138 #[.pointer (some ⟨R, 0, none⟩), .int .i64 k, .string ⟨s.toArray⟩] w fun e w' => e = .returned (.tuple #[]) ∧ Wr w' base R (l ++ [⟨k, s, 0⟩]) ∧ WStep R w w' := by
 have h := put_any base R l k ⟨s.toArray⟩ w hz h hl
 exact h
def itemsT : Nat → List Str → List Tok
 | _, [] => []
 | i, s :: l => M (if i = 0 then 91 else 44) :: S s :: itemsT (i + 1) l
theorem itemsT_app : ∀ (a b : List Str) (i : Nat), itemsT i (a ++ b) = itemsT i a ++ itemsT (i + a.length) b
 | [], b, i => rfl
 | s :: a, b, i => by
  show M _ :: S s :: itemsT (i + 1) (a ++ b) = _
  rw [itemsT_app a b (i + 1), show i + 1 + a.length = i + (s :: a).length by simp; omega]; rfl
theorem itemsT_succ : ∀ (l : List Str) (i : Nat), itemsT (i + 1) l = l.flatMap fun x => [M 44, S x]
 | [], _ => rfl
 | s :: l, i => by
  show M 44 :: S s :: itemsT (i + 1 + 1) l = _
  rw [itemsT_succ l (i + 1)]; rfl
theorem listT_items {l : List Str} (h : l.length ≠ 1) : listT l = itemsT 0 l ++ [M 93] := by
 match l, h with
 | [], _ => rfl
 | [s], h => exact absurd rfl h
 | s :: s2 :: l, _ =>
  show M 91 :: S s :: ((s2 :: l).flatMap fun x => [M 44, S x]) ++ [M 93] = M 91 :: S s :: itemsT 1 (s2 :: l) ++ [M 93]
  rw [itemsT_succ]
theorem items_step (l : List Str) (j : Nat) (h : j < l.length) : itemsT 0 (l.take (j + 1)) = itemsT 0 (l.take j) ++ [M (if j = 0 then 91 else 44)] ++ [S l[j]] := by
 rw [List.take_succ_eq_append_getElem h, itemsT_app, List.length_take, Nat.min_eq_left (by omega), Nat.zero_add, List.append_assoc]; rfl
theorem itemsT_len : ∀ (l : List Str) (i : Nat), (itemsT i l).length = 2 * l.length
 | [], _ => rfl
 | s :: l, i => by show (itemsT (i + 1) l).length + 1 + 1 = 2 * (l.length + 1); rw [itemsT_len l]; omega
theorem str_at {w wr : World} {F : Dom} {B : Nat} {G : Option Addr} {n cap : Nat} {l : List Str} (h : SAt cStr w F (.slice G n cap) l) (hF : ∀ b, F b → b < B) (hb : Below B w wr) (j : Nat) (hj : j < l.length) :
    ∃ g off, G = some ⟨g, off, none⟩ ∧ wr.cell? ⟨g, off + j, none⟩ = some (.string ⟨l[j].toArray⟩) := str_get h (fun b hFb _ => hb.block b (hF b hFb)) hb.size j hj
theorem list_one (base R : Nat) (l : List Tok) (s : Str) (v : Value) (F : Dom) (w : World) (hz : base ≤ w.heap.size) (hF : ∀ b, F b → b < base) (hv : SAt cStr w F v [s]) (h : Wr w base R l) (hl : l.length ≤ 10000000) :
    Calls Tryz.prog 140 #[.pointer (some ⟨R, 0, none⟩), v] w fun e w' => e = .returned (.tuple #[]) ∧ Wr w' base R (l ++ [S s]) ∧ WStep R w w' := by
 obtain ⟨G, cap, rfl, -⟩ := hv.form
 obtain ⟨g, off, rfl, c0⟩ := str_at hv hF (Below.refl _ _) 0 (by simp)
 have HP := Lib.hid (put_str base R l 4 s w hz h hl)
 have c0' : w.cell? ⟨g, off, none⟩ = some (.string ⟨s.toArray⟩) := c0
 have hq : (([s] : List Str).length : Nat) = 1 := rfl
 rw [hq]
 clear c0 hv hq h
 go_enter Tryz.func140, Tryz.ntmps140
 go_wp2_with fail
 refine HP.out.mono ?_
 rintro e w5 ⟨rfl, hw5, hb5⟩
 go_wp2_with fail
 go_returns
 exact ⟨rfl, hw5, hb5⟩
theorem list_more (base R : Nat) (l : List Tok) (ns : List Str) (v : Value) (F : Dom) (w : World) (hz : base ≤ w.heap.size) (hF : ∀ b, F b → b < base) (hv : SAt cStr w F v ns) (h : Wr w base R l) (hn1 : ns.length ≠ 1) (hl : l.length + 2 * ns.length ≤ 9000000) :
    Calls Tryz.prog 140 #[.pointer (some ⟨R, 0, none⟩), v] w fun e w' => e = .returned (.tuple #[]) ∧ Wr w' base R (l ++ listT ns) ∧ WStep R w w' := by
 obtain ⟨G, cap, rfl, -⟩ := hv.form
 have HV := Lib.hid hv; have HF := Lib.hid hF; have H0 := Lib.hid h; have HZ := Lib.hid hz
 have HLT := Lib.hid (listT_items hn1)
 obtain ⟨n, hn⟩ : ∃ n, n = ns.length := ⟨_, rfl⟩
 have hq : ((n : Int) == 1) = false := beq_eq_false_iff_ne.2 (by omega)
 rw [← hn] at HV ⊢
 have HN := Lib.hid hn
 have HP := Lib.hid (fun (k : Int) (l : List Tok) (s : Str) (w : World) (hz : base ≤ w.heap.size) (h : Wr w base R l) (hl : l.length ≤ 10000000) => put_str base R l k s w hz h hl)
 clear hv hF h hz hn hn1
 go_enter Tryz.func140, Tryz.ntmps140
 go_wp2_with fail
 go_loopw [16] (fun v wr => ∃ j : Nat, v = .int .i64 j ∧ j ≤ ns.length ∧ Wr wr base R (l ++ itemsT 0 (ns.take j)) ∧ WStep R w wr) (fun v _ => ns.length - (intOf v).toNat)
 case atStart => exact ⟨0, rfl, Nat.zero_le _, by rw [List.take_zero]; show Wr w base R (l ++ []); rw [List.append_nil]; exact H0.out, WStep.refl _ _⟩
 case round =>
  obtain ⟨j, rfl, hj, hw, hb⟩ := hrel
  by_cases hlt : j < ns.length
  ·obtain ⟨g, off, rfl, c0⟩ := str_at HV.out HF.out (H0.out.below HZ.out hb) j hlt
   have hlen : (l ++ itemsT 0 (ns.take j)).length ≤ 9000000 := by rw [List.length_append, itemsT_len, List.length_take]; omega
   have hst := items_step ns j hlt
   obtain ⟨s, hs⟩ : ∃ s, s = ns[j] := ⟨_, rfl⟩
   rw [← hs] at c0 hst
   obtain ⟨L, hL⟩ : ∃ L, L = l ++ itemsT 0 (ns.take j) := ⟨_, rfl⟩
   have hL2 : l ++ itemsT 0 (ns.take (j + 1)) = (L ++ [M (if j = 0 then 91 else 44)]) ++ [S s] := by rw [hst, hL]; simp
   rw [← hL] at hw hlen
   have HL2 := Lib.hid hL2; have HW := Lib.hid hw; have HB := Lib.hid hb; have HLEN := Lib.hid hlen
   have hzr : base ≤ wr.heap.size := Nat.le_trans HZ.out hb.size
   have HZR := Lib.hid hzr
   have HRR := Lib.hid hw.new.1
   have hjn : (j : Int) < n := by rw [HN.out]; omega
   have hlt' := Lib.hid hlt
   clear hw hb hs hL hL2 hlen hst hzr hj
   by_cases hj0 : j = 0
   ·subst hj0
    have HQ := Lib.hid (fun (w : World) => flag_any true w)
    have c0' : wr.cell? ⟨g, off, none⟩ = some (.string ⟨s.toArray⟩) := c0
    clear c0
    go_wp2_with fail
    refine (HQ.out _).mono ?_
    rintro e w5 ⟨rfl, rfl⟩
    go_wp2_with fail
    refine (HP.out 5 L [91] _ (by have := HZR.out; simp; omega) (HW.out.down (ba (Below.refl _ _) _)) (by have := HLEN.out; omega)).mono ?_
    rintro e w6 ⟨rfl, hw6, hb6⟩
    have HW6 := Lib.hid hw6
    have HB6 := Lib.hid (((WStep.refl R wr).down HRR.out (ba (Below.refl _ _) _)).trans hb6)
    clear hw6 hb6 HW HQ
    go_wp2_with fail
    refine (HP.out 4 _ s _ (Nat.le_trans HZR.out HB6.out.size) HW6.out (by have := HLEN.out; simp; omega)).mono ?_
    rintro e w7 ⟨rfl, hw7, hb7⟩
    have HW7 := Lib.hid hw7; have HB7 := Lib.hid (HB6.out.trans hb7)
    clear hw7 hb7 HW6 HB6
    go_wp2_with fail
    go_roundw
    case rel => exact ⟨1, by go_num, hlt'.out, by rw [HL2.out]; exact HW7.out, HB.out.trans HB7.out⟩
    case measure => have := hlt'.out; simp [intOf]; omega
   ·have HQ := Lib.hid (fun (w : World) => flag_any false w)
    have hjq : ((j : Int) == 0) = false := beq_eq_false_iff_ne.2 (by omega)
    rw [if_neg hj0] at HL2
    clear hj0
    go_wp2_with fail
    refine (HQ.out _).mono ?_
    rintro e w5 ⟨rfl, rfl⟩
    go_wp2_with fail
    refine (HP.out 5 L [44] _ (by have := HZR.out; simp; omega) (HW.out.down (ba (Below.refl _ _) _)) (by have := HLEN.out; omega)).mono ?_
    rintro e w6 ⟨rfl, hw6, hb6⟩
    have HW6 := Lib.hid hw6
    have HB6 := Lib.hid (((WStep.refl R wr).down HRR.out (ba (Below.refl _ _) _)).trans hb6)
    clear hw6 hb6 HW HQ
    go_wp2_with fail
    refine (HP.out 4 _ s _ (Nat.le_trans HZR.out HB6.out.size) HW6.out (by have := HLEN.out; simp; omega)).mono ?_
    rintro e w7 ⟨rfl, hw7, hb7⟩
    have HW7 := Lib.hid hw7; have HB7 := Lib.hid (HB6.out.trans hb7)
    clear hw7 hb7 HW6 HB6
    go_wp2_with fail
    go_roundw
    case rel => exact ⟨j + 1, by go_num, hlt'.out, by rw [HL2.out]; exact HW7.out, HB.out.trans HB7.out⟩
    case measure => have := hlt'.out; simp [intOf]; omega
  ·obtain rfl : j = ns.length := by omega
   have hlen : (l ++ itemsT 0 (ns.take ns.length)).length ≤ 9000000 := by rw [List.length_append, itemsT_len, List.length_take]; omega
   have hE : l ++ listT ns = (l ++ itemsT 0 (ns.take ns.length)) ++ [M 93] := by rw [HLT.out, List.take_length]; simp
   have HE := Lib.hid hE; have HW := Lib.hid hw; have HB := Lib.hid hb
   have hjn : (ns.length : Int) = n := by rw [HN.out]
   clear hE hw hb
   go_wp2_with fail
   refine (HP.out 5 _ [93] _ (Nat.le_trans HZ.out HB.out.size) HW.out (by omega)).mono ?_
   rintro e w6 ⟨rfl, hw6, hb6⟩
   have HW6 := Lib.hid hw6; have HB6 := Lib.hid (HB.out.trans hb6)
   clear hw6 hb6
   go_wp2_with fail
   go_returns
   exact ⟨rfl, by rw [HE.out]; exact HW6.out, HB6.out⟩
theorem list_any (base R : Nat) (l : List Tok) (ns : List Str) (v : Value) (F : Dom) (w : World) (hz : base ≤ w.heap.size) (hF : ∀ b, F b → b < base) (hv : SAt cStr w F v ns) (h : Wr w base R l) (hl : l.length + 2 * ns.length ≤ 9000000) :
    Calls Tryz.prog 140 #[.pointer (some ⟨R, 0, none⟩), v] w fun e w' => e = .returned (.tuple #[]) ∧ Wr w' base R (l ++ listT ns) ∧ WStep R w w' := by
 by_cases h1 : ns.length = 1
 ·obtain ⟨s, rfl⟩ := List.length_eq_one_iff.1 h1
  exact list_one base R l s v F w hz hF hv h (by omega)
 ·exact list_more base R l ns v F w hz hF hv h h1 hl
end Go.Proofs.YtmkppkjikifdlaaGreatDoor.Sc
