/-
  DERIVED. 'Match' of glob at the kind Matches: it collects the pieces and asks 'matches'.
-/
import Derived.Test.YtpfbkdbblpppdaaGreatDoorPieces
set_option linter.unusedVariables false
set_option linter.unusedSimpArgs false
namespace Go.Proofs.YtpfbkdbblpppdaaGreatDoor
open Go.RowKit Go.Shelf
attribute [local go_sem] Oper.semAt_some

theorem infoPc : (Tryz.prog.info? 291).map (fun i => (i.zero, i.size, i.bytes)) = some (some (.agg #[.int .u8 0, .bool false, .bool false]), 3, 3) := by kernel_rfl

/-- a piece's box -/
def Boxed3 (W : World) (B : Nat) (p : Pc) : Prop := W.heap[B]? = some (.cells #[.int .u8 (p.c.toNat : Int), .bool p.one, .bool p.many] 291 (0, 0))
theorem Boxed3.lt {W : World} {B : Nat} {p : Pc} (h : Boxed3 W B p) : B < W.heap.size := (Array.getElem?_eq_some_iff.1 h).1
theorem Boxed3.c0 {W : World} {B : Nat} {p : Pc} (h : Boxed3 W B p) : W.cell? ⟨B, 0, none⟩ = some (.int .u8 (p.c.toNat : Int)) := by simp [World.cell?, show W.heap[B]? = _ from h]
theorem Boxed3.c1 {W : World} {B : Nat} {p : Pc} (h : Boxed3 W B p) : W.cell? ⟨B, 1, none⟩ = some (.bool p.one) := by simp [World.cell?, show W.heap[B]? = _ from h]
theorem Boxed3.c2 {W : World} {B : Nat} {p : Pc} (h : Boxed3 W B p) : W.cell? ⟨B, 2, none⟩ = some (.bool p.many) := by simp [World.cell?, show W.heap[B]? = _ from h]

/-- the inner state of the loop -/
def Coll (n₀ B : Nat) (s : ByteArray) (pre : List Pc) (W : World) : Prop :=
  (∃ v, Boxed W B 287 v ∧ W.ownsRow n₀ 291 3 v pre.length (pcells pre)) ∧ Boxed W (B + 1) 9 (.string s)

theorem cell_three_new (w : World) (a b c : Value) (t : TypeId) : ∀ j u, [a, b, c][j]? = some u → (w.alloc (.cells #[a, b, c] t)).cell? ((⟨w.heap.size, 0, none⟩ : Addr).add j) = some u := by
  intro j u hu
  have hh : (w.alloc (.cells #[a, b, c] t)).heap[w.heap.size]? = some (.cells #[a, b, c] t (0, 0)) := World.alloc_heap_new w _
  rw [Addr.add_lit, Nat.zero_add]
  simp only [World.cell?, hh]
  simpa using hu
theorem coll_own (n₀ B : Nat) (s : ByteArray) : Own (Coll n₀ B s) := by
  rintro pre X Y row ⟨h1, h2⟩ hg hr
  obtain ⟨v, a, b, _⟩ := holdsRow_own (β := List Pc) n₀ B 287 291 3 (fun l => l.length) pcells (fun _ _ => True) pre X Y row (by obtain ⟨v, a, b⟩ := h1; exact ⟨v, a, b, trivial⟩) hg hr
  exact ⟨⟨v, a, b⟩, boxed_own (β := Unit) (B + 1) 9 (fun _ => .string s) () X Y row h2 hg hr⟩
theorem boxed3_kept {W W' : World} {B : Nat} {p : Pc} {row : Option Nat} (h : Boxed3 W B p) (hg : W.grownBy W' row) (hr : ∀ r, row = some r → ∃ o : Obj, W.heap[r]? = some o ∧ o.isCells = false) : Boxed3 W' B p := by
  refine (hg.block B h.lt fun e => ?_).trans h
  obtain ⟨o, ho, hc⟩ := hr B e.symm
  rw [show W.heap[B]? = _ from h] at ho; cases ho; cases hc

set_option maxRecDepth 100000 in
set_option maxHeartbeats 4000000 in
theorem match3_in (n : Nat) (hn : 5 ≤ n) (s p : ByteArray) (w : World) (hs : s.size ≤ 2000) (hp : p.size ≤ 100) :
    CallsIn Fence.wide n Tryz.prog 173 #[.int .i64 3, .string s, .string p] w fun e w' => e = .returned (.tuple #[.bool (mt (pcs (foldL p.data.toList)) (foldL s.data.toList)), .int .i64 0]) ∧ Below w.heap.size w w' := by
  have h1 : 1 ≤ n := by omega
  obtain ⟨i0, hi, hz0, hz1, hz2⟩ := info_parts infoPc
  have hI := Lib.hid hi; have hZ0 := Lib.hid hz0; have hZ1 := Lib.hid hz1; have hZ2 := Lib.hid hz2
  clear hi hz0 hz1 hz2
  have hd1 : decide ((2000 : Int) < (s.size : Int)) = false := by simp; omega
  have hd2 : decide ((100 : Int) < (p.size : Int)) = false := by simp; omega
  refine callsIn_of_wp_marks Tryz.func173 rfl trivial ?_ rfl
  simp only [Tryz.ntmps173, List.size_toArray, List.length_cons, List.length_nil, Nat.reduceAdd, Nat.reduceSub, Array.replicate_succ, Array.replicate_zero, List.push_toArray, List.append_toArray, List.nil_append, List.cons_append]
  gi_wp2_with fail
  refine ⟨trivial, (callsIn_wide.2 (fold_any s _ (by omega))).mono ?_⟩
  rintro e w1 ⟨rfl, hb1⟩
  obtain ⟨a, ha⟩ : ∃ a : ByteArray, a = ⟨(foldL s.data.toList).toArray⟩ := ⟨_, rfl⟩
  have haS : a.data.toList = foldL s.data.toList := by rw [ha]
  rw [← ha]
  have hal : a.size ≤ 2000 := by have := foldL_length s.data.toList; rw [ha]; show (foldL s.data.toList).length ≤ 2000; rw [this]; simpa using hs
  have HA := Lib.hid haS
  clear ha haS
  gi_wp2_with fail
  refine ⟨trivial, (callsIn_wide.2 (fold_any p _ (by omega))).mono ?_⟩
  rintro e w2 ⟨rfl, hb2'⟩
  obtain ⟨b, hb⟩ : ∃ b : ByteArray, b = ⟨(foldL p.data.toList).toArray⟩ := ⟨_, rfl⟩
  have hbS : b.data.toList = foldL p.data.toList := by rw [hb]
  rw [← hb]
  have hbl : b.size ≤ 100 := by have := foldL_length p.data.toList; rw [hb]; show (foldL p.data.toList).length ≤ 100; rw [this]; simpa using hp
  have HB := Lib.hid hbS
  clear hb hbS
  have hb2 : Below w.heap.size w w2 := hb1.trans (hb2'.mono hb1.size)
  clear hb1 hb2'
  gi_wp2_with fail
  refine ⟨trivial, (pieces_in (n - 1) b _).mono ?_⟩
  rintro e w3 ⟨rfl, rfl⟩
  gi_wp2_with fail
  clear hd1 hd2
  have bO := (Boxed.new w2 287 (.slice none 0 0)).alloc (.cells #[.string b] 9)
  have bN := Boxed.new (w2.alloc (.cells #[.slice none 0 0] 287)) 9 (.string b)
  rw [World.size_alloc] at bN
  have hB0 : Below w.heap.size w ((w2.alloc (.cells #[.slice none 0 0] 287)).alloc (.cells #[.string b] 9)) := (hb2.alloc hb2.size _).alloc (by have := hb2.size; simp; omega) _
  have hsz0 : ((w2.alloc (.cells #[.slice none 0 0] 287)).alloc (.cells #[.string b] 9)).heap.size = w2.heap.size + 2 := by simp
  obtain ⟨W0, hW0⟩ : ∃ W0, (w2.alloc (.cells #[.slice none 0 0] 287)).alloc (.cells #[.string b] 9) = W0 := ⟨_, rfl⟩
  rw [hW0] at bO bN hB0 hsz0 ⊢
  clear hW0
  have hw2 : w.heap.size ≤ w2.heap.size := hb2.size
  clear hb2
  have HSZ := Lib.hid hsz0
  have hsz1 : w2.heap.size + 2 ≤ W0.heap.size := by omega
  clear hsz0
  refine wpIn_rangeFunc_ownH rfl h1 (gf := 227) (lb := #[.pointer (some ⟨w2.heap.size + 1, 0, none⟩)]) rfl trivial (enters_of Tryz.func227 (by kernel_rfl) rfl)
    (pieces_stops (n - 1) (by omega) (w2.heap.size + 1) b (by omega) W0 (by omega) bN.cell) KeepsCell.trans (fun W l o o' hl h h2 h3 => KeepsCell.put (w := W0) (by omega) W l o o' hl h h2 h3) (Below.refl _ _) (fun _ => rfl)
    (fun pre W => Coll w.heap.size w2.heap.size b pre W ∧ Below w.heap.size w W)
    (fun _ _ _ => False)
    ?hI
    (fun _ _ _ _ _ hs _ _ => hs)
    ⟨⟨⟨_, bO, World.ownsRow_nil _ _ _ _⟩, bN⟩, hB0⟩
    (fun x a' W => ∃ Bx, w2.heap.size + 1 < Bx ∧ Boxed3 W Bx x ∧ a' = { tmps := #[.int .i64 3, .string s, .string p, undef, undef, undef, .bool false, .int .i64 0, .string a, .string b, .pointer (some ⟨w2.heap.size, 0, none⟩), .pointer (some ⟨Bx, 0, none⟩), .int .i64 3, .bool false, .bool false, .int .i64 3, .bool false, .bool false, .string s, .int .i64 s.size, .bool false, .bool false, .string p, .int .i64 p.size, .bool false, .bool false, .string s, .string a, .string p, .string b, .int .i64 3, .bool false, .bool false, undef, undef, undef, .bool false, .bool false, undef, undef, undef, .string b, .func (.func 227) #[] #[.pointer (some ⟨w2.heap.size + 1, 0, none⟩)], pcVal x, undef, undef, undef, undef, undef, undef, undef], defers := [] })
    ?hAx ?assign ?body ?done ?stop
  case hI => exact OwnFrom.and (Own.from (coll_own _ _ _) _) (ownFrom_below (Nat.le_refl _) (by omega))
  case hAx =>
    rintro x a' s A B row ⟨Bx, h1, h2, h3⟩ hg hr
    exact ⟨Bx, h1, boxed3_kept h2 hg (fun r e => (hr r e).2), h3⟩
  case assign =>
    rintro l pre x W K ⟨⟨⟨v, hv, hrow⟩, hbs⟩, hB⟩ hK
    simp only [pcVal]
    have hbl := hbs.lt
    have hKC : KeepsCell (w2.heap.size + 1) W (W.alloc (.cells #[.int .u8 (x.c.toNat : Int), .bool x.one, .bool x.many] 291)) := KeepsCell.of_grown (World.grownBy_alloc _ _ _) hbs.cell
    gi_wp2
    exact hK _ _ ((KeepsOthers.alloc _ _).from _) hKC ⟨⟨⟨v, hv.alloc _, hrow.alloc _⟩, hbs.alloc _⟩, hB.alloc hB.size _⟩ ⟨W.heap.size, hbl, World.alloc_heap_new W _, rfl⟩
  case body =>
    rintro l pre x a' W hl hrr ⟨⟨⟨v, hv, hrow⟩, hbs⟩, hB⟩ ⟨Bx, hBx, hx3, rfl⟩ hlt
    have hpl : pre.length < 100 := Nat.lt_of_lt_of_le hlt (Nat.le_trans (pcs_length _) (by simpa using hbl))
    have hc := hv.cell
    have hxc0 := hx3.c0
    have hxc1 := hx3.c1
    have hxc2 := hx3.c2
    simp only [pcVal]
    gi_wp2_with (gi_at_builtin; refine wpListIn_append_own _ rfl _ _ 287 rfl w.heap.size 291 i0 (.agg #[.int .u8 0, .bool false, .bool false]) 3 3 Tryz.underlying287 hI.out hZ0.out hZ1.out hZ2.out rfl (by decide) _ _ _ rfl (hrow.alloc _) ⟨W.heap.size, 0, none⟩ 1 1 [.int .u8 (x.c.toNat : Int), .bool x.one, .bool x.many] rfl rfl (cell_three_new _ _ _ _ _) (by simp [Value.oneCell']) (by unfold maxLen; omega) (by omega) (by have := hB.size; simp; omega) ?_; intro v' w1 hown' hgrow _; obtain ⟨g', cap', rfl⟩ := ownsRow_succ hown'; obtain ⟨hv1, hv2, hr2, hk2, hb2⟩ := hv.appended (by decide) hrow hB.size hw2 hown' hgrow; have hc1 := hv1.cell; have hf1 := hv1.frozen)
    have hbs2 : Boxed (w1.setCell ⟨w2.heap.size, 0, none⟩ (.slice (some ⟨g', 0, none⟩) (pre.length + 1) cap')) (w2.heap.size + 1) 9 (.string b) :=
      ((hbs.alloc _).kept hgrow (hbs.not_row (by decide) hrow)).kept (grownBy_setCell' _ _ _) (by simp)
    exact ⟨hk2.from _, ⟨hbs2.cell.trans hbs.cell.symm, hb2.size⟩, ⟨⟨_, hv2, by rw [List.length_append, pcells_append]; exact hr2⟩, hbs2⟩, hB.trans hb2⟩
  case done =>
    rintro D ys W hD rfl ⟨⟨⟨v, hv, hrow⟩, hbs⟩, hB⟩ hK
    have hc := hv.cell
    have hpl : (pcs b.data.toList).length ≤ 100 := Nat.le_trans (pcs_length _) (by simpa using hbl)
    gi_wp2_with fail
    refine ⟨trivial, (callsIn_wide.2 (matches_own hrow a (by omega) (by omega))).mono ?_⟩
    rintro e w4 ⟨rfl, m, rfl⟩
    gi_wp2
    have hK2 : (W.drewN m).heap[D]? = some (.deferred (some [])) := hK
    refine ⟨by simp, .inl ⟨_, _, rfl, run_takeDeferred hK2, ?_⟩⟩
    refine ⟨_, results_tmp2 rfl _ _ _, ?_, (below_drewN hB m).trans (belowK_b (w := w) (Nat.le_refl _) (W.drewN m) D _ _ (by omega) hK2 rfl rfl)⟩
    rw [← HA.out, ← HB.out]; rfl
  case stop =>
    rintro D c pre W _ _ h _
    exact h.elim
end Go.Proofs.YtpfbkdbblpppdaaGreatDoor
