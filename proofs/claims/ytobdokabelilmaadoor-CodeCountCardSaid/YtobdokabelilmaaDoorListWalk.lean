/-
  DERIVED. 'List' of who: the walk.
-/
import Derived.Test.YtobdokabelilmaaDoorList
import Derived.Deep.AppendLies
import Derived.Deep.RegionLaw
import Derived.Deep.RegionHeld3
import Derived.Deep.DeepCutAuto
import Derived.Deep.CutBlock
namespace Go.Proofs.YtobdokabelilmaaDoor
open Go.RowKit

/-- 'the named results' -/
def ResAt (w : World) (R : Nat) (v : Value) (c : Int) : Prop := w.cell? ⟨R, 0, none⟩ = some v ∧ w.cell? ⟨R + 1, 0, none⟩ = some (.int .i64 c) ∧ w.frozen? ⟨R, 0, none⟩ = false ∧ w.frozen? ⟨R + 1, 0, none⟩ = false
/-- what List answers -/
def ListSays (B : Nat) (w' : World) (e : Ending) (r : Option (List (List UInt8 × List UInt8))) : Prop :=
  (r = none ∧ e = .returned (.tuple #[.slice none 0 0, .int .i64 3])) ∨
  (∃ ys, r = some ys ∧ 20 < ys.length ∧ e = .returned (.tuple #[.slice none 0 0, .int .i64 5])) ∨
  (∃ ys v, r = some ys ∧ ys.length ≤ 20 ∧ e = .returned (.tuple #[v, .int .i64 0]) ∧ w'.ownsRow B 139 2 v ys.length (acells ys))

theorem turned_below {w wr w1 w2 : World} {R : Nat} (hb : Below w.heap.size w wr) (g : wr.drew.grownBy w1 (some (R + 2))) (t : Turned w1 w2 R (R + 1)) (hR : R = w.heap.size) : Below w.heap.size w w2 :=
  ⟨t.1.trans (g.os.trans hb.os), t.2.1.trans (g.tape.trans hb.tape), t.2.2.1.trans (g.output.trans hb.output), Nat.le_trans hb.size (Nat.le_trans g.size t.2.2.2.1),
    fun k hk => (t.2.2.2.2 k (by omega) (by omega)).trans ((g.block k (Nat.lt_of_lt_of_le hk hb.size) (by intro e; have := Option.some.inj e; omega)).trans (hb.block k hk))⟩
theorem turned_below2 {w w1 w2 : World} {R : Nat} (hb : Below w.heap.size w w1) (t : Turned w1 w2 R (R + 1)) (hR : R = w.heap.size) : Below w.heap.size w w2 :=
  ⟨t.1.trans hb.os, t.2.1.trans hb.tape, t.2.2.1.trans hb.output, Nat.le_trans hb.size t.2.2.2.1, fun k hk => (t.2.2.2.2 k (by omega) (by omega)).trans (hb.block k hk)⟩
theorem own_base {w : World} {base base' e size n : Nat} {v : Value} {l : List Value} (hb : base' ≤ base) (h : w.ownsRow base e size v n l) : w.ownsRow base' e size v n l := by
  refine ⟨h.1, ?_⟩
  rcases h.2 with h | ⟨g, cap, cur, h1, h2, h3⟩
  · exact .inl h
  · exact .inr ⟨g, cap, cur, h1, Nat.le_trans hb h2, h3⟩
theorem ResAt.below {w w' : World} {R : Nat} {v : Value} {c : Int} (h : ResAt w R v c) (hb : Below w.heap.size w w') : ResAt w' R v c :=
  ⟨moved h.1 hb (Nat.le_refl _), moved h.2.1 hb (Nat.le_refl _), (hb.frozen (p := ⟨R, 0, none⟩) (World.block_lt_of_cell? _ _ h.1)).trans h.2.2.1, (hb.frozen (p := ⟨R + 1, 0, none⟩) (World.block_lt_of_cell? _ _ h.2.1)).trans h.2.2.2⟩
theorem own_down {w w' : World} {base e size n : Nat} {v : Value} {l : List Value} (h : w.ownsRow base e size v n l) (hb : Below w.heap.size w w') : w'.ownsRow base e size v n l :=
  h.kept (row := none) ⟨hb.os, hb.tape, hb.output, hb.size, fun k hk _ => hb.block k hk⟩ (by cases hv : v.ownBlock <;> simp)
theorem map_join {α : Type} (o : Option (List α)) (acc : List α) (a : α) : ((o.map (a :: ·)).map (acc ++ ·)) = o.map ((acc ++ [a]) ++ ·) := by
  cases o <;> simp
theorem own_grown {w w' : World} {base e size n b : Nat} {v : Value} {l : List Value} (h : w.ownsRow base e size v n l) (hg : w.grownBy w' (some b)) (hb : b < base) : w'.ownsRow base e size v n l :=
  h.kept hg (by
    cases hv : v.ownBlock with
    | none => exact .inl rfl
    | some k => exact .inr (by intro e; have := (h.lt k hv).1; have := Option.some.inj e; omega))

theorem ResAt.kept {w w' : World} {R : Nat} {v : Value} {c : Int} (h : ResAt w R v c) (g : w.grownBy w' (some (R + 2))) : ResAt w' R v c :=
  ⟨cell_kept h.1 g (by omega), cell_kept h.2.1 g (by omega), (World.frozen?_of_block (w := w) (a := ⟨R, 0, none⟩) (block_kept g (by show R ≠ R + 2; omega) (World.block_lt_of_cell? _ _ h.1))).trans h.2.2.1, (World.frozen?_of_block (w := w) (a := ⟨R + 1, 0, none⟩) (block_kept g (by show R + 1 ≠ R + 2; omega) (World.block_lt_of_cell? _ _ h.2.1))).trans h.2.2.2⟩
theorem below_grown {w wr w1 : World} {b : Nat} (hb : Below w.heap.size w wr) (g : wr.grownBy w1 (some b)) (hR : w.heap.size ≤ b) : Below w.heap.size w w1 :=
  ⟨g.os.trans hb.os, g.tape.trans hb.tape, g.output.trans hb.output, Nat.le_trans hb.size g.size, fun k hk => (g.block k (Nat.lt_of_lt_of_le hk hb.size) (by intro e; have := Option.some.inj e; omega)).trans (hb.block k hk)⟩
theorem list_round {w wr w1 w3 : World} {R n : Nat} {s : ByteArray} {r : List UInt8} {o : Obj} {v V : Value} {L : List Value} (hbel : Below w.heap.size w wr) (hR : R = w.heap.size) (g1 : wr.drew.grownBy w1 (some (R + 2))) (hs1 : R + 3 ≤ w1.heap.size)
    (h1 : RdrL w1 (R + 2) s r) (q1 : w1.cell? ⟨R + 1, 0, none⟩ = some (.int .i64 0)) (p1 : w1.frozen? ⟨R + 1, 0, none⟩ = false) (a0 : w3.cell? ⟨R, 0, none⟩ = some v) (b0 : w3.frozen? ⟨R, 0, none⟩ = false)
    (hgrow : (w1.alloc o).grownBy w3 v.ownBlock) (hvne : ∀ k, k < R + 3 → some k ≠ v.ownBlock) (hown3 : w3.ownsRow (R + 3) 139 2 V n L) :
    RdrL (w3.setCell ⟨R, 0, none⟩ V) (R + 2) s r ∧ ResAt (w3.setCell ⟨R, 0, none⟩ V) R V 0 ∧ (w3.setCell ⟨R, 0, none⟩ V).ownsRow (R + 3) 139 2 V n L ∧ Below w.heap.size w (w3.setCell ⟨R, 0, none⟩ V) ∧ R + 3 ≤ (w3.setCell ⟨R, 0, none⟩ V).heap.size := by
  have hsz3 : R + 3 ≤ w3.heap.size := by have := hgrow.size; simp at this; omega
  have hk : ∀ k, k < R + 3 → w3.heap[k]? = w1.heap[k]? := fun k hk =>
    (hgrow.block k (by simp; omega) (hvne k hk)).trans ((ba (Below.refl _ w1) o).block k (by omega))
  have hsz4 : (w3.setCell ⟨R, 0, none⟩ V).heap.size = w3.heap.size := by simp [World.setCell]
  refine ⟨?_, ⟨World.cell?_setCell_same _ _ _ a0, ?_, (World.frozen?_setCell ..).trans b0, ?_⟩, own_grown hown3 (Go.Lib.grownBy_setB (World.grownBy.refl w3 (some R)) 0 V) (by omega), ?_, by omega⟩
  · obtain ⟨n, hr, c0, c1, f1, hl⟩ := h1
    have hrd : Rdr w3 (R + 2) s n := ⟨(World.cell?_of_block (w := w1) (a := ⟨R + 2, 0, none⟩) (hk (R + 2) (by omega))).trans c0, (World.cell?_of_block (w := w1) (a := ⟨R + 2, 1, none⟩) (hk (R + 2) (by omega))).trans c1, (World.frozen?_of_block (w := w1) (a := ⟨R + 2, 1, none⟩) (hk (R + 2) (by omega))).trans f1, by omega⟩
    exact ⟨n, hr, hrd.else0 (by omega) 0 V⟩
  · exact (World.cell?_setCell_other _ _ _ _ (by intro e; have := congrArg Addr.block e; simp at this)).trans ((World.cell?_of_block (w := w1) (a := ⟨R + 1, 0, none⟩) (hk (R + 1) (by omega))).trans q1)
  · exact (World.frozen?_setCell ..).trans ((World.frozen?_of_block (w := w1) (a := ⟨R + 1, 0, none⟩) (hk (R + 1) (by omega))).trans p1)
  · have hb1 : Below w.heap.size w w1 := below_grown (wr := wr.drew) ⟨hbel.os, hbel.tape, hbel.output, hbel.size, hbel.block⟩ g1 (by omega)
    have hb3 : Below w.heap.size w w3 := ⟨hgrow.os.trans hb1.os, hgrow.tape.trans hb1.tape, hgrow.output.trans hb1.output, Nat.le_trans hb1.size (by have := hgrow.size; simp at this; omega), fun k hk' => (hk k (by omega)).trans (hb1.block k hk')⟩
    exact hb3.setCell (by show w.heap.size ≤ R; omega) V

theorem res_set {w wr : World} {R : Nat} {a c : Value} (hbel : Below w.heap.size w wr) (hR : w.heap.size ≤ R) (z0 : wr.cell? ⟨R, 0, none⟩ = some a) (z1 : wr.cell? ⟨R + 1, 0, none⟩ = some c) (v c' : Value) :
    ((wr.setCell ⟨R, 0, none⟩ v).setCell ⟨R + 1, 0, none⟩ c').cell? ⟨R, 0, none⟩ = some v ∧ ((wr.setCell ⟨R, 0, none⟩ v).setCell ⟨R + 1, 0, none⟩ c').cell? ⟨R + 1, 0, none⟩ = some c' ∧ Below w.heap.size w ((wr.setCell ⟨R, 0, none⟩ v).setCell ⟨R + 1, 0, none⟩ c') := by
  have n1 : (⟨R, 0, none⟩ : Addr) ≠ ⟨R + 1, 0, none⟩ := by intro e; have := congrArg Addr.block e; simp at this
  have n2 : (⟨R + 1, 0, none⟩ : Addr) ≠ ⟨R, 0, none⟩ := Ne.symm n1
  refine ⟨(World.cell?_setCell_other _ _ _ _ n2).trans (World.cell?_setCell_same _ _ _ z0), World.cell?_setCell_same _ _ _ ((World.cell?_setCell_other _ _ _ _ n1).trans z1), (hbel.setCell (by show w.heap.size ≤ R; exact hR) v).setCell (by show w.heap.size ≤ R + 1; omega) c'⟩

set_option maxHeartbeats 8000000 in
set_option maxRecDepth 20000 in
theorem list_any (s : ByteArray) (m : Int) (w : World) (hs : s.size ≤ 2000) (hm : w.cell? ⟨6, 0, none⟩ = some (.int .i64 m)) :
    Calls Tryd.prog 78 #[.string s] w fun e w' => ListSays w.heap.size w' e (listL s.data.toList) ∧ Below w.heap.size w w' := by
  have hmf : ∀ (fn : Fn) (first cap : Array Value) (w : World), (Instr.makeFunc fn first cap).run Tryd.prog w = .ok (.func fn first cap) w := fun _ _ _ _ => rfl
  obtain ⟨l, hl⟩ : ∃ l, l = s.data.toList := ⟨_, rfl⟩
  have hll : l.length = s.size := by rw [hl]; simp
  obtain ⟨R, hR⟩ : ∃ R, R = w.heap.size := ⟨_, rfl⟩
  have hg0 : 6 < R := by rw [hR]; exact World.block_lt_of_cell? _ _ hm
  have HA : Hid (∀ l w, w.cell? ⟨6, 0, none⟩ = some (.int .i64 m) → RdrL w (R + 2) s l → Calls Tryd.prog 83 #[.pointer (some ⟨R + 2, 0, none⟩)] w fun e w' => (∃ x y r, addrL' true l = some ((x, y), r) ∧ e = .returned (.agg #[.string ⟨x.toArray⟩, .string ⟨y.toArray⟩]) ∧ RdrL w' (R + 2) s r ∧ w.grownBy w' (some (R + 2))) ∨ (addrL' true l = none ∧ Out (R + 2) w e w')) := fun l w h1 h2 => address_read (R + 2) s l m w (by omega) (by omega) h1 h2
  have HS : Hid (∀ l w, RdrL w (R + 2) s l → Calls Tryd.prog 84 #[.pointer (some ⟨R + 2, 0, none⟩)] w fun e w' => e = .returned (.tuple #[]) ∧ RdrL w' (R + 2) s (skipL l) ∧ w.grownBy w' (some (R + 2))) := fun l w h => skip_any (R + 2) s l w (by omega) h
  have HN : Hid (∀ n l w, Rest s n l → Rdr w (R + 2) s n → Calls Tryd.prog 86 #[.pointer (some ⟨R + 2, 0, none⟩)] w fun e w' => e = .returned (.int .u8 ((nextL l).toNat : Int)) ∧ Below w.heap.size w w') := fun n l w h1 h2 => next_any (R + 2) n s l w (by omega) h1 h2
  have hrest : Rest s 0 l := by rw [hl]; exact Rest.start s
  rw [← hl]
  obtain ⟨W0, hW0⟩ : ∃ W0, W0 = ((w.alloc (.cells #[.slice none 0 0] 127)).alloc (.cells #[.int .i64 0] 30)).alloc (.cells #[.string s, .int .i64 0] 137) := ⟨_, rfl⟩
  have hB0 : Below w.heap.size w W0 := by rw [hW0]; exact ba (ba (ba (Below.refl _ w) _) _) _
  have hS0 : W0.heap.size = R + 3 := by rw [hW0, hR]; simp
  have hC0 : W0.heap[R]? = some (.cells #[.slice none 0 0] 127 (0, 0)) := by
    have h1 : (w.alloc (.cells #[.slice none 0 0] 127 (0, 0))).heap[w.heap.size]? = some (.cells #[.slice none 0 0] 127 (0, 0)) := heap_alloc_new w _
    have hb : Below (w.alloc (.cells #[.slice none 0 0] 127)).heap.size (w.alloc (.cells #[.slice none 0 0] 127)) W0 := by rw [hW0]; exact ba (ba (Below.refl _ _) _) _
    rw [hR, hb.block w.heap.size (by simp)]; exact h1
  have hC1 : W0.heap[R + 1]? = some (.cells #[.int .i64 0] 30 (0, 0)) := by
    have h1 : ((w.alloc (.cells #[.slice none 0 0] 127)).alloc (.cells #[.int .i64 0] 30 (0, 0))).heap[(w.alloc (.cells #[.slice none 0 0] 127)).heap.size]? = some (.cells #[.int .i64 0] 30 (0, 0)) := heap_alloc_new _ _
    have hb : Below ((w.alloc (.cells #[.slice none 0 0] 127)).alloc (.cells #[.int .i64 0] 30)).heap.size ((w.alloc (.cells #[.slice none 0 0] 127)).alloc (.cells #[.int .i64 0] 30)) W0 := by rw [hW0]; exact ba (Below.refl _ _) _
    rw [show (w.alloc (.cells #[.slice none 0 0] 127)).heap.size = w.heap.size + 1 by simp] at h1
    rw [hR, hb.block (w.heap.size + 1) (by simp)]; exact h1
  have hC2 : W0.heap[R + 2]? = some (.cells #[.string s, .int .i64 0] 137 (0, 0)) := by
    have h1 : W0.heap[((w.alloc (.cells #[.slice none 0 0] 127)).alloc (.cells #[.int .i64 0] 30)).heap.size]? = some (.cells #[.string s, .int .i64 0] 137 (0, 0)) := by rw [hW0]; exact heap_alloc_new _ _
    rw [show ((w.alloc (.cells #[.slice none 0 0] 127)).alloc (.cells #[.int .i64 0] 30)).heap.size = w.heap.size + 2 by simp] at h1
    rw [hR]; exact h1
  have hRes0 : ResAt W0 R (.slice none 0 0) 0 := by
    refine ⟨?_, ?_, ?_, ?_⟩
    · simp only [World.cell?, hC0]; rfl
    · simp only [World.cell?, hC1]; rfl
    · simp only [World.frozen?, hC0]; simp
    · simp only [World.frozen?, hC1]; simp
  have hRd0 : RdrL W0 (R + 2) s l := by
    refine ⟨0, hrest, ?_, ?_, ?_, by omega⟩
    · simp only [World.cell?, hC2]; rfl
    · simp only [World.cell?, hC2]; rfl
    · simp only [World.frozen?, hC2]; simp
  have HR := Lib.hid hR; have HW := Lib.hid hW0; have HM := Lib.hid hm
  clear hl hC0 hC1 hC2 hW0 hm hrest hR
  go_enter_defers Tryd.func78, Tryd.ntmps78
  go_wp2_with fail
  rw [show ((w.alloc (.cells #[.slice none 0 0] 127)).alloc (.cells #[.int .i64 0] 30)).alloc (.cells #[.string s, .int .i64 0] 137) = W0 from HW.out.symm, show w.heap.size = R from HR.out.symm]
  go_loopw [12] (fun _ wr => ∃ (acc : List (List UInt8 × List UInt8)) (l' : List UInt8) (v : Value), RdrL wr (R + 2) s l' ∧ ResAt wr R v 0 ∧ wr.ownsRow (R + 3) 139 2 v acc.length (acells acc) ∧ acc.length + l'.length ≤ s.size ∧ Hid (listL l = (listL l').map (acc ++ ·)) ∧ Below w.heap.size w wr ∧ R + 3 ≤ wr.heap.size) (fun _ wr => s.size - posAt wr (R + 2))
  case atStart => exact ⟨[], l, .slice none 0 0, hRd0, hRes0, World.ownsRow_nil _ _ _ _, by simp; omega, by unfold Hid; simp, hB0, by omega⟩
  case round =>
    clear hRd0 hRes0
    obtain ⟨acc, l', v, hrl, hres, hown, hlen, heq, hbel, hsz⟩ := hrel
    have hmr := Lib.hid (moved HM.out hbel (Nat.le_refl _))
    go_wp2_with fail
    cases hadr : addrL' true l' with
    | none =>
      have hfin : Hid (listL l = none) := by unfold Hid; rw [heq.out, list_none hadr]; rfl
      obtain ⟨r0, r1, fr0, fr1⟩ := hres
      have hbd := Below.drew (Below.refl wr.heap.size wr)
      refine wp_region_any (by kernel_rfl) ?_
      try (change wpAny _ _ _ _ _ _ _ (World.drew _))
      refine wpAny_ready (rs := [0, 1]) (by kernel_rfl) (by simp) ?_
      refine AllReady.cons rfl (fun K hK => ?_) (AllReady.cons rfl (fun K hK => ?_) AllReady.nil)
      · go_simp
        refine hK _ _ ?_
        clear hK K
        refine wpAny_ready (rs := [1]) (by kernel_rfl) (by simp) ?_
        refine AllReady.cons rfl (fun K hK => ?_) AllReady.nil
        go_simp
        refine hK _ _ ?_
        clear hK K
        refine wpAny_ready (rs := [2]) (by kernel_rfl) (by simp) ?_
        refine AllReady.cons rfl (fun K hK => ?_) AllReady.nil
        go_simp
        go_at_call 83
        refine (HA.out l' _ (moved hmr.out hbd (Nat.le_refl _)) (hrl.below hbd)).mono ?_
        rintro e w1 (⟨x, y, r, hx, _⟩ | ⟨_, rfl, g1⟩)
        · rw [hadr] at hx; cases hx
        · have q0 := cell_kept (w := wr.drew) r0 g1 (by omega)
          have q1 := cell_kept (w := wr.drew) r1 g1 (by omega)
          have p0 : w1.frozen? ⟨R, 0, none⟩ = false := (World.frozen?_of_block (w := wr.drew) (a := ⟨R, 0, none⟩) (block_kept g1 (by show R ≠ R + 2; omega) (World.block_lt_of_cell? _ _ r0))).trans fr0
          have p1 : w1.frozen? ⟨R + 1, 0, none⟩ = false := (World.frozen?_of_block (w := wr.drew) (a := ⟨R + 1, 0, none⟩) (block_kept g1 (by show R + 1 ≠ R + 2; omega) (World.block_lt_of_cell? _ _ r1))).trans fr1
          go_wp2_with fail
          refine leaves_cons (f := 82) (args := #[.pointer (some ⟨R, 0, none⟩), .pointer (some ⟨R + 1, 0, none⟩)]) (by simp) (by simp [go_sem]) ?_
          refine (catch_panicking R (R + 1) v (.int .i64 0) [] w1 q0 q1 p0 p1 (by omega)).mono ?_
          rintro e u' w2 ⟨rfl, rfl, z0, z1, ht⟩
          simp [Leaves, settle, results, Tryd.results78, go_sem, z0, z1]
          exact ⟨.inl ⟨hfin.out, rfl⟩, turned_below hbel g1 ht HR.out⟩
      · go_simp
        refine hK _ _ ?_
        clear hK K
        refine wpAny_ready (rs := [0, 2]) (by kernel_rfl) (by simp) ?_
        refine AllReady.cons rfl (fun K hK => ?_) (AllReady.cons rfl (fun K hK => ?_) AllReady.nil)
        · go_simp
          refine hK _ _ ?_
          clear hK K
          refine wpAny_ready (rs := [2]) (by kernel_rfl) (by simp) ?_
          refine AllReady.cons rfl (fun K hK => ?_) AllReady.nil
          go_simp
          go_at_call 83
          refine (HA.out l' _ (moved hmr.out hbd (Nat.le_refl _)) (hrl.below hbd)).mono ?_
          rintro e w1 (⟨x, y, r, hx, _⟩ | ⟨_, rfl, g1⟩)
          · rw [hadr] at hx; cases hx
          · have q0 := cell_kept (w := wr.drew) r0 g1 (by omega)
            have q1 := cell_kept (w := wr.drew) r1 g1 (by omega)
            have p0 : w1.frozen? ⟨R, 0, none⟩ = false := (World.frozen?_of_block (w := wr.drew) (a := ⟨R, 0, none⟩) (block_kept g1 (by show R ≠ R + 2; omega) (World.block_lt_of_cell? _ _ r0))).trans fr0
            have p1 : w1.frozen? ⟨R + 1, 0, none⟩ = false := (World.frozen?_of_block (w := wr.drew) (a := ⟨R + 1, 0, none⟩) (block_kept g1 (by show R + 1 ≠ R + 2; omega) (World.block_lt_of_cell? _ _ r1))).trans fr1
            go_wp2_with fail
            refine leaves_cons (f := 82) (args := #[.pointer (some ⟨R, 0, none⟩), .pointer (some ⟨R + 1, 0, none⟩)]) (by simp) (by simp [go_sem]) ?_
            refine (catch_panicking R (R + 1) v (.int .i64 0) [] w1 q0 q1 p0 p1 (by omega)).mono ?_
            rintro e u' w2 ⟨rfl, rfl, z0, z1, ht⟩
            simp [Leaves, settle, results, Tryd.results78, go_sem, z0, z1]
            exact ⟨.inl ⟨hfin.out, rfl⟩, turned_below hbel g1 ht HR.out⟩
        · go_simp
          go_at_call 83
          refine (HA.out l' _ (moved hmr.out hbd (Nat.le_refl _)) (hrl.below hbd)).mono ?_
          rintro e w1 (⟨x, y, r, hx, _⟩ | ⟨_, rfl, g1⟩)
          · rw [hadr] at hx; cases hx
          · have q0 := cell_kept (w := wr.drew) r0 g1 (by omega)
            have q1 := cell_kept (w := wr.drew) r1 g1 (by omega)
            have p0 : w1.frozen? ⟨R, 0, none⟩ = false := (World.frozen?_of_block (w := wr.drew) (a := ⟨R, 0, none⟩) (block_kept g1 (by show R ≠ R + 2; omega) (World.block_lt_of_cell? _ _ r0))).trans fr0
            have p1 : w1.frozen? ⟨R + 1, 0, none⟩ = false := (World.frozen?_of_block (w := wr.drew) (a := ⟨R + 1, 0, none⟩) (block_kept g1 (by show R + 1 ≠ R + 2; omega) (World.block_lt_of_cell? _ _ r1))).trans fr1
            go_wp2_with fail
            refine leaves_cons (f := 82) (args := #[.pointer (some ⟨R, 0, none⟩), .pointer (some ⟨R + 1, 0, none⟩)]) (by simp) (by simp [go_sem]) ?_
            refine (catch_panicking R (R + 1) v (.int .i64 0) [] w1 q0 q1 p0 p1 (by omega)).mono ?_
            rintro e u' w2 ⟨rfl, rfl, z0, z1, ht⟩
            simp [Leaves, settle, results, Tryd.results78, go_sem, z0, z1]
            exact ⟨.inl ⟨hfin.out, rfl⟩, turned_below hbel g1 ht HR.out⟩
    | some xr =>
      obtain ⟨⟨x, y⟩, r⟩ := xr
      have hrl2 := addr_len hadr
      obtain ⟨i0, hi, hz0, hz1, hz2⟩ := info_parts infoAddr
      have hvne : ∀ k, k < R + 3 → some k ≠ v.ownBlock := by
        intro k hk e
        have := (hown.lt k e.symm).1
        omega
      have hal : acc.length ≤ 2000 := by omega
      obtain ⟨r0, r1, fr0, fr1⟩ := hres
      have hbd := Below.drew (Below.refl wr.heap.size wr)
      obtain ⟨X, hX⟩ : ∃ X : ByteArray, X = ⟨x.toArray⟩ := ⟨_, rfl⟩
      obtain ⟨Y, hY⟩ : ∃ Y : ByteArray, Y = ⟨y.toArray⟩ := ⟨_, rfl⟩
      have hsnoc : Hid (acells acc ++ [.string X, .string Y] = acells (acc ++ [(x, y)])) := by unfold Hid; rw [acells_snoc, hX, hY]
      have hcall : Hid (Calls Tryd.prog 83 #[.pointer (some ⟨R + 2, 0, none⟩)] wr.drew fun e w' => e = .returned (.agg #[.string X, .string Y]) ∧ RdrL w' (R + 2) s r ∧ wr.drew.grownBy w' (some (R + 2))) := by
        refine (HA.out l' _ (moved hmr.out hbd (Nat.le_refl _)) (hrl.below hbd)).mono ?_
        rintro e w1 (⟨x', y', r', hx, rfl, h1, g1⟩ | ⟨hn, _⟩)
        · rw [hadr] at hx
          obtain ⟨e1, rfl⟩ := Prod.mk.inj (Option.some.inj hx)
          obtain ⟨rfl, rfl⟩ := Prod.mk.inj e1
          exact ⟨by rw [hX, hY], h1, g1⟩
        · rw [hadr] at hn; cases hn
      have HX := Lib.hid hX; have HY := Lib.hid hY; have HAD := Lib.hid hadr
      clear hX hY hadr
      refine wp_region_noPanic ?_
      go_region_law (first
        | (refine step_append_lies _ (by rfl) _ _ _ (by rfl) (R + 3) 139 i0 _ 2 32 Tryd.underlying127 hi hz0 hz1 hz2 rfl (by omega) v acc.length (acells acc) (by rfl) (h1o.alloc _)
            ⟨w1.heap.size, 0, none⟩ 1 1 [.string X, .string Y] (by rfl) (by rfl) (World.news_of_block (cs := #[.string X, .string Y]) (t := 139) (fr := (0, 0)) (heap_alloc_new w1 _)) (by simp [Value.oneCell'])
            (by omega) (by unfold maxLen; omega) (by omega) (by simp; omega) (w1.heap.size + 1) (by simp) ?_
           intro g cap w3 hown3 hgrow hat hlt3
           have a0 := (hgrow.cell_far ⟨R, 0, none⟩ (by simp; omega) (hvne R (by omega))).trans (moved q0 (ba (Below.refl _ w1) _) (Nat.le_refl _))
           have b0 := (hgrow.frozen_far ⟨R, 0, none⟩ (by simp; omega) (hvne R (by omega))).trans (((ba (Below.refl _ w1) (.cells #[.string X, .string Y] 139)).frozen (p := ⟨R, 0, none⟩) (by show R < _; omega)).trans p0))
        | (go_simp
           go_at_call 83
           refine hcall.out.mono ?_
           rintro e w1 ⟨rfl, h1, g1⟩
           have q0 := cell_kept (w := wr.drew) r0 g1 (by omega)
           have q1 := cell_kept (w := wr.drew) r1 g1 (by omega)
           have p0 : w1.frozen? ⟨R, 0, none⟩ = false := (World.frozen?_of_block (w := wr.drew) (a := ⟨R, 0, none⟩) (block_kept g1 (by show R ≠ R + 2; omega) (World.block_lt_of_cell? _ _ r0))).trans fr0
           have p1 : w1.frozen? ⟨R + 1, 0, none⟩ = false := (World.frozen?_of_block (w := wr.drew) (a := ⟨R + 1, 0, none⟩) (block_kept g1 (by show R + 1 ≠ R + 2; omega) (World.block_lt_of_cell? _ _ r1))).trans fr1
           have h1o := own_grown (w := wr.drew) hown g1 (by omega)
           have hs1 : R + 3 ≤ w1.heap.size := Nat.le_trans hsz g1.size
           have q2 := moved q0 (ba (Below.refl _ w1) (.cells #[.string X, .string Y] 139)) (Nat.le_refl _)))
      all_goals
        refine NoPanic.normal ?_
        obtain ⟨hrl4, hres4, hown4, hbel4, hsz4⟩ := list_round hbel HR.out g1 hs1 h1 q1 p1 a0 b0 hgrow hvne hown3
        rw [hsnoc.out] at hown4
        obtain ⟨V, hV⟩ : ∃ V, V = Value.slice (some ⟨g, 0, none⟩) (acc.length + 1) cap := ⟨_, rfl⟩
        obtain ⟨w4, hw4⟩ : ∃ w4, w4 = w3.setCell ⟨R, 0, none⟩ V := ⟨_, rfl⟩
        rw [← hV] at hrl4 hres4 hown4 hbel4 hsz4 ⊢
        rw [← hw4] at hrl4 hres4 hown4 hbel4 hsz4 ⊢
        have HV := Lib.hid hV
        clear hV hw4 hown3 hgrow hat hlt3 a0 b0 q0 q1 q2 p0 p1 h1o hs1 h1 g1 hbd r0 r1 fr0 fr1 hvne hi hz0 hz1 hz2 hown hbel hsz hmr hcall hsnoc
        go_wp2_with fail
        refine (HS.out r _ hrl4).mono ?_
        rintro e w5 ⟨rfl, hrl5, g5⟩
        have hres5 := hres4.kept g5
        have hown5 := own_grown hown4 g5 (by omega)
        have hbel5 := below_grown hbel4 g5 (by have := HR.out; omega)
        have hsz5 : R + 3 ≤ w5.heap.size := Nat.le_trans hsz4 g5.size
        clear hrl4 hres4 hown4 hbel4 hsz4 g5
        have hskl := skip_le r
        obtain ⟨q, hq⟩ : ∃ q, q = skipL r := ⟨_, rfl⟩
        rw [← hq] at hrl5 hskl
        have HQ := Lib.hid hq.symm
        clear hq
        cases q with
        | nil =>
          have hfin : Hid (listL l = some (acc ++ [(x, y)])) := by unfold Hid; rw [heq.out, list_end HAD.out HQ.out]; rfl
          obtain ⟨n, hr, hrd⟩ := hrl5
          obtain rfl := hr.nil
          obtain ⟨d0, d1, f1, hb0⟩ := hrd
          obtain ⟨z0, z1, y0, y1⟩ := hres5
          obtain rfl := HV.out
          clear hr heq HV
          go_wp2_with fail
          refine wp_region_noPanic ?_
          go_quiet (fail)
          refine NoPanic.normal ?_
          by_cases h20 : 20 < acc.length + 1
          · obtain ⟨e0, e1, hbF⟩ := res_set (bt hbel5 (below_drewN w5 nq)) (by have := HR.out; omega) z0 z1 (.slice none 0 0) (.int .i64 5)
            go_wp2_with fail
            refine leaves_cons (f := 82) (args := #[.pointer (some ⟨R, 0, none⟩), .pointer (some ⟨R + 1, 0, none⟩)]) (by simp) (by simp [go_sem]) ?_
            refine (catch_idle ⟨R, 0, none⟩ ⟨R + 1, 0, none⟩ _).mono ?_
            rintro e u' w6 ⟨rfl, rfl, rfl⟩
            simp [Leaves, settle, results, Tryd.results78, go_sem, e0, e1]
            exact ⟨.inr (.inl ⟨_, hfin.out, by simpa using h20, rfl⟩), hbF⟩
          · have h20' : decide (20 < acc.length + 1) = false := decide_eq_false h20
            obtain ⟨e0, e1, hbF⟩ := res_set (bt hbel5 (below_drewN w5 nq)) (by have := HR.out; omega) z0 z1 (.slice (some ⟨g, 0, none⟩) (acc.length + 1) cap) (.int .i64 0)
            have hownF := own_grown (own_grown (w := w5.drewN nq) hown5 (Go.Lib.grownBy_setB (World.grownBy.refl (w5.drewN nq) (some R)) 0 (.slice (some ⟨g, 0, none⟩) (acc.length + 1) cap)) (by omega)) (Go.Lib.grownBy_setB (World.grownBy.refl _ (some (R + 1))) 0 (.int .i64 0)) (by omega)
            go_wp2_with fail
            refine leaves_cons (f := 82) (args := #[.pointer (some ⟨R, 0, none⟩), .pointer (some ⟨R + 1, 0, none⟩)]) (by simp) (by simp [go_sem]) ?_
            refine (catch_idle ⟨R, 0, none⟩ ⟨R + 1, 0, none⟩ _).mono ?_
            rintro e u' w6 ⟨rfl, rfl, rfl⟩
            simp [Leaves, settle, results, Tryd.results78, go_sem, e0, e1]
            exact ⟨.inr (.inr ⟨_, _, hfin.out, by simp; omega, rfl, own_base (base := R + 3) (base' := w.heap.size) (by have := HR.out; omega) (by simpa using hownF)⟩), hbF⟩
        | cons c q =>
          simp only [List.length_cons] at hskl
          obtain ⟨n, hr, hrd⟩ := hrl5
          obtain ⟨hlt, _, hr1⟩ := hr.cons
          have hrd' := hrd
          obtain ⟨d0, d1, f1, hb0⟩ := hrd'
          have hne : ((n : Int) == (s.size : Int)) = false := beq_eq_false_iff_ne.2 (by omega)
          have HRs := Lib.hid hr; have HR1 := Lib.hid hr1
          clear hr hr1
          go_wp2_with fail
          refine wp_region_noPanic ?_
          go_quiet (fail)
          refine NoPanic.normal ?_
          have hrd6 := hrd.drewN nq
          have hbel6 := bt hbel5 (below_drewN w5 nq)
          clear d0 d1 f1 hb0
          go_wp2_with fail
          refine (HN.out n (c :: q) _ HRs.out hrd6).mono ?_
          rintro e w6 ⟨rfl, hb6⟩
          have hrd7 := hrd6.below hb6
          have hbel7 := bt hbel6 hb6
          have hres7 : ResAt w6 R V 0 := ResAt.below (w := w5.drewN nq) hres5 hb6
          have hown7 := own_down (w := w5.drewN nq) hown5 hb6
          have hsz7 : R + 3 ≤ w6.heap.size := Nat.le_trans hsz5 hb6.size
          clear hrd hrd6 hbel6 hb6 hres5 hown5 hbel5 hsz5
          by_cases h44 : c = 44
          · have e1 := nextL_eq c q 44 h44 44 rfl
            have hfin : Hid (listL l = (listL q).map ((acc ++ [(x, y)]) ++ ·)) := by
              unfold Hid
              rw [heq.out, list_next HAD.out (by rw [HQ.out, h44]), map_join]
            clear heq h44
            go_wp2_with fail
            refine (must_true _).mono ?_
            rintro e w7 ⟨rfl, rfl⟩
            have hrd8 := hrd7.step
            have hst := Go.Lib.grownBy_setB (World.grownBy.refl w6 (some (R + 2))) 1 (.int .i64 ((n : Int) + 1))
            have hres8 := hres7.kept hst
            have hown8 := own_grown hown7 hst (by omega)
            have hbel8 := below_grown hbel7 hst (by have := HR.out; omega)
            have hsz8 := Nat.le_trans hsz7 hst.size
            obtain ⟨d0, d1, f1, hb0⟩ := hrd7
            go_wp2_with fail
            go_roundw
            case rel => exact ⟨acc ++ [(x, y)], q, V, ⟨n + 1, HR1.out, hrd8⟩, hres8, by rw [List.length_append]; exact hown8, by simp; omega, hfin, hbel8, hsz8⟩
            case measure => exact measL hrl ⟨n + 1, HR1.out, hrd8⟩ (by omega)
          · have e1 := nextL_ne c q 44 h44 44 rfl
            have hfin : Hid (listL l = none) := by
              unfold Hid
              rw [heq.out, list_bad HAD.out HQ.out (by simp) h44]; rfl
            clear heq h44
            go_wp2_with fail
            refine (must_false _).mono ?_
            rintro e w7 ⟨rfl, rfl⟩
            obtain ⟨q0, q1, p0, p1⟩ := hres7
            go_wp2_with fail
            refine leaves_cons (f := 82) (args := #[.pointer (some ⟨R, 0, none⟩), .pointer (some ⟨R + 1, 0, none⟩)]) (by simp) (by simp [go_sem]) ?_
            refine (catch_panicking R (R + 1) V (.int .i64 0) [] w6 q0 q1 p0 p1 (by omega)).mono ?_
            rintro e u' w8 ⟨rfl, rfl, z0, z1, ht⟩
            simp [Leaves, settle, results, Tryd.results78, go_sem, z0, z1]
            exact ⟨.inl ⟨hfin.out, rfl⟩, turned_below2 hbel7 ht HR.out⟩
end Go.Proofs.YtobdokabelilmaaDoor
