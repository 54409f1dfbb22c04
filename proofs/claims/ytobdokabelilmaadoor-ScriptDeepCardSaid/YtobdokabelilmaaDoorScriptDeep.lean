/-
  DERIVED. The law ScriptDeep: its walk.
-/
import Derived.Test.YtobdokabelilmaaDoorScShow
import Derived.Test.YtobdokabelilmaaDoorScLaid
namespace Go.Proofs.YtobdokabelilmaaDoor.Sc
open Go.RowKit
open Tk (Tok)

def tOne (k : Int) : Tst := ⟨k, 0, 0, [], [], false, 0, []⟩
def deepT : Nat → Tst
  | 0 => tOne 1
  | j + 1 => ⟨3, 0, 0, [], [], false, 0, [deepT j]⟩
def deepC : Nat → Cmd
  | 0 => ⟨2, [], tOne 1, [], []⟩
  | j + 1 => ⟨2, [], tOne 1, [deepC j], []⟩
def flatC : Nat → Cmd
  | 0 => ⟨2, [], tOne 1, [], []⟩
  | j + 1 => ⟨2, [], tOne 2, [], [flatC j]⟩
def deepX (tests : Bool) (j : Nat) : Cmd := if tests = true then ⟨2, [], deepT j, [], []⟩ else deepC j
theorem tOne_form {k : Int} (h : k = 1 ∨ k = 2) : FormT (tOne k) := FormT.mk' (by unfold Form1 tOne; simp; omega) (fun s hs => by cases hs)
theorem deepT_form : ∀ j, FormT (deepT j)
  | 0 => tOne_form (.inl rfl)
  | j + 1 => FormT.mk' (.inr (.inl ⟨rfl, rfl, rfl, rfl, rfl, rfl, rfl, rfl⟩)) (fun s hs => by obtain rfl := List.mem_singleton.1 hs; exact deepT_form j)
theorem if_form {t : Tst} {th el : List Cmd} (ht : FormT t) (h1 : ∀ c ∈ th, FormC c) (h2 : ∀ c ∈ el, FormC c) : FormC ⟨2, [], t, th, el⟩ := (FormC.iff _).2 ⟨.inr (.inr ⟨.inl rfl, rfl⟩), .inl ⟨rfl, ht, h1, h2⟩⟩
theorem deepC_form : ∀ j, FormC (deepC j)
  | 0 => if_form (tOne_form (.inl rfl)) (fun c h => by cases h) (fun c h => by cases h)
  | j + 1 => if_form (tOne_form (.inl rfl)) (fun c h => by obtain rfl := List.mem_singleton.1 h; exact deepC_form j) (fun c h => by cases h)
theorem flatC_form : ∀ j, FormC (flatC j)
  | 0 => if_form (tOne_form (.inl rfl)) (fun c h => by cases h) (fun c h => by cases h)
  | j + 1 => if_form (tOne_form (.inr rfl)) (fun c h => by cases h) (fun c h => by obtain rfl := List.mem_singleton.1 h; exact flatC_form j)
theorem deepX_form (b : Bool) (j : Nat) : FormC (deepX b j) := by
  unfold deepX
  split
  · exact if_form (deepT_form j) (fun c h => by cases h) (fun c h => by cases h)
  · exact deepC_form j
theorem deepX_check : ∀ (b : Bool) (j : Fin 12), checkS [deepX b j.val] = (if (b = true ∧ 6 < j.val + 1) ∨ (b = false ∧ 6 < j.val) then 1 else 0) ∧ ([deepX b j.val].flatMap wC).length ≤ 1000000 := by decide +kernel
theorem flat_check : checkS [flatC 20] = 0 ∧ ([flatC 20].flatMap wC).length ≤ 1000000 := by decide +kernel
/-- 'the variable in block b holds c; what it points at lies between b and h' -/
def HoldC (w : World) (b h n : Nat) (c : Cmd) : Prop := ∃ vs, Has w b vs ∧ (cCmd n).rep w (fun x => b < x ∧ x < h) c vs
theorem sat_one {α : Type} {c : Cod α} {w : World} {F : Dom} {x : α} {vs : List Value} {b : Nat} (h : c.rep w F x vs) (hb : Has w b vs) (hF : F b) : SAt c w F (.slice (some ⟨b, 0, none⟩) 1 1) [x] := by
  refine ⟨_, 1, rfl, Nat.le_refl _, fun i y hi => ?_⟩
  have h0 : i = 0 := by have := (List.getElem?_eq_some_iff.1 hi).1; simp at this; omega
  subst h0
  obtain rfl : x = y := Option.some.inj hi
  exact ⟨b, 0, rfl, hF, hb.2.2, vs, h, fun j u hj => by simpa using hb.1 j u hj⟩
theorem HoldC.down {w w' : World} {b h n : Nat} {c : Cmd} (k : HoldC w b h n c) (hb : Below w.heap.size w w') : HoldC w' b h n c := by
  obtain ⟨vs, h1, h2⟩ := k
  exact ⟨vs, h1.down hb, (cCmd n).stable h2 (Same.of_below hb) hb.size⟩
theorem HoldC.up {w : World} {b h h' n n' : Nat} {c : Cmd} (k : HoldC w b h n c) (hh : h ≤ h') (hn : n ≤ n') : HoldC w b h' n' c := by
  obtain ⟨vs, h1, h2⟩ := k
  exact ⟨vs, h1, cmd_le hn ((cCmd n).mono h2 fun x hx => ⟨hx.1, by omega⟩)⟩
/-- another block is written -/
theorem HoldC.else' {w : World} {b h n d i : Nat} {c : Cmd} (k : HoldC w b h n c) (hd : d ≠ b) (hh : h ≤ d ∨ d < b) (u : Value) : HoldC (w.setCell ⟨d, i, none⟩ u) b h n c := by
  obtain ⟨vs, h1, h2⟩ := k
  refine ⟨vs, h1.else' (fun e => hd e.symm) u, (cCmd n).stable h2 (fun x hx _ => Below.heap_setCell _ _ _ _ (by show x ≠ d; omega)) (by simp [World.setCell])⟩
theorem sat_nil {α : Type} (c : Cod α) (w : World) (F : Dom) (G : Option Addr) (cap : Nat) : SAt c w F (.slice G 0 cap) [] := ⟨G, cap, rfl, Nat.zero_le _, fun i x h => by simp at h⟩
theorem nil_rep (m : Nat) (w : World) (F : Dom) (k : Int) : (cTst (m + 1)).rep w F (tOne k) [.int .i64 k, .int .i64 0, .int .i64 0, .slice none 0 0, .slice none 0 0, .bool false, .int .i64 0, .slice none 0 0] :=
  ⟨_, _, _, rfl, SAt.nil _ _ _, SAt.nil _ _ _, SAt.nil _ _ _⟩
theorem if_rep {m : Nat} {w : World} {F : Dom} {t : Tst} {ts : List Value} {th el : List Cmd} {vh ve : Value} (ht : (cTst (m + 1)).rep w F t ts) (h1 : SAt (cCmd m) w F vh th) (h2 : SAt (cCmd m) w F ve el) : (cCmd (m + 1)).rep w F ⟨2, [], t, th, el⟩ (.int .i64 2 :: .slice none 0 0 :: (ts ++ [vh, ve])) :=
  ⟨_, ts, vh, ve, rfl, SAt.nil _ _ _, ht, h1, h2⟩
theorem has_put12 {w : World} {b : Nat} {a0 a1 a2 a3 a4 a5 a6 a7 a8 a9 a10 a11 : Value} (h : Has w b [a0, a1, a2, a3, a4, a5, a6, a7, a8, a9, a10, a11]) (x0 x1 x2 x3 x4 x5 x6 x7 x8 x9 x10 x11 : Value) :
    Has ((((((((((((w.setCell ⟨b, 0, none⟩ x0).setCell ⟨b, 1, none⟩ x1).setCell ⟨b, 2, none⟩ x2).setCell ⟨b, 3, none⟩ x3).setCell ⟨b, 4, none⟩ x4).setCell ⟨b, 5, none⟩ x5).setCell ⟨b, 6, none⟩ x6).setCell ⟨b, 7, none⟩ x7).setCell ⟨b, 8, none⟩ x8).setCell ⟨b, 9, none⟩ x9).setCell ⟨b, 10, none⟩ x10).setCell ⟨b, 11, none⟩ x11) b [x0, x1, x2, x3, x4, x5, x6, x7, x8, x9, x10, x11] :=
  (((((((((((h.set' (i := 0) x0 (by simp)).set' (i := 1) x1 (by simp)).set' (i := 2) x2 (by simp)).set' (i := 3) x3 (by simp)).set' (i := 4) x4 (by simp)).set' (i := 5) x5 (by simp)).set' (i := 6) x6 (by simp)).set' (i := 7) x7 (by simp)).set' (i := 8) x8 (by simp)).set' (i := 9) x9 (by simp)).set' (i := 10) x10 (by simp)).set' (i := 11) x11 (by simp)
theorem has_free {w : World} {b : Nat} {a0 a1 a2 a3 a4 a5 a6 a7 a8 a9 a10 a11 : Value} (h : Has w b [a0, a1, a2, a3, a4, a5, a6, a7, a8, a9, a10, a11]) : w.frozen? ⟨b, 0, none⟩ = false ∧ w.frozen? ⟨b, 1, none⟩ = false ∧ w.frozen? ⟨b, 2, none⟩ = false ∧ w.frozen? ⟨b, 3, none⟩ = false ∧ w.frozen? ⟨b, 4, none⟩ = false ∧ w.frozen? ⟨b, 5, none⟩ = false ∧ w.frozen? ⟨b, 6, none⟩ = false ∧ w.frozen? ⟨b, 7, none⟩ = false ∧ w.frozen? ⟨b, 8, none⟩ = false ∧ w.frozen? ⟨b, 9, none⟩ = false ∧ w.frozen? ⟨b, 10, none⟩ = false ∧ w.frozen? ⟨b, 11, none⟩ = false :=
  ⟨h.2.1 0 (by simp), h.2.1 1 (by simp), h.2.1 2 (by simp), h.2.1 3 (by simp), h.2.1 4 (by simp), h.2.1 5 (by simp), h.2.1 6 (by simp), h.2.1 7 (by simp), h.2.1 8 (by simp), h.2.1 9 (by simp), h.2.1 10 (by simp), h.2.1 11 (by simp)⟩
/-- 'only block b was written, and it holds vs' -/
structure Wrote (w w' : World) (b : Nat) (vs : List Value) : Prop where
  has : Has w' b vs
  size : w'.heap.size = w.heap.size
  keep : ∀ x, x ≠ b → w'.heap[x]? = w.heap[x]?
  below : ∀ (B : Nat) (w0 : World), Below B w0 w → B ≤ b → Below B w0 w'
theorem wrote12 {w : World} {b : Nat} {a0 a1 a2 a3 a4 a5 a6 a7 a8 a9 a10 a11 : Value} (h : Has w b [a0, a1, a2, a3, a4, a5, a6, a7, a8, a9, a10, a11]) (x0 x1 x2 x3 x4 x5 x6 x7 x8 x9 x10 x11 : Value) :
    Wrote w ((((((((((((w.setCell ⟨b, 0, none⟩ x0).setCell ⟨b, 1, none⟩ x1).setCell ⟨b, 2, none⟩ x2).setCell ⟨b, 3, none⟩ x3).setCell ⟨b, 4, none⟩ x4).setCell ⟨b, 5, none⟩ x5).setCell ⟨b, 6, none⟩ x6).setCell ⟨b, 7, none⟩ x7).setCell ⟨b, 8, none⟩ x8).setCell ⟨b, 9, none⟩ x9).setCell ⟨b, 10, none⟩ x10).setCell ⟨b, 11, none⟩ x11) b [x0, x1, x2, x3, x4, x5, x6, x7, x8, x9, x10, x11] :=
  ⟨has_put12 h .., by simp [World.setCell], fun x hx => ((Below.heap_setCell _ _ _ _ hx).trans ((Below.heap_setCell _ _ _ _ hx).trans ((Below.heap_setCell _ _ _ _ hx).trans ((Below.heap_setCell _ _ _ _ hx).trans ((Below.heap_setCell _ _ _ _ hx).trans ((Below.heap_setCell _ _ _ _ hx).trans ((Below.heap_setCell _ _ _ _ hx).trans ((Below.heap_setCell _ _ _ _ hx).trans ((Below.heap_setCell _ _ _ _ hx).trans ((Below.heap_setCell _ _ _ _ hx).trans ((Below.heap_setCell _ _ _ _ hx).trans ((Below.heap_setCell _ _ _ _ hx).trans rfl)))))))))))), fun B w0 h0 hB => ((((((((((((h0.setCell hB _).setCell hB _).setCell hB _).setCell hB _).setCell hB _).setCell hB _).setCell hB _).setCell hB _).setCell hB _).setCell hB _).setCell hB _).setCell hB _)⟩
theorem wrote8 {w : World} {b : Nat} {a0 a1 a2 a3 a4 a5 a6 a7 a8 a9 a10 a11 : Value} (h : Has w b [a0, a1, a2, a3, a4, a5, a6, a7, a8, a9, a10, a11]) (x2 x3 x4 x5 x6 x7 x8 x9 : Value) :
    Wrote w ((((((((w.setCell ⟨b, 2, none⟩ x2).setCell ⟨b, 3, none⟩ x3).setCell ⟨b, 4, none⟩ x4).setCell ⟨b, 5, none⟩ x5).setCell ⟨b, 6, none⟩ x6).setCell ⟨b, 7, none⟩ x7).setCell ⟨b, 8, none⟩ x8).setCell ⟨b, 9, none⟩ x9) b [a0, a1, x2, x3, x4, x5, x6, x7, x8, x9, a10, a11] :=
  ⟨(((((((h.set' (i := 2) x2 (by simp)).set' (i := 3) x3 (by simp)).set' (i := 4) x4 (by simp)).set' (i := 5) x5 (by simp)).set' (i := 6) x6 (by simp)).set' (i := 7) x7 (by simp)).set' (i := 8) x8 (by simp)).set' (i := 9) x9 (by simp), by simp [World.setCell], fun x hx => ((Below.heap_setCell _ _ _ _ hx).trans ((Below.heap_setCell _ _ _ _ hx).trans ((Below.heap_setCell _ _ _ _ hx).trans ((Below.heap_setCell _ _ _ _ hx).trans ((Below.heap_setCell _ _ _ _ hx).trans ((Below.heap_setCell _ _ _ _ hx).trans ((Below.heap_setCell _ _ _ _ hx).trans ((Below.heap_setCell _ _ _ _ hx).trans rfl)))))))), fun B w0 h0 hB => ((((((((h0.setCell hB _).setCell hB _).setCell hB _).setCell hB _).setCell hB _).setCell hB _).setCell hB _).setCell hB _)⟩
theorem wrote_same {w w' : World} {b h : Nat} {vs : List Value} (k : Wrote w w' b vs) : Same (fun x => b < x ∧ x < h) w w' := fun x hx _ => k.keep x (by omega)
theorem deep_cmd {w w' : World} {b n : Nat} {c : Cmd} {vs : List Value} {t : TypeId} (hrep : (cCmd n).rep w (fun x => b < x ∧ x < w.heap.size) c vs) (hb : b < w.heap.size)
    (k : Wrote w w' b [.int .i64 2, .slice none 0 0, .int .i64 1, .int .i64 0, .int .i64 0, .slice none 0 0, .slice none 0 0, .bool false, .int .i64 0, .slice none 0 0, .slice (some ⟨w.heap.size, 0, none⟩) 1 1, .slice none 0 0]) :
    HoldC (w'.alloc (.cells vs.toArray t)) b (w'.alloc (.cells vs.toArray t)).heap.size (n + 1) ⟨2, [], tOne 1, [c], []⟩ := by
  have hN := Has.alloc w' vs t
  have hb2 : Below w'.heap.size w' (w'.alloc (.cells vs.toArray t)) := ba (Below.refl _ _) _
  have hz : (w'.alloc (.cells vs.toArray t)).heap.size = w.heap.size + 1 := by rw [World.size_alloc, k.size]
  refine ⟨_, k.has.down hb2, if_rep (nil_rep n _ _ 1) (sat_one (vs := vs) ?_ (by rw [← k.size]; exact hN) ⟨hb, by rw [hz]; omega⟩) (SAt.nil _ _ _)⟩
  have h1 := (cCmd n).stable hrep (wrote_same k) (by rw [k.size]; exact Nat.le_refl _)
  have h2 := (cCmd n).stable h1 (Same.of_below hb2) hb2.size
  exact (cCmd n).mono h2 fun x hx => ⟨hx.1, by rw [hz]; omega⟩
theorem deep_tst {w w' : World} {b n : Nat} {t0 : Tst} {vs : List Value} {t : TypeId} (hrep : (cTst n).rep w (fun x => b < x ∧ x < w.heap.size) t0 vs) (hb : b < w.heap.size) {Gx Gh Ge : Option Addr} {cx ch ce : Nat}
    (k : Wrote w w' b [.int .i64 2, .slice Gx 0 cx, .int .i64 3, .int .i64 0, .int .i64 0, .slice none 0 0, .slice none 0 0, .bool false, .int .i64 0, .slice (some ⟨w.heap.size, 0, none⟩) 1 1, .slice Gh 0 ch, .slice Ge 0 ce]) :
    HoldC (w'.alloc (.cells vs.toArray t)) b (w'.alloc (.cells vs.toArray t)).heap.size (n + 1) ⟨2, [], ⟨3, 0, 0, [], [], false, 0, [t0]⟩, [], []⟩ := by
  have hN := Has.alloc w' vs t
  have hb2 : Below w'.heap.size w' (w'.alloc (.cells vs.toArray t)) := ba (Below.refl _ _) _
  have hz : (w'.alloc (.cells vs.toArray t)).heap.size = w.heap.size + 1 := by rw [World.size_alloc, k.size]
  refine ⟨_, k.has.down hb2, ⟨_, [.int .i64 3, .int .i64 0, .int .i64 0, .slice none 0 0, .slice none 0 0, .bool false, .int .i64 0, .slice (some ⟨w.heap.size, 0, none⟩) 1 1], _, _, rfl, sat_nil .., ⟨_, _, _, rfl, SAt.nil _ _ _, SAt.nil _ _ _, sat_one (vs := vs) ?_ (by rw [← k.size]; exact hN) ⟨hb, by rw [hz]; omega⟩⟩, sat_nil .., sat_nil ..⟩⟩
  have h1 := (cTst n).stable hrep (wrote_same k) (by rw [k.size]; exact Nat.le_refl _)
  have h2 := (cTst n).stable h1 (Same.of_below hb2) hb2.size
  exact (cTst n).mono h2 fun x hx => ⟨hx.1, by rw [hz]; omega⟩
theorem flat_cmd {w w' : World} {b n : Nat} {c : Cmd} {vs : List Value} {t : TypeId} (hrep : (cCmd n).rep w (fun x => b < x ∧ x < w.heap.size) c vs) (hb : b < w.heap.size)
    (k : Wrote w w' b [.int .i64 2, .slice none 0 0, .int .i64 2, .int .i64 0, .int .i64 0, .slice none 0 0, .slice none 0 0, .bool false, .int .i64 0, .slice none 0 0, .slice none 0 0, .slice (some ⟨w.heap.size, 0, none⟩) 1 1]) :
    HoldC (w'.alloc (.cells vs.toArray t)) b (w'.alloc (.cells vs.toArray t)).heap.size (n + 1) ⟨2, [], tOne 2, [], [c]⟩ := by
  have hN := Has.alloc w' vs t
  have hb2 : Below w'.heap.size w' (w'.alloc (.cells vs.toArray t)) := ba (Below.refl _ _) _
  have hz : (w'.alloc (.cells vs.toArray t)).heap.size = w.heap.size + 1 := by rw [World.size_alloc, k.size]
  refine ⟨_, k.has.down hb2, if_rep (nil_rep n _ _ 2) (SAt.nil _ _ _) (sat_one (vs := vs) ?_ (by rw [← k.size]; exact hN) ⟨hb, by rw [hz]; omega⟩)⟩
  have h1 := (cCmd n).stable hrep (wrote_same k) (by rw [k.size]; exact Nat.le_refl _)
  have h2 := (cCmd n).stable h1 (Same.of_below hb2) hb2.size
  exact (cCmd n).mono h2 fun x hx => ⟨hx.1, by rw [hz]; omega⟩
theorem HoldC.wrote {w w' : World} {b h n d : Nat} {c : Cmd} {vs : List Value} (k : HoldC w b h n c) (hw : Wrote w w' d vs) (hd : b < d) (hh : h ≤ d) : HoldC w' b h n c := by
  obtain ⟨us, h1, h2⟩ := k
  have e := hw.keep b (by omega)
  refine ⟨us, ⟨fun i v hv => (World.cell?_of_block (w := w) (a := ⟨b, i, none⟩) e).trans (h1.1 i v hv), fun i hi => (World.frozen?_of_block (w := w) (a := ⟨b, i, none⟩) e).trans (h1.2.1 i hi), by rw [hw.size]; exact h1.2.2⟩, (cCmd n).stable h2 (fun x hx _ => hw.keep x (by omega)) (by rw [hw.size]; exact Nat.le_refl _)⟩
/-- Check of the slice of one command that is read out of a variable -/
theorem one_chk {w0 wr : World} {b h n : Nat} {c : Cmd} {vs : List Value} {t : TypeId} (h1 : Has wr b vs) (h2 : (cCmd n).rep wr (fun x => b < x ∧ x < h) c vs) (hb : Below w0.heap.size w0 wr) (ht : Tabs w0 w0.heap.size) (hF : FormC c) (hl : ([c].flatMap wC).length ≤ 1000000) (hh : h ≤ wr.heap.size) :
    Calls Tryd.prog 13 #[.slice (some ⟨wr.heap.size, 0, none⟩) 1 1] (wr.alloc (.cells vs.toArray t)) (CheckPost (checkS [c]) (wr.alloc (.cells vs.toArray t))) := by
  have hN := Has.alloc wr vs t
  have hb2 : Below wr.heap.size wr (wr.alloc (.cells vs.toArray t)) := ba (Below.refl _ _) _
  have hz : (wr.alloc (.cells vs.toArray t)).heap.size = wr.heap.size + 1 := by rw [World.size_alloc]
  have hr := (cCmd n).mono ((cCmd n).stable h2 (Same.of_below hb2) hb2.size) (F' := fun x => x < (wr.alloc (.cells vs.toArray t)).heap.size) fun x hx => by show x < _; rw [hz]; omega
  have hs := sat_one (F := fun x => x < (wr.alloc (.cells vs.toArray t)).heap.size) hr hN (by show _ < _; rw [hz]; omega)
  exact check_any n [c] _ _ _ hs (fun x hx => by obtain rfl := List.mem_singleton.1 hx; exact hF) (fun x hx => hx) ((ht.below (bt hb hb2)).up (bt hb hb2).size) hl
set_option maxHeartbeats 8000000 in
set_option maxRecDepth 20000 in
theorem scriptDeep_any (a : Int) (b : Bool) (w : World) (hz : -9223372036854775808 ≤ a ∧ a ≤ 9223372036854775807) (htab : Tabs w w.heap.size) :
    Calls Tryd.prog 3 #[.int .i64 a, .bool b] w fun e w' => e = .returned (.bool true) ∧ Below w.heap.size w w' := by
  obtain ⟨hz1, hz2⟩ := hz
  have HPK : Hid (∀ w, Calls Tryd.prog 12 #[.int .i64 a, .int .i64 12] w fun e w' => e = .returned (.int .i64 (pick a (12 : Nat))) ∧ w = w') := fun w => picked_any a 12 w hz1 hz2 (by omega) (by omega)
  have hk8 := pick_lt a 12 (by omega)
  obtain ⟨k, hk⟩ : ∃ k, k = pick a (12 : Nat) := ⟨_, rfl⟩
  rw [← hk] at HPK hk8
  have HT := Lib.hid htab
  have HB0 := Lib.hid (ba (Below.refl w.heap.size w) (.cells #[.int .i64 2, .slice none 0 0, .int .i64 1, .int .i64 0, .int .i64 0, .slice none 0 0, .slice none 0 0, .bool false, .int .i64 0, .slice none 0 0, .slice none 0 0, .slice none 0 0] 29))
  have hH0 : HoldC (w.alloc (.cells #[.int .i64 2, .slice none 0 0, .int .i64 1, .int .i64 0, .int .i64 0, .slice none 0 0, .slice none 0 0, .bool false, .int .i64 0, .slice none 0 0, .slice none 0 0, .slice none 0 0] 29)) w.heap.size (w.alloc (.cells #[.int .i64 2, .slice none 0 0, .int .i64 1, .int .i64 0, .int .i64 0, .slice none 0 0, .slice none 0 0, .bool false, .int .i64 0, .slice none 0 0, .slice none 0 0, .slice none 0 0] 29)).heap.size 1 (deepX b 0) := by
    refine ⟨_, Has.alloc w [.int .i64 2, .slice none 0 0, .int .i64 1, .int .i64 0, .int .i64 0, .slice none 0 0, .slice none 0 0, .bool false, .int .i64 0, .slice none 0 0, .slice none 0 0, .slice none 0 0] 29, ?_⟩
    have e : deepX b 0 = ⟨2, [], tOne 1, [], []⟩ := by cases b <;> rfl
    rw [e]
    exact if_rep (nil_rep 0 _ _ 1) (SAt.nil _ _ _) (SAt.nil _ _ _)
  have HH0 := Lib.hid hH0
  clear hk hz1 hz2 htab hH0
  go_enter Tryd.func3, Tryd.ntmps3
  go_wp2_with (go_at_call 12; refine (HPK.out _).mono ?_; rintro e w' ⟨rfl, rfl⟩)
  obtain ⟨C, hC⟩ : ∃ C, C = w.heap.size := ⟨_, rfl⟩
  have HC := Lib.hid hC
  go_loopw [7] (fun v wr => ∃ j : Nat, v = .int .i64 j ∧ j ≤ k ∧ HoldC wr w.heap.size wr.heap.size (j + 1) (deepX b j) ∧ Below w.heap.size w wr) (fun v _ => k - (intOf v).toNat)
  case atStart => exact ⟨0, rfl, Nat.zero_le _, HH0.out, HB0.out⟩
  case round =>
    obtain ⟨j, rfl, hj, hH, hb⟩ := hrel
    by_cases hlt : j < k
    · obtain ⟨vs, h1, h2⟩ := hH
      have h1l := h1.2.2
      have HB := Lib.hid hb; have HREP := Lib.hid h2
      have hwC : w.heap.size ≤ wr.heap.size := hb.size
      cases b
      · obtain ⟨m, Gx, cx, Gn, cn, Gk, ck, Gt, ct, Gh, ch, Ge, ce, hm, rfl, hx, ht, hth, hel⟩ := cmd_open h2
        have e : deepX false j = deepC j := rfl
        have hP := Has.alloc wr (cmdC (deepX false j) (.slice Gx (deepX false j).texts.length cx) (tstC (deepX false j).test (.slice Gn (deepX false j).test.names.length cn) (.slice Gk (deepX false j).test.keys.length ck) (.slice Gt (deepX false j).test.tests.length ct)) (.slice Gh (deepX false j).thn.length ch) (.slice Ge (deepX false j).els.length ce)) 29
        have hb2 : Below wr.heap.size wr (wr.alloc (.cells (cmdC (deepX false j) (.slice Gx (deepX false j).texts.length cx) (tstC (deepX false j).test (.slice Gn (deepX false j).test.names.length cn) (.slice Gk (deepX false j).test.keys.length ck) (.slice Gt (deepX false j).test.tests.length ct)) (.slice Gh (deepX false j).thn.length ch) (.slice Ge (deepX false j).els.length ce)).toArray 29)) := ba (Below.refl _ _) _
        obtain ⟨vs, hvs⟩ : ∃ vs, vs = cmdC (deepX false j) (.slice Gx (deepX false j).texts.length cx) (tstC (deepX false j).test (.slice Gn (deepX false j).test.names.length cn) (.slice Gk (deepX false j).test.keys.length ck) (.slice Gt (deepX false j).test.tests.length ct)) (.slice Gh (deepX false j).thn.length ch) (.slice Ge (deepX false j).els.length ce) := ⟨_, rfl⟩
        have h1' := h1.down hb2
        obtain ⟨c0, c1, ⟨c2, c3, c4, c5, c6, c7, c8, c9⟩, c10, c11⟩ := has_twelve h1
        obtain ⟨f0, f1, f2, f3, f4, f5, f6, f7, f8, f9, f10, f11⟩ := has_free h1
        have HP1 := Lib.hid h1; have HP := Lib.hid hP; have HB2 := Lib.hid hb2
        clear h1 h1' hP hb2 h2 hx ht hth hel hm e hvs hb
        go_wp2_with fail
        have hk := wrote12 HP1.out (.int .i64 2) (.slice none 0 0) (.int .i64 1) (.int .i64 0) (.int .i64 0) (.slice none 0 0) (.slice none 0 0) (.bool false) (.int .i64 0) (.slice none 0 0) (.slice (some ⟨wr.heap.size, 0, none⟩) 1 1) (.slice none 0 0)
        have hnext := deep_cmd (t := 29) HREP.out h1l hk
        have hbel := ba (hk.below _ _ HB.out (Nat.le_refl _)) (.cells (cmdC (deepX false j) (.slice Gx (deepX false j).texts.length cx) (tstC (deepX false j).test (.slice Gn (deepX false j).test.names.length cn) (.slice Gk (deepX false j).test.keys.length ck) (.slice Gt (deepX false j).test.tests.length ct)) (.slice Gh (deepX false j).thn.length ch) (.slice Ge (deepX false j).els.length ce)).toArray 29)
        go_roundw
        case rel => exact ⟨j + 1, by go_num, by omega, hnext, hbel⟩
        case measure => simp [intOf]; omega
      · obtain ⟨m, Gx, cx, Gn, cn, Gk, ck, Gt, ct, Gh, ch, Ge, ce, hm, rfl, hx, ht, hth, hel⟩ := cmd_open h2
        obtain rfl : j = m := by omega
        have e : deepX true j = ⟨2, [], deepT j, [], []⟩ := rfl
        rw [e] at h1 ht hx
        rw [e] at HREP
        have h1' : Has wr w.heap.size [.int .i64 2, .slice Gx 0 cx, .int .i64 (deepT j).kind, .int .i64 (deepT j).mat, .int .i64 (deepT j).part, .slice Gn (deepT j).names.length cn, .slice Gk (deepT j).keys.length ck, .bool (deepT j).over, .int .i64 (deepT j).limit, .slice Gt (deepT j).tests.length ct, .slice Gh 0 ch, .slice Ge 0 ce] := h1
        obtain ⟨c0, c1, ⟨c2, c3, c4, c5, c6, c7, c8, c9⟩, c10, c11⟩ := has_twelve h1'
        obtain ⟨f0, f1, f2, f3, f4, f5, f6, f7, f8, f9, f10, f11⟩ := has_free h1'
        have HP1 := Lib.hid h1'; have HT2 := Lib.hid ht
        clear h1 h1' h2 hx ht hth hel hm e hb
        go_wp2_with fail
        have hk := wrote8 HP1.out (.int .i64 3) (.int .i64 0) (.int .i64 0) (.slice none 0 0) (.slice none 0 0) (.bool false) (.int .i64 0) (.slice (some ⟨wr.heap.size, 0, none⟩) 1 1)
        have hnext := deep_tst (t := 26) HT2.out h1l hk
        have hbel := ba (hk.below _ _ HB.out (Nat.le_refl _)) (.cells #[.int .i64 (deepT j).kind, .int .i64 (deepT j).mat, .int .i64 (deepT j).part, .slice Gn (deepT j).names.length cn, .slice Gk (deepT j).keys.length ck, .bool (deepT j).over, .int .i64 (deepT j).limit, .slice Gt (deepT j).tests.length ct] 26)
        go_roundw
        case rel => exact ⟨j + 1, by go_num, by omega, hnext, hbel⟩
        case measure => simp [intOf]; omega
    · obtain rfl : j = k := by omega
      have hck := deepX_check b ⟨j, hk8⟩
      have hwC : w.heap.size < wr.heap.size := by obtain ⟨vs, h1, -⟩ := hH; exact h1.2.2
      obtain ⟨D, hD⟩ : ∃ D, D = wr.heap.size := ⟨_, rfl⟩
      rw [← hD] at hH hwC
      have hal : Below wr.heap.size wr (wr.alloc (.cells #[.int .i64 2, .slice none 0 0, .int .i64 1, .int .i64 0, .int .i64 0, .slice none 0 0, .slice none 0 0, .bool false, .int .i64 0, .slice none 0 0, .slice none 0 0, .slice none 0 0] 29)) := ba (Below.refl _ _) _
      have hF0 : HoldC (wr.alloc (.cells #[.int .i64 2, .slice none 0 0, .int .i64 1, .int .i64 0, .int .i64 0, .slice none 0 0, .slice none 0 0, .bool false, .int .i64 0, .slice none 0 0, .slice none 0 0, .slice none 0 0] 29)) D (wr.alloc (.cells #[.int .i64 2, .slice none 0 0, .int .i64 1, .int .i64 0, .int .i64 0, .slice none 0 0, .slice none 0 0, .bool false, .int .i64 0, .slice none 0 0, .slice none 0 0, .slice none 0 0] 29)).heap.size 1 (flatC 0) := by
        rw [hD]
        exact ⟨_, Has.alloc wr [.int .i64 2, .slice none 0 0, .int .i64 1, .int .i64 0, .int .i64 0, .slice none 0 0, .slice none 0 0, .bool false, .int .i64 0, .slice none 0 0, .slice none 0 0, .slice none 0 0] 29, if_rep (nil_rep 0 _ _ 1) (SAt.nil _ _ _) (SAt.nil _ _ _)⟩
      have HF0 := Lib.hid hF0; have HHX := Lib.hid (hH.down hal); have HB := Lib.hid (bt hb hal); have HCK := Lib.hid hck; have HD := Lib.hid hD.symm
      clear hH hb hck hal hF0 hD
      obtain ⟨want, hwant⟩ : ∃ want : Int, want = (if (b = true ∧ 6 < j + 1) ∨ (b = false ∧ 6 < j) then 1 else 0) := ⟨_, rfl⟩
      have HWA := Lib.hid hwant
      clear hwant
      have key : (b = true ∧ (6 : Int) < (j : Int) + 1 ∧ want = 1) ∨ (b = true ∧ (j : Int) + 1 ≤ 6 ∧ want = 0) ∨ (b = false ∧ (6 : Int) < (j : Int) ∧ want = 1) ∨ (b = false ∧ (j : Int) ≤ 6 ∧ want = 0) := by
        rw [HWA.out]
        cases b
        · by_cases h : 6 < j
          · exact .inr (.inr (.inl ⟨rfl, by omega, by simp [h]⟩))
          · exact .inr (.inr (.inr ⟨rfl, by omega, by simp [h]⟩))
        · by_cases h : 6 < j + 1
          · exact .inl ⟨rfl, by omega, by simp [h]⟩
          · exact .inr (.inl ⟨rfl, by omega, by simp [h]⟩)
      rcases key with ⟨q1, q2, q3⟩ | ⟨q1, q2, q3⟩ | ⟨q1, q2, q3⟩ | ⟨q1, q2, q3⟩
      all_goals
        subst q1; subst q3
        go_wp2_with fail
        rw [HD.out]
        obtain ⟨W1, hW1⟩ : ∃ W1, W1 = wr.alloc (.cells #[.int .i64 2, .slice none 0 0, .int .i64 1, .int .i64 0, .int .i64 0, .slice none 0 0, .slice none 0 0, .bool false, .int .i64 0, .slice none 0 0, .slice none 0 0, .slice none 0 0] 29) := ⟨_, rfl⟩
        rw [← hW1] at HF0 HHX HB ⊢
        clear hW1 HD
        go_loopw [10] (fun v wq => ∃ i : Nat, v = .int .i64 i ∧ i ≤ 20 ∧ HoldC wq D wq.heap.size (i + 1) (flatC i) ∧ HoldC wq w.heap.size D (j + 1) (deepX _ j) ∧ Below w.heap.size w wq) (fun v _ => 20 - (intOf v).toNat)
        case atStart => exact ⟨0, rfl, Nat.zero_le _, HF0.out, HHX.out, HB.out⟩
        case round =>
          obtain ⟨i, rfl, hi, hf, hc, hb⟩ := hrel
          by_cases hlt : i < 20
          · obtain ⟨vs, h1, h2⟩ := hf
            have h1l := h1.2.2
            have HB2 := Lib.hid hb; have HREP := Lib.hid h2; have HCC := Lib.hid hc
            obtain ⟨m, Gx, cx, Gn, cn, Gk, ck, Gt, ct, Gh, ch, Ge, ce, hm, rfl, hx, ht, hth, hel⟩ := cmd_open h2
            obtain ⟨c0, c1, ⟨c2, c3, c4, c5, c6, c7, c8, c9⟩, c10, c11⟩ := has_twelve h1
            obtain ⟨f0, f1, f2, f3, f4, f5, f6, f7, f8, f9, f10, f11⟩ := has_free h1
            have HP1 := Lib.hid h1
            have hi20 : (i : Int) < 20 := by omega
            clear h1 h2 hx ht hth hel hm hb hc
            go_wp2_with fail
            have hk := wrote12 HP1.out (.int .i64 2) (.slice none 0 0) (.int .i64 2) (.int .i64 0) (.int .i64 0) (.slice none 0 0) (.slice none 0 0) (.bool false) (.int .i64 0) (.slice none 0 0) (.slice none 0 0) (.slice (some ⟨wr.heap.size, 0, none⟩) 1 1)
            have hnext := flat_cmd (t := 29) HREP.out h1l hk
            have hcn := (HCC.out.wrote hk hwC (Nat.le_refl _)).down (ba (Below.refl _ _) (.cells (cmdC (flatC i) (.slice Gx (flatC i).texts.length cx) (tstC (flatC i).test (.slice Gn (flatC i).test.names.length cn) (.slice Gk (flatC i).test.keys.length ck) (.slice Gt (flatC i).test.tests.length ct)) (.slice Gh (flatC i).thn.length ch) (.slice Ge (flatC i).els.length ce)).toArray 29))
            have hbel := ba (hk.below _ _ HB2.out (by omega)) (.cells (cmdC (flatC i) (.slice Gx (flatC i).texts.length cx) (tstC (flatC i).test (.slice Gn (flatC i).test.names.length cn) (.slice Gk (flatC i).test.keys.length ck) (.slice Gt (flatC i).test.tests.length ct)) (.slice Gh (flatC i).thn.length ch) (.slice Ge (flatC i).els.length ce)).toArray 29)
            go_roundw
            case rel => exact ⟨i + 1, by go_num, by omega, hnext, hcn, hbel⟩
            case measure => simp [intOf]; omega
          · obtain rfl : i = 20 := by omega
            have hDs : D ≤ wr.heap.size := by obtain ⟨vs, h1, -⟩ := hf; have := h1.2.2; omega
            have HFD := Lib.hid hf; have HBX := Lib.hid hb
            obtain ⟨vs, h1, h2⟩ := hc
            have HB1 := Lib.hid (ba hb (.cells vs.toArray 29))
            have HC1 := Lib.hid (one_chk (t := 29) h1 h2 hb HT.out (deepX_form _ j) HCK.out.2 hDs)
            obtain ⟨m, Gx, cx, Gn, cn, Gk, ck, Gt, ct, Gh, ch, Ge, ce, hm, rfl, -⟩ := cmd_open h2
            obtain ⟨c0, c1, ⟨c2, c3, c4, c5, c6, c7, c8, c9⟩, c10, c11⟩ := has_twelve h1
            rw [HCK.out.1, ← HWA.out] at HC1
            clear h1 h2 hm hf hb
            go_wp2_with fail
            refine HC1.out.mono ?_
            rintro e w5 ⟨rfl, hb5⟩
            have hb6 := bt HB1.out hb5
            have hf6 := (HFD.out.down (ba (Below.refl _ _) _)).down hb5
            have hD5 : wr.heap.size ≤ w5.heap.size := by have := hb5.size; rw [World.size_alloc] at this; omega
            obtain ⟨us, g1, g2⟩ := hf6
            have HB7 := Lib.hid (ba hb6 (.cells us.toArray 29))
            have HC2 := Lib.hid (one_chk (t := 29) g1 g2 hb6 HT.out (flatC_form 20) flat_check.2 hD5)
            rw [flat_check.1] at HC2
            obtain ⟨m, Gx, cx, Gn, cn, Gk, ck, Gt, ct, Gh, ch, Ge, ce, hm, rfl, -⟩ := cmd_open g2
            obtain ⟨c0, c1, ⟨c2, c3, c4, c5, c6, c7, c8, c9⟩, c10, c11⟩ := has_twelve g1
            clear hb5 hb6 hD5 g1 g2 hm HC1
            go_wp2_with fail
            refine HC2.out.mono ?_
            rintro e w8 ⟨rfl, hb8⟩
            have HB8 := Lib.hid (bt HB7.out hb8)
            clear hb8 HC2
            go_wp2_with fail
            go_ret
            exact ⟨rfl, HB8.out⟩
end Go.Proofs.YtobdokabelilmaaDoor.Sc
