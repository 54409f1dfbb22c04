/- On the way. -/
import Derived.Test.YtmkppkjikifdlaaGreatDoorProg
import Derived.WalkKit
import Derived.WalkLawsBesides
import Derived.WalkSpells
import Derived.Outline
import Derived.LoopTactic
import Derived.Lib.Hide
import Derived.Maps.AppendAt
import Derived.Lib.ConvBytes
import Derived.Lib.BufferOwn
import Derived.Lib.Strings
set_option linter.unusedVariables false
set_option linter.unusedSimpArgs false
set_option maxHeartbeats 400000
namespace Go.Proofs.YtmkppkjikifdlaaGreatDoor
open Go.RowKit
theorem wf_bd {n : Int} (h : (Lit.int .i64 n).wf = true) : -9223372036854775808 ≤ n ∧ n ≤ 9223372036854775807 := by
 have h1 : IntKind.i64.min = -9223372036854775808 := by decide
 have h2 : IntKind.i64.max = 9223372036854775807 := by decide
 simp only [Lit.wf, h1, h2, Bool.and_eq_true, decide_eq_true_eq] at h
 exact h
theorem ret_int {k : IntKind} {a b : Int} (h : a = b) : Ending.returned (.int k a) = .returned (.int k b) := by rw [h]
def pick (n m : Int) : Nat := ((if n < 0 then -(n + 1) else n) % m).toNat
theorem pick_lt (n : Int) (m : Nat) (h : 1 ≤ m) : pick n m < m := by
 unfold pick
 have : (if n < 0 then -(n + 1) else n) % (m : Int) < m := Int.emod_lt_of_pos _ (by omega)
 omega
theorem pick_val (n m : Int) (h : 1 ≤ m) : (pick n m : Int) = (if n < 0 then -(n + 1) else n) % m := by
 unfold pick
 have h2 : 0 ≤ (if n < 0 then -(n + 1) else n) % m := Int.emod_nonneg _ (by omega)
 omega
theorem picked_any (n m : Int) (w : World) (h0 : -9223372036854775808 ≤ n) (h1 : n ≤ 9223372036854775807) (h2 : 1 ≤ m) (h3 : m ≤ 9223372036854775807) :
    Calls Tryz.prog 16 #[.int .i64 n, .int .i64 m] w fun e w' => e = .returned (.int .i64 (pick n m)) ∧ w = w' := by
 have hv := pick_val n m h2
 have hm : (m == 0) = false := by simp; omega
 by_cases hn : n < 0
 ·rw [if_pos hn] at hv
  have HV := Lib.hid hv; clear hv
  go_enter Tryz.func16, Tryz.ntmps16
  go_wp2
  go_ret
  exact ⟨ret_int (by rw [HV.out]; rw [← Int.neg_tmod]; exact Int.tmod_eq_emod_of_nonneg (by omega)), rfl⟩
 ·rw [if_neg hn] at hv
  have hn' : 0 ≤ n := by omega
  have HV := Lib.hid hv; clear hv
  go_enter Tryz.func16, Tryz.ntmps16
  go_wp2
  go_ret
  exact ⟨ret_int (by rw [HV.out]), rfl⟩
theorem infoU8 : (Tryz.prog.info? 5).map (fun i => (i.zero, i.size, i.bytes)) = some (some (.int .u8 0), 1, 1) := by kernel_rfl
def bcells (l : List UInt8) : List Value := l.map fun b => Value.int .u8 (b.toNat : Int)
theorem bcells_append (l m : List UInt8) : bcells (l ++ m) = bcells l ++ bcells m := by simp [bcells]
theorem bcells_get (l : List UInt8) (j : Nat) (h : j < l.length) : (bcells l)[j]? = some (.int .u8 (l[j].toNat : Int)) := by simp [bcells, h]
def OwnB (w : World) (base e : Nat) (v : Value) (l : List UInt8) : Prop := w.ownsRow base e 1 v l.length (bcells l)
theorem run_str_own {P : Program} {w : World} {base e : Nat} {v : Value} {l : List UInt8} (h : OwnB w base e v l) {src dst : TypeId}
    (hs : P.underlying src = some (.slice e)) (he : P.underlying e = some (.int .u8)) (hd : P.underlying dst = some .string) :
    (convert src dst v).run P w = .ok (.string ⟨l.toArray⟩) w := by
 have h0 := h
 rcases h.2 with ⟨rfl, hl⟩ | ⟨g, cap, cur, rfl, _, hg, _, _, _, htake⟩
 ·obtain rfl : l = [] := List.eq_nil_of_length_eq_zero hl
  exact run_convert_bytes_nil (P := P) w src e hs he 0 0 dst hd
 ·refine run_convert_bytes_back w src dst e ⟨g, 0, none⟩ cap l hs he hd ?_
  intro j hj
  exact World.ownsRow.cells h0 (g := g) rfl j _ (bcells_get l j hj)
theorem bt {w a b : World} (h : Below w.heap.size w a) (k : Below a.heap.size a b) : Below w.heap.size w b := h.trans (k.mono h.size)
theorem ba {w a : World} (h : Below w.heap.size w a) (o : Obj) : Below w.heap.size w (a.alloc o) := h.alloc h.size o
theorem moved {B : Nat} {w w' : World} {b o : Nat} {v : Value} (h : w.cell? ⟨b, o, none⟩ = some v) (hb : Below B w w') (hB : w.heap.size ≤ B) : w'.cell? ⟨b, o, none⟩ = some v :=
 (hb.cell (p := ⟨b, o, none⟩) (Nat.lt_of_lt_of_le (World.block_lt_of_cell? _ _ h) hB)).trans h
theorem alloc_cell (w : World) (xs : Array Value) (t : TypeId) (j : Nat) (v : Value) (h : xs[j]? = some v) : (w.alloc (.cells xs t)).cell? ⟨w.heap.size, j, none⟩ = some v := by
 have hh : ∀ o, (w.alloc o).heap[w.heap.size]? = some o := heap_alloc_new w
 simp only [World.cell?, hh]
 exact h
theorem row_down {w w' : World} {base e size n : Nat} {v : Value} {l : List Value} (h : w.ownsRow base e size v n l) (hb : Below w.heap.size w w') : w'.ownsRow base e size v n l :=
 h.kept (row := none) ⟨hb.os, hb.tape, hb.output, hb.size, fun k hk _ => hb.block k hk⟩ (by cases hv : v.ownBlock <;> simp)
theorem row_off {w : World} {base e size n b : Nat} {v : Value} {l : List Value} (h : w.ownsRow base e size v n l) (hne : v.ownBlock ≠ some b) (i : Nat) (u : Value) : (w.setCell ⟨b, i, none⟩ u).ownsRow base e size v n l :=
 h.kept (Go.Lib.grownBy_setB (World.grownBy.refl w (some b)) i u) (.inr hne)
theorem row_apart {w : World} {base e size n b : Nat} {v : Value} {l : List Value} (h : w.ownsRow base e size v n l) (hb : b < base) : some b ≠ v.ownBlock := by
 intro e
 have := (h.lt b e.symm).1
 omega
theorem below_row {B : Nat} {w wr w' : World} {base e size n : Nat} {v : Value} {l : List Value} (hb : Below B w wr) (hB : B ≤ w.heap.size) (h : wr.ownsRow base e size v n l) (hbase : B ≤ base) (g : wr.grownBy w' v.ownBlock) : Below B w w' :=
 ⟨g.os.trans hb.os, g.tape.trans hb.tape, g.output.trans hb.output, Nat.le_trans hb.size g.size, fun k hk => (g.block k (Nat.lt_of_lt_of_le (Nat.lt_of_lt_of_le hk hB) hb.size) (row_apart h (Nat.lt_of_lt_of_le hk hbase))).trans (hb.block k hk)⟩
def Has (w : World) (b : Nat) (vs : List Value) : Prop :=
 (∀ i v, vs[i]? = some v → w.cell? ⟨b, i, none⟩ = some v) ∧ (∀ i, i < vs.length → w.frozen? ⟨b, i, none⟩ = false) ∧ b < w.heap.size
theorem Has.alloc (w : World) (vs : List Value) (t : TypeId) : Has (w.alloc (.cells vs.toArray t)) w.heap.size vs := by
 have hh : (w.alloc (.cells vs.toArray t (0, 0))).heap[w.heap.size]? = some (.cells vs.toArray t (0, 0)) := heap_alloc_new w _
 refine ⟨fun i v h => alloc_cell w _ t i _ (by simpa using h), fun i h => ?_, by simp⟩
 simp only [World.frozen?, hh]; simp
theorem Has.down {w w' : World} {b : Nat} {vs : List Value} (h : Has w b vs) (hb : Below w.heap.size w w') : Has w' b vs :=
 ⟨fun i v hv => moved (h.1 i v hv) hb (Nat.le_refl _), fun i hi => (hb.frozen (p := ⟨b, i, none⟩) h.2.2).trans (h.2.1 i hi), Nat.lt_of_lt_of_le h.2.2 hb.size⟩
theorem Has.below {B : Nat} {w w' : World} {b : Nat} {vs : List Value} (h : Has w b vs) (hb : Below B w w') (hB : b < B) : Has w' b vs :=
 ⟨fun i v hv => (hb.cell (p := ⟨b, i, none⟩) hB).trans (h.1 i v hv), fun i hi => (hb.frozen (p := ⟨b, i, none⟩) hB).trans (h.2.1 i hi), Nat.lt_of_lt_of_le h.2.2 hb.size⟩
theorem Has.kept {w w' : World} {b : Nat} {vs : List Value} {o : Option Nat} (h : Has w b vs) (g : w.grownBy w' o) (hb : some b ≠ o) : Has w' b vs := by
 have hk := g.block b h.2.2 hb
 exact ⟨fun i v hv => (World.cell?_of_block (w := w) (a := ⟨b, i, none⟩) hk).trans (h.1 i v hv), fun i hi => (World.frozen?_of_block (w := w) (a := ⟨b, i, none⟩) hk).trans (h.2.1 i hi), Nat.lt_of_lt_of_le h.2.2 g.size⟩
theorem Has.else' {w : World} {b c i : Nat} {vs : List Value} (h : Has w b vs) (hc : b ≠ c) (u : Value) : Has (w.setCell ⟨c, i, none⟩ u) b vs :=
 ⟨fun j v hv => (World.cell?_setCell_other _ _ _ _ (by intro e; exact hc (congrArg Addr.block e).symm)).trans (h.1 j v hv), fun j hj => (World.frozen?_setCell ..).trans (h.2.1 j hj), by have := h.2.2; simpa [World.setCell] using this⟩
theorem Has.set' {w : World} {b i : Nat} {vs : List Value} (h : Has w b vs) (u : Value) (hi : i < vs.length) : Has (w.setCell ⟨b, i, none⟩ u) b (vs.set i u) := by
 refine ⟨fun j v hv => ?_, fun j hj => (World.frozen?_setCell ..).trans (h.2.1 j (by simpa using hj)), by have := h.2.2; simpa [World.setCell] using this⟩
 by_cases e : j = i
 ·subst e
  rw [List.getElem?_set_self hi] at hv
  obtain rfl := Option.some.inj hv
  exact World.cell?_setCell_same _ _ _ (h.1 j _ (List.getElem?_eq_getElem hi))
 ·rw [List.getElem?_set_ne (fun e2 => e e2.symm)] at hv
  exact (World.cell?_setCell_other _ _ _ _ (by intro e2; exact e (congrArg Addr.off e2).symm)).trans (h.1 j v hv)
theorem Has.two {w : World} {b : Nat} {a0 a1 : Value} (h : Has w b [a0, a1]) : w.cell? ⟨b, 0, none⟩ = some a0 ∧ w.cell? ⟨b, 1, none⟩ = some a1 ∧ w.frozen? ⟨b, 0, none⟩ = false ∧ w.frozen? ⟨b, 1, none⟩ = false :=
 ⟨h.1 0 _ rfl, h.1 1 _ rfl, h.2.1 0 (by simp), h.2.1 1 (by simp)⟩
theorem Has.six {w : World} {b : Nat} {a0 a1 a2 a3 a4 a5 : Value} (h : Has w b [a0, a1, a2, a3, a4, a5]) :
    w.cell? ⟨b, 0, none⟩ = some a0 ∧ w.cell? ⟨b, 1, none⟩ = some a1 ∧ w.cell? ⟨b, 2, none⟩ = some a2 ∧ w.cell? ⟨b, 3, none⟩ = some a3 ∧ w.cell? ⟨b, 4, none⟩ = some a4 ∧ w.cell? ⟨b, 5, none⟩ = some a5 :=
 ⟨h.1 0 _ rfl, h.1 1 _ rfl, h.1 2 _ rfl, h.1 3 _ rfl, h.1 4 _ rfl, h.1 5 _ rfl⟩
theorem Has.six_free {w : World} {b : Nat} {a0 a1 a2 a3 a4 a5 : Value} (h : Has w b [a0, a1, a2, a3, a4, a5]) :
    w.frozen? ⟨b, 0, none⟩ = false ∧ w.frozen? ⟨b, 1, none⟩ = false ∧ w.frozen? ⟨b, 2, none⟩ = false ∧ w.frozen? ⟨b, 3, none⟩ = false ∧ w.frozen? ⟨b, 4, none⟩ = false ∧ w.frozen? ⟨b, 5, none⟩ = false :=
 ⟨h.2.1 0 (by simp), h.2.1 1 (by simp), h.2.1 2 (by simp), h.2.1 3 (by simp), h.2.1 4 (by simp), h.2.1 5 (by simp)⟩
theorem news_of (w : World) (cs : List Value) (t : TypeId) : ∀ j u, cs[j]? = some u → (w.alloc (.cells cs.toArray t)).cell? (Addr.add ⟨w.heap.size, 0, none⟩ j) = some u := by
 intro j u hj
 rw [Addr.add_lit, Nat.zero_add]
 exact (Has.alloc w cs t).1 j u hj
theorem extract_first (s : ByteArray) (n : Nat) : s.extract 0 n = ⟨(s.data.toList.take n).toArray⟩ := by
 rw [Lib.extract_eq]; simp
theorem cut_text (s : ByteArray) (n : Nat) (w : World) (_hs : s.size ≤ 9223372036854775807) (h1 : n ≤ 1000000) :
    Calls Tryz.prog 56 #[.string s, .int .i64 n] w fun e w' => e = .returned (.string ⟨(s.data.toList.take n).toArray⟩) ∧ w = w' := by
 have H := Lib.hid (extract_first s)
 by_cases h : n < s.size
 ·have hm : min (s.size : Int) (n : Int) = (n : Int) := Int.min_eq_right (by omega)
  go_enter Tryz.func56, Tryz.ntmps56
  go_wp2
  go_ret
  exact ⟨congrArg (fun b => Ending.returned (Value.string b)) (H.out n), rfl⟩
 ·have HS : Hid (s = ⟨(s.data.toList.take n).toArray⟩) := by
   rw [List.take_of_length_le (by simp; omega)]; exact (Lib.mk_data s).symm
  have hm : min (s.size : Int) (n : Int) = (s.size : Int) := Int.min_eq_left (by omega)
  go_enter Tryz.func56, Tryz.ntmps56
  go_wp2
  go_ret
  exact ⟨congrArg (fun b => Ending.returned (Value.string b)) HS.out, rfl⟩
end Go.Proofs.YtmkppkjikifdlaaGreatDoor
