/-
  DERIVED. Small laws of no program: rows of bytes that the call itself owns, and their conversion to a string.
-/
import Derived.WalkKit
import Derived.WalkLawsBesides
import Derived.WalkSpells
import Derived.Lib.Hide
import Derived.Maps.AppendAt
import Derived.Lib.ConvBytes
set_option linter.unusedVariables false
set_option linter.unusedSimpArgs false
namespace Go.Proofs.YtpfbkdbblpppdaaGreatDoor
open Go.RowKit

/-- the cells of bytes -/
def bcells (l : List UInt8) : List Value := l.map fun b => Value.int .u8 (b.toNat : Int)
theorem bcells_length (l : List UInt8) : (bcells l).length = l.length := by simp [bcells]
theorem bcells_append (l m : List UInt8) : bcells (l ++ m) = bcells l ++ bcells m := by simp [bcells]
theorem bcells_one (l : List UInt8) : ∀ u ∈ bcells l, u.oneCell' = true := by
  intro u hu; simp only [bcells, List.mem_map] at hu; obtain ⟨b, _, rfl⟩ := hu; rfl
theorem bcells_set (l : List UInt8) (j : Nat) (b : UInt8) : (bcells l).set j (.int .u8 (b.toNat : Int)) = bcells (l.set j b) := by simp [bcells, List.map_set]
theorem bcells_get (l : List UInt8) (j : Nat) (h : j < l.length) : (bcells l)[j]? = some (.int .u8 (l[j].toNat : Int)) := by simp [bcells, h]

/-- 'v owns the bytes l' -/
def OwnB (w : World) (base e : Nat) (v : Value) (l : List UInt8) : Prop := w.ownsRow base e 1 v l.length (bcells l)

theorem run_str_own {P : Program} {w : World} {base e : Nat} {v : Value} {l : List UInt8} (h : OwnB w base e v l) {src dst : TypeId}
    (hs : P.underlying src = some (.slice e)) (he : P.underlying e = some (.int .u8)) (hd : P.underlying dst = some .string) :
    (convert src dst v).run P w = .ok (.string ⟨l.toArray⟩) w := by
  have h0 := h
  rcases h.2 with ⟨rfl, hl⟩ | ⟨g, cap, cur, rfl, _, hg, _, _, _, htake⟩
  · obtain rfl : l = [] := List.eq_nil_of_length_eq_zero hl
    exact run_convert_bytes_nil (P := P) w src e hs he 0 0 dst hd
  · refine run_convert_bytes_back w src dst e ⟨g, 0, none⟩ cap l hs he hd ?_
    intro j hj
    exact World.ownsRow.cells h0 (g := g) rfl j _ (bcells_get l j hj)

theorem madeBytes (n : Nat) : (madeCells (Value.int .u8 0).cells (n * 1)).toList = bcells (List.replicate n 0) := by
  rw [Nat.mul_one]
  show (madeCells #[.int .u8 0] n).toList = _
  rw [toList_madeCells_one]; simp [bcells]

/-- 'block b holds the bytes l, and they may be written' -/
def HasB (w : World) (b : Nat) (l : List UInt8) : Prop :=
  (∀ j (h : j < l.length), w.cell? ⟨b, j, none⟩ = some (.int .u8 (l[j].toNat : Int))) ∧ ∀ j, j < l.length → w.frozen? ⟨b, j, none⟩ = false
theorem HasB.stored {w : World} {b : Nat} {l : List UInt8} (h : HasB w b l) (j : Nat) (c : UInt8) : HasB (w.setCell ⟨b, j, none⟩ (.int .u8 (c.toNat : Int))) b (l.set j c) := by
  refine ⟨fun i hi => ?_, fun i hi => ?_⟩
  · by_cases e : i = j
    · subst e
      rw [World.cell?_setCell_same (h := h.1 i (by simpa using hi)), List.getElem_set_self]
    · rw [World.cell?_setCell_other (h := fun e' => e (by simpa using e'.symm)), h.1 i (by simpa using hi), List.getElem_set_ne (fun e' => e e'.symm)]
  · rw [World.frozen?_setCell]; exact h.2 i (by simpa using hi)
theorem HasB.str {P : Program} {w : World} {b : Nat} {l : List UInt8} (h : HasB w b l) (cap : Nat) {src dst e : TypeId}
    (hs : P.underlying src = some (.slice e)) (he : P.underlying e = some (.int .u8)) (hd : P.underlying dst = some .string) :
    (convert src dst (.slice (some ⟨b, 0, none⟩) l.length cap)).run P w = .ok (.string ⟨l.toArray⟩) w := by
  refine run_convert_bytes_back w src dst e ⟨b, 0, none⟩ cap l hs he hd ?_
  intro j hj
  rw [Addr.add_lit, Nat.zero_add]
  exact h.1 j hj
theorem HasB.fresh (w : World) (e : TypeId) (s : ByteArray) : HasB (Lib.bytesWorld w e s) w.heap.size s.data.toList := by
  refine ⟨fun j hj => ?_, fun j hj => ?_⟩
  · rw [Lib.bytesWorld_cell w e s j (by simpa using hj)]
    simp [List.getD, List.getElem?_eq_getElem hj]
  · have hz : j < (Lib.bytesCells w e s).size := by simp [Lib.bytesCells]; simp at hj; omega
    simp only [World.frozen?, Lib.bytesWorld_at_new]
    simp; omega
theorem bytesWorld_below (w : World) (e : TypeId) (s : ByteArray) : Below w.heap.size w (Lib.bytesWorld w e s) :=
  ⟨rfl, rfl, rfl, by rw [Lib.bytesWorld_size]; omega, fun k hk => Lib.bytesWorld_at_old w e s k hk⟩
/-- the chain of worlds -/
theorem bt {w a b : World} (h : Below w.heap.size w a) (k : Below a.heap.size a b) : Below w.heap.size w b := h.trans (k.mono h.size)
theorem ba {w a : World} (h : Below w.heap.size w a) (o : Obj) : Below w.heap.size w (a.alloc o) := h.alloc h.size o
theorem moved {B : Nat} {w w' : World} {b o : Nat} {v : Value} (h : w.cell? ⟨b, o, none⟩ = some v) (hb : Below B w w') (hB : w.heap.size ≤ B) : w'.cell? ⟨b, o, none⟩ = some v :=
  (hb.cell (p := ⟨b, o, none⟩) (Nat.lt_of_lt_of_le (World.block_lt_of_cell? _ _ h) hB)).trans h

theorem alloc_cell (w : World) (xs : Array Value) (t : TypeId) (j : Nat) (v : Value) (h : xs[j]? = some v) : (w.alloc (.cells xs t)).cell? ⟨w.heap.size, j, none⟩ = some v := by
  have hh : ∀ o, (w.alloc o).heap[w.heap.size]? = some o := heap_alloc_new w
  simp only [World.cell?, hh]
  exact h
end Go.Proofs.YtpfbkdbblpppdaaGreatDoor
