/-
  DERIVED. 'Letter' of postroomkeep: the plain side.
-/
import Derived.Test.YtdhepaeephmhiaaDoorLetGood
namespace Go.Proofs.YtdhepaeephmhiaaDoor
open Go.RowKit

def letN (n : Nat) : List UInt8 := match n % 5 with
  | 0 => [83, 117, 98, 106, 101, 99, 116]
  | 1 => [116, 111]
  | 2 => [70, 114, 111, 109]
  | 3 => [99, 99]
  | _ => [88]
def annL : List UInt8 := [65, 110, 110, 32, 60, 97, 110, 110, 64, 120, 46, 121, 62, 44, 32, 98, 64, 99]
def letF (f : Fld) : Fld := (letN f.2.length, if f.2.length % 5 = 1 ∧ f.2.length % 2 = 1 then annL else f.2)
def ltrFs (x : Nat → Nat → ByteArray) (len : Nat) : List Fld := (msgL x (min len 6)).map letF
def ltrT (x : Nat → Nat → ByteArray) (len : Nat) (body : List UInt8) : List UInt8 := showL (ltrFs x len) (body.take 100)
theorem letN_ok (n : Nat) : nameOK (letN n) = true ∧ (letN n).length ≤ 7 := by
  unfold letN; split <;> exact ⟨by decide, by decide⟩
theorem letF_good {f : Fld} (h : Good f) : Good (letF f) := by
  refine ⟨(letN_ok _).1, ?_, ?_⟩
  · show sepL [13, 10] (if _ then annL else f.2) = none
    split
    · decide
    · exact h.2.1
  · show trimV (if _ then annL else f.2) = (if _ then annL else f.2)
    split
    · decide
    · exact h.2.2
theorem msg_val (x : Nat → Nat → ByteArray) (k : Nat) : ∀ f ∈ msgL x k, f.2.length ≤ 40 := by
  intro f hf
  obtain ⟨i, _, rfl⟩ := List.mem_map.1 hf
  exact valueL_len _
theorem letF_len {f : Fld} (h : f.2.length ≤ 40) : (fieldL (letF f)).length ≤ 51 := by
  have h1 := (letN_ok f.2.length).2
  have h2 : (letF f).2.length ≤ 40 := by
    show (if _ then annL else f.2).length ≤ 40
    split
    · decide
    · exact h
  have h3 : (fieldL (letF f)).length = (letN f.2.length).length + (letF f).2.length + 4 := by
    unfold fieldL
    simp only [List.length_append, List.length_cons, List.length_nil]
    show (letN f.2.length).length + (0 + 1 + 1) + (letF f).2.length + (0 + 1 + 1) = _
    omega
  omega
theorem ltrFs_good (x : Nat → Nat → ByteArray) (len : Nat) : ∀ f ∈ ltrFs x len, Good f := by
  intro f hf
  obtain ⟨g, hg, rfl⟩ := List.mem_map.1 hf
  exact letF_good (msg_good x _ g hg)
theorem ltrFs_len (x : Nat → Nat → ByteArray) (len : Nat) : (ltrFs x len).length = min len 6 := by unfold ltrFs; rw [List.length_map, msgL_len]
theorem showF_map_le (l : List Fld) (h : ∀ f ∈ l, f.2.length ≤ 40) : (showF (l.map letF)).length ≤ 51 * l.length := by
  induction l with
  | nil => exact Nat.le_refl _
  | cons f l ih =>
    have h1 := letF_len (h f (List.mem_cons_self ..))
    have h2 := ih (fun g hg => h g (List.mem_cons_of_mem _ hg))
    show (fieldL (letF f) ++ showF (l.map letF)).length ≤ _
    rw [List.length_append, List.length_cons]; omega
theorem ltrFs_size (x : Nat → Nat → ByteArray) (len : Nat) : (showF (ltrFs x len)).length ≤ 306 := by
  have h := showF_map_le (msgL x (min len 6)) (msg_val x _)
  rw [msgL_len] at h
  unfold ltrFs
  omega
theorem ltrT_len (x : Nat → Nat → ByteArray) (len : Nat) (body : List UInt8) : 2 ≤ (ltrT x len body).length ∧ (ltrT x len body).length ≤ 408 := by
  have h := ltrFs_size x len
  unfold ltrT
  rw [showL_len, List.length_take]
  omega
/-- the list behind j rounds -/
def ltrJ (fs : List Fld) (j : Nat) : List Fld := (fs.take j).map letF ++ fs.drop j
theorem ltrJ_len (fs : List Fld) (j : Nat) : (ltrJ fs j).length = fs.length := by
  unfold ltrJ
  rw [List.length_append, List.length_map, List.length_take, List.length_drop]; omega
theorem ltrJ_at {fs : List Fld} {j : Nat} (h : j < fs.length) : (ltrJ fs j)[j]? = some fs[j] := by
  unfold ltrJ
  rw [List.getElem?_append_right (by rw [List.length_map, List.length_take]; omega), List.length_map, List.length_take, Nat.min_eq_left (by omega), Nat.sub_self, List.getElem?_drop, Nat.add_zero, List.getElem?_eq_getElem h]
theorem ltrJ_next {fs : List Fld} {j : Nat} (h : j < fs.length) : (ltrJ fs j).set j (letF fs[j]) = ltrJ fs (j + 1) := by
  unfold ltrJ
  rw [List.set_append_right _ _ (by rw [List.length_map, List.length_take]; omega), List.length_map, List.length_take, Nat.min_eq_left (by omega), Nat.sub_self, List.drop_eq_getElem_cons h, List.set_cons_zero, List.take_succ_eq_append_getElem h, List.map_append, List.append_assoc]
  rfl
theorem fcells_name : ∀ (i : Nat) (l : List Fld) (f : Fld) (a : List UInt8), l[i]? = some f → fcells (l.set i (a, f.2)) = (fcells l).set (i * 2) (.string ⟨a.toArray⟩)
  | 0, f :: l, _, a, h => by obtain rfl := Option.some.inj h; rfl
  | i + 1, g :: l, f, a, h => by
    have := fcells_name i l f a (by simpa using h)
    rw [List.set_cons_succ, fcells_cons, fcells_cons, this, show (i + 1) * 2 = (i * 2) + 1 + 1 by omega]
    rfl
theorem fcells_val : ∀ (i : Nat) (l : List Fld) (f : Fld) (b : List UInt8), l[i]? = some f → fcells (l.set i (f.1, b)) = (fcells l).set (i * 2 + 1) (.string ⟨b.toArray⟩)
  | 0, f :: l, _, b, h => by obtain rfl := Option.some.inj h; rfl
  | i + 1, g :: l, f, b, h => by
    have := fcells_val i l f b (by simpa using h)
    rw [List.set_cons_succ, fcells_cons, fcells_cons, this, show (i + 1) * 2 + 1 = (i * 2 + 1) + 1 + 1 by omega]
    rfl
end Go.Proofs.YtdhepaeephmhiaaDoor
