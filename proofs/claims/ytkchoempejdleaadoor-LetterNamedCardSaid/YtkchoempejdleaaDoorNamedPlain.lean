/-
  DERIVED. LetterNamed: the plain laws.
-/
import Derived.Test.YtkchoempejdleaaDoorFoldPlain
import Derived.Test.YtkchoempejdleaaDoorLetterBodies
namespace Go.Proofs.YtkchoempejdleaaDoor
open Go.RowKit

/-- small letters -/
def Low (l : List UInt8) : Prop := ∀ c ∈ l, 97 ≤ c.toNat ∧ c.toNat ≤ 122
theorem low_byte (c : UInt8) : 97 ≤ (lowB c).toNat ∧ (lowB c).toNat ≤ 122 := by
  have h := lowB_nat c
  have h2 : (c.toNat : Int) % 26 < 26 := Int.emod_lt_of_pos _ (by omega)
  have h3 : 0 ≤ (c.toNat : Int) % 26 := Int.emod_nonneg _ (by omega)
  omega
theorem word_low (l : List UInt8) : Low (wordL l) := by
  intro c hc
  unfold wordL at hc
  split at hc
  · obtain rfl := List.mem_singleton.1 hc
    decide
  · obtain ⟨d, _, rfl⟩ := List.mem_map.1 hc
    exact low_byte d
theorem fold_low {l : List UInt8} (h : Low l) : foldL l = l := by
  unfold foldL
  conv => rhs; rw [← List.map_id l]
  refine List.map_congr_left fun c hc => ?_
  have := h c hc
  exact sml_no c (by omega)
/-- the great letters -/
def greatL (l : List UInt8) : List UInt8 := l.map (· - 32)
theorem great_nat (c : UInt8) (h : 97 ≤ c.toNat ∧ c.toNat ≤ 122) : ((c - 32).toNat : Int) = (c.toNat : Int) - 32 := by
  have : (c - 32).toNat = c.toNat - 32 := by
    rw [UInt8.toNat_sub_of_le]
    · rfl
    · rw [UInt8.le_iff_toNat_le]; show 32 ≤ c.toNat; omega
  omega
theorem fold_great {l : List UInt8} (h : Low l) : foldL (greatL l) = l := by
  unfold foldL greatL
  rw [List.map_map]
  conv => rhs; rw [← List.map_id l]
  refine List.map_congr_left fun c hc => ?_
  have h1 := h c hc
  have h2 := great_nat c h1
  show sml (c - 32) = c
  apply UInt8.toNat_inj.1
  rw [sml_up (c - 32) (by omega) (by omega)]
  omega
theorem greatL_length (l : List UInt8) : (greatL l).length = l.length := by simp [greatL]
/-- the values of the fields whose name is n -/
def wantL (fs : List Fld) (n : List UInt8) : List (List UInt8) := (fs.filter fun f => f.1 == n).map (·.2)
theorem vals_want (fs : List Fld) (n p : List UInt8) (hf : ∀ f ∈ fs, Low f.1) (hp : foldL p = n) : valsL fs p = wantL fs n := by
  unfold valsL wantL
  rw [hp]
  congr 1
  refine List.filter_congr fun f h => ?_
  rw [fold_low (hf f h)]
theorem want_take_hit (fs : List Fld) (n : List UInt8) (j : Nat) (h : j < fs.length) (hm : (fs[j].1 == n) = true) : wantL (fs.take (j + 1)) n = wantL (fs.take j) n ++ [fs[j].2] := by
  unfold wantL
  rw [List.take_succ_eq_append_getElem h, List.filter_append, List.map_append]
  simp [hm]
theorem want_take_miss (fs : List Fld) (n : List UInt8) (j : Nat) (h : j < fs.length) (hm : (fs[j].1 == n) = false) : wantL (fs.take (j + 1)) n = wantL (fs.take j) n := by
  unfold wantL
  rw [List.take_succ_eq_append_getElem h, List.filter_append, List.map_append]
  simp [hm]
theorem want_more (fs : List Fld) (n v : List UInt8) : (wantL (fs ++ [(n, v)]) n).length = (wantL fs n).length + 1 := by
  unfold wantL
  rw [List.filter_append, List.map_append, List.length_append]
  simp
theorem want_len (fs : List Fld) (n : List UInt8) : (wantL fs n).length ≤ fs.length := by
  unfold wantL
  rw [List.length_map]
  exact List.length_filter_le _ _
theorem msg_low (x : Nat → Nat → ByteArray) (k : Nat) : ∀ f ∈ msgL x k, Low f.1 := by
  intro f hf
  obtain ⟨i, _, rfl⟩ := List.mem_map.1 hf
  exact word_low _
theorem msg_fld' (x : Nat → Nat → ByteArray) (k : Nat) : ∀ f ∈ msgL x k, f.1.length ≤ 8 ∧ nameOK f.1 = true := by
  intro f hf
  obtain ⟨i, _, rfl⟩ := List.mem_map.1 hf
  exact ⟨wordL_le _, word_name _⟩
/-- great letters, up to k -/
def greatTo (l : List UInt8) (k : Nat) : List UInt8 := greatL (l.take k) ++ l.drop k
theorem greatTo_length (l : List UInt8) (k : Nat) : (greatTo l k).length = l.length := by unfold greatTo; rw [List.length_append, greatL_length, List.length_take, List.length_drop]; omega
theorem greatTo_zero (l : List UInt8) : greatTo l 0 = l := by unfold greatTo; simp [greatL]
theorem greatTo_all (l : List UInt8) : greatTo l l.length = greatL l := by unfold greatTo; simp
theorem greatTo_get (l : List UInt8) (i : Nat) (h : i < l.length) : (greatTo l i)[i]'(by rw [greatTo_length]; exact h) = l[i] := by
  unfold greatTo
  rw [List.getElem_append_right (by rw [greatL_length, List.length_take]; omega)]
  simp only [greatL_length, List.length_take, List.getElem_drop]
  congr 1
  omega
theorem greatTo_step (l : List UInt8) (i : Nat) (h : i < l.length) : (greatTo l i).set i (l[i] - 32) = greatTo l (i + 1) := by
  unfold greatTo
  have hl : (greatL (l.take i)).length = i := by rw [greatL_length, List.length_take]; omega
  rw [List.set_append_right _ _ (by omega), hl, Nat.sub_self, List.drop_eq_getElem_cons h, List.set_cons_zero, List.take_succ_eq_append_getElem h]
  unfold greatL
  rw [List.map_append, List.append_assoc]
  rfl
end Go.Proofs.YtkchoempejdleaaDoor
