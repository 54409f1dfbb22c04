/-
  DERIVED. What the plain laws say of addresses made of words.
-/
import Derived.Test.YtdhepaeephmhiaaDoorPart
import Derived.Test.YtdhepaeephmhiaaDoorBlk
namespace Go.Proofs.YtdhepaeephmhiaaDoor
open Go.RowKit

theorem atom_ne (c : UInt8) (h : isAtom c = true) : c ≠ 46 := by rintro rfl; exact absurd h (by decide)
theorem dotOK_atoms : ∀ (l r : List UInt8) (st : Bool), l.all isAtom = true → l ≠ [] → dotOK st (l ++ r) = dotOK false r
  | [], _, _, _, h => absurd rfl h
  | [c], r, st, hl, _ => by
    have hc : isAtom c = true := by simpa using hl
    show dotOK st (c :: r) = _
    rw [dotOK, if_neg (atom_ne c hc), hc, Bool.true_and]
  | c :: d :: l, r, st, hl, _ => by
    have h2 : isAtom c = true ∧ (d :: l).all isAtom = true := by rw [List.all_cons, Bool.and_eq_true] at hl; exact hl
    show dotOK st (c :: ((d :: l) ++ r)) = _
    rw [dotOK, if_neg (atom_ne c h2.1), h2.1, Bool.true_and]
    exact dotOK_atoms (d :: l) r false h2.2 (by simp)
theorem low_atom (c : UInt8) : isAtom (lowB c) = true := by
  have h : ∀ n : Nat, n < 26 → isAtom (97 + UInt8.ofNat n) = true := by decide +kernel
  have := h (c.toNat % 26) (Nat.mod_lt _ (by decide))
  have e : lowB c = 97 + UInt8.ofNat (c.toNat % 26) := by
    unfold lowB
    congr 1
    apply UInt8.toNat_inj.1
    rw [UInt8.toNat_mod]
    have : c.toNat % 26 < 26 := Nat.mod_lt _ (by decide)
    show c.toNat % 26 = (c.toNat % 26) % 256
    omega
  rw [e]; exact this
theorem word_atoms (l : List UInt8) : (wordL l).all isAtom = true := by
  unfold wordL
  split
  · decide
  · rw [List.all_map]
    exact List.all_eq_true.2 fun c _ => low_atom c
theorem word_ne (l : List UInt8) : wordL l ≠ [] := by
  intro h; have := wordL_pos l; rw [h] at this; exact absurd this (by decide)
theorem addrL_ok (l : List UInt8) : dotOK true (addrL l).data.toList = true := by
  have := dotOK_atoms (wordL l) [] true (word_atoms l) (word_ne l)
  rw [List.append_nil] at this
  exact this
theorem addrD_list (l : List UInt8) : (addrD l).data.toList = wordL l ++ [46, 111, 114, 103] := by
  unfold addrD; rw [ByteArray.toList_data_append]
theorem addrD_ok (l : List UInt8) : dotOK true (addrD l).data.toList = true := by
  rw [addrD_list, dotOK_atoms _ _ true (word_atoms l) (word_ne l)]
  decide
theorem addrD_size (l : List UInt8) : (addrD l).size ≤ 12 ∧ 5 ≤ (addrD l).size := by
  have h1 : (addrD l).size = (addrD l).data.toList.length := by simp
  rw [h1, addrD_list, List.length_append]
  have := wordL_le l; have := wordL_pos l
  constructor
  · show _ + 4 ≤ 12; omega
  · show 5 ≤ _ + 4; omega
theorem chk_ok (l d : List UInt8) : chk (addrL l).data.toList (addrD d).data.toList = 0 := by
  unfold chk
  rw [addrL_ok, addrD_ok]
  have h1 : (addrL l).data.toList.length ≤ 8 := wordL_le l
  have h2 : (addrD d).data.toList.length ≤ 12 := by have := (addrD_size d).1; simpa using this
  rw [if_pos (by rfl), if_neg (by omega)]
end Go.Proofs.YtdhepaeephmhiaaDoor
