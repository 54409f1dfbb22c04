/- On the way. -/
import Derived.Test.YtpfbkdbblpppdaaGreatDoorEKtA
import Derived.Test.YtpfbkdbblpppdaaGreatDoorEShelf
import Derived.Lib.IndexLaws
import Derived.Lib.SplitLaws
import Derived.BigRegion
import Derived.Handy
set_option linter.unusedVariables false
set_option linter.unusedSimpArgs false
set_option maxHeartbeats 1000000
set_option maxRecDepth 20000
namespace Go.Proofs.YtpfbkdbblpppdaaGreatDoor
open Go.RowKit
def atomB : List UInt8 := [33, 35, 36, 37, 38, 39, 42, 43, 45, 47, 61, 63, 94, 95, 123, 124, 125, 126, 96]
def isAtom (c : UInt8) : Bool := (decide (97 ≤ c.toNat) && decide (c.toNat ≤ 122)) || (decide (65 ≤ c.toNat) && decide (c.toNat ≤ 90)) || (decide (48 ≤ c.toNat) && decide (c.toNat ≤ 57)) || atomB.contains c
theorem index_mem (l : List UInt8) (c : UInt8) : decide (0 ≤ Lib.indexByte l c) = l.contains c := by
 induction l with
 | nil => rfl
 | cons b l ih =>
  have hg := Lib.indexByte_ge l c
  rw [Lib.indexByte]
  by_cases h : b = c
  ·subst h; simp
  ·have hb : (b == c) = false := by simpa using h
   rw [if_neg (by rw [hb]; decide), List.contains_cons]
   have hc : (c == b) = false := by simpa using fun e => h e.symm
   rw [hc, Bool.false_or, ← ih]
   by_cases hm : Lib.indexByte l c = -1
   ·rw [hm]; rfl
   ·rw [if_neg (by simpa using hm)]
    have h1 : 0 ≤ Lib.indexByte l c := by omega
    have h2 : 0 ≤ Lib.indexByte l c + 1 := by omega
    rw [decide_eq_true h1, decide_eq_true h2]
theorem atom_any (c : UInt8) (w : World) :
    Calls Tryz.prog 139 #[.int .u8 (c.toNat : Int)] w fun e w' => e = .returned (.bool (isAtom c)) ∧ w = w' := by
 obtain ⟨n, hn⟩ : ∃ n, n = c.toNat := ⟨_, rfl⟩
 have hA : Hid (isAtom c = ((decide (97 ≤ n) && decide (n ≤ 122)) || (decide (65 ≤ n) && decide (n ≤ 90)) || (decide (48 ≤ n) && decide (n ≤ 57)) || atomB.contains c)) := by unfold Hid isAtom; rw [hn]
 have hI : Hid (∀ w, Calls Tryz.prog 155 #[.string ⟨#[33, 35, 36, 37, 38, 39, 42, 43, 45, 47, 61, 63, 94, 95, 123, 124, 125, 126, 96]⟩, .int .u8 (n : Int)] w fun e w' => ∃ z : Int, e = .returned (.int .i64 z) ∧ Hid (decide (0 ≤ z) = atomB.contains c) ∧ w = w') := by
  unfold Hid
  intro w
  refine (Tryz.strings_IndexByte _ _ w).mono ?_
  rintro e w' ⟨rfl, rfl⟩
  refine ⟨_, rfl, ?_, rfl⟩
  rw [hn, show ((c.toNat : Int)).toNat.toUInt8 = c by simp]
  exact index_mem atomB c
 rw [← hn]
 have hN := Lib.hid hn
 clear hn
 have hcase : (97 ≤ n ∧ n ≤ 122) ∨ (65 ≤ n ∧ n ≤ 90) ∨ (48 ≤ n ∧ n ≤ 57) ∨ n < 48 ∨ (57 < n ∧ n < 65) ∨ (90 < n ∧ n < 97) ∨ 122 < n := by omega
 go_enter Tryz.func139, Tryz.ntmps139
 rcases hcase with ⟨h1, h2⟩ | ⟨h1, h2⟩ | ⟨h1, h2⟩ | h1 | ⟨h1, h2⟩ | ⟨h1, h2⟩ | h1
 ·go_wp2
  go_ret
  exact ⟨by rw [hA.out]; simp [h1, h2], rfl⟩
 ·have h3 : n < 97 := by omega
  have h4 : ¬ 97 ≤ n := by omega
  go_wp2
  go_ret
  exact ⟨by rw [hA.out]; simp [h1, h2], rfl⟩
 ·have h3 : n < 97 := by omega
  have h4 : n < 65 := by omega
  go_wp2
  go_ret
  exact ⟨by rw [hA.out]; simp [h1, h2], rfl⟩
 ·have h3 : decide (97 ≤ n) = false := decide_eq_false (by omega)
  have h4 : decide (65 ≤ n) = false := decide_eq_false (by omega)
  have h5 : decide (48 ≤ n) = false := decide_eq_false (by omega)
  go_wp2_with (refine (hI.out _).mono ?_; rintro e w' ⟨z, rfl, hz, rfl⟩)
  go_ret
  exact ⟨by rw [hA.out, h3, h4, h5, ← hz.out]; simp; try omega, rfl⟩
 ·have h3 : decide (97 ≤ n) = false := decide_eq_false (by omega)
  have h4 : decide (65 ≤ n) = false := decide_eq_false (by omega)
  have h5 : decide (n ≤ 57) = false := decide_eq_false (by omega)
  have h6 : 48 ≤ n := by omega
  go_wp2_with (refine (hI.out _).mono ?_; rintro e w' ⟨z, rfl, hz, rfl⟩)
  go_ret
  exact ⟨by rw [hA.out, h3, h4, h5, ← hz.out]; simp; try omega, rfl⟩
 ·have h3 : decide (97 ≤ n) = false := decide_eq_false (by omega)
  have h4 : decide (n ≤ 90) = false := decide_eq_false (by omega)
  have h5 : decide (n ≤ 57) = false := decide_eq_false (by omega)
  have h6 : 48 ≤ n := by omega
  have h7 : 65 ≤ n := by omega
  go_wp2_with (refine (hI.out _).mono ?_; rintro e w' ⟨z, rfl, hz, rfl⟩)
  go_ret
  exact ⟨by rw [hA.out, h3, h4, h5, ← hz.out]; simp; try omega, rfl⟩
 ·have h3 : decide (n ≤ 122) = false := decide_eq_false (by omega)
  have h4 : decide (n ≤ 90) = false := decide_eq_false (by omega)
  have h5 : decide (n ≤ 57) = false := decide_eq_false (by omega)
  have h6 : 48 ≤ n := by omega
  have h7 : 65 ≤ n := by omega
  have h8 : 97 ≤ n := by omega
  go_wp2_with (refine (hI.out _).mono ?_; rintro e w' ⟨z, rfl, hz, rfl⟩)
  go_ret
  exact ⟨by rw [hA.out, h3, h4, h5, ← hz.out]; simp; try omega, rfl⟩
def dotOK : Bool → List UInt8 → Bool
 | st, [] => !st
 | st, c :: l => if c = 46 then !st && dotOK true l else isAtom c && dotOK false l
def pieceOK (p : List UInt8) : Bool := !p.isEmpty && p.all isAtom
theorem index_eq (c : UInt8) (l : List UInt8) : Lib.index (c :: l) [c] = 0 := by rw [Lib.index]; simp [List.isPrefixOf]
theorem index_ne (b c : UInt8) (l : List UInt8) (h : b ≠ c) : Lib.index (b :: l) [c] = if Lib.index l [c] == -1 then -1 else Lib.index l [c] + 1 := by
 have hp : ([c] : List UInt8).isPrefixOf (b :: l) = false := by simp [List.isPrefixOf, Ne.symm h]
 rw [Lib.index, hp]; simp
theorem split_eq (c : UInt8) (l : List UInt8) : Lib.split (c :: l) [c] = [] :: Lib.split l [c] := by
 unfold Lib.split
 rw [Lib.count_cons_eq, Nat.add_comm, Lib.splitK, index_eq]
 rfl
theorem split_ne (b c : UInt8) (l : List UInt8) (h : b ≠ c) : ∃ p r, Lib.split l [c] = p :: r ∧ Lib.split (b :: l) [c] = (b :: p) :: r := by
 unfold Lib.split
 rw [Lib.count_cons_ne b c l h]
 cases hc : Lib.count l [c] with
 | zero => exact ⟨l, [], rfl, rfl⟩
 | succ k =>
  rw [Lib.splitK, Lib.splitK, index_ne b c l h]
  have hg := Lib.index_ge l [c]
  by_cases hm : Lib.index l [c] = -1
  ·rw [hm]; exact ⟨l, [], rfl, rfl⟩
  ·obtain ⟨j, hj⟩ : ∃ j : Nat, Lib.index l [c] = j := ⟨(Lib.index l [c]).toNat, by omega⟩
   rw [hj]
   have h1 : (((j : Int)) == -1) = false := beq_eq_false_iff_ne.2 (by omega)
   have h2 : (((j : Int) + 1) == -1) = false := beq_eq_false_iff_ne.2 (by omega)
   have h3 : ((j : Int) + 1).toNat = j + 1 := by omega
   simp only [h1, h2, h3, if_false, Bool.false_eq_true, Int.toNat_natCast, Nat.add_zero]
   exact ⟨_, _, rfl, rfl⟩
theorem split_dots : ∀ (l : List UInt8), ∃ p r, Lib.split l [46] = p :: r ∧ (p.all isAtom && r.all pieceOK) = dotOK false l ∧ (pieceOK p && r.all pieceOK) = dotOK true l
 | [] => ⟨[], [], rfl, rfl, rfl⟩
 | c :: l => by
  obtain ⟨p, r, hs, h1, h2⟩ := split_dots l
  by_cases h : c = 46
  ·subst h
   refine ⟨[], Lib.split l [46], split_eq 46 l, ?_, ?_⟩
   ·rw [dotOK, if_pos rfl, hs, List.all_cons, h2]; rfl
   ·rw [dotOK, if_pos rfl]; rfl
  ·obtain ⟨p', r', hs', he⟩ := split_ne c 46 l h
   rw [hs] at hs'
   obtain ⟨rfl, rfl⟩ := List.cons.inj hs'
   refine ⟨c :: p, r, he, ?_, ?_⟩
   ·rw [dotOK, if_neg h, List.all_cons, Bool.and_assoc, h1]
   ·rw [dotOK, if_neg h, pieceOK, List.all_cons, ← h1]; simp [Bool.and_assoc]
theorem dots_all (l : List UInt8) : (Lib.split l [46]).all pieceOK = dotOK true l := by
 obtain ⟨p, r, hs, _, h2⟩ := split_dots l
 rw [hs, List.all_cons, h2]
def okB (p : ByteArray) : Bool := pieceOK p.data.toList
theorem dots_pieces (s : ByteArray) : ∃ (PS : List ByteArray), PS = Lib.splitB ⟨#[46]⟩ 0 (Lib.countB s ⟨#[46]⟩) s ∧ PS.length = Lib.countB s ⟨#[46]⟩ + 1 ∧ PS.all okB = dotOK true s.data.toList ∧ ∀ p ∈ PS, p.size ≤ s.size := by
 refine ⟨_, rfl, Lib.splitB_all _ (by decide) 0 _ s rfl, ?_, ?_⟩
 ·have h := Lib.splitB_data ⟨#[46]⟩ 0 (Lib.countB s ⟨#[46]⟩) s
  rw [← dots_all]
  show _ = (Lib.splitK [46] 0 (Lib.count s.data.toList [46]) s.data.toList).all pieceOK
  have h' : (Lib.splitB ⟨#[46]⟩ 0 (Lib.countB s ⟨#[46]⟩) s).map (·.data.toList) = Lib.splitK [46] 0 (Lib.count s.data.toList [46]) s.data.toList := h
  rw [← h', List.all_map]
  rfl
 ·have : ∀ (k : Nat) (s : ByteArray), ∀ p ∈ Lib.splitB ⟨#[46]⟩ 0 k s, p.size ≤ s.size := by
   intro k
   induction k with
   | zero => intro s p hp; simp [Lib.splitB] at hp; subst hp; exact Nat.le_refl _
   | succ k ih =>
    intro s p hp
    rw [Lib.splitB] at hp
    split at hp
    ·simp at hp; subst hp; exact Nat.le_refl _
    ·rcases List.mem_cons.1 hp with rfl | hp
     ·rw [ByteArray.size_extract]; omega
     ·have := ih _ p hp
      rw [ByteArray.size_extract] at this
      omega
  exact this _ s
theorem all_take_succ {α : Type} (f : α → Bool) (l : List α) (j : Nat) (h : j < l.length) (h1 : (l.take j).all f = true) (h2 : f l[j] = true) : (l.take (j + 1)).all f = true := by
 rw [List.take_succ_eq_append_getElem h, List.all_append, h1]; simp [h2]
theorem all_false {α : Type} (f : α → Bool) (l : List α) (j : Nat) (h : j < l.length) (h2 : f l[j] = false) : l.all f = false := by
 cases hx : l.all f with
 | false => rfl
 | true => rw [List.all_eq_true.1 hx _ (List.getElem_mem h)] at h2; exact h2
theorem dotted_any (s : ByteArray) (m : Int) (w : World) (hs : s.size ≤ 1000000) (hm : w.cell? ⟨6, 0, none⟩ = some (.int .i64 m)) :
    Calls Tryz.prog 98 #[.string s] w fun e w' => e = .returned (.bool (dotOK true s.data.toList)) ∧ Below w.heap.size w w' := by
 obtain ⟨PS, hPS, hlen, hall, hsize⟩ := dots_pieces s
 obtain ⟨n, hn⟩ : ∃ n, n = PS.length := ⟨_, rfl⟩
 have hsp : Hid (Calls Tryz.prog 138 #[.string s, .string ⟨#[46]⟩] w fun e w' => e = .returned (.slice (some ⟨w.heap.size, 0, none⟩) n n) ∧ (∀ j (h : j < PS.length), w'.cell? ⟨w.heap.size, j, none⟩ = some (.string PS[j])) ∧ Below w.heap.size w w') := by
  unfold Hid
  refine (Tryz.strings_Split s ⟨#[46]⟩ m w (by omega) hm (by decide)).mono ?_
  rintro e w' ⟨rfl, rfl⟩
  rw [← hPS]
  refine ⟨by rw [hn, hlen], fun j hj => ?_, ba (Below.refl _ w) _⟩
  have hh : ∀ o, (w.alloc o).heap[w.heap.size]? = some o := heap_alloc_new w
  simp only [World.cell?, hh]
  rw [List.getElem?_toArray, List.getElem?_map, List.getElem?_eq_getElem hj]; rfl
 have hbound : PS.length ≤ 1000002 := by
  rw [hlen]; have := Lib.countB_le ⟨#[46]⟩ (by decide) s.size s (Nat.le_refl _); omega
 rw [← hall]
 have HS := Lib.hid hsize
 clear hPS hlen hall hsize hm
 rw [← hn] at hbound
 have HN := Lib.hid hn; clear hn
 go_enter Tryz.func98, Tryz.ntmps98
 go_wp2_with fail
 refine hsp.out.mono ?_
 rintro e W1 ⟨rfl, hc, hb⟩
 have HC := Lib.hid hc; clear hc hsp
 go_wp2_with fail
 go_loop [4, 5, 9] (fun _ _ i => ∃ j : Nat, j ≤ n ∧ i = .int .i64 j ∧ Hid ((PS.take j).all okB = true)) (fun _ _ i => n - (intOf i).toNat)
 case atStart => exact ⟨0, Nat.zero_le _, rfl, rfl⟩
 case round =>
  obtain ⟨j, hj, rfl, hok⟩ := hrel
  by_cases hlt : j < n
  ·have hjL : j < PS.length := by rw [← HN.out]; exact hlt
   have hcell := HC.out j hjL
   obtain ⟨a, ha⟩ : ∃ a, a = PS[j] := ⟨_, rfl⟩
   rw [← ha] at hcell
   have hasz : a.size ≤ 1000000 := by have := HS.out a (by rw [ha]; exact List.getElem_mem hjL); omega
   have HL : Hid (∀ i (h : i < a.size), a.data.toList[i]? = some a[i]) := by intro i h; rw [List.getElem?_eq_getElem (by simpa using h)]; rfl
   have HF : Hid (okB a = false → PS.all okB = false) := by intro h; exact all_false okB PS j hjL (by rw [← ha]; exact h)
   have HT : Hid (okB a = true → (PS.take (j + 1)).all okB = true) := by intro h; exact all_take_succ okB PS j hjL hok.out (by rw [← ha]; exact h)
   clear ha hok
   cases he : a.toList.isEmpty with
   | true =>
    have HE : Hid (okB a = false) := by
     unfold Hid okB pieceOK
     rw [ByteArray.toList_eq] at he
     rw [he]; rfl
    go_wp2_with fail
    go_ret
    exact ⟨by rw [HF.out HE.out]; rfl, hb⟩
   | false =>
    have HE : Hid (a.data.toList.isEmpty = false) := by rw [ByteArray.toList_eq] at he; exact he
    go_wp2_with fail
    clear he
    go_loop [5, 17] (fun _ i => ∃ k : Nat, k ≤ a.size ∧ i = .int .i64 k ∧ Hid ((a.data.toList.take k).all isAtom = true)) (fun _ i => a.size - (intOf i).toNat)
    case atStart => exact ⟨0, Nat.zero_le _, rfl, rfl⟩
    case round =>
     obtain ⟨k, hk, rfl, hok⟩ := hrel
     by_cases hlt2 : k < a.size
     ·have hkl : k < a.data.toList.length := by simpa using hlt2
      have HK : Hid (isAtom a[k] = false → okB a = false) := by
       intro h
       unfold okB pieceOK
       rw [all_false isAtom a.data.toList k hkl h, Bool.and_false]
      have HK2 : Hid (isAtom a[k] = true → (a.data.toList.take (k + 1)).all isAtom = true) := by
       intro h; exact all_take_succ isAtom a.data.toList k hkl hok.out h
      clear hok
      cases hat : isAtom a[k] with
      | true =>
       have HAT := Lib.hid hat; clear hat
       go_wp2_with fail
       refine (atom_any _ _).mono ?_
       rintro e w' ⟨rfl, rfl⟩
       rw [HAT.out]
       go_wp2_with fail
       go_round
       case rel => exact ⟨k + 1, by omega, by go_num, HK2.out HAT.out⟩
       case measure => simp [intOf]; omega
      | false =>
       have HAT := Lib.hid hat; clear hat
       go_wp2_with fail
       refine (atom_any _ _).mono ?_
       rintro e w' ⟨rfl, rfl⟩
       rw [HAT.out]
       go_wp2_with fail
       go_ret
       exact ⟨by rw [HF.out (HK.out HAT.out)]; rfl, hb⟩
     ·obtain rfl : k = a.size := by omega
      have HK : Hid (okB a = true) := by
       unfold Hid okB pieceOK
       rw [HE.out]
       have := hok.out
       rw [List.take_of_length_le (by simp)] at this
       rw [this]; rfl
      clear hok
      go_wp2_with fail
      go_round
      case rel => exact ⟨j + 1, by omega, by go_num, HT.out HK.out⟩
      case measure => simp [intOf]; omega
  ·obtain rfl : j = n := by omega
   have HK : Hid (PS.all okB = true) := by
    have := hok.out
    rw [HN.out, List.take_length] at this
    exact this
   clear hok
   go_wp2_with fail
   go_ret
   exact ⟨by rw [HK.out]; rfl, hb⟩
def chk (a d : List UInt8) : Nat := if dotOK true a && dotOK true d then (if 100 < a.length + 1 + d.length then 1 else 0) else 3
theorem chk_le (a d : List UInt8) : chk a d ≤ 3 := by unfold chk; split <;> (try split) <;> omega
theorem check_any (a d : ByteArray) (m : Int) (w : World) (ha : a.size ≤ 1000000) (hd : d.size ≤ 1000000) (hm : w.cell? ⟨6, 0, none⟩ = some (.int .i64 m)) :
    Calls Tryz.prog 58 #[.agg #[.string a, .string d]] w fun e w' => e = .returned (.int .i64 (chk a.data.toList d.data.toList)) ∧ Below w.heap.size w w' := by
 have hM := Lib.hid hm
 have hbase : Hid (∀ o, Below w.heap.size w (w.alloc o)) := fun o => ba (Below.refl _ w) o
 have hC : Hid (chk a.data.toList d.data.toList = if dotOK true a.data.toList && dotOK true d.data.toList then (if 100 < a.size + 1 + d.size then 1 else 0) else 3) := by unfold Hid chk; simp
 obtain ⟨ra, hra⟩ : ∃ ra, ra = dotOK true a.data.toList := ⟨_, rfl⟩
 obtain ⟨rd, hrd⟩ : ∃ rd, rd = dotOK true d.data.toList := ⟨_, rfl⟩
 have hA : Hid (∀ w, w.cell? ⟨6, 0, none⟩ = some (.int .i64 m) → Calls Tryz.prog 98 #[.string a] w fun e w' => e = .returned (.bool ra) ∧ Below w.heap.size w w') := by
  intro w h; rw [hra]; exact dotted_any a m w ha h
 have hD : Hid (∀ w, w.cell? ⟨6, 0, none⟩ = some (.int .i64 m) → Calls Tryz.prog 98 #[.string d] w fun e w' => e = .returned (.bool rd) ∧ Below w.heap.size w w') := by
  intro w h; rw [hrd]; exact dotted_any d m w hd h
 rw [← hra, ← hrd] at hC
 obtain ⟨q, hq⟩ : ∃ q, q = chk a.data.toList d.data.toList := ⟨_, rfl⟩
 rw [← hq] at hC ⊢
 clear hra hrd hm hq
 go_enter Tryz.func58, Tryz.ntmps58
 go_wp2_with fail
 refine (hA.out _ (moved hM.out (hbase.out _) (Nat.le_refl _))).mono ?_
 rintro e w1 ⟨rfl, hb1⟩
 have c0 := moved (alloc_cell w #[.string a, .string d] 31 0 _ rfl) hb1 (Nat.le_refl _)
 have c1 := moved (alloc_cell w #[.string a, .string d] 31 1 _ rfl) hb1 (Nat.le_refl _)
 have hm1 := Lib.hid (moved (moved hM.out (hbase.out _) (Nat.le_refl _)) hb1 (Nat.le_refl _))
 have hw1 := Lib.hid (bt (hbase.out _) hb1)
 have hs1 := (hw1.out).size
 have hs2 := hb1.size
 cases ra with
 | false =>
  have hq : Hid (q = 3) := by unfold Hid; rw [hC.out]; rfl
  clear hC
  go_wp2_with fail
  go_ret
  exact ⟨by rw [hq.out]; rfl, hw1.out⟩
 | true =>
  go_wp2_with fail
  refine (hD.out _ hm1.out).mono ?_
  rintro e w2 ⟨rfl, hb2⟩
  have d0 := moved c0 hb2 (Nat.le_refl _)
  have d1 := moved c1 hb2 (Nat.le_refl _)
  have hw2 := Lib.hid (bt hw1.out hb2)
  clear c0 c1
  cases rd with
  | false =>
   have hq : Hid (q = 3) := by unfold Hid; rw [hC.out]; rfl
   clear hC
   go_wp2_with fail
   go_ret
   exact ⟨by rw [hq.out]; rfl, hw2.out⟩
  | true =>
   have hC2 : Hid (q = if 100 < a.size + 1 + d.size then 1 else 0) := by unfold Hid; rw [hC.out]; rfl
   clear hC
   by_cases hl : 100 < a.size + 1 + d.size
   ·have hq : Hid (q = 1) := by unfold Hid; rw [hC2.out, if_pos hl]
    clear hC2
    go_wp2_with fail
    go_ret
    exact ⟨by rw [hq.out]; rfl, hw2.out⟩
   ·have hq : Hid (q = 0) := by unfold Hid; rw [hC2.out, if_neg hl]
    have hl' : decide (100 < a.size + 1 + d.size) = false := decide_eq_false hl
    clear hC2
    go_wp2_with fail
    go_ret
    exact ⟨by rw [hq.out]; rfl, hw2.out⟩
def Two (w : World) (b : Nat) (x y : ByteArray) : Prop :=
 w.cell? ⟨b, 0, none⟩ = some (.string x) ∧ w.cell? ⟨b, 1, none⟩ = some (.string y) ∧ w.frozen? ⟨b, 0, none⟩ = false ∧ w.frozen? ⟨b, 1, none⟩ = false ∧ b < w.heap.size
theorem Two.below {B : Nat} {w w' : World} {b : Nat} {x y : ByteArray} (h : Two w b x y) (hb : Below B w w') (hB : w.heap.size ≤ B) : Two w' b x y :=
 have hl : b < B := Nat.lt_of_lt_of_le h.2.2.2.2 hB
 ⟨moved h.1 hb hB, moved h.2.1 hb hB, (hb.frozen (p := ⟨b, 0, none⟩) hl).trans h.2.2.1, (hb.frozen (p := ⟨b, 1, none⟩) hl).trans h.2.2.2.1, Nat.lt_of_lt_of_le h.2.2.2.2 hb.size⟩
theorem Two.alloc (w : World) (x y : ByteArray) (t : TypeId) : Two (w.alloc (.cells #[.string x, .string y] t)) w.heap.size x y := by
 have hh : (w.alloc (.cells #[.string x, .string y] t (0, 0))).heap[w.heap.size]? = some (.cells #[.string x, .string y] t (0, 0)) := heap_alloc_new w _
 refine ⟨alloc_cell w _ t 0 _ rfl, alloc_cell w _ t 1 _ rfl, ?_, ?_, by simp⟩
 ·simp only [World.frozen?, hh]; simp
 ·simp only [World.frozen?, hh]; simp
theorem Two.set0 {w : World} {b : Nat} {x y : ByteArray} (h : Two w b x y) (x' : ByteArray) : Two (w.setCell ⟨b, 0, none⟩ (.string x')) b x' y :=
 ⟨World.cell?_setCell_same _ _ _ h.1, (World.cell?_setCell_other _ _ _ _ (by simp)).trans h.2.1, (World.frozen?_setCell ..).trans h.2.2.1, (World.frozen?_setCell ..).trans h.2.2.2.1, by have := h.2.2.2.2; simpa [World.setCell] using this⟩
theorem Two.set1 {w : World} {b : Nat} {x y : ByteArray} (h : Two w b x y) (y' : ByteArray) : Two (w.setCell ⟨b, 1, none⟩ (.string y')) b x y' :=
 ⟨(World.cell?_setCell_other _ _ _ _ (by simp)).trans h.1, World.cell?_setCell_same _ _ _ h.2.1, (World.frozen?_setCell ..).trans h.2.2.1, (World.frozen?_setCell ..).trans h.2.2.2.1, by have := h.2.2.2.2; simpa [World.setCell] using this⟩
theorem Two.set {w : World} {b : Nat} {x y : ByteArray} (h : Two w b x y) (x' y' : ByteArray) : Two ((w.setCell ⟨b, 0, none⟩ (.string x')).setCell ⟨b, 1, none⟩ (.string y')) b x' y' := (h.set0 x').set1 y'
theorem Two.else0 {w : World} {b c i : Nat} {x y : ByteArray} (h : Two w b x y) (hc : b ≠ c) (v : Value) : Two (w.setCell ⟨c, i, none⟩ v) b x y :=
 ⟨(World.cell?_setCell_other _ _ _ _ (by intro e; exact hc (congrArg Addr.block e).symm)).trans h.1, (World.cell?_setCell_other _ _ _ _ (by intro e; exact hc (congrArg Addr.block e).symm)).trans h.2.1, (World.frozen?_setCell ..).trans h.2.2.1, (World.frozen?_setCell ..).trans h.2.2.2.1, by have := h.2.2.2.2; simpa [World.setCell] using this⟩
def lowB (c : UInt8) : UInt8 := 97 + c % 26
theorem lowB_nat (c : UInt8) : (97 : Int) + (c.toNat : Int) % 26 = ((lowB c).toNat : Int) := by
 have h : (lowB c).toNat = 97 + c.toNat % 26 := by
  unfold lowB
  rw [UInt8.toNat_add, UInt8.toNat_mod]
  have : c.toNat % 26 < 26 := Nat.mod_lt _ (by decide)
  simp only [UInt8.reduceToNat]
  omega
 omega
def wordL (l : List UInt8) : List UInt8 := if l.isEmpty then [120] else (l.take 8).map lowB
theorem low_take (l : List UInt8) (k : Nat) (h : k < l.length) : (l.take (k + 1)).map lowB = (l.take k).map lowB ++ [lowB l[k]] := by
 rw [List.take_succ_eq_append_getElem h, List.map_append]; rfl
theorem ownB_nil {w : World} {b e : Nat} {v : Value} (h : OwnB w b e v []) : v = .slice none 0 0 ∨ ∃ g cap, v = .slice (some ⟨g, 0, none⟩) 0 cap := by
 rcases h.2 with ⟨h1, h2⟩ | ⟨g, cap, _, h1, _⟩
 ·exact .inl h1
 ·exact .inr ⟨g, cap, h1⟩
theorem ownB_form {w : World} {b e : Nat} {v : Value} {l : List UInt8} (h : OwnB w b e v l) (hl : 1 ≤ l.length) : ∃ g cap, v = .slice (some ⟨g, 0, none⟩) l.length cap := by
 rcases h.2 with ⟨h1, h2⟩ | ⟨g, cap, _, h1, _⟩
 ·omega
 ·exact ⟨g, cap, h1⟩
theorem word_any (s : ByteArray) (w : World) (hs : s.size ≤ 9223372036854775807) :
    Calls Tryz.prog 32 #[.string s] w fun e w' => e = .returned (.string ⟨(wordL s.data.toList).toArray⟩) ∧ Below w.heap.size w w' := by
 obtain ⟨i0, hi, hz0, hz1, hz2⟩ := info_parts infoU8
 have hI := Lib.hid hi; have hZ0 := Lib.hid hz0; have hZ1 := Lib.hid hz1; have hZ2 := Lib.hid hz2
 clear hi hz0 hz1 hz2
 go_enter Tryz.func32, Tryz.ntmps32
 go_wp2
 go_loopw [3, 4] (fun v i wr => ∃ k : Nat, k ≤ s.size ∧ k ≤ 8 ∧ i = .int .i64 k ∧ OwnB wr w.heap.size 5 v ((s.data.toList.take k).map lowB) ∧ Below w.heap.size w wr) (fun _ i _ => 8 - (intOf i).toNat)
 case atStart => exact ⟨0, Nat.zero_le _, by omega, rfl, World.ownsRow_nil _ _ _ _, Below.refl _ _⟩
 case round =>
  obtain ⟨k, hk, hk8, rfl, hown, hb⟩ := hrel
  have hsz : w.heap.size ≤ wr.heap.size := hb.size
  by_cases hlt : k < s.size ∧ k < 8
  ·obtain ⟨h1, h2⟩ := hlt
   have HT := Lib.hid (low_take s.data.toList k (by simpa using h1))
   have HE : Hid (s.data.toList[k]'(by simpa using h1) = s[k]) := rfl
   have hLl : ((s.data.toList.take k).map lowB).length ≤ 8 := by rw [List.length_map]; have := List.length_take_le k s.data.toList; omega
   obtain ⟨L, hL⟩ : ∃ L, L = (s.data.toList.take k).map lowB := ⟨_, rfl⟩
   rw [← hL] at hown hLl
   have HL := Lib.hid hL; clear hL
   have hlow := Lib.hid (lowB_nat s[k])
   go_wp2_with (at_builtin; refine wpList_append_own _ rfl _ _ 134 rfl w.heap.size 5 i0 (.int .u8 0) 1 1 Tryz.underlying134 hI.out hZ0.out hZ1.out hZ2.out rfl (by decide) u3 L.length (bcells L) rfl (hown.alloc _) ⟨wr.heap.size, 0, none⟩ 1 1 [.int .u8 (97 + (s[k].toNat : Int) % 26)] rfl rfl (cell_one_new _ _ _) ?c2 ?c3 ?c4 ?c5 ?_)
   case c2 => intro u hu; simp at hu; subst hu; rfl
   case c3 => unfold maxLen; omega
   case c4 => omega
   case c5 => simp; omega
   intro v' w1 hown' hgrow _
   have hb1 := (hb.alloc hsz _).grown hgrow (by simp; omega) (fun k' h => (hown.lt k' h).1)
   have hown1 : OwnB w1 w.heap.size 5 v' ((s.data.toList.take (k + 1)).map lowB) := by
    unfold OwnB
    rw [HT.out, bcells_append, ← HL.out, List.length_append]
    rw [hlow.out] at hown'
    exact hown'
   clear hown' hgrow
   go_wp2
   go_roundw
   case rel => exact ⟨k + 1, by omega, by omega, by go_num, hown1, hb1⟩
   case measure => simp [intOf]; omega
  ·cases hl : s.data.toList with
   | nil =>
    have h0 : s.size = 0 := by
     have : s.data.toList.length = 0 := by rw [hl]; rfl
     simpa using this
    obtain rfl : k = 0 := by omega
    have hown1 : OwnB wr w.heap.size 5 u3 [] := by rw [hl] at hown; exact hown
    have HW : Hid (wordL s.data.toList = [120]) := by unfold Hid; rw [hl]; rfl
    clear hl hown
    rcases ownB_nil hown1 with rfl | ⟨g, cap, rfl⟩
    all_goals
     go_wp2
     go_ret
     exact ⟨by rw [HW.out]; rfl, hb⟩
   | cons c r =>
    have h0 : 1 ≤ s.size := by
     have : s.data.toList.length = r.length + 1 := by rw [hl]; rfl
     have h2 : s.data.toList.length = s.size := by simp
     omega
    have HW : Hid (wordL s.data.toList = (s.data.toList.take k).map lowB) := by
     unfold Hid wordL
     rw [if_neg (by rw [hl]; simp)]
     by_cases h8 : k = 8
     ·rw [h8]
     ·have hk2 : s.size = k := by omega
      rw [List.take_of_length_le (by simp; omega), List.take_of_length_le (by simp; omega)]
    obtain ⟨L, hL⟩ : ∃ L, L = (s.data.toList.take k).map lowB := ⟨_, rfl⟩
    have hlen : L.length = k := by rw [hL, List.length_map, List.length_take]; simp; omega
    have HLn := Lib.hid hlen
    rw [← hL] at hown
    have HL := Lib.hid hL
    have h1 : 1 ≤ L.length := by omega
    have hneg : ((L.length : Int) == 0) = false := beq_eq_false_iff_ne.2 (by omega)
    obtain ⟨g, cap, rfl⟩ := ownB_form hown h1
    have hcv := run_str_own hown Tryz.underlying134 Tryz.underlying5 Tryz.underlying9
    clear hl hL hlen
    by_cases hks : k < s.size
    ·have hd : decide (k < 8) = false := by simp; omega
     go_wp2
     go_ret
     exact ⟨by rw [HW.out, ← HL.out]; rfl, hb⟩
    ·have hd : decide (k < s.size) = false := by simpa using hks
     go_wp2
     go_ret
     exact ⟨by rw [HW.out, ← HL.out]; rfl, hb⟩
def partV (z : Int) (a d : ByteArray) : ByteArray × Nat :=
 if chk a.data.toList d.data.toList ≠ 0 then (⟨#[]⟩, chk a.data.toList d.data.toList) else if z = 1 then (a ++ ⟨#[64]⟩ ++ d, 0) else if z = 2 then (a, 0) else if z = 3 then (d, 0) else (⟨#[]⟩, 2)
theorem part_any (z : Int) (a d : ByteArray) (m : Int) (w : World) (ha : a.size ≤ 1000000) (hd : d.size ≤ 1000000) (hm : w.cell? ⟨6, 0, none⟩ = some (.int .i64 m)) :
    Calls Tryz.prog 34 #[.int .i64 z, .agg #[.string a, .string d]] w fun e w' => e = .returned (.tuple #[.string (partV z a d).1, .int .i64 (partV z a d).2]) ∧ Below w.heap.size w w' := by
 have hM := Lib.hid hm
 have hbase : Hid (∀ o, Below w.heap.size w (w.alloc o)) := fun o => ba (Below.refl _ w) o
 obtain ⟨q, hq⟩ : ∃ q, q = chk a.data.toList d.data.toList := ⟨_, rfl⟩
 have hq3 : q ≤ 3 := by rw [hq]; exact chk_le _ _
 have hC : Hid (∀ w, w.cell? ⟨6, 0, none⟩ = some (.int .i64 m) → Calls Tryz.prog 58 #[.agg #[.string a, .string d]] w fun e w' => e = .returned (.int .i64 q) ∧ Below w.heap.size w w') := by
  intro w h; rw [hq]; exact check_any a d m w ha hd h
 have hP : Hid (partV z a d = if q ≠ 0 then (⟨#[]⟩, q) else if z = 1 then (a ++ ⟨#[64]⟩ ++ d, 0) else if z = 2 then (a, 0) else if z = 3 then (d, 0) else (⟨#[]⟩, 2)) := by unfold Hid; rw [hq]; rfl
 obtain ⟨p, hp⟩ : ∃ p, p = partV z a d := ⟨_, rfl⟩
 rw [← hp] at hP ⊢
 clear hp hq hm
 go_enter Tryz.func34, Tryz.ntmps34
 go_wp2_with fail
 refine (hC.out _ (moved hM.out (hbase.out _) (Nat.le_refl _))).mono ?_
 rintro e w1 ⟨rfl, hb1⟩
 have c0 := moved (alloc_cell w #[.string a, .string d] 31 0 _ rfl) hb1 (Nat.le_refl _)
 have c1 := moved (alloc_cell w #[.string a, .string d] 31 1 _ rfl) hb1 (Nat.le_refl _)
 have hw1 := Lib.hid (bt (hbase.out _) hb1)
 by_cases hz : q = 0
 ·subst hz
  have hP2 : Hid (p = if z = 1 then (a ++ ⟨#[64]⟩ ++ d, 0) else if z = 2 then (a, 0) else if z = 3 then (d, 0) else (⟨#[]⟩, 2)) := hP.out
  clear hP
  by_cases h1 : z = 1
  ·have hv : Hid (p = (a ++ ⟨#[64]⟩ ++ d, 0)) := by unfold Hid; rw [hP2.out, if_pos h1]
   subst h1
   clear hP2
   go_wp2_with fail
   go_ret2
   exact ⟨by rw [hv.out]; rfl, hw1.out⟩
  ·by_cases h2 : z = 2
   ·have hv : Hid (p = (a, 0)) := by unfold Hid; rw [hP2.out, if_neg h1, if_pos h2]
    subst h2
    clear hP2
    go_wp2_with fail
    go_ret2
    exact ⟨by rw [hv.out]; rfl, hw1.out⟩
   ·by_cases h3 : z = 3
    ·have hv : Hid (p = (d, 0)) := by unfold Hid; rw [hP2.out, if_neg h1, if_neg h2, if_pos h3]
     subst h3
     clear hP2
     go_wp2_with fail
     go_ret2
     exact ⟨by rw [hv.out]; rfl, hw1.out⟩
    ·have hv : Hid (p = (⟨#[]⟩, 2)) := by unfold Hid; rw [hP2.out, if_neg h1, if_neg h2, if_neg h3]
     have e1 : (z == 1) = false := by simpa using h1
     have e2 : (z == 2) = false := by simpa using h2
     have e3 : (z == 3) = false := by simpa using h3
     clear hP2
     go_wp2_with fail
     go_ret2
     exact ⟨by rw [hv.out]; rfl, hw1.out⟩
 ·have hv : Hid (p = (⟨#[]⟩, q)) := by unfold Hid; rw [hP.out, if_pos hz]
  have hne : ((q : Int) == 0) = false := by simpa using hz
  clear hP
  go_wp2_with fail
  go_ret2
  exact ⟨by rw [hv.out]; rfl, hw1.out⟩
def addrL (l : List UInt8) : ByteArray := ⟨(wordL l).toArray⟩
def addrD (l : List UInt8) : ByteArray := ⟨(wordL l).toArray⟩ ++ ⟨#[46, 111, 114, 103]⟩
theorem wordL_le (l : List UInt8) : (wordL l).length ≤ 8 := by
 unfold wordL
 split
 ·decide
 ·rw [List.length_map, List.length_take]; omega
theorem wordL_pos (l : List UInt8) : 1 ≤ (wordL l).length := by
 unfold wordL
 cases l with
 | nil => decide
 | cons a l => simp
theorem addrL_size (l : List UInt8) : (addrL l).size ≤ 8 := wordL_le l
theorem address_any (a d v : ByteArray) (w : World) (ha : a.size ≤ 9223372036854775807) (hd : d.size ≤ 9223372036854775807) :
    Calls Tryz.prog 42 #[.agg #[.string a, .string d, .string v]] w fun e w' => e = .returned (.agg #[.string (addrL a.data.toList), .string (addrD d.data.toList)]) ∧ Below w.heap.size w w' := by
 have hbase : Hid (∀ o, Below w.heap.size w (w.alloc o)) := fun o => ba (Below.refl _ w) o
 have hWd : Hid (∀ (s : ByteArray) (w : World), s.size ≤ 9223372036854775807 → Calls Tryz.prog 32 #[.string s] w fun e w' => e = .returned (.string (addrL s.data.toList)) ∧ Below w.heap.size w w') := fun s w h => word_any s w h
 have hdd : Hid (addrD d.data.toList = addrL d.data.toList ++ ⟨#[46, 111, 114, 103]⟩) := rfl
 rw [hdd.out]
 clear hdd
 obtain ⟨W0, hW0⟩ : ∃ W0, W0 = (w.alloc (.cells #[.string a, .string d, .string v] 23)).alloc (.cells #[.string ⟨#[]⟩, .string ⟨#[]⟩] 31) := ⟨_, rfl⟩
 have hFW : Hid (∀ w', Below W0.heap.size W0 w' → w'.cell? ⟨w.heap.size, 0, none⟩ = some (.string a) ∧ w'.cell? ⟨w.heap.size, 1, none⟩ = some (.string d) ∧ w'.cell? ⟨w.heap.size + 1, 0, none⟩ = some (.string ⟨#[]⟩) ∧ w'.cell? ⟨w.heap.size + 1, 1, none⟩ = some (.string ⟨#[]⟩) ∧
     w'.frozen? ⟨w.heap.size + 1, 0, none⟩ = false ∧ w'.frozen? ⟨w.heap.size + 1, 1, none⟩ = false ∧ w.heap.size + 2 ≤ w'.heap.size ∧ Below w.heap.size w w') := by
  intro w' hb
  have hz : W0.heap.size = w.heap.size + 2 := by rw [hW0]; simp
  have c0 : ∀ j x, #[Value.string a, .string d, .string v][j]? = some x → W0.cell? ⟨w.heap.size, j, none⟩ = some x := by
   intro j x hx
   rw [hW0]; exact moved (alloc_cell w _ _ j x hx) (ba (Below.refl _ _) _) (Nat.le_refl _)
  have c1 : ∀ j x, #[Value.string ⟨#[]⟩, .string ⟨#[]⟩][j]? = some x → W0.cell? ⟨w.heap.size + 1, j, none⟩ = some x := by
   intro j x hx
   have := alloc_cell (w.alloc (.cells #[.string a, .string d, .string v] 23)) _ 31 j x hx
   rw [show (w.alloc (.cells #[.string a, .string d, .string v] 23)).heap.size = w.heap.size + 1 by simp] at this
   rw [hW0]; exact this
  have f1 : ∀ j, W0.frozen? ⟨w.heap.size + 1, j, none⟩ = false := by
   intro j
   have hh : W0.heap[w.heap.size + 1]? = some (.cells #[.string ⟨#[]⟩, .string ⟨#[]⟩] 31 (0, 0)) := by
    have := heap_alloc_new (w.alloc (.cells #[.string a, .string d, .string v] 23)) (.cells #[.string ⟨#[]⟩, .string ⟨#[]⟩] 31 (0, 0))
    rw [show (w.alloc (.cells #[.string a, .string d, .string v] 23)).heap.size = w.heap.size + 1 by simp] at this
    rw [hW0]; exact this
   simp only [World.frozen?, hh]
   simp
  refine ⟨moved (c0 0 _ rfl) hb (Nat.le_refl _), moved (c0 1 _ rfl) hb (Nat.le_refl _), moved (c1 0 _ rfl) hb (Nat.le_refl _), moved (c1 1 _ rfl) hb (Nat.le_refl _), ?_, ?_, by have := hb.size; omega, ?_⟩
  ·rw [hb.frozen (p := ⟨w.heap.size + 1, 0, none⟩) (by show w.heap.size + 1 < _; omega)]; exact f1 0
  ·rw [hb.frozen (p := ⟨w.heap.size + 1, 1, none⟩) (by show w.heap.size + 1 < _; omega)]; exact f1 1
  ·refine bt ?_ hb
   rw [hW0]; exact ba (ba (Below.refl _ w) _) _
 have HW0 := Lib.hid hW0
 have za := addrL_size a.data.toList
 have zd := addrL_size d.data.toList
 clear hW0
 go_enter Tryz.func42, Tryz.ntmps42
 go_wp2_with fail
 rw [show (w.alloc (.cells #[.string a, .string d, .string v] 23)).alloc (.cells #[.string ⟨#[]⟩, .string ⟨#[]⟩] 31) = W0 from HW0.out.symm]
 have hbd := Below.drew (Below.refl W0.heap.size W0)
 obtain ⟨a0, a1, a2, a3, a4, a5, a6, a7⟩ := hFW.out W0 (Below.refl _ _)
 go_region_with (go_at_call 32; refine (hWd.out _ _ (by assumption)).mono ?_; rintro e w1 ⟨rfl, hb1⟩; replace hbd := bt hbd hb1; obtain ⟨b0, b1, b2, b3, b4, b5, b6, b7⟩ := hFW.out w1 hbd)
 all_goals
  have e0 : ((w1.setCell ⟨w.heap.size + 1, 0, none⟩ (.string (addrL a.data.toList))).setCell ⟨w.heap.size + 1, 1, none⟩ (.string (addrL d.data.toList ++ ⟨#[46, 111, 114, 103]⟩))).cell? ⟨w.heap.size + 1, 0, none⟩ = some (.string (addrL a.data.toList)) := by
   rw [World.cell?_setCell_other (h := by simp), World.cell?_setCell_same (h := b2)]
  have e1 : ((w1.setCell ⟨w.heap.size + 1, 0, none⟩ (.string (addrL a.data.toList))).setCell ⟨w.heap.size + 1, 1, none⟩ (.string (addrL d.data.toList ++ ⟨#[46, 111, 114, 103]⟩))).cell? ⟨w.heap.size + 1, 1, none⟩ = some (.string (addrL d.data.toList ++ ⟨#[46, 111, 114, 103]⟩)) := by
   rw [World.cell?_setCell_same (h := by rw [World.cell?_setCell_other (h := by simp)]; exact b3)]
  have hb9 : Below w.heap.size w ((w1.setCell ⟨w.heap.size + 1, 0, none⟩ (.string (addrL a.data.toList))).setCell ⟨w.heap.size + 1, 1, none⟩ (.string (addrL d.data.toList ++ ⟨#[46, 111, 114, 103]⟩))) := (b7.setCell (by show w.heap.size ≤ w.heap.size + 1; omega) _).setCell (by show w.heap.size ≤ w.heap.size + 1; omega) _
  obtain ⟨w2, hw2⟩ : ∃ w2, w2 = (w1.setCell ⟨w.heap.size + 1, 0, none⟩ (.string (addrL a.data.toList))).setCell ⟨w.heap.size + 1, 1, none⟩ (.string (addrL d.data.toList ++ ⟨#[46, 111, 114, 103]⟩)) := ⟨_, rfl⟩
  rw [← hw2] at e0 e1 hb9 ⊢
  clear hw2
  go_wp2_with fail
  refine bodyPost_ret (v := .agg #[.string (addrL a.data.toList), .string (addrL d.data.toList ++ ⟨#[46, 111, 114, 103]⟩)]) (by simp [results, Tryz.results42, go_sem, e0, e1]) rfl ⟨rfl, hb9⟩
theorem atom_ne (c : UInt8) (h : isAtom c = true) : c ≠ 46 := by rintro rfl; exact absurd h (by decide)
theorem dotOK_atoms : ∀ (l r : List UInt8) (st : Bool), l.all isAtom = true → l ≠ [] → dotOK st (l ++ r) = dotOK false r
 | [], _, _, _, h => absurd rfl h
 | [c], r, st, hl, _ => by
  have hc : isAtom c = true := by simpa using hl
  show dotOK st (c :: r) = _
  rw [dotOK, if_neg (atom_ne c hc), hc, Bool.true_and]
 | c :: d :: l, r, st, hl, _ => by
  have h2 : isAtom c = true ∧ (d :: l).all isAtom = true := by rw [List.all_cons, Bool.and_eq_true] at hl; exact hl
  show dotOK st (c :: ((d :: l) ++ r)) = _
  rw [dotOK, if_neg (atom_ne c h2.1), h2.1, Bool.true_and]
  exact dotOK_atoms (d :: l) r false h2.2 (by simp)
theorem low_atom (c : UInt8) : isAtom (lowB c) = true := by
 have h : ∀ n : Nat, n < 26 → isAtom (97 + UInt8.ofNat n) = true := by decide +kernel
 have := h (c.toNat % 26) (Nat.mod_lt _ (by decide))
 have e : lowB c = 97 + UInt8.ofNat (c.toNat % 26) := by
  unfold lowB
  congr 1
  apply UInt8.toNat_inj.1
  rw [UInt8.toNat_mod]
  have : c.toNat % 26 < 26 := Nat.mod_lt _ (by decide)
  show c.toNat % 26 = (c.toNat % 26) % 256
  omega
 rw [e]; exact this
theorem word_atoms (l : List UInt8) : (wordL l).all isAtom = true := by
 unfold wordL
 split
 ·decide
 ·rw [List.all_map]
  exact List.all_eq_true.2 fun c _ => low_atom c
theorem word_ne (l : List UInt8) : wordL l ≠ [] := by
 intro h; have := wordL_pos l; rw [h] at this; exact absurd this (by decide)
theorem addrL_ok (l : List UInt8) : dotOK true (addrL l).data.toList = true := by
 have := dotOK_atoms (wordL l) [] true (word_atoms l) (word_ne l)
 rw [List.append_nil] at this
 exact this
theorem addrD_list (l : List UInt8) : (addrD l).data.toList = wordL l ++ [46, 111, 114, 103] := by
 unfold addrD; rw [ByteArray.toList_data_append]
theorem addrD_ok (l : List UInt8) : dotOK true (addrD l).data.toList = true := by
 rw [addrD_list, dotOK_atoms _ _ true (word_atoms l) (word_ne l)]
 decide
theorem addrD_size (l : List UInt8) : (addrD l).size ≤ 12 ∧ 5 ≤ (addrD l).size := by
 have h1 : (addrD l).size = (addrD l).data.toList.length := by simp
 rw [h1, addrD_list, List.length_append]
 have := wordL_le l; have := wordL_pos l
 constructor
 ·show _ + 4 ≤ 12; omega
 ·show 5 ≤ _ + 4; omega
theorem chk_ok (l d : List UInt8) : chk (addrL l).data.toList (addrD d).data.toList = 0 := by
 unfold chk
 rw [addrL_ok, addrD_ok]
 have h1 : (addrL l).data.toList.length ≤ 8 := wordL_le l
 have h2 : (addrD d).data.toList.length ≤ 12 := by have := (addrD_size d).1; simpa using this
 rw [if_pos (by rfl), if_neg (by omega)]
end Go.Proofs.YtpfbkdbblpppdaaGreatDoor
