/- On the way. -/
import Derived.Test.YtmkppkjikifdlaaGreatDoorTKtA
import Derived.Test.YtmkppkjikifdlaaGreatDoorTShelf
import Derived.Lib.IndexLaws
import Derived.Lib.SplitLaws
set_option linter.unusedVariables false
set_option linter.unusedSimpArgs false
set_option maxHeartbeats 1000000
set_option maxRecDepth 20000
namespace Go.Proofs.YtmkppkjikifdlaaGreatDoor
open Go.RowKit
def lowB (c : UInt8) : UInt8 := 97 + c % 26
theorem lowB_nat (c : UInt8) : (97 : Int) + (c.toNat : Int) % 26 = ((lowB c).toNat : Int) := by
 have h : (lowB c).toNat = 97 + c.toNat % 26 := by
  unfold lowB
  rw [UInt8.toNat_add, UInt8.toNat_mod]
  have : c.toNat % 26 < 26 := Nat.mod_lt _ (by decide)
  simp only [UInt8.reduceToNat]
  omega
 omega
def wordL (l : List UInt8) : List UInt8 := if l.isEmpty then [120] else (l.take 8).map lowB
theorem low_take (l : List UInt8) (k : Nat) (h : k < l.length) : (l.take (k + 1)).map lowB = (l.take k).map lowB ++ [lowB l[k]] := by
 rw [List.take_succ_eq_append_getElem h, List.map_append]; rfl
theorem ownB_nil {w : World} {b e : Nat} {v : Value} (h : OwnB w b e v []) : v = .slice none 0 0 ∨ ∃ g cap, v = .slice (some ⟨g, 0, none⟩) 0 cap := by
 rcases h.2 with ⟨h1, h2⟩ | ⟨g, cap, _, h1, _⟩
 ·exact .inl h1
 ·exact .inr ⟨g, cap, h1⟩
theorem ownB_form {w : World} {b e : Nat} {v : Value} {l : List UInt8} (h : OwnB w b e v l) (hl : 1 ≤ l.length) : ∃ g cap, v = .slice (some ⟨g, 0, none⟩) l.length cap := by
 rcases h.2 with ⟨h1, h2⟩ | ⟨g, cap, _, h1, _⟩
 ·omega
 ·exact ⟨g, cap, h1⟩
theorem word_any (s : ByteArray) (w : World) (hs : s.size ≤ 9223372036854775807) :
    Calls Tryz.prog 85 #[.string s] w fun e w' => e = .returned (.string ⟨(wordL s.data.toList).toArray⟩) ∧ Below w.heap.size w w' := by
 obtain ⟨i0, hi, hz0, hz1, hz2⟩ := info_parts infoU8
 have hI := Lib.hid hi; have hZ0 := Lib.hid hz0; have hZ1 := Lib.hid hz1; have hZ2 := Lib.hid hz2
 clear hi hz0 hz1 hz2
 go_enter Tryz.func85, Tryz.ntmps85
 go_wp2
 go_loopw [3, 4] (fun v i wr => ∃ k : Nat, k ≤ s.size ∧ k ≤ 8 ∧ i = .int .i64 k ∧ OwnB wr w.heap.size 5 v ((s.data.toList.take k).map lowB) ∧ Below w.heap.size w wr) (fun _ i _ => 8 - (intOf i).toNat)
 case atStart => exact ⟨0, Nat.zero_le _, by omega, rfl, World.ownsRow_nil _ _ _ _, Below.refl _ _⟩
 case round =>
  obtain ⟨k, hk, hk8, rfl, hown, hb⟩ := hrel
  have hsz : w.heap.size ≤ wr.heap.size := hb.size
  by_cases hlt : k < s.size ∧ k < 8
  ·obtain ⟨h1, h2⟩ := hlt
   have HT := Lib.hid (low_take s.data.toList k (by simpa using h1))
   have HE : Hid (s.data.toList[k]'(by simpa using h1) = s[k]) := rfl
   have hLl : ((s.data.toList.take k).map lowB).length ≤ 8 := by rw [List.length_map]; have := List.length_take_le k s.data.toList; omega
   obtain ⟨L, hL⟩ : ∃ L, L = (s.data.toList.take k).map lowB := ⟨_, rfl⟩
   rw [← hL] at hown hLl
   have HL := Lib.hid hL; clear hL
   have hlow := Lib.hid (lowB_nat s[k])
   go_wp2_with (at_builtin; refine wpList_append_own _ rfl _ _ 68 rfl w.heap.size 5 i0 (.int .u8 0) 1 1 Tryz.underlying68 hI.out hZ0.out hZ1.out hZ2.out rfl (by decide) u3 L.length (bcells L) rfl (hown.alloc _) ⟨wr.heap.size, 0, none⟩ 1 1 [.int .u8 (97 + (s[k].toNat : Int) % 26)] rfl rfl (cell_one_new _ _ _) ?c2 ?c3 ?c4 ?c5 ?_)
   case c2 => intro u hu; simp at hu; subst hu; rfl
   case c3 => unfold maxLen; omega
   case c4 => omega
   case c5 => simp; omega
   intro v' w1 hown' hgrow _
   have hb1 := (hb.alloc hsz _).grown hgrow (by simp; omega) (fun k' h => (hown.lt k' h).1)
   have hown1 : OwnB w1 w.heap.size 5 v' ((s.data.toList.take (k + 1)).map lowB) := by
    unfold OwnB
    rw [HT.out, bcells_append, ← HL.out, List.length_append]
    rw [hlow.out] at hown'
    exact hown'
   clear hown' hgrow
   go_wp2
   go_roundw
   case rel => exact ⟨k + 1, by omega, by omega, by go_num, hown1, hb1⟩
   case measure => simp [intOf]; omega
  ·cases hl : s.data.toList with
   | nil =>
    have h0 : s.size = 0 := by
     have : s.data.toList.length = 0 := by rw [hl]; rfl
     simpa using this
    obtain rfl : k = 0 := by omega
    have hown1 : OwnB wr w.heap.size 5 u3 [] := by rw [hl] at hown; exact hown
    have HW : Hid (wordL s.data.toList = [120]) := by unfold Hid; rw [hl]; rfl
    clear hl hown
    rcases ownB_nil hown1 with rfl | ⟨g, cap, rfl⟩
    all_goals
     go_wp2
     go_ret
     exact ⟨by rw [HW.out]; rfl, hb⟩
   | cons c r =>
    have h0 : 1 ≤ s.size := by
     have : s.data.toList.length = r.length + 1 := by rw [hl]; rfl
     have h2 : s.data.toList.length = s.size := by simp
     omega
    have HW : Hid (wordL s.data.toList = (s.data.toList.take k).map lowB) := by
     unfold Hid wordL
     rw [if_neg (by rw [hl]; simp)]
     by_cases h8 : k = 8
     ·rw [h8]
     ·have hk2 : s.size = k := by omega
      rw [List.take_of_length_le (by simp; omega), List.take_of_length_le (by simp; omega)]
    obtain ⟨L, hL⟩ : ∃ L, L = (s.data.toList.take k).map lowB := ⟨_, rfl⟩
    have hlen : L.length = k := by rw [hL, List.length_map, List.length_take]; simp; omega
    have HLn := Lib.hid hlen
    rw [← hL] at hown
    have HL := Lib.hid hL
    have h1 : 1 ≤ L.length := by omega
    have hneg : ((L.length : Int) == 0) = false := beq_eq_false_iff_ne.2 (by omega)
    obtain ⟨g, cap, rfl⟩ := ownB_form hown h1
    have hcv := run_str_own hown Tryz.underlying68 Tryz.underlying5 Tryz.underlying9
    clear hl hL hlen
    by_cases hks : k < s.size
    ·have hd : decide (k < 8) = false := by simp; omega
     go_wp2
     go_ret
     exact ⟨by rw [HW.out, ← HL.out]; rfl, hb⟩
    ·have hd : decide (k < s.size) = false := by simpa using hks
     go_wp2
     go_ret
     exact ⟨by rw [HW.out, ← HL.out]; rfl, hb⟩
def atomB : List UInt8 := [33, 35, 36, 37, 38, 39, 42, 43, 45, 47, 61, 63, 94, 95, 123, 124, 125, 126, 96]
def isAtom (c : UInt8) : Bool := (decide (97 ≤ c.toNat) && decide (c.toNat ≤ 122)) || (decide (65 ≤ c.toNat) && decide (c.toNat ≤ 90)) || (decide (48 ≤ c.toNat) && decide (c.toNat ≤ 57)) || atomB.contains c
theorem index_mem (l : List UInt8) (c : UInt8) : decide (0 ≤ Lib.indexByte l c) = l.contains c := by
 induction l with
 | nil => rfl
 | cons b l ih =>
  have hg := Lib.indexByte_ge l c
  rw [Lib.indexByte]
  by_cases h : b = c
  ·subst h; simp
  ·have hb : (b == c) = false := by simpa using h
   rw [if_neg (by rw [hb]; decide), List.contains_cons]
   have hc : (c == b) = false := by simpa using fun e => h e.symm
   rw [hc, Bool.false_or, ← ih]
   by_cases hm : Lib.indexByte l c = -1
   ·rw [hm]; rfl
   ·rw [if_neg (by simpa using hm)]
    have h1 : 0 ≤ Lib.indexByte l c := by omega
    have h2 : 0 ≤ Lib.indexByte l c + 1 := by omega
    rw [decide_eq_true h1, decide_eq_true h2]
theorem atom_any (c : UInt8) (w : World) :
    Calls Tryz.prog 70 #[.int .u8 (c.toNat : Int)] w fun e w' => e = .returned (.bool (isAtom c)) ∧ w = w' := by
 obtain ⟨n, hn⟩ : ∃ n, n = c.toNat := ⟨_, rfl⟩
 have hA : Hid (isAtom c = ((decide (97 ≤ n) && decide (n ≤ 122)) || (decide (65 ≤ n) && decide (n ≤ 90)) || (decide (48 ≤ n) && decide (n ≤ 57)) || atomB.contains c)) := by unfold Hid isAtom; rw [hn]
 have hI : Hid (∀ w, Calls Tryz.prog 94 #[.string ⟨#[33, 35, 36, 37, 38, 39, 42, 43, 45, 47, 61, 63, 94, 95, 123, 124, 125, 126, 96]⟩, .int .u8 (n : Int)] w fun e w' => ∃ z : Int, e = .returned (.int .i64 z) ∧ Hid (decide (0 ≤ z) = atomB.contains c) ∧ w = w') := by
  unfold Hid
  intro w
  refine (Tryz.strings_IndexByte _ _ w).mono ?_
  rintro e w' ⟨rfl, rfl⟩
  refine ⟨_, rfl, ?_, rfl⟩
  rw [hn, show ((c.toNat : Int)).toNat.toUInt8 = c by simp]
  exact index_mem atomB c
 rw [← hn]
 have hN := Lib.hid hn
 clear hn
 have hcase : (97 ≤ n ∧ n ≤ 122) ∨ (65 ≤ n ∧ n ≤ 90) ∨ (48 ≤ n ∧ n ≤ 57) ∨ n < 48 ∨ (57 < n ∧ n < 65) ∨ (90 < n ∧ n < 97) ∨ 122 < n := by omega
 go_enter Tryz.func70, Tryz.ntmps70
 rcases hcase with ⟨h1, h2⟩ | ⟨h1, h2⟩ | ⟨h1, h2⟩ | h1 | ⟨h1, h2⟩ | ⟨h1, h2⟩ | h1
 ·go_wp2
  go_ret
  exact ⟨by rw [hA.out]; simp [h1, h2], rfl⟩
 ·have h3 : n < 97 := by omega
  have h4 : ¬ 97 ≤ n := by omega
  go_wp2
  go_ret
  exact ⟨by rw [hA.out]; simp [h1, h2], rfl⟩
 ·have h3 : n < 97 := by omega
  have h4 : n < 65 := by omega
  go_wp2
  go_ret
  exact ⟨by rw [hA.out]; simp [h1, h2], rfl⟩
 ·have h3 : decide (97 ≤ n) = false := decide_eq_false (by omega)
  have h4 : decide (65 ≤ n) = false := decide_eq_false (by omega)
  have h5 : decide (48 ≤ n) = false := decide_eq_false (by omega)
  go_wp2_with (refine (hI.out _).mono ?_; rintro e w' ⟨z, rfl, hz, rfl⟩)
  go_ret
  exact ⟨by rw [hA.out, h3, h4, h5, ← hz.out]; simp; try omega, rfl⟩
 ·have h3 : decide (97 ≤ n) = false := decide_eq_false (by omega)
  have h4 : decide (65 ≤ n) = false := decide_eq_false (by omega)
  have h5 : decide (n ≤ 57) = false := decide_eq_false (by omega)
  have h6 : 48 ≤ n := by omega
  go_wp2_with (refine (hI.out _).mono ?_; rintro e w' ⟨z, rfl, hz, rfl⟩)
  go_ret
  exact ⟨by rw [hA.out, h3, h4, h5, ← hz.out]; simp; try omega, rfl⟩
 ·have h3 : decide (97 ≤ n) = false := decide_eq_false (by omega)
  have h4 : decide (n ≤ 90) = false := decide_eq_false (by omega)
  have h5 : decide (n ≤ 57) = false := decide_eq_false (by omega)
  have h6 : 48 ≤ n := by omega
  have h7 : 65 ≤ n := by omega
  go_wp2_with (refine (hI.out _).mono ?_; rintro e w' ⟨z, rfl, hz, rfl⟩)
  go_ret
  exact ⟨by rw [hA.out, h3, h4, h5, ← hz.out]; simp; try omega, rfl⟩
 ·have h3 : decide (n ≤ 122) = false := decide_eq_false (by omega)
  have h4 : decide (n ≤ 90) = false := decide_eq_false (by omega)
  have h5 : decide (n ≤ 57) = false := decide_eq_false (by omega)
  have h6 : 48 ≤ n := by omega
  have h7 : 65 ≤ n := by omega
  have h8 : 97 ≤ n := by omega
  go_wp2_with (refine (hI.out _).mono ?_; rintro e w' ⟨z, rfl, hz, rfl⟩)
  go_ret
  exact ⟨by rw [hA.out, h3, h4, h5, ← hz.out]; simp; try omega, rfl⟩
def dotOK : Bool → List UInt8 → Bool
 | st, [] => !st
 | st, c :: l => if c = 46 then !st && dotOK true l else isAtom c && dotOK false l
def pieceOK (p : List UInt8) : Bool := !p.isEmpty && p.all isAtom
theorem index_eq (c : UInt8) (l : List UInt8) : Lib.index (c :: l) [c] = 0 := by rw [Lib.index]; simp [List.isPrefixOf]
theorem index_ne (b c : UInt8) (l : List UInt8) (h : b ≠ c) : Lib.index (b :: l) [c] = if Lib.index l [c] == -1 then -1 else Lib.index l [c] + 1 := by
 have hp : ([c] : List UInt8).isPrefixOf (b :: l) = false := by simp [List.isPrefixOf, Ne.symm h]
 rw [Lib.index, hp]; simp
theorem split_eq (c : UInt8) (l : List UInt8) : Lib.split (c :: l) [c] = [] :: Lib.split l [c] := by
 unfold Lib.split
 rw [Lib.count_cons_eq, Nat.add_comm, Lib.splitK, index_eq]
 rfl
theorem split_ne (b c : UInt8) (l : List UInt8) (h : b ≠ c) : ∃ p r, Lib.split l [c] = p :: r ∧ Lib.split (b :: l) [c] = (b :: p) :: r := by
 unfold Lib.split
 rw [Lib.count_cons_ne b c l h]
 cases hc : Lib.count l [c] with
 | zero => exact ⟨l, [], rfl, rfl⟩
 | succ k =>
  rw [Lib.splitK, Lib.splitK, index_ne b c l h]
  have hg := Lib.index_ge l [c]
  by_cases hm : Lib.index l [c] = -1
  ·rw [hm]; exact ⟨l, [], rfl, rfl⟩
  ·obtain ⟨j, hj⟩ : ∃ j : Nat, Lib.index l [c] = j := ⟨(Lib.index l [c]).toNat, by omega⟩
   rw [hj]
   have h1 : (((j : Int)) == -1) = false := beq_eq_false_iff_ne.2 (by omega)
   have h2 : (((j : Int) + 1) == -1) = false := beq_eq_false_iff_ne.2 (by omega)
   have h3 : ((j : Int) + 1).toNat = j + 1 := by omega
   simp only [h1, h2, h3, if_false, Bool.false_eq_true, Int.toNat_natCast, Nat.add_zero]
   exact ⟨_, _, rfl, rfl⟩
theorem split_dots : ∀ (l : List UInt8), ∃ p r, Lib.split l [46] = p :: r ∧ (p.all isAtom && r.all pieceOK) = dotOK false l ∧ (pieceOK p && r.all pieceOK) = dotOK true l
 | [] => ⟨[], [], rfl, rfl, rfl⟩
 | c :: l => by
  obtain ⟨p, r, hs, h1, h2⟩ := split_dots l
  by_cases h : c = 46
  ·subst h
   refine ⟨[], Lib.split l [46], split_eq 46 l, ?_, ?_⟩
   ·rw [dotOK, if_pos rfl, hs, List.all_cons, h2]; rfl
   ·rw [dotOK, if_pos rfl]; rfl
  ·obtain ⟨p', r', hs', he⟩ := split_ne c 46 l h
   rw [hs] at hs'
   obtain ⟨rfl, rfl⟩ := List.cons.inj hs'
   refine ⟨c :: p, r, he, ?_, ?_⟩
   ·rw [dotOK, if_neg h, List.all_cons, Bool.and_assoc, h1]
   ·rw [dotOK, if_neg h, pieceOK, List.all_cons, ← h1]; simp [Bool.and_assoc]
theorem dots_all (l : List UInt8) : (Lib.split l [46]).all pieceOK = dotOK true l := by
 obtain ⟨p, r, hs, _, h2⟩ := split_dots l
 rw [hs, List.all_cons, h2]
def okB (p : ByteArray) : Bool := pieceOK p.data.toList
theorem dots_pieces (s : ByteArray) : ∃ (PS : List ByteArray), PS = Lib.splitB ⟨#[46]⟩ 0 (Lib.countB s ⟨#[46]⟩) s ∧ PS.length = Lib.countB s ⟨#[46]⟩ + 1 ∧ PS.all okB = dotOK true s.data.toList ∧ ∀ p ∈ PS, p.size ≤ s.size := by
 refine ⟨_, rfl, Lib.splitB_all _ (by decide) 0 _ s rfl, ?_, ?_⟩
 ·have h := Lib.splitB_data ⟨#[46]⟩ 0 (Lib.countB s ⟨#[46]⟩) s
  rw [← dots_all]
  show _ = (Lib.splitK [46] 0 (Lib.count s.data.toList [46]) s.data.toList).all pieceOK
  have h' : (Lib.splitB ⟨#[46]⟩ 0 (Lib.countB s ⟨#[46]⟩) s).map (·.data.toList) = Lib.splitK [46] 0 (Lib.count s.data.toList [46]) s.data.toList := h
  rw [← h', List.all_map]
  rfl
 ·have : ∀ (k : Nat) (s : ByteArray), ∀ p ∈ Lib.splitB ⟨#[46]⟩ 0 k s, p.size ≤ s.size := by
   intro k
   induction k with
   | zero => intro s p hp; simp [Lib.splitB] at hp; subst hp; exact Nat.le_refl _
   | succ k ih =>
    intro s p hp
    rw [Lib.splitB] at hp
    split at hp
    ·simp at hp; subst hp; exact Nat.le_refl _
    ·rcases List.mem_cons.1 hp with rfl | hp
     ·rw [ByteArray.size_extract]; omega
     ·have := ih _ p hp
      rw [ByteArray.size_extract] at this
      omega
  exact this _ s
theorem all_take_succ {α : Type} (f : α → Bool) (l : List α) (j : Nat) (h : j < l.length) (h1 : (l.take j).all f = true) (h2 : f l[j] = true) : (l.take (j + 1)).all f = true := by
 rw [List.take_succ_eq_append_getElem h, List.all_append, h1]; simp [h2]
theorem all_false {α : Type} (f : α → Bool) (l : List α) (j : Nat) (h : j < l.length) (h2 : f l[j] = false) : l.all f = false := by
 cases hx : l.all f with
 | false => rfl
 | true => rw [List.all_eq_true.1 hx _ (List.getElem_mem h)] at h2; exact h2
theorem dotted_any (s : ByteArray) (m : Int) (w : World) (hs : s.size ≤ 1000000) (hm : w.cell? ⟨2, 0, none⟩ = some (.int .i64 m)) :
    Calls Tryz.prog 42 #[.string s] w fun e w' => e = .returned (.bool (dotOK true s.data.toList)) ∧ Below w.heap.size w w' := by
 obtain ⟨PS, hPS, hlen, hall, hsize⟩ := dots_pieces s
 obtain ⟨n, hn⟩ : ∃ n, n = PS.length := ⟨_, rfl⟩
 have hsp : Hid (Calls Tryz.prog 69 #[.string s, .string ⟨#[46]⟩] w fun e w' => e = .returned (.slice (some ⟨w.heap.size, 0, none⟩) n n) ∧ (∀ j (h : j < PS.length), w'.cell? ⟨w.heap.size, j, none⟩ = some (.string PS[j])) ∧ Below w.heap.size w w') := by
  unfold Hid
  refine (Tryz.strings_Split s ⟨#[46]⟩ m w (by omega) hm (by decide)).mono ?_
  rintro e w' ⟨rfl, rfl⟩
  rw [← hPS]
  refine ⟨by rw [hn, hlen], fun j hj => ?_, ba (Below.refl _ w) _⟩
  have hh : ∀ o, (w.alloc o).heap[w.heap.size]? = some o := heap_alloc_new w
  simp only [World.cell?, hh]
  rw [List.getElem?_toArray, List.getElem?_map, List.getElem?_eq_getElem hj]; rfl
 have hbound : PS.length ≤ 1000002 := by
  rw [hlen]; have := Lib.countB_le ⟨#[46]⟩ (by decide) s.size s (Nat.le_refl _); omega
 rw [← hall]
 have HS := Lib.hid hsize
 clear hPS hlen hall hsize hm
 rw [← hn] at hbound
 have HN := Lib.hid hn; clear hn
 go_enter Tryz.func42, Tryz.ntmps42
 go_wp2_with fail
 refine hsp.out.mono ?_
 rintro e W1 ⟨rfl, hc, hb⟩
 have HC := Lib.hid hc; clear hc hsp
 go_wp2_with fail
 go_loop [4, 5, 9] (fun _ _ i => ∃ j : Nat, j ≤ n ∧ i = .int .i64 j ∧ Hid ((PS.take j).all okB = true)) (fun _ _ i => n - (intOf i).toNat)
 case atStart => exact ⟨0, Nat.zero_le _, rfl, rfl⟩
 case round =>
  obtain ⟨j, hj, rfl, hok⟩ := hrel
  by_cases hlt : j < n
  ·have hjL : j < PS.length := by rw [← HN.out]; exact hlt
   have hcell := HC.out j hjL
   obtain ⟨a, ha⟩ : ∃ a, a = PS[j] := ⟨_, rfl⟩
   rw [← ha] at hcell
   have hasz : a.size ≤ 1000000 := by have := HS.out a (by rw [ha]; exact List.getElem_mem hjL); omega
   have HL : Hid (∀ i (h : i < a.size), a.data.toList[i]? = some a[i]) := by intro i h; rw [List.getElem?_eq_getElem (by simpa using h)]; rfl
   have HF : Hid (okB a = false → PS.all okB = false) := by intro h; exact all_false okB PS j hjL (by rw [← ha]; exact h)
   have HT : Hid (okB a = true → (PS.take (j + 1)).all okB = true) := by intro h; exact all_take_succ okB PS j hjL hok.out (by rw [← ha]; exact h)
   clear ha hok
   cases he : a.toList.isEmpty with
   | true =>
    have HE : Hid (okB a = false) := by
     unfold Hid okB pieceOK
     rw [ByteArray.toList_eq] at he
     rw [he]; rfl
    go_wp2_with fail
    go_ret
    exact ⟨by rw [HF.out HE.out]; rfl, hb⟩
   | false =>
    have HE : Hid (a.data.toList.isEmpty = false) := by rw [ByteArray.toList_eq] at he; exact he
    go_wp2_with fail
    clear he
    go_loop [5, 17] (fun _ i => ∃ k : Nat, k ≤ a.size ∧ i = .int .i64 k ∧ Hid ((a.data.toList.take k).all isAtom = true)) (fun _ i => a.size - (intOf i).toNat)
    case atStart => exact ⟨0, Nat.zero_le _, rfl, rfl⟩
    case round =>
     obtain ⟨k, hk, rfl, hok⟩ := hrel
     by_cases hlt2 : k < a.size
     ·have hkl : k < a.data.toList.length := by simpa using hlt2
      have HK : Hid (isAtom a[k] = false → okB a = false) := by
       intro h
       unfold okB pieceOK
       rw [all_false isAtom a.data.toList k hkl h, Bool.and_false]
      have HK2 : Hid (isAtom a[k] = true → (a.data.toList.take (k + 1)).all isAtom = true) := by
       intro h; exact all_take_succ isAtom a.data.toList k hkl hok.out h
      clear hok
      cases hat : isAtom a[k] with
      | true =>
       have HAT := Lib.hid hat; clear hat
       go_wp2_with fail
       refine (atom_any _ _).mono ?_
       rintro e w' ⟨rfl, rfl⟩
       rw [HAT.out]
       go_wp2_with fail
       go_round
       case rel => exact ⟨k + 1, by omega, by go_num, HK2.out HAT.out⟩
       case measure => simp [intOf]; omega
      | false =>
       have HAT := Lib.hid hat; clear hat
       go_wp2_with fail
       refine (atom_any _ _).mono ?_
       rintro e w' ⟨rfl, rfl⟩
       rw [HAT.out]
       go_wp2_with fail
       go_ret
       exact ⟨by rw [HF.out (HK.out HAT.out)]; rfl, hb⟩
     ·obtain rfl : k = a.size := by omega
      have HK : Hid (okB a = true) := by
       unfold Hid okB pieceOK
       rw [HE.out]
       have := hok.out
       rw [List.take_of_length_le (by simp)] at this
       rw [this]; rfl
      clear hok
      go_wp2_with fail
      go_round
      case rel => exact ⟨j + 1, by omega, by go_num, HT.out HK.out⟩
      case measure => simp [intOf]; omega
  ·obtain rfl : j = n := by omega
   have HK : Hid (PS.all okB = true) := by
    have := hok.out
    rw [HN.out, List.take_length] at this
    exact this
   clear hok
   go_wp2_with fail
   go_ret
   exact ⟨by rw [HK.out]; rfl, hb⟩
def chk (a d : List UInt8) : Nat := if dotOK true a && dotOK true d then (if 100 < a.length + 1 + d.length then 1 else 0) else 3
theorem check_any (a d : ByteArray) (m : Int) (w : World) (ha : a.size ≤ 1000000) (hd : d.size ≤ 1000000) (hm : w.cell? ⟨2, 0, none⟩ = some (.int .i64 m)) :
    Calls Tryz.prog 29 #[.agg #[.string a, .string d]] w fun e w' => e = .returned (.int .i64 (chk a.data.toList d.data.toList)) ∧ Below w.heap.size w w' := by
 have hM := Lib.hid hm
 have hbase : Hid (∀ o, Below w.heap.size w (w.alloc o)) := fun o => ba (Below.refl _ w) o
 have hC : Hid (chk a.data.toList d.data.toList = if dotOK true a.data.toList && dotOK true d.data.toList then (if 100 < a.size + 1 + d.size then 1 else 0) else 3) := by unfold Hid chk; simp
 obtain ⟨ra, hra⟩ : ∃ ra, ra = dotOK true a.data.toList := ⟨_, rfl⟩
 obtain ⟨rd, hrd⟩ : ∃ rd, rd = dotOK true d.data.toList := ⟨_, rfl⟩
 have hA : Hid (∀ w, w.cell? ⟨2, 0, none⟩ = some (.int .i64 m) → Calls Tryz.prog 42 #[.string a] w fun e w' => e = .returned (.bool ra) ∧ Below w.heap.size w w') := by
  intro w h; rw [hra]; exact dotted_any a m w ha h
 have hD : Hid (∀ w, w.cell? ⟨2, 0, none⟩ = some (.int .i64 m) → Calls Tryz.prog 42 #[.string d] w fun e w' => e = .returned (.bool rd) ∧ Below w.heap.size w w') := by
  intro w h; rw [hrd]; exact dotted_any d m w hd h
 rw [← hra, ← hrd] at hC
 obtain ⟨q, hq⟩ : ∃ q, q = chk a.data.toList d.data.toList := ⟨_, rfl⟩
 rw [← hq] at hC ⊢
 clear hra hrd hm hq
 go_enter Tryz.func29, Tryz.ntmps29
 go_wp2_with fail
 refine (hA.out _ (moved hM.out (hbase.out _) (Nat.le_refl _))).mono ?_
 rintro e w1 ⟨rfl, hb1⟩
 have c0 := moved (alloc_cell w #[.string a, .string d] 73 0 _ rfl) hb1 (Nat.le_refl _)
 have c1 := moved (alloc_cell w #[.string a, .string d] 73 1 _ rfl) hb1 (Nat.le_refl _)
 have hm1 := Lib.hid (moved (moved hM.out (hbase.out _) (Nat.le_refl _)) hb1 (Nat.le_refl _))
 have hw1 := Lib.hid (bt (hbase.out _) hb1)
 have hs1 := (hw1.out).size
 have hs2 := hb1.size
 cases ra with
 | false =>
  have hq : Hid (q = 3) := by unfold Hid; rw [hC.out]; rfl
  clear hC
  go_wp2_with fail
  go_ret
  exact ⟨by rw [hq.out]; rfl, hw1.out⟩
 | true =>
  go_wp2_with fail
  refine (hD.out _ hm1.out).mono ?_
  rintro e w2 ⟨rfl, hb2⟩
  have d0 := moved c0 hb2 (Nat.le_refl _)
  have d1 := moved c1 hb2 (Nat.le_refl _)
  have hw2 := Lib.hid (bt hw1.out hb2)
  clear c0 c1
  cases rd with
  | false =>
   have hq : Hid (q = 3) := by unfold Hid; rw [hC.out]; rfl
   clear hC
   go_wp2_with fail
   go_ret
   exact ⟨by rw [hq.out]; rfl, hw2.out⟩
  | true =>
   have hC2 : Hid (q = if 100 < a.size + 1 + d.size then 1 else 0) := by unfold Hid; rw [hC.out]; rfl
   clear hC
   by_cases hl : 100 < a.size + 1 + d.size
   ·have hq : Hid (q = 1) := by unfold Hid; rw [hC2.out, if_pos hl]
    clear hC2
    go_wp2_with fail
    go_ret
    exact ⟨by rw [hq.out]; rfl, hw2.out⟩
   ·have hq : Hid (q = 0) := by unfold Hid; rw [hC2.out, if_neg hl]
    have hl' : decide (100 < a.size + 1 + d.size) = false := decide_eq_false hl
    clear hC2
    go_wp2_with fail
    go_ret
    exact ⟨by rw [hq.out]; rfl, hw2.out⟩
def Two (w : World) (b : Nat) (x y : ByteArray) : Prop :=
 w.cell? ⟨b, 0, none⟩ = some (.string x) ∧ w.cell? ⟨b, 1, none⟩ = some (.string y) ∧ w.frozen? ⟨b, 0, none⟩ = false ∧ w.frozen? ⟨b, 1, none⟩ = false ∧ b < w.heap.size
theorem Two.below {B : Nat} {w w' : World} {b : Nat} {x y : ByteArray} (h : Two w b x y) (hb : Below B w w') (hB : w.heap.size ≤ B) : Two w' b x y :=
 have hl : b < B := Nat.lt_of_lt_of_le h.2.2.2.2 hB
 ⟨moved h.1 hb hB, moved h.2.1 hb hB, (hb.frozen (p := ⟨b, 0, none⟩) hl).trans h.2.2.1, (hb.frozen (p := ⟨b, 1, none⟩) hl).trans h.2.2.2.1, Nat.lt_of_lt_of_le h.2.2.2.2 hb.size⟩
theorem Two.alloc (w : World) (x y : ByteArray) (t : TypeId) : Two (w.alloc (.cells #[.string x, .string y] t)) w.heap.size x y := by
 have hh : (w.alloc (.cells #[.string x, .string y] t (0, 0))).heap[w.heap.size]? = some (.cells #[.string x, .string y] t (0, 0)) := heap_alloc_new w _
 refine ⟨alloc_cell w _ t 0 _ rfl, alloc_cell w _ t 1 _ rfl, ?_, ?_, by simp⟩
 ·simp only [World.frozen?, hh]; simp
 ·simp only [World.frozen?, hh]; simp
theorem Two.set0 {w : World} {b : Nat} {x y : ByteArray} (h : Two w b x y) (x' : ByteArray) : Two (w.setCell ⟨b, 0, none⟩ (.string x')) b x' y :=
 ⟨World.cell?_setCell_same _ _ _ h.1, (World.cell?_setCell_other _ _ _ _ (by simp)).trans h.2.1, (World.frozen?_setCell ..).trans h.2.2.1, (World.frozen?_setCell ..).trans h.2.2.2.1, by have := h.2.2.2.2; simpa [World.setCell] using this⟩
theorem Two.set1 {w : World} {b : Nat} {x y : ByteArray} (h : Two w b x y) (y' : ByteArray) : Two (w.setCell ⟨b, 1, none⟩ (.string y')) b x y' :=
 ⟨(World.cell?_setCell_other _ _ _ _ (by simp)).trans h.1, World.cell?_setCell_same _ _ _ h.2.1, (World.frozen?_setCell ..).trans h.2.2.1, (World.frozen?_setCell ..).trans h.2.2.2.1, by have := h.2.2.2.2; simpa [World.setCell] using this⟩
theorem Two.set {w : World} {b : Nat} {x y : ByteArray} (h : Two w b x y) (x' y' : ByteArray) : Two ((w.setCell ⟨b, 0, none⟩ (.string x')).setCell ⟨b, 1, none⟩ (.string y')) b x' y' := (h.set0 x').set1 y'
theorem Two.else0 {w : World} {b c i : Nat} {x y : ByteArray} (h : Two w b x y) (hc : b ≠ c) (v : Value) : Two (w.setCell ⟨c, i, none⟩ v) b x y :=
 ⟨(World.cell?_setCell_other _ _ _ _ (by intro e; exact hc (congrArg Addr.block e).symm)).trans h.1, (World.cell?_setCell_other _ _ _ _ (by intro e; exact hc (congrArg Addr.block e).symm)).trans h.2.1, (World.frozen?_setCell ..).trans h.2.2.1, (World.frozen?_setCell ..).trans h.2.2.2.1, by have := h.2.2.2.2; simpa [World.setCell] using this⟩
end Go.Proofs.YtmkppkjikifdlaaGreatDoor
