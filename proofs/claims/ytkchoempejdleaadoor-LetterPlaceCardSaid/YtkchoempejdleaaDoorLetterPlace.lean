/-
  DERIVED. LetterPlace: the plain law and the walk.
-/
import Derived.Test.YtkchoempejdleaaDoorLetterTorn
import Derived.BigQuiet
import Derived.Deep.QuietTactic
namespace Go.Proofs.YtkchoempejdleaaDoor
open Go.RowKit

/-- a field's line, with no blank behind the colon -/
def lineL (f : Fld) : List UInt8 := f.1 ++ [58] ++ f.2 ++ [13, 10]
def lineF (fs : List Fld) : List UInt8 := fs.flatMap lineL
theorem lineF_app (a b : List Fld) : lineF (a ++ b) = lineF a ++ lineF b := by simp [lineF]
theorem lineF_one (f : Fld) : lineF [f] = lineL f := by simp [lineF]
theorem lineF_take (fs : List Fld) (j : Nat) (h : j < fs.length) : lineF (fs.take (j + 1)) = lineF (fs.take j) ++ lineL fs[j] := by
  rw [List.take_succ_eq_append_getElem h, lineF_app, lineF_one]
/-- the five lines that are no field -/
def badLines : List (List UInt8) := [[110, 111, 99, 111, 108, 111, 110], [58, 118], [97, 32, 98, 58, 32, 99], [127, 58, 32, 118], [99, 97, 102, 233, 58, 32, 118]]
theorem parse_badline (i : Nat) (acc : List Fld) (rest : List UInt8) : ∀ b ∈ badLines, parseL i acc (b ++ 13 :: 10 :: rest) = (([], []), i, 3) := by
  intro b hb
  have hcr : sepL [13, 10] b = none := (show ∀ b ∈ badLines, sepL [13, 10] b = none by decide) b hb
  have hs := sep_crlf b rest hcr
  have hne : b.isEmpty = false := (show ∀ b ∈ badLines, b.isEmpty = false by decide) b hb
  have hhd : isBlank (b.headD 0) = false := (show ∀ b ∈ badLines, isBlank (b.headD 0) = false by decide) b hb
  have h2 : (isBlank (b.headD 0) && decide (0 < acc.length)) = false := by rw [hhd]; rfl
  have hcol : sepL [58] b = none ∨ ∃ n v, sepL [58] b = some (n, v) ∧ nameOK n = false := by
    simp only [badLines, List.mem_cons, List.not_mem_nil, or_false] at hb
    rcases hb with rfl | rfl | rfl | rfl | rfl
    · exact .inl (by decide)
    · exact .inr ⟨[], [118], by decide, by decide⟩
    · exact .inr ⟨[97, 32, 98], [32, 99], by decide, by decide⟩
    · exact .inr ⟨[127], [32, 118], by decide, by decide⟩
    · exact .inr ⟨[99, 97, 102, 233], [32, 118], by decide, by decide⟩
  rcases hcol with h | ⟨n, v, h, h3⟩
  · exact parse_nocolon hs hne h2 h
  · exact parse_bad hs hne h2 h h3
theorem line_crlf {n v : List UInt8} (hn : nameOK n = true) (hv : sepL [13, 10] v = none) : sepL [13, 10] (n ++ [58] ++ v) = none := by
  have h13 : 13 ∉ n ++ [58] := by
    intro h
    rcases List.mem_append.1 h with h | h
    · exact (nameC_ne ((name_all hn).1 13 h)).1 rfl
    · exact absurd h (by decide)
  rcases crlf_append (n ++ [58]) v h13 with h | h
  · exact h
  · exact absurd hv h
theorem parse_lines : ∀ (fs : List Fld) (i : Nat) (acc : List Fld) (rest : List UInt8), (∀ f ∈ fs, Good f) → acc.length + fs.length ≤ 30 →
    parseL i acc (lineF fs ++ rest) = parseL (i + fs.length) (acc ++ fs) rest
  | [], i, acc, rest, _, _ => by
    show parseL i acc rest = parseL i (acc ++ []) rest
    rw [List.append_nil]
  | f :: fs, i, acc, rest, hg, hl => by
    obtain ⟨g1, g2, g3⟩ := hg f (List.mem_cons_self ..)
    obtain ⟨ha, he⟩ := name_all g1
    have hsplit : lineF (f :: fs) ++ rest = (f.1 ++ [58] ++ f.2) ++ 13 :: 10 :: (lineF fs ++ rest) := by
      show (lineL f ++ lineF fs) ++ rest = _
      unfold lineL
      simp
    have hs := sep_crlf (f.1 ++ [58] ++ f.2) (lineF fs ++ rest) (line_crlf g1 g2)
    rw [← hsplit] at hs
    have hne : (f.1 ++ [58] ++ f.2).isEmpty = false := by simp
    have hhd : isBlank ((f.1 ++ [58] ++ f.2).headD 0) = false := by
      cases hf : f.1 with
      | nil => rw [hf] at he; cases he
      | cons a b =>
        have := nameC_ne (ha a (by rw [hf]; exact List.mem_cons_self ..))
        show isBlank a = false
        unfold isBlank
        rw [beq_eq_false_iff_ne.2 this.2.2.2.1, beq_eq_false_iff_ne.2 this.2.2.2.2]; rfl
    have h58 : sepL [58] (f.1 ++ [58] ++ f.2) = some (f.1, f.2) := by
      have := sep_byte 58 f.1 f.2 (fun h => (nameC_ne (ha 58 h)).2.2.1 rfl)
      rw [← this]
      simp
    simp only [List.length_cons] at hl
    rw [parse_field hs hne (by rw [hhd]; rfl) h58 g1 (by omega), parse_lines fs (i + 1) (acc ++ [(f.1, f.2)]) rest (fun f' h => hg f' (List.mem_cons_of_mem _ h)) (by simp; omega)]
    rw [List.append_assoc]
    show parseL (i + 1 + fs.length) (acc ++ (f :: fs)) rest = _
    rw [show i + 1 + fs.length = i + (fs.length + 1) by omega]
    rfl
/-- the text of the first j rounds, the bad line b standing at k -/
def placeL (fs : List Fld) (b : List UInt8) (k j : Nat) : List UInt8 := lineF (fs.take (min k j)) ++ if k < j then b ++ [13, 10] ++ lineF ((fs.take j).drop k) else []
theorem place_zero (fs : List Fld) (b : List UInt8) (k : Nat) : placeL fs b k 0 = [] := by
  unfold placeL
  rw [Nat.min_zero, if_neg (Nat.not_lt_zero k)]; rfl
theorem drop_take_succ (fs : List Fld) (k j : Nat) (hk : k ≤ j) (h : j < fs.length) : (fs.take (j + 1)).drop k = (fs.take j).drop k ++ [fs[j]] := by
  rw [List.take_succ_eq_append_getElem h, List.drop_append_of_le_length (by rw [List.length_take]; omega)]
theorem place_ne (fs : List Fld) (b : List UInt8) (k j : Nat) (h : j < fs.length) (hk : j ≠ k) : placeL fs b k (j + 1) = placeL fs b k j ++ lineL fs[j] := by
  unfold placeL
  by_cases hkj : k < j
  · rw [if_pos (by omega), if_pos hkj, Nat.min_eq_left (by omega : k ≤ j + 1), Nat.min_eq_left (by omega : k ≤ j), drop_take_succ fs k j (by omega) h, lineF_app, lineF_one]
    simp only [List.append_assoc]
  · rw [if_neg (by omega), if_neg hkj, Nat.min_eq_right (by omega : j + 1 ≤ k), Nat.min_eq_right (by omega : j ≤ k), List.append_nil, List.append_nil, lineF_take fs j h]
theorem place_eq (fs : List Fld) (b : List UInt8) (k : Nat) (h : k < fs.length) : placeL fs b k (k + 1) = placeL fs b k k ++ (b ++ [13, 10]) ++ lineL fs[k] := by
  unfold placeL
  rw [if_pos (by omega), if_neg (Nat.lt_irrefl k), Nat.min_eq_left (by omega : k ≤ k + 1), Nat.min_self, List.append_nil, drop_take_succ fs k k (Nat.le_refl _) h, List.drop_take, Nat.sub_self, List.take_zero, List.nil_append, lineF_one]
  simp only [List.append_assoc]
theorem place_parse (fs : List Fld) (b rest : List UInt8) (k : Nat) (hk : k < fs.length) (hg : ∀ f ∈ fs, Good f) (hl : fs.length ≤ 30) (hb : b ∈ badLines) : parseL 0 [] (placeL fs b k fs.length ++ rest) = (([], []), k, 3) := by
  unfold placeL
  rw [if_pos hk, Nat.min_eq_left (by omega : k ≤ fs.length), List.append_assoc]
  rw [parse_lines (fs.take k) 0 [] _ (fun f h => hg f (List.mem_of_mem_take h)) (by simp; omega)]
  rw [List.length_take, Nat.min_eq_left (by omega : k ≤ fs.length), Nat.zero_add]
  have := parse_badline k ([] ++ fs.take k) (lineF ((fs.take fs.length).drop k) ++ rest) b hb
  rw [← this]
  congr 1
  simp
theorem place_last (fs : List Fld) (b rest : List UInt8) (hg : ∀ f ∈ fs, Good f) (hl : fs.length ≤ 30) (hb : b ∈ badLines) : parseL 0 [] (placeL fs b fs.length fs.length ++ (b ++ [13, 10]) ++ rest) = (([], []), fs.length, 3) := by
  unfold placeL
  rw [if_neg (Nat.lt_irrefl _), Nat.min_self, List.append_nil, List.take_length, List.append_assoc]
  rw [parse_lines fs 0 [] _ hg (by simpa using hl)]
  have := parse_badline (0 + fs.length) ([] ++ fs) rest b hb
  rw [Nat.zero_add] at this ⊢
  rw [← this]
  congr 1
  simp
theorem lineF_len : ∀ (fs : List Fld), (∀ f ∈ fs, f.1.length + f.2.length ≤ 48) → (lineF fs).length ≤ 51 * fs.length
  | [], _ => Nat.le_refl _
  | f :: fs, h => by
    have ih := lineF_len fs (fun g hg => h g (List.mem_cons_of_mem _ hg))
    have h1 := h f (List.mem_cons_self ..)
    show (lineL f ++ lineF fs).length ≤ 51 * (fs.length + 1)
    rw [List.length_append]
    unfold lineL
    simp only [List.length_append, List.length_cons, List.length_nil]
    omega
theorem place_len (fs : List Fld) (b : List UInt8) (k j : Nat) (hj : j ≤ fs.length) (hb : b.length ≤ 7) (hf : ∀ f ∈ fs, f.1.length + f.2.length ≤ 48) : (placeL fs b k j).length ≤ 102 * fs.length + 9 := by
  unfold placeL
  have h1 := lineF_len (fs.take (min k j)) (fun f h => hf f (List.mem_of_mem_take h))
  have h2 := lineF_len ((fs.take j).drop k) (fun f h => hf f (List.mem_of_mem_take (List.mem_of_mem_drop h)))
  rw [List.length_take] at h1
  rw [List.length_drop, List.length_take] at h2
  rw [List.length_append]
  split
  · simp only [List.length_append, List.length_cons, List.length_nil]
    omega
  · simp only [List.length_nil]
    omega
def badLV : Array Value := #[.string ⟨#[110, 111, 99, 111, 108, 111, 110]⟩, .string ⟨#[58, 118]⟩, .string ⟨#[97, 32, 98, 58, 32, 99]⟩, .string ⟨#[127, 58, 32, 118]⟩, .string ⟨#[99, 97, 102, 233, 58, 32, 118]⟩]
theorem badLV_eq : badLV = (badLines.map fun l => Value.string ⟨l.toArray⟩).toArray := rfl
theorem badline_pick (q : Nat) (hq : q < 5) : ∃ B : ByteArray, badLV[q]? = some (.string B) ∧ B.data.toList ∈ badLines ∧ B.size ≤ 7 := by
  have hl : q < badLines.length := hq
  refine ⟨⟨(badLines[q]).toArray⟩, ?_, List.getElem_mem hl, (show ∀ b ∈ badLines, b.length ≤ 7 by decide) _ (List.getElem_mem hl)⟩
  rw [badLV_eq, List.getElem?_toArray, List.getElem?_map, List.getElem?_eq_getElem hl]
  rfl
theorem place_step (fs : List Fld) (b : List UInt8) (k j : Nat) (h : j < fs.length) (hk : j ≠ k) (S N V : ByteArray) (hS : S.data.toList = placeL fs b k j) (hN : N.data.toList = fs[j].1) (hV : V.data.toList = fs[j].2) :
    (S ++ (N ++ ⟨#[58]⟩ ++ V ++ ⟨#[13, 10]⟩)).data.toList = placeL fs b k (j + 1) := by
  rw [place_ne fs b k j h hk, ByteArray.toList_data_append, ByteArray.toList_data_append, ByteArray.toList_data_append, ByteArray.toList_data_append, hS, hN, hV]
  rfl
theorem place_step2 (fs : List Fld) (B : ByteArray) (k : Nat) (h : k < fs.length) (S N V : ByteArray) (hS : S.data.toList = placeL fs B.data.toList k k) (hN : N.data.toList = fs[k].1) (hV : V.data.toList = fs[k].2) :
    (S ++ (B ++ ⟨#[13, 10]⟩) ++ (N ++ ⟨#[58]⟩ ++ V ++ ⟨#[13, 10]⟩)).data.toList = placeL fs B.data.toList k (k + 1) := by
  rw [place_eq fs B.data.toList k h, ByteArray.toList_data_append, ByteArray.toList_data_append, ByteArray.toList_data_append, ByteArray.toList_data_append, ByteArray.toList_data_append, ByteArray.toList_data_append, hS, hN, hV]
  rfl
theorem place_end (fs : List Fld) (B S : ByteArray) (k : Nat) (hk : k < fs.length) (hg : ∀ f ∈ fs, Good f) (hl : fs.length ≤ 30) (hB : B.data.toList ∈ badLines) (hS : S.data.toList = placeL fs B.data.toList k fs.length) : parseL 0 [] (S ++ ⟨#[13, 10]⟩).data.toList = (([], []), k, 3) := by
  rw [ByteArray.toList_data_append, hS]
  exact place_parse fs B.data.toList [13, 10] k hk hg hl hB
theorem place_end2 (fs : List Fld) (B S : ByteArray) (hg : ∀ f ∈ fs, Good f) (hl : fs.length ≤ 30) (hB : B.data.toList ∈ badLines) (hS : S.data.toList = placeL fs B.data.toList fs.length fs.length) : parseL 0 [] (S ++ (B ++ ⟨#[13, 10]⟩) ++ ⟨#[13, 10]⟩).data.toList = (([], []), fs.length, 3) := by
  rw [ByteArray.toList_data_append, ByteArray.toList_data_append, ByteArray.toList_data_append, hS]
  exact place_last fs B.data.toList [13, 10] hg hl hB
theorem msg_fld (x : Nat → Nat → ByteArray) (k : Nat) : ∀ f ∈ msgL x k, f.1.length ≤ 8 ∧ f.2.length ≤ 40 := by
  intro f hf
  obtain ⟨i, _, rfl⟩ := List.mem_map.1 hf
  exact ⟨wordL_le _, valueL_len _⟩

set_option maxHeartbeats 8000000 in
set_option maxRecDepth 20000 in
theorem letterPlaceWalk (a : Option Addr) (len cap : Nat) (x : Nat → Nat → ByteArray) (z y : Int) (m : Int) (w : World) (hx : StrRows w a len 2 x) (hlen : len ≤ maxLen) (hz0 : (Lit.int .i64 z).wf = true) (hy0 : (Lit.int .i64 y).wf = true) (hm : w.cell? ⟨0, 0, none⟩ = some (.int .i64 m)) :
    Calls Tryd.prog 8 #[.slice a len cap, .int .i64 z, .int .i64 y] w fun e w' => e = .returned (.bool true) ∧ Below w.heap.size w w' := by
  obtain ⟨hz1, hz2⟩ := wf_bd hz0
  obtain ⟨hy1, hy2⟩ := wf_bd hy0
  have hMs := message_walk a len cap x ⟨#[]⟩ ⟨#[]⟩ w rfl hx hlen (Nat.zero_le _)
  have hg := msg_good x (min len 6)
  have hl6 : (msgL x (min len 6)).length ≤ 6 := by rw [msgL_len]; omega
  have hmf := msg_fld x (min len 6)
  obtain ⟨fs, hfs⟩ : ∃ fs, fs = msgL x (min len 6) := ⟨_, rfl⟩
  rw [← hfs] at hMs hg hl6 hmf
  obtain ⟨q, hq5, hq⟩ : ∃ q : Nat, q < 5 ∧ ∀ w, Calls Tryd.prog 17 #[.int .i64 y, .int .i64 5] w fun e w' => e = .returned (.int .i64 q) ∧ w = w' :=
    ⟨pick y (5 : Nat), pick_lt y 5 (by omega), fun w => picked_any y 5 w hy1 hy2 (by omega) (by omega)⟩
  obtain ⟨k, hkl, hk⟩ : ∃ k : Nat, k < fs.length + 1 ∧ ∀ w, Calls Tryd.prog 17 #[.int .i64 z, .int .i64 ((fs.length : Int) + 1)] w fun e w' => e = .returned (.int .i64 k) ∧ w = w' :=
    ⟨pick z ((fs.length + 1 : Nat) : Int), pick_lt z (fs.length + 1) (by omega), fun w => picked_any z _ w hz1 hz2 (by omega) (by omega)⟩
  obtain ⟨B, hB, hBm, hBs⟩ := badline_pick q hq5
  have HQ := Lib.hid hq; have HK := Lib.hid hk
  have hpl : ∀ j, j ≤ fs.length → (placeL fs B.data.toList k j).length ≤ 621 := by
    intro j hj
    have := place_len fs B.data.toList k j hj (by simpa using hBs) (fun f h => by have := hmf f h; omega)
    omega
  have HSZ : Hid (∀ (S : ByteArray) j, j ≤ fs.length → S.data.toList = placeL fs B.data.toList k j → S.size ≤ 621) := by
    intro S j hj h
    have h1 : S.size = S.data.toList.length := by simp
    rw [h1, h]; exact hpl j hj
  have HN : Hid (∀ j (h : j < fs.length), j ≠ k → ∀ S N V : ByteArray, S.data.toList = placeL fs B.data.toList k j → N.data.toList = fs[j].1 → V.data.toList = fs[j].2 → (S ++ (N ++ ⟨#[58]⟩ ++ V ++ ⟨#[13, 10]⟩)).data.toList = placeL fs B.data.toList k (j + 1)) :=
    fun j h hne S N V h1 h2 h3 => place_step fs _ k j h hne S N V h1 h2 h3
  have HE : Hid (∀ (h : k < fs.length), ∀ S N V : ByteArray, S.data.toList = placeL fs B.data.toList k k → N.data.toList = fs[k].1 → V.data.toList = fs[k].2 → (S ++ (B ++ ⟨#[13, 10]⟩) ++ (N ++ ⟨#[58]⟩ ++ V ++ ⟨#[13, 10]⟩)).data.toList = placeL fs B.data.toList k (k + 1)) :=
    fun h S N V h1 h2 h3 => place_step2 fs B k h S N V h1 h2 h3
  have HP1 : Hid (∀ (S : ByteArray) w, k < fs.length → S.data.toList = placeL fs B.data.toList k fs.length → w.cell? ⟨0, 0, none⟩ = some (.int .i64 m) → Calls Tryd.prog 22 #[.string (S ++ ⟨#[13, 10]⟩)] w fun e w' => (∃ G cap, e = .returned (.tuple #[.agg #[.slice G 0 cap, .string ⟨#[]⟩], .int .i64 k, .int .i64 3])) ∧ Below w.heap.size w w') := by
    intro S w h1 h2 h3
    have hs := HSZ.out S fs.length (Nat.le_refl _) h2
    exact parse_walk_err _ k 3 m w (by rw [ByteArray.size_append]; show S.size + 2 ≤ 2000; omega) (place_end fs B S k h1 hg (by omega) hBm h2) h3
  have HP2 : Hid (∀ (S : ByteArray) w, k = fs.length → S.data.toList = placeL fs B.data.toList k fs.length → w.cell? ⟨0, 0, none⟩ = some (.int .i64 m) → Calls Tryd.prog 22 #[.string (S ++ (B ++ ⟨#[13, 10]⟩) ++ ⟨#[13, 10]⟩)] w fun e w' => (∃ G cap, e = .returned (.tuple #[.agg #[.slice G 0 cap, .string ⟨#[]⟩], .int .i64 k, .int .i64 3])) ∧ Below w.heap.size w w') := by
    intro S w h1 h2 h3
    have hs := HSZ.out S fs.length (Nat.le_refl _) h2
    rw [h1] at h2 ⊢
    exact parse_walk_err _ fs.length 3 m w (by rw [ByteArray.size_append, ByteArray.size_append, ByteArray.size_append]; show S.size + (B.size + 2) + 2 ≤ 2000; omega) (place_end2 fs B S hg (by omega) hBm h2) h3
  have HFS : Hid (∀ f ∈ fs, f.1.length ≤ 8 ∧ f.2.length ≤ 40) := hmf
  have hM := Lib.hid hm
  have HMs := Lib.hid hMs
  have HB : Hid (∀ (wx : World), (wx.alloc (.cells badLV 9)).cell? ⟨wx.heap.size, q, none⟩ = some (.string B)) := fun wx => alloc_cell wx badLV _ q _ hB
  clear hm hMs hg hfs hx hmf hpl hq hk hB hBm
  go_enter Tryd.func8, Tryd.ntmps8
  go_wp2_with fail
  refine HMs.out.mono ?_
  rintro e w1 ⟨⟨v, rfl, hv⟩, hw1⟩
  have p0 := alloc_cell w1 #[v, .string ⟨#[]⟩] 45 0 v rfl
  have ha := ba (Below.refl _ w1) (.cells #[v, .string ⟨#[]⟩] 45)
  have hz1 : (w1.alloc (.cells #[v, .string ⟨#[]⟩] 45)).heap.size = w1.heap.size + 1 := by simp
  have hv1 := hv.down ha
  have hw1' := bt hw1 ha
  obtain ⟨G, c, hvv, _⟩ := hv
  subst hvv
  have hB2 := HB.out (w1.alloc (.cells #[.slice G fs.length c, .string ⟨#[]⟩] 45))
  have hab := ba (Below.refl _ (w1.alloc (.cells #[.slice G fs.length c, .string ⟨#[]⟩] 45))) (.cells badLV 9)
  rw [hz1] at hB2
  have p0' := moved p0 hab (Nat.le_refl _)
  have hv2 := hv1.down hab
  have hw2 := bt hw1' hab
  obtain ⟨W0, hW0⟩ : ∃ W0, W0 = (w1.alloc (.cells #[.slice G fs.length c, .string ⟨#[]⟩] 45)).alloc (.cells badLV 9) := ⟨_, rfl⟩
  rw [← hW0] at hB2 p0' hv2 hw2
  unfold badLV at hW0
  have HW0 := Lib.hid hW0.symm
  have HF : Hid (∀ j (h : j < fs.length) (wr : World), Below W0.heap.size W0 wr → ∃ g, G = some ⟨g, 0, none⟩ ∧ ∃ N V : ByteArray, wr.cell? ⟨g, j * 2, none⟩ = some (.string N) ∧ wr.cell? ⟨g, j * 2 + 1, none⟩ = some (.string V) ∧ N.size ≤ 8 ∧ V.size ≤ 40 ∧ N.data.toList = fs[j].1 ∧ V.data.toList = fs[j].2) := by
    intro j h wr hb
    obtain ⟨G', c', hvv, hcells⟩ := hv2.down hb
    injection hvv with hG _ hc
    subst hG; subst hc
    obtain ⟨g, hG, _, h0, h1⟩ := hcells j fs[j] (List.getElem?_eq_getElem h)
    have hfl := HFS.out fs[j] (List.getElem_mem h)
    refine ⟨g, hG, ⟨fs[j].1.toArray⟩, ⟨fs[j].2.toArray⟩, h0, h1, ?_, ?_, rfl, rfl⟩
    · show (List.toArray _).size ≤ _; rw [List.size_toArray]; exact hfl.1
    · show (List.toArray _).size ≤ _; rw [List.size_toArray]; exact hfl.2
  have HA : Hid (∀ wr, Below W0.heap.size W0 wr → wr.cell? ⟨w1.heap.size, 0, none⟩ = some (.slice G fs.length c) ∧ wr.cell? ⟨w1.heap.size + 1, q, none⟩ = some (.string B)) := fun wr hb => ⟨moved p0' hb (Nat.le_refl _), moved hB2 hb (Nat.le_refl _)⟩
  clear hW0 hab ha hv1 hv2 hB2 p0'
  go_wp2_with fail
  refine (HK.out _).mono ?_
  rintro e w8 ⟨rfl, hw8⟩
  subst hw8
  rw [HW0.out]
  obtain ⟨z0, z1⟩ := HA.out W0 (Below.refl _ _)
  go_wp2_with fail
  clear z0 z1
  go_loopw [10, 11] (fun v i wr => ∃ (S : ByteArray) (j : Nat), j ≤ fs.length ∧ v = .string S ∧ i = .int .i64 j ∧ Hid (S.data.toList = placeL fs B.data.toList k j) ∧ Below W0.heap.size W0 wr) (fun _ i _ => fs.length - (intOf i).toNat)
  case atStart => exact ⟨⟨#[]⟩, 0, Nat.zero_le _, rfl, rfl, (by unfold Hid; rw [place_zero]), Below.refl _ _⟩
  case round =>
    obtain ⟨S, j, hj, rfl, rfl, hS, hbw⟩ := hrel
    have hSs := HSZ.out S j hj hS.out
    obtain ⟨c0, c1⟩ := HA.out wr hbw
    by_cases hlt : j < fs.length
    · obtain ⟨g, hG, N, V, d0, d1, hNs, hVs, hN, hV⟩ := HF.out j hlt wr hbw
      subst hG
      by_cases hjk : j = k
      · subst hjk
        have hnext := Lib.hid (HE.out hlt S N V hS.out hN hV)
        clear hS hN hV
        go_wp2_with fail
        refine (HQ.out _).mono ?_
        rintro e w8 ⟨rfl, hw8⟩
        subst hw8
        go_wp2_with fail
        go_region
        have hbw2 := Below.drew hbw
        clear c0 c1 d0 d1 hbw
        go_wp2_with fail
        go_roundw
        case rel => exact ⟨_, j + 1, by omega, rfl, by go_num, hnext, hbw2⟩
        case measure => simp [intOf]; omega
      · have hne : ((j : Int) == (k : Int)) = false := beq_eq_false_iff_ne.2 (by omega)
        have hnext := Lib.hid (HN.out j hlt hjk S N V hS.out hN hV)
        clear hS hN hV
        go_wp2_with fail
        go_region
        have hbw2 := Below.drew hbw
        clear c0 c1 d0 d1 hbw
        go_wp2_with fail
        go_roundw
        case rel => exact ⟨_, j + 1, by omega, rfl, by go_num, hnext, hbw2⟩
        case measure => simp [intOf]; omega
    · obtain rfl : j = fs.length := by omega
      have hwr := bt hw2 hbw
      by_cases hkn : k = fs.length
      · have hcall := HP2.out S wr hkn hS.out (moved hM.out hwr (Nat.le_refl _))
        have hkeq : ((k : Int) == (fs.length : Int)) = true := beq_iff_eq.2 (by omega)
        have hkn2 := Lib.hid hkn
        clear hS hkn
        go_wp2_with fail
        refine (HQ.out _).mono ?_
        rintro e w8 ⟨rfl, hw8⟩
        subst hw8
        go_wp2_with fail
        refine hcall.mono ?_
        rintro e w3 ⟨⟨G2, c2, rfl⟩, hb3⟩
        have hw3 := ba (bt hwr hb3) (.cells #[.slice G2 0 c2, .string ⟨#[]⟩] 45)
        go_wp2_with fail
        go_ret
        exact ⟨rfl, hw3⟩
      · have hcall := HP1.out S wr (by omega) hS.out (moved hM.out hwr (Nat.le_refl _))
        have hkeq : ((k : Int) == (fs.length : Int)) = false := beq_eq_false_iff_ne.2 (by omega)
        clear hS
        go_wp2_with fail
        refine hcall.mono ?_
        rintro e w3 ⟨⟨G2, c2, rfl⟩, hb3⟩
        have hw3 := ba (bt hwr hb3) (.cells #[.slice G2 0 c2, .string ⟨#[]⟩] 45)
        go_wp2_with fail
        go_ret
        exact ⟨rfl, hw3⟩
end Go.Proofs.YtkchoempejdleaaDoor
