/-
  DERIVED. The law LineLetter: a text that is handed over line by line (plain side), and the walk.
-/
import Derived.Test.YtdhepaeephmhiaaDoorLineLaws
import Derived.Test.YtdhepaeephmhiaaDoorLtrPlain
import Derived.Test.YtdhepaeephmhiaaDoorLtr
import Derived.Test.YtdhepaeephmhiaaDoorReady
import Derived.Test.YtdhepaeephmhiaaDoorRows2
import Derived.Deep.DeepCutAuto
import Derived.Deep.QuietTactic
import Derived.BigQuiet
namespace Go.Proofs.YtdhepaeephmhiaaDoor
open Go.RowKit

/-- with its line's end -/
def fullL (T : List UInt8) : List UInt8 := if T.length < 2 ∨ T.drop (T.length - 2) ≠ [13, 10] then T ++ [13, 10] else T
/-- a dot more ahead of dots -/
def stuffL (l : List UInt8) : List UInt8 := if l.head? = some 46 then 46 :: l else l
theorem fullL_end (T : List UInt8) : ∃ U, fullL T = U ++ [13, 10] := by
  unfold fullL
  split
  · exact ⟨T, rfl⟩
  · rename_i h
    refine ⟨T.take (T.length - 2), ?_⟩
    have h2 : T.drop (T.length - 2) = [13, 10] := Classical.byContradiction fun e => h (.inr e)
    rw [← h2, List.take_append_drop]
theorem fullL_len (T : List UInt8) (h : T.length ≤ 408) : 2 ≤ (fullL T).length ∧ (fullL T).length ≤ 410 := by
  unfold fullL
  split
  · rw [List.length_append, List.length_cons, List.length_cons, List.length_nil]; omega
  · rename_i h'
    have : ¬ T.length < 2 := fun e => h' (.inl e)
    omega
theorem full_last (T : List UInt8) : (fullL T)[(fullL T).length - 2]? = some 13 ∧ (fullL T)[(fullL T).length - 1]? = some 10 := by
  obtain ⟨U, hU⟩ := fullL_end T
  rw [hU, List.length_append, List.length_cons, List.length_cons, List.length_nil]
  constructor
  · rw [List.getElem?_append_right (by omega), show U.length + (0 + 1 + 1) - 2 - U.length = 0 by omega]; rfl
  · rw [List.getElem?_append_right (by omega), show U.length + (0 + 1 + 1) - 1 - U.length = 1 by omega]; rfl
/-- a pair that ends a line -/
def endAt (T : List UInt8) (i : Nat) : Prop := T[i]? = some 13 ∧ T[i + 1]? = some 10
instance (T : List UInt8) (i : Nat) : Decidable (endAt T i) := inferInstanceAs (Decidable (_ ∧ _))
/-- how far the lines are handed over when the loop stands at i -/
structure FeedAt (T : List UInt8) (i a : Nat) : Prop where
  le : i + 1 ≤ T.length
  aT : a ≤ T.length
  at' : a ≤ i ∨ (a = i + 1 ∧ T[i]? = some 10)
  no : ∀ k, a ≤ k → k < i → ¬ endAt T k
  pre : a = 0 ∨ T[a - 1]? = some 10
theorem feed_start (T : List UInt8) (h : 2 ≤ T.length) : FeedAt T 0 0 := ⟨by omega, by omega, .inl (Nat.le_refl _), fun k _ h => by omega, .inl rfl⟩
theorem feed_skip {T : List UInt8} {i a : Nat} (h : FeedAt T i a) (hi : i + 1 < T.length) (he : ¬ endAt T i) : FeedAt T (i + 1) a :=
  ⟨by omega, h.aT, .inl (by have := h.at'; omega), fun k h1 h2 => by
    rcases Nat.lt_or_ge k i with h3 | h3
    · exact h.no k h1 h3
    · obtain rfl : k = i := by omega
      exact he, h.pre⟩
theorem feed_le {T : List UInt8} {i a : Nat} (h : FeedAt T i a) (he : endAt T i) : a ≤ i := by
  rcases h.at' with h1 | ⟨-, h2⟩
  · exact h1
  · have := he.1; rw [h2] at this; cases this
theorem feed_line {T : List UInt8} {i a : Nat} (_h : FeedAt T i a) (hi : i + 1 < T.length) (he : endAt T i) : FeedAt T (i + 1) (i + 2) :=
  ⟨by omega, by omega, .inr ⟨rfl, he.2⟩, fun k h1 h2 => by omega, .inr he.2⟩
theorem feed_end {T : List UInt8} {i a : Nat} (h : FeedAt T i a) (hi : ¬ i + 1 < T.length) (h13 : T[T.length - 2]? = some 13) (h10 : T[T.length - 1]? = some 10) (h2 : 2 ≤ T.length) : a = T.length := by
  have h0 := h.le; have h1 := h.aT
  rcases h.at' with h3 | ⟨h3, -⟩
  · have hh := h.no (T.length - 2)
    rcases Nat.lt_or_ge (T.length - 2) a with h4 | h4
    · rcases h.pre with h5 | h5
      · omega
      · rw [show a - 1 = T.length - 2 by omega, h13] at h5
        cases h5
    · exact absurd ⟨h13, by rw [show T.length - 2 + 1 = T.length - 1 by omega]; exact h10⟩ (hh h4 (by omega))
  · omega
/-- the line from a to i -/
def lineL (T : List UInt8) (a i : Nat) : List UInt8 := (T.take i).drop a
theorem lineL_len (T : List UInt8) (a i : Nat) (h : i ≤ T.length) : (lineL T a i).length = i - a := by unfold lineL; rw [List.length_drop, List.length_take]; omega
theorem stuff_len (l : List UInt8) : (stuffL l).length ≤ l.length + 1 := by unfold stuffL; split <;> simp
theorem feed_step (f t : Ad) (T : List UInt8) (a i : Nat) (known : List (List UInt8)) (ha : a ≤ i) (hi : i + 1 < T.length) (he : endAt T i) (hT : T.length ≤ 2000) :
    lineS ⟨4, f, [t], T.take a, false⟩ known (stuffL (lineL T a i)) = (⟨4, f, [t], T.take (i + 2), false⟩, 0, []) := by
  have hl := lineL_len T a i (by omega)
  have hT2 : T.take a ++ lineL T a i ++ [13, 10] = T.take (i + 2) := by
    have h1 : T.take a ++ lineL T a i = T.take i := by
      unfold lineL
      have : T.take a = (T.take i).take a := by rw [List.take_take, Nat.min_eq_left ha]
      rw [this, List.take_append_drop]
    rw [h1, List.take_add_one, List.take_add_one, he.1, he.2, List.append_assoc]
    rfl
  generalize lineL T a i = l at hl hT2
  have hne : stuffL l ≠ [46] := by
    unfold stuffL
    split
    · intro e
      rename_i h
      have : l = [] := (List.cons.inj e).2
      rw [this] at h; cases h
    · rename_i h
      intro e
      rw [e] at h; exact h rfl
  have hw : (if (stuffL l).head? = some 46 then (stuffL l).tail else stuffL l) = l := by
    unfold stuffL
    by_cases h : l.head? = some 46
    · rw [if_pos h]; rfl
    · rw [if_neg h, if_neg h]
  rw [lineB rfl hne]
  unfold bodyS
  simp only [hw, Bool.false_or]
  have hlt : (T.take a).length = a := by rw [List.length_take]; omega
  rw [show decide (2000 < (T.take a).length + l.length + 2) = false from decide_eq_false (by omega)]
  simp only [Bool.false_eq_true, if_false, hT2]
theorem feed_good (l d l' d' : List UInt8) (x : List UInt8) (hx : x.length ≤ 2000) : GoodSes ⟨4, zAd l d, [zAd l' d'], x, false⟩ := by
  have h := rdy_good l d l' d' 4
  exact ⟨h.step, h.some', hx, h.frm, h.rcp, h.ok, h.names, fun e => absurd rfl e⟩
theorem feed_last (f t : Ad) (tx : List UInt8) (known : List (List UInt8)) : lineS ⟨4, f, [t], tx, false⟩ known [46] = (ses0 1, 0, [(f, t, tx)]) := lineE rfl

theorem two_bytes2 (p q : List UInt8) : (⟨p.toArray⟩ : ByteArray) ++ ⟨q.toArray⟩ = ⟨(p ++ q).toArray⟩ := by
  rw [← Lib.mk_data ((⟨p.toArray⟩ : ByteArray) ++ ⟨q.toArray⟩)]
  congr 2
theorem full_dec (T : List UInt8) (h : 2 ≤ T.length) : (decide ((T.length : Int) < 2) || !(((⟨T.toArray⟩ : ByteArray).extract (T.length - 2) T.length).toList == [13, 10])) = decide (T.drop (T.length - 2) ≠ [13, 10]) := by
  have e : decide ((T.length : Int) < 2) = false := decide_eq_false (by omega)
  have e2 : (⟨T.toArray⟩ : ByteArray).extract (T.length - 2) T.length = ⟨(T.drop (T.length - 2)).toArray⟩ := by
    rw [Go.Lib.extract_eq]
    show (⟨((T.drop (T.length - 2)).take (T.length - (T.length - 2))).toArray⟩ : ByteArray) = _
    rw [List.take_of_length_le (by rw [List.length_drop]; omega)]
  rw [e, e2, ByteArray.toList_eq]
  show (false || !(T.drop (T.length - 2) == [13, 10])) = _
  by_cases hh : T.drop (T.length - 2) = [13, 10]
  · rw [hh]; rfl
  · rw [Bool.false_or, beq_eq_false_iff_ne.2 hh, decide_eq_true hh]; rfl
theorem full_if (T : List UInt8) (h : 2 ≤ T.length) : fullL T = if T.drop (T.length - 2) ≠ [13, 10] then T ++ [13, 10] else T := by
  unfold fullL
  by_cases hh : T.drop (T.length - 2) = [13, 10]
  · rw [if_neg (by rintro (h' | h'); omega; exact h' hh), if_neg (fun e => e hh)]
  · rw [if_pos (.inr hh), if_pos hh]
theorem byteAt {L : List UInt8} {B : ByteArray} (hB : B = ⟨L.toArray⟩) {j : Nat} {c : UInt8} (h : L[j]? = some c) (hj : j < B.size) : B[j] = c := by
  subst hB
  obtain ⟨h1, h2⟩ := List.getElem?_eq_some_iff.1 h
  exact h2
theorem byteNot {L : List UInt8} {B : ByteArray} (hB : B = ⟨L.toArray⟩) {j : Nat} {c : UInt8} (hj : j < B.size) (h : B[j] = c) : L[j]? = some c := by
  subst hB
  exact List.getElem?_eq_some_iff.2 ⟨hj, h⟩
theorem ext_line {L : List UInt8} {B : ByteArray} (hB : B = ⟨L.toArray⟩) (a j : Nat) : B.extract a j = ⟨(lineL L a j).toArray⟩ := by
  subst hB
  rw [Go.Lib.extract_eq]
  unfold lineL
  rw [List.drop_take]
theorem byteEq {c : UInt8} {k : UInt8} (h : c = k) (n : Int) (hn : (k.toNat : Int) = n) : ((c.toNat : Int) == n) = true := by rw [h, hn]; exact beq_self_eq_true _
theorem byteNe {c : UInt8} {k : UInt8} (h : c ≠ k) (n : Int) (hn : (k.toNat : Int) = n) : ((c.toNat : Int) == n) = false := beq_eq_false_iff_ne.2 fun e => h (UInt8.toNat_inj.1 (by rw [← hn] at e; exact Int.ofNat_inj.1 e))
theorem byteEqI {c : UInt8} {k : UInt8} (h : c = k) (n : Int) (hn : (k.toNat : Int) = n) : (c.toNat : Int) = n := by rw [h, hn]
theorem byteNeI {c : UInt8} {k : UInt8} (h : c ≠ k) (n : Int) (hn : (k.toNat : Int) = n) : ¬ (c.toNat : Int) = n := fun e => h (UInt8.toNat_inj.1 (by rw [← hn] at e; exact Int.ofNat_inj.1 e))
theorem LinePost.form1' {s : Ses} {z : Int} {x : Lt} {w w' : World} {e : Ending} (h : LinePost (s, z, [x]) w e w') : ∃ G c g off cl, e = .returned (.tuple #[.agg #[.int .i64 s.step, .string ⟨s.frm.1.toArray⟩, .string ⟨s.frm.2.toArray⟩, .slice G s.rcp.length c, .string ⟨s.text.toArray⟩, .bool s.large], .int .i64 z, .slice (some ⟨g, off, none⟩) 1 cl, .int .i64 0]) ∧
    (w'.cell? ⟨g, off, none⟩ = some (.string ⟨x.1.1.toArray⟩) ∧ w'.cell? ⟨g, off + 1, none⟩ = some (.string ⟨x.1.2.toArray⟩) ∧ w'.cell? ⟨g, off + 2, none⟩ = some (.string ⟨x.2.1.1.toArray⟩) ∧ w'.cell? ⟨g, off + 3, none⟩ = some (.string ⟨x.2.1.2.toArray⟩) ∧ w'.cell? ⟨g, off + 4, none⟩ = some (.string ⟨x.2.2.toArray⟩)) ∧ Below w.heap.size w w' := by
  obtain ⟨G, c, Gl, cl, h1, h2, h3, h4⟩ := h.form
  obtain ⟨g, off, vs, hG, hF, hg, hv, hc⟩ := h3.get 0 (by show 0 < 1; omega)
  obtain rfl : vs = letC x := hv
  subst hG
  refine ⟨G, c, g, off, cl, h1, ⟨?_, ?_, ?_, ?_, ?_⟩, h4⟩
  · simpa using hc 0 _ rfl
  · simpa using hc 1 _ rfl
  · simpa using hc 2 _ rfl
  · simpa using hc 3 _ rfl
  · simpa using hc 4 _ rfl
set_option maxHeartbeats 8000000 in
set_option maxRecDepth 20000 in
theorem lineLetter_walk (a0 a1 a2 b0 b1 b2 : ByteArray) (G : Option Addr) (n c : Nat) (x : Nat → Nat → ByteArray) (bo : ByteArray) (m : Int) (w : World) (h0 : a0.size ≤ maxLen) (h1 : a1.size ≤ maxLen) (_h2 : a2.size ≤ maxLen) (k0 : b0.size ≤ maxLen) (k1 : b1.size ≤ maxLen) (_k2 : b2.size ≤ maxLen) (hx : StrRows w G n 2 x ∧ n ≤ maxLen) (hbo : bo.size ≤ maxLen) (hm : w.cell? ⟨0, 0, none⟩ = some (.int .i64 m)) :
    Calls Tryd.prog 5 #[.agg #[.string a0, .string a1, .string a2, .string b0, .string b1, .string b2, .slice G n c, .string bo]] w fun e w' => e = .returned (.bool true) ∧ Below w.heap.size w w' := by
  have hA := ba (Below.refl w.heap.size w) (.cells #[.string a0, .string a1, .string a2, .string b0, .string b1, .string b2, .slice G n c, .string bo] 42)
  have hP : Has (w.alloc (.cells #[.string a0, .string a1, .string a2, .string b0, .string b1, .string b2, .slice G n c, .string bo] 42)) w.heap.size [.string a0, .string a1, .string a2, .string b0, .string b1, .string b2, .slice G n c, .string bo] := Has.alloc w _ _
  have hLT := letter_any a0 a1 a2 b0 b1 b2 G n c x bo m (w.alloc (.cells #[.string a0, .string a1, .string a2, .string b0, .string b1, .string b2, .slice G n c, .string bo] 42)) h0 h1 k0 k1 ⟨strRows_down hx.1 hA, hx.2⟩ hbo (moved hm hA (Nat.le_refl _))
  have HRD : Hid (∀ w', w'.cell? ⟨0, 0, none⟩ = some (.int .i64 m) → Calls Tryd.prog 14 #[.agg #[.string a0, .string a1, .string a2, .string b0, .string b1, .string b2, .slice G n c, .string bo]] w' (ReadyPost (zAd a0.data.toList a1.data.toList) (zAd b0.data.toList b1.data.toList) w')) := fun w' h => ready_any a0 a1 a2 b0 b1 b2 G n c bo m w' h0 h1 k0 k1 h
  have hgood : ∀ y : List UInt8, y.length ≤ 2000 → GoodSes ⟨4, zAd a0.data.toList a1.data.toList, [zAd b0.data.toList b1.data.toList], y, false⟩ := fun y hy => feed_good _ _ _ _ y hy
  have hX1 : addrL a0.data.toList = ⟨(zAd a0.data.toList a1.data.toList).1.toArray⟩ := rfl
  have hY1 : addrD a1.data.toList = ⟨(zAd a0.data.toList a1.data.toList).2.toArray⟩ := (arr_addrD _).symm
  have hX2 : addrL b0.data.toList = ⟨(zAd b0.data.toList b1.data.toList).1.toArray⟩ := rfl
  have hY2 : addrD b1.data.toList = ⟨(zAd b0.data.toList b1.data.toList).2.toArray⟩ := (arr_addrD _).symm
  rw [hX1, hY1, hX2, hY2] at hLT
  have hTl := ltrT_len x n bo.data.toList
  obtain ⟨T, hT⟩ : ∃ T, T = ltrT x n bo.data.toList := ⟨_, rfl⟩
  rw [← hT] at hLT hTl
  obtain ⟨f, hf⟩ : ∃ f, f = zAd a0.data.toList a1.data.toList := ⟨_, rfl⟩
  obtain ⟨t, ht⟩ : ∃ t, t = zAd b0.data.toList b1.data.toList := ⟨_, rfl⟩
  rw [← hf, ← ht] at hLT HRD hgood
  have HA := Lib.hid hA; have HM := Lib.hid hm; have HP := Lib.hid hP; have HLT := Lib.hid hLT; have HGD := Lib.hid hgood
  have hFl := fullL_len T hTl.2
  have hF13 := (full_last T).1
  have hF10 := (full_last T).2
  have HFD : Hid (fullL T = if T.length < 2 ∨ T.drop (T.length - 2) ≠ [13, 10] then T ++ [13, 10] else T) := rfl
  obtain ⟨L, hL⟩ : ∃ L, L = fullL T := ⟨_, rfl⟩
  rw [← hL] at hFl hF13 hF10 HFD
  have HF13 := Lib.hid hF13; have HF10 := Lib.hid hF10
  obtain ⟨hT1, hT2⟩ := hTl
  obtain ⟨hL1, hL2⟩ := hFl
  clear hA hP hLT hgood hX1 hY1 hX2 hY2 hT hf ht hm hx hL hF13 hF10
  go_enter Tryd.func5, Tryd.ntmps5
  go_wp2_with fail
  refine HLT.out.mono ?_
  rintro e w1 ⟨rfl, hb1⟩
  have HB1 := Lib.hid (bt HA.out hb1)
  have HM1 := Lib.hid (moved HM.out (bt HA.out hb1) (Nat.le_refl _))
  have hP1 := HP.out.down (bt hb1 (ba (Below.refl _ _) (.cells #[.string ⟨f.1.toArray⟩, .string ⟨f.2.toArray⟩, .string ⟨t.1.toArray⟩, .string ⟨t.2.toArray⟩, .string ⟨T.toArray⟩] 55)))
  obtain ⟨p0, p1, p2, p3, p4, p5, p6, p7⟩ := hP1.eight
  have HX : Hid (Has (w1.alloc (.cells #[.string ⟨f.1.toArray⟩, .string ⟨f.2.toArray⟩, .string ⟨t.1.toArray⟩, .string ⟨t.2.toArray⟩, .string ⟨T.toArray⟩] 55)) w1.heap.size [.string ⟨f.1.toArray⟩, .string ⟨f.2.toArray⟩, .string ⟨t.1.toArray⟩, .string ⟨t.2.toArray⟩, .string ⟨T.toArray⟩]) := Has.alloc w1 _ _
  have hal := ba (Below.refl w1.heap.size w1) (.cells #[.string ⟨f.1.toArray⟩, .string ⟨f.2.toArray⟩, .string ⟨t.1.toArray⟩, .string ⟨t.2.toArray⟩, .string ⟨T.toArray⟩] 55)
  have hRD2 := HRD.out _ (moved HM1.out hal (Nat.le_refl _))
  have HRD2 := Lib.hid hRD2
  have HB2 := Lib.hid (bt HB1.out hal)
  have HM2 := Lib.hid (moved HM1.out hal (Nat.le_refl _))
  obtain ⟨X, hXe⟩ : ∃ X, X = w1.heap.size := ⟨_, rfl⟩
  obtain ⟨W2, hW2⟩ : ∃ W2, W2 = w1.alloc (.cells #[.string ⟨f.1.toArray⟩, .string ⟨f.2.toArray⟩, .string ⟨t.1.toArray⟩, .string ⟨t.2.toArray⟩, .string ⟨T.toArray⟩] 55) := ⟨_, rfl⟩
  have hwX : w.heap.size ≤ X := by rw [hXe]; exact HB1.out.size
  have HWE := Lib.hid hW2.symm
  have HXE := Lib.hid hXe.symm
  rw [← hXe] at HX
  rw [← hW2] at p0 p1 p2 p3 p4 p5 p6 p7 HX HRD2 HB2 HM2
  clear hb1 hP1 hal hRD2 hXe hW2 HRD HA HM HP HLT HB1 HM1
  go_upto_region 2 with fail
  rw [HWE.out, HXE.out]
  go_upto_region 3 with (go_at_call 14; refine (HRD2.out).mono ?_; intro e w3 hp; obtain ⟨⟨Gv, cv, rfl, hv3⟩, hb3⟩ := hp)
  have hal3 := ba (Below.refl w3.heap.size w3) (.cells #[.int .i64 4, .string ⟨f.1.toArray⟩, .string ⟨f.2.toArray⟩, .slice Gv 1 cv, .string ⟨#[]⟩, .bool false] 49)
  have HS3 : Hid (SesAt 0 (w3.alloc (.cells #[.int .i64 4, .string ⟨f.1.toArray⟩, .string ⟨f.2.toArray⟩, .slice Gv 1 cv, .string ⟨#[]⟩, .bool false] 49)) w3.heap.size (.slice Gv 1 cv) ⟨4, f, [t], [], false⟩) :=
    ⟨Has.alloc w3 _ _, (hv3.lt.down hal3).mono (fun b hh => ⟨by have := hh.2; omega, Nat.zero_le _⟩)⟩
  have HX3 := Lib.hid (HX.out.down (bt hb3 hal3))
  have HB3 := Lib.hid (bt HB2.out (bt hb3 hal3))
  have HM3 := Lib.hid (moved HM2.out (bt hb3 hal3) (Nat.le_refl _))
  have hXw : X < w3.heap.size := Nat.lt_of_lt_of_le HX.out.2.2 hb3.size
  obtain ⟨S, hSe⟩ : ∃ S, S = w3.heap.size := ⟨_, rfl⟩
  obtain ⟨W3, hW3⟩ : ∃ W3, W3 = w3.alloc (.cells #[.int .i64 4, .string ⟨f.1.toArray⟩, .string ⟨f.2.toArray⟩, .slice Gv 1 cv, .string ⟨#[]⟩, .bool false] 49) := ⟨_, rfl⟩
  have hSw : S < W3.heap.size := by rw [hW3, hSe]; simp
  have hwS : w.heap.size ≤ S := by rw [hSe]; exact Nat.le_trans hwX (Nat.le_of_lt hXw)
  have hXS : X < S := by rw [hSe]; exact hXw
  have hMS : 0 < S := by rw [hSe]; exact Nat.lt_of_lt_of_le (World.block_lt_of_cell? W2 ⟨0, 0, none⟩ HM2.out) hb3.size
  rw [← hW3, ← hSe] at HS3
  rw [← hW3] at HX3 HB3 HM3
  have HWE3 := Lib.hid hW3.symm
  have HSE3 := Lib.hid hSe.symm
  clear hb3 hal3 hv3 hW3 hSe hXw HX HB2 HM2 HRD2 p0 p1 p2 p3 p4 p5 p6 p7 HWE HXE
  rw [HWE3.out, HSE3.out]
  obtain ⟨-, -, -, -, x4⟩ := HX3.out.five.1
  go_upto_region 5 with fail
  have HFI : Hid (L = if T.drop (T.length - 2) ≠ [13, 10] then T ++ [13, 10] else T) := by unfold Hid; rw [HFD.out]; exact full_if T hT1
  obtain ⟨qb, hqb⟩ : ∃ qb, qb = decide (T.drop (T.length - 2) ≠ [13, 10]) := ⟨_, rfl⟩
  have HQB := Lib.hid hqb
  have HFC := Lib.hid (full_dec T hT1)
  go_cut [41] (fun b wx => b = .bool qb ∧ wx = W3)
  case first =>
    clear hqb
    go_wp2_with fail
    go_meet
    case rel => exact ⟨by rw [HFC.out, HQB.out], rfl⟩
  case rest =>
    obtain ⟨rfl, rfl⟩ := hcut
    have hFx : (⟨L.toArray⟩ : ByteArray) = if qb = true then (⟨T.toArray⟩ : ByteArray) ++ ⟨#[13, 10]⟩ else ⟨T.toArray⟩ := by
      rw [hqb, HFI.out]
      by_cases hh : T.drop (T.length - 2) ≠ [13, 10]
      · rw [if_pos hh, if_pos (decide_eq_true hh)]; exact (two_bytes2 T [13, 10]).symm
      · rw [if_neg hh, if_neg (by rw [decide_eq_false hh]; decide)]
    have HFX := Lib.hid hFx
    obtain ⟨B, hB⟩ : ∃ B : ByteArray, B = ⟨L.toArray⟩ := ⟨_, rfl⟩
    rw [← hB] at HFX
    have HBE := Lib.hid hB
    have hBs : B.size = L.length := by rw [hB]; rfl
    have HBS := Lib.hid hBs
    have hB1 : 2 ≤ B.size := by omega
    have hB2 : B.size ≤ 410 := by omega
    clear hBs
    clear hqb hFx hB HFI HFC HQB HFD
    have hTz : (⟨T.toArray⟩ : ByteArray).size ≤ 408 := hT2
    go_upto_if 41 with fail
    go_cut [8] (fun b wx => b = .string B ∧ wx = wc)
    case first =>
      cases qb
      · go_wp2_with fail
        go_meet
        case rel => exact ⟨by rw [HFX.out]; rfl, rfl⟩
      · go_wp2_with fail
        go_meet
        case rel => exact ⟨by rw [HFX.out]; rfl, rfl⟩
    case rest =>
      obtain ⟨rfl, rfl⟩ := hcut
      go_wp2_with fail
      have HQ13 : Hid (∀ j a : Nat, FeedAt L j a → ¬ j + 1 < L.length → a = L.length) := fun j a h hn => feed_end h hn HF13.out HF10.out hL1
      have hz : Hid (FeedAt L 0 0) := feed_start L hL1
      go_loopw [7, 9] (fun fr i wr => ∃ j a : Nat, i = .int .i64 j ∧ fr = .int .i64 a ∧ FeedAt L j a ∧ SesPost 0 S ⟨4, f, [t], L.take a, false⟩ wc wr) (fun _ i _ => B.size - (intOf i).toNat)
      case atStart => exact ⟨0, 0, rfl, rfl, hz.out, SesPost.of HS3.out (World.grownBy.refl _ _)⟩
      case round =>
        obtain ⟨j, a, rfl, rfl, hfd, ⟨v, hs⟩, hg⟩ := hrel
        obtain ⟨Gs, cs, rfl, -⟩ := hs.rcp.form
        have hfa := hfd.aT
        have HFDA := Lib.hid hfd
        have HM := Lib.hid (cell_else hg HM3.out (by omega))
        have HS := Lib.hid hs; have HG := Lib.hid hg
        have hsz : wc.heap.size ≤ wr.heap.size := hg.size
        have hSr : S < wr.heap.size := hs.has.2.2
        clear hs hg hfd
        have hjl : j + 1 ≤ B.size := by rw [HBS.out]; exact HFDA.out.le
        by_cases hlt : j + 1 < B.size
        · have dj : decide ((j : Int) + 1 < (B.size : Int)) = true := decide_eq_true (by omega)
          have hj1 : j < B.size := by omega
          have hj2 : j + 1 < B.size := by omega
          by_cases he : endAt L j
          · have hle := feed_le HFDA.out he
            have e13 := byteEqI (byteAt HBE.out he.1 hj1) 13 rfl
            have e10 := byteEqI (byteAt HBE.out he.2 hj2) 10 rfl
            have hltL : j + 1 < L.length := by rw [← HBS.out]; exact hlt
            have hL2' : L.length ≤ 410 := hL2
            have HNX := Lib.hid (feed_line HFDA.out hltL he)
            have hst := feed_step f t L a j [] hle hltL he (by omega)
            have hga := HGD.out (L.take a) (by rw [List.length_take]; omega)
            have hll := lineL_len L a j (by omega)
            have HLN := Lib.hid (ext_line HBE.out a j)
            have hsl := stuff_len (lineL L a j)
            obtain ⟨l, hl⟩ : ∃ l, l = lineL L a j := ⟨_, rfl⟩
            rw [← hl] at hst hll HLN hsl
            have hlc : Calls Tryd.prog 12 #[.agg #[.int .i64 4, .string ⟨f.1.toArray⟩, .string ⟨f.2.toArray⟩, .slice Gs 1 cs, .string ⟨(L.take a).toArray⟩, .bool false], .slice none 0 0, .string ⟨(stuffL l).toArray⟩] wr (LinePost (⟨4, f, [t], L.take (j + 2), false⟩, 0, []) wr) := by
              rw [← hst]
              exact line_any ⟨4, f, [t], L.take a, false⟩ _ _ _ [] (fun _ => True) _ m wr HS.out.rcp hga (SAt.nil _ _ _) (by show 0 ≤ 1000; omega) (by omega) HM.out
            have HLC := Lib.hid hlc
            obtain ⟨tx, htx⟩ : ∃ tx, tx = L.take a := ⟨_, rfl⟩
            obtain ⟨c0, c1', c2, c3, c4, c5⟩ := HS.out.six.six
            rw [← htx] at HLC HS
            replace c4 : wr.cell? ⟨S, 4, none⟩ = some (.string ⟨tx.toArray⟩) := by rw [htx]; exact c4
            obtain ⟨ty, hty⟩ : ∃ ty, ty = L.take (j + 2) := ⟨_, rfl⟩
            rw [← hty] at HLC
            have HTY := Lib.hid hty
            obtain ⟨LB, hLB⟩ : ∃ LB : ByteArray, LB = ⟨l.toArray⟩ := ⟨_, rfl⟩
            rw [← hLB] at HLN
            have hLBs : LB.size = j - a := by rw [hLB, ← hll]; rfl
            have hja : (a : Int) ≤ j := by omega
            have hjB : (j : Int) ≤ B.size := by omega
            clear hlc hst hga htx hty hl he hltL hL2'
            go_upto_region 13 with fail
            rw [HLN.out]
            have key : (LB.size = 0 ∧ stuffL l = l) ∨ (∃ h : 0 < LB.size, LB[0] = 46 ∧ stuffL l = 46 :: l) ∨ (∃ h : 0 < LB.size, LB[0] ≠ 46 ∧ stuffL l = l) := by
              subst hLB
              cases l with
              | nil => exact .inl ⟨rfl, rfl⟩
              | cons y r =>
                by_cases hy : y = 46
                · exact .inr (.inl ⟨Nat.succ_pos _, hy, by subst hy; rfl⟩)
                · exact .inr (.inr ⟨Nat.succ_pos _, hy, if_neg (fun e => hy (Option.some.inj e))⟩)
            have HLB := Lib.hid hLB
            clear hLB hsl
            rcases key with ⟨k1, k2⟩ | ⟨k1, k2, k3⟩ | ⟨k1, k2, k3⟩
            · have d0 : decide ((0 : Int) < (LB.size : Int)) = false := decide_eq_false (by omega)
              rw [k2, ← HLB.out] at HLC
              clear k2 hLBs
              go_upto_region 15 with fail
              go_wp2_with fail
              refine HLC.out.mono ?_
              intro e w4 hp
              obtain ⟨G4, c4', Gl, cl, rfl, hv4, hb4⟩ := hp.form3
              obtain ⟨h4, hp4⟩ := ses_fresh 49 HG.out HS.out (Below.refl _ _) hv4 hb4 hSw
              have HP4 := Lib.hid hp4
              have h4' : Has (w4.alloc (.cells #[.int .i64 4, .string ⟨f.1.toArray⟩, .string ⟨f.2.toArray⟩, .slice G4 1 c4', .string ⟨ty.toArray⟩, .bool false] 49)) S [.int .i64 4, .string ⟨f.1.toArray⟩, .string ⟨f.2.toArray⟩, .slice Gs 1 cs, .string ⟨tx.toArray⟩, .bool false] := h4
              obtain ⟨e0, e1, e2, e3, e4, e5⟩ := h4'.six
              obtain ⟨f0, f1, f2, f3, f4, f5⟩ := h4'.six_free
              clear HLC hp hv4 hb4 hp4 h4 h4' c0 c1' c2 c3 c4 c5
              go_wp2_with fail
              go_roundw
              case rel => exact ⟨j + 1, j + 2, by go_num, by go_num, HNX.out, by rw [← HTY.out]; exact HP4.out⟩
              case measure => simp [intOf]; omega
            · have d0 : decide ((0 : Int) < (LB.size : Int)) = true := decide_eq_true (by omega)
              have e46 := byteEq k2 46 rfl
              have hd : (⟨#[46]⟩ : ByteArray) ++ LB = ⟨(stuffL l).toArray⟩ := by rw [k3, HLB.out]; exact two_bytes2 [46] l
              have HD := Lib.hid hd
              have hlbz : LB.size ≤ 410 := by omega
              clear k2 k3 hd hLBs
              go_upto_region 15 with fail
              rw [HD.out]
              go_wp2_with fail
              refine HLC.out.mono ?_
              intro e w4 hp
              obtain ⟨G4, c4', Gl, cl, rfl, hv4, hb4⟩ := hp.form3
              obtain ⟨h4, hp4⟩ := ses_fresh 49 HG.out HS.out (Below.refl _ _) hv4 hb4 hSw
              have HP4 := Lib.hid hp4
              have h4' : Has (w4.alloc (.cells #[.int .i64 4, .string ⟨f.1.toArray⟩, .string ⟨f.2.toArray⟩, .slice G4 1 c4', .string ⟨ty.toArray⟩, .bool false] 49)) S [.int .i64 4, .string ⟨f.1.toArray⟩, .string ⟨f.2.toArray⟩, .slice Gs 1 cs, .string ⟨tx.toArray⟩, .bool false] := h4
              obtain ⟨e0, e1, e2, e3, e4, e5⟩ := h4'.six
              obtain ⟨f0, f1, f2, f3, f4, f5⟩ := h4'.six_free
              clear HLC hp hv4 hb4 hp4 h4 h4' c0 c1' c2 c3 c4 c5
              go_wp2_with fail
              go_roundw
              case rel => exact ⟨j + 1, j + 2, by go_num, by go_num, HNX.out, by rw [← HTY.out]; exact HP4.out⟩
              case measure => simp [intOf]; omega
            · have d0 : decide ((0 : Int) < (LB.size : Int)) = true := decide_eq_true (by omega)
              have e46 := byteNe k2 46 rfl
              rw [k3, ← HLB.out] at HLC
              clear k2 k3 hLBs
              go_upto_region 15 with fail
              go_wp2_with fail
              refine HLC.out.mono ?_
              intro e w4 hp
              obtain ⟨G4, c4', Gl, cl, rfl, hv4, hb4⟩ := hp.form3
              obtain ⟨h4, hp4⟩ := ses_fresh 49 HG.out HS.out (Below.refl _ _) hv4 hb4 hSw
              have HP4 := Lib.hid hp4
              have h4' : Has (w4.alloc (.cells #[.int .i64 4, .string ⟨f.1.toArray⟩, .string ⟨f.2.toArray⟩, .slice G4 1 c4', .string ⟨ty.toArray⟩, .bool false] 49)) S [.int .i64 4, .string ⟨f.1.toArray⟩, .string ⟨f.2.toArray⟩, .slice Gs 1 cs, .string ⟨tx.toArray⟩, .bool false] := h4
              obtain ⟨e0, e1, e2, e3, e4, e5⟩ := h4'.six
              obtain ⟨f0, f1, f2, f3, f4, f5⟩ := h4'.six_free
              clear HLC hp hv4 hb4 hp4 h4 h4' c0 c1' c2 c3 c4 c5
              go_wp2_with fail
              go_roundw
              case rel => exact ⟨j + 1, j + 2, by go_num, by go_num, HNX.out, by rw [← HTY.out]; exact HP4.out⟩
              case measure => simp [intOf]; omega
          · have hno : B[j] ≠ 13 ∨ (B[j] = 13 ∧ B[j + 1] ≠ 10) := by
              by_cases h13 : B[j] = 13
              · exact .inr ⟨h13, fun h10 => he ⟨byteNot HBE.out hj1 h13, byteNot HBE.out hj2 h10⟩⟩
              · exact .inl h13
            have HNX := Lib.hid (feed_skip HFDA.out (by rw [← HBS.out]; exact hlt) he)
            clear he
            rcases hno with h13 | ⟨h13, h10⟩
            · have e13 := byteNeI h13 13 rfl
              clear h13
              go_wp2_with fail
              go_roundw
              case rel => exact ⟨j + 1, a, by go_num, rfl, HNX.out, ⟨_, HS.out⟩, HG.out⟩
              case measure => simp [intOf]; omega
            · have e13 := byteEqI h13 13 rfl
              have e10 := byteNeI h10 10 rfl
              clear h13 h10
              go_wp2_with fail
              go_roundw
              case rel => exact ⟨j + 1, a, by go_num, rfl, HNX.out, ⟨_, HS.out⟩, HG.out⟩
              case measure => simp [intOf]; omega
        · have dj : decide ((j : Int) + 1 < (B.size : Int)) = false := decide_eq_false (by omega)
          obtain rfl := HQ13.out j a HFDA.out (by rw [← HBS.out]; exact hlt)
          have hga := HGD.out L (by omega)
          have hS' : SesAt 0 wr S (.slice Gs 1 cs) ⟨4, f, [t], L, false⟩ := by have := HS.out; rwa [List.take_length] at this
          have hlc : Calls Tryd.prog 12 #[.agg #[.int .i64 4, .string ⟨f.1.toArray⟩, .string ⟨f.2.toArray⟩, .slice Gs 1 cs, .string B, .bool false], .slice none 0 0, .string ⟨#[46]⟩] wr (LinePost (ses0 1, 0, [(f, t, L)]) wr) := by
            rw [HBE.out, ← feed_last f t L []]
            exact line_any ⟨4, f, [t], L, false⟩ _ _ _ [] (fun _ => True) [46] m wr hS'.rcp hga (SAt.nil _ _ _) (by show 0 ≤ 1000; omega) (by show 1 ≤ 100000; omega) HM.out
          have HLC := Lib.hid hlc
          obtain ⟨c0, c1', c2, c3, c4, c5⟩ := hS'.six.six
          replace c4 : wr.cell? ⟨S, 4, none⟩ = some (.string B) := by rw [HBE.out]; exact c4
          have hbx : Below w.heap.size w wr := below_grown HB3.out HG.out hwS
          have HBX := Lib.hid hbx
          have hx3 : Has wr X [.string ⟨f.1.toArray⟩, .string ⟨f.2.toArray⟩, .string ⟨t.1.toArray⟩, .string ⟨t.2.toArray⟩, .string ⟨T.toArray⟩] := HX3.out.kept HG.out (fun e => by have := Option.some.inj e; omega)
          have HX4 := Lib.hid hx3
          clear hlc hS' hga hbx hx3
          go_wp2_with fail
          refine HLC.out.mono ?_
          intro e w7 hp
          have h7 : ∃ Gb cb g off cl7, e = .returned (.tuple #[.agg #[.int .i64 1, .string ⟨#[]⟩, .string ⟨#[]⟩, .slice Gb 0 cb, .string ⟨#[]⟩, .bool false], .int .i64 0, .slice (some ⟨g, off, none⟩) 1 cl7, .int .i64 0]) ∧ (w7.cell? ⟨g, off, none⟩ = some (.string ⟨f.1.toArray⟩) ∧ w7.cell? ⟨g, off + 1, none⟩ = some (.string ⟨f.2.toArray⟩) ∧ w7.cell? ⟨g, off + 2, none⟩ = some (.string ⟨t.1.toArray⟩) ∧ w7.cell? ⟨g, off + 3, none⟩ = some (.string ⟨t.2.toArray⟩) ∧ w7.cell? ⟨g, off + 4, none⟩ = some (.string ⟨L.toArray⟩)) ∧ Below wr.heap.size wr w7 := hp.form1'
          obtain ⟨Gb, cb, g, off, cl7, rfl, ⟨q0, q1, q2, q3, q4⟩, hb7⟩ := h7
          obtain ⟨d0, d1, d2, d3, d4⟩ := (HX4.out.down hb7).five.1
          have HE := Lib.hid (bt HBX.out hb7)
          rw [← HBE.out] at q4
          clear hp hb7 HLC c0 c1' c2 c3 c4 c5
          go_upto_region 20 with fail
          have hA8 := ba (Below.refl w7.heap.size w7) (.cells #[.int .i64 1, .string ⟨#[]⟩, .string ⟨#[]⟩, .slice Gb 0 cb, .string ⟨#[]⟩, .bool false] 49)
          obtain ⟨e0, -, -, -, -, -⟩ := (show Has (w7.alloc (.cells #[.int .i64 1, .string ⟨#[]⟩, .string ⟨#[]⟩, .slice Gb 0 cb, .string ⟨#[]⟩, .bool false] 49)) w7.heap.size [.int .i64 1, .string ⟨#[]⟩, .string ⟨#[]⟩, .slice Gb 0 cb, .string ⟨#[]⟩, .bool false] from Has.alloc w7 _ _).six
          replace d0 := moved d0 hA8 (Nat.le_refl _); replace d1 := moved d1 hA8 (Nat.le_refl _); replace d2 := moved d2 hA8 (Nat.le_refl _); replace d3 := moved d3 hA8 (Nat.le_refl _)
          replace q0 := moved q0 hA8 (Nat.le_refl _); replace q1 := moved q1 hA8 (Nat.le_refl _); replace q2 := moved q2 hA8 (Nat.le_refl _); replace q3 := moved q3 hA8 (Nat.le_refl _); replace q4 := moved q4 hA8 (Nat.le_refl _)
          have HE8 := Lib.hid (bt HE.out hA8)
          obtain ⟨W8, hW8⟩ : ∃ W8, W8 = w7.alloc (.cells #[.int .i64 1, .string ⟨#[]⟩, .string ⟨#[]⟩, .slice Gb 0 cb, .string ⟨#[]⟩, .bool false] 49) := ⟨_, rfl⟩
          obtain ⟨E, hE⟩ : ∃ E, E = w7.heap.size := ⟨_, rfl⟩
          rw [← hW8] at HE8 d0 d1 d2 d3 q0 q1 q2 q3 q4 e0 ⊢
          rw [← hE] at e0 ⊢
          clear hW8 hE hA8 HE d4
          go_quiet (fail)
          go_wp2
          go_ret
          exact ⟨rfl, bt HE8.out (below_drewN _ _)⟩
end Go.Proofs.YtdhepaeephmhiaaDoor
