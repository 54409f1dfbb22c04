/-
  DERIVED. MatchInside, MatchParts: the walks.
-/
import Derived.Test.YtlghlcekakbmnaaMatchWalks
namespace Go.Proofs.Ytlghlcekakbmnaa
open Go.RowKit

theorem index_ge_iff (q : List UInt8) : ∀ s : List UInt8, 0 ≤ Lib.index s q ↔ ∃ a b, s = a ++ (q ++ b)
  | [] => by
    unfold Lib.index
    cases q with
    | nil => simp
    | cons c q => simp
  | x :: l => by
    unfold Lib.index
    by_cases hp : q.isPrefixOf (x :: l) = true
    · rw [if_pos hp]
      obtain ⟨b, hb⟩ := List.isPrefixOf_iff_prefix.1 hp
      exact ⟨fun _ => ⟨[], b, hb.symm⟩, fun _ => Int.le_refl _⟩
    · rw [if_neg hp]
      have ih := index_ge_iff q l
      have hge := Lib.index_ge l q
      constructor
      · intro h
        have h0 : 0 ≤ Lib.index l q := by
          by_cases e : Lib.index l q = -1
          · rw [e] at h; simp at h
          · omega
        obtain ⟨a, b, hab⟩ := ih.1 h0
        exact ⟨x :: a, b, by rw [hab]; rfl⟩
      · rintro ⟨a, b, hab⟩
        cases a with
        | nil => exact absurd (List.isPrefixOf_iff_prefix.2 ⟨b, hab.symm⟩) hp
        | cons y a =>
          have h0 := ih.2 ⟨a, b, by simpa using (List.cons.inj hab).2⟩
          have : (Lib.index l q == -1) = false := by rw [beq_eq_false_iff_ne]; omega
          rw [this]; simp; omega
theorem contains_mt (q t : List UInt8) : Lib.contains t q = mt (starP :: (lits q ++ [starP])) t := by
  rw [Bool.eq_iff_iff, mt_inside, ← index_ge_iff]; simp [Lib.contains]
theorem contains_app (q t : List UInt8) : Lib.contains (t ++ q) q = true := by
  have : 0 ≤ Lib.index (t ++ q) q := (index_ge_iff q _).2 ⟨t, [], by simp⟩
  simpa [Lib.contains] using this
theorem m2 (a p : List UInt8) (r : Bool) (hr : Lib.contains (foldL a) (foldL p) = r) (ha : a.length ≤ 2000) (hp : p.length ≤ 100) (m : Int) (w : World) (hm : w.cell? ⟨0, 0, none⟩ = some (.int .i64 m)) :
    Calls Try.prog 15 #[.int .i64 2, .string ⟨a.toArray⟩, .string ⟨p.toArray⟩] w fun e w' => e = .returned (.tuple #[.bool r, .int .i64 0]) ∧ Below w.heap.size w w' := by
  have := match2_any ⟨a.toArray⟩ ⟨p.toArray⟩ m w hm ha hp
  simp only [hr] at this; exact this

set_option maxHeartbeats 2000000 in
theorem matchInsideWalk (s p : ByteArray) (m : Int) (w : World) (ws : s.size ≤ maxLen) (wp : p.size ≤ maxLen) (hm : w.cell? ⟨0, 0, none⟩ = some (.int .i64 m)) :
    Calls Try.prog 6 #[.string s, .string p] w fun e w' => e = .returned (.bool true) ∧ Below w.heap.size w w' := by
  have hg : 0 < w.heap.size := World.block_lt_of_cell? w _ hm
  obtain ⟨t, htl, ct⟩ := cutN s 200 ws (by omega)
  obtain ⟨q, hql, cq⟩ := cutN p 40 wp (by omega)
  have hml := maskL_length q
  obtain ⟨r, hr⟩ : ∃ r, Lib.contains (foldL t) (foldL q) = r := ⟨_, rfl⟩
  have M1 := fun w => m2 t q r hr (by omega) (by omega) m w
  have M2 := m3 t ([42] ++ maskL q ++ [42]) r (by
    rw [← hr, contains_mt, foldL_app, foldL_app, foldL_mask]
    show mt (starP :: pcs (maskL (foldL q) ++ [42])) _ = _
    rw [pcs_mask_app]; rfl) (by omega) (by simp; omega)
  have M3 := fun w => m2 (t ++ q) q true (by rw [foldL_app]; exact contains_app _ _) (by simp; omega) (by omega) m w
  have K := mk q (by omega)
  simp only [← app_mk] at M2 M3
  obtain ⟨k, hk⟩ : ∃ k, k = maskL q := ⟨_, rfl⟩
  rw [← hk] at hml M2 K
  have hkl : k.length ≤ 80 := by omega
  have hk' : (⟨k.toArray⟩ : ByteArray).size ≤ 80 := hkl
  have ht' : (⟨t.toArray⟩ : ByteArray).size ≤ 200 := htl
  have hq' : (⟨q.toArray⟩ : ByteArray).size ≤ 40 := hql
  have HCt := Lib.hid ct; have HCq := Lib.hid cq; have H1 := Lib.hid M1; have H2 := Lib.hid M2; have H3 := Lib.hid M3; have HK := Lib.hid K; have HM := Lib.hid hm
  clear ct cq M1 M2 M3 K hk hml hr hm
  go_enter Try.func6, Try.ntmps6
  go_wp2_with fail
  refine (HCt.out _).mono ?_
  rintro e w1 ⟨rfl, rfl⟩
  go_wp2_with fail
  refine (HCq.out _).mono ?_
  rintro e w1 ⟨rfl, rfl⟩
  go_wp2_with fail
  refine (H1.out _ HM.out).mono ?_
  rintro e w1 ⟨rfl, hb1⟩
  go_wp2_with fail
  refine (HK.out _).mono ?_
  rintro e w2 ⟨rfl, hb2⟩
  go_wp2_with fail
  refine (H2.out _).mono ?_
  rintro e w3 ⟨rfl, hb3⟩
  have hb := bt (bt hb1 hb2) hb3
  go_wp2_with fail
  refine (H3.out _ ((hb.cell (p := ⟨0, 0, none⟩) hg).trans HM.out)).mono ?_
  rintro e w4 ⟨rfl, hb4⟩
  go_wp2
  go_ret
  exact ⟨rfl, bt hb hb4⟩

theorem last_of_size (x : ByteArray) (h : 0 < x.size) : x.data.toList.getLast? = some x[x.size - 1] := by
  rw [List.getLast?_eq_getElem?]
  have e : x.data.toList.length = x.size := by simp
  rw [e, List.getElem?_eq_getElem (by omega)]; rfl

theorem parts_plain (Z y a b : List UInt8) (h : Z.getLast? ≠ some 92) (h1 : mt (pcs (foldL Z)) (foldL a) = true) (h2 : mt (pcs (foldL y)) (foldL b) = true) :
    mt (pcs (foldL (Z ++ y))) (foldL (a ++ b)) = true := by
  rw [foldL_app, foldL_app]
  show mt (pcsG false (foldL Z ++ foldL y)) _ = true
  rw [pcsG_app (foldL Z) (foldL y) false (fun h => by cases h) (foldL_last _ h)]
  exact mt_append _ _ _ _ h1 h2
theorem m3z (a : List UInt8) (z : ByteArray) (r : Bool) (hr : mt (pcs (foldL z.data.toList)) (foldL a) = r) (ha : a.length ≤ 2000) (hp : z.size ≤ 100) (w : World) :
    Calls Try.prog 15 #[.int .i64 3, .string ⟨a.toArray⟩, .string z] w fun e w' => e = .returned (.tuple #[.bool r, .int .i64 0]) ∧ Below w.heap.size w w' := by
  have := match3_any ⟨a.toArray⟩ z w ha hp
  simp only [hr] at this; exact this
theorem app_data (z : ByteArray) (y : List UInt8) : (z ++ (⟨y.toArray⟩ : ByteArray)).data.toList = z.data.toList ++ y := by simp

theorem parts_rest (z : ByteArray) (a b y : List UInt8) (hl : z.data.toList.getLast? ≠ some 92) (hal : a.length ≤ 40) (hbl : b.length ≤ 40) (hyl : y.length ≤ 40) (hz : z.size ≤ 40) :
    ∃ rm rn rb : Bool, (rm = true → rn = true → rb = true) ∧
      (∀ w, Calls Try.prog 15 #[.int .i64 3, .string ⟨a.toArray⟩, .string z] w fun e w' => e = .returned (.tuple #[.bool rm, .int .i64 0]) ∧ Below w.heap.size w w') ∧
      (∀ w, Calls Try.prog 15 #[.int .i64 3, .string ⟨b.toArray⟩, .string ⟨y.toArray⟩] w fun e w' => e = .returned (.tuple #[.bool rn, .int .i64 0]) ∧ Below w.heap.size w w') ∧
      (∀ w, Calls Try.prog 15 #[.int .i64 3, .string (⟨a.toArray⟩ ++ ⟨b.toArray⟩), .string (z ++ ⟨y.toArray⟩)] w fun e w' => e = .returned (.tuple #[.bool rb, .int .i64 0]) ∧ Below w.heap.size w w') := by
  refine ⟨mt (pcs (foldL z.data.toList)) (foldL a), mt (pcs (foldL y)) (foldL b), mt (pcs (foldL (z.data.toList ++ y))) (foldL (a ++ b)), fun h1 h2 => parts_plain z.data.toList y a b hl h1 h2, fun w => m3z a z (mt (pcs (foldL z.data.toList)) (foldL a)) rfl (by omega) (by omega) w, fun w => m3 b y (mt (pcs (foldL y)) (foldL b)) rfl (by omega) (by omega) w, fun w => ?_⟩
  rw [app_mk a b]
  exact m3z (a ++ b) (z ++ ⟨y.toArray⟩) (mt (pcs (foldL (z.data.toList ++ y))) (foldL (a ++ b))) (by rw [app_data]) (by simp; omega) (by rw [ByteArray.size_append]; show z.size + y.length ≤ 100; omega) w
set_option maxHeartbeats 4000000 in
theorem matchPartsWalk (s t p q : ByteArray) (w : World) (ws : s.size ≤ maxLen) (wt : t.size ≤ maxLen) (wp : p.size ≤ maxLen) (wq : q.size ≤ maxLen) :
    Calls Try.prog 7 #[.string s, .string t, .string p, .string q] w fun e w' => e = .returned (.bool true) ∧ Below w.heap.size w w' := by
  obtain ⟨a, hal, ca⟩ := cutN s 40 ws (by omega)
  obtain ⟨b, hbl, cb⟩ := cutN t 40 wt (by omega)
  obtain ⟨x, hxl, cx⟩ := cutN p 40 wp (by omega)
  obtain ⟨y, hyl, cy⟩ := cutN q 40 wq (by omega)
  have M4 := m3 b [42] true (mt_star_all _) (by omega) (by simp)
  have ha' : (⟨a.toArray⟩ : ByteArray).size ≤ 40 := hal
  have hb' : (⟨b.toArray⟩ : ByteArray).size ≤ 40 := hbl
  have hx' : (⟨x.toArray⟩ : ByteArray).size ≤ 40 := hxl
  have hy' : (⟨y.toArray⟩ : ByteArray).size ≤ 40 := hyl
  have HCa := Lib.hid ca; have HCb := Lib.hid cb; have HCx := Lib.hid cx; have HCy := Lib.hid cy; have H4 := Lib.hid M4
  clear ca cb cx cy M4
  go_enter Try.func7, Try.ntmps7
  go_wp2_with fail
  refine (HCa.out _).mono ?_
  rintro e w1 ⟨rfl, rfl⟩
  go_wp2_with fail
  refine (HCb.out _).mono ?_
  rintro e w1 ⟨rfl, rfl⟩
  go_wp2_with fail
  refine (HCx.out _).mono ?_
  rintro e w1 ⟨rfl, rfl⟩
  go_wp2_with fail
  refine (HCy.out _).mono ?_
  rintro e w1 ⟨rfl, rfl⟩
  go_wp2_with fail
  go_loop [11] (fun v => ∃ z : ByteArray, v = .string z ∧ z.size ≤ 40) (fun v => match v with | .string z => z.size | _ => 0)
  case atStart => exact ⟨_, rfl, hx'⟩
  case round =>
    obtain ⟨z, rfl, hz⟩ := hrel
    clear hx' hxl HCx
    by_cases h0 : 0 < z.size
    · by_cases h92 : z[z.size - 1] = 92
      · have hd : ((z[z.size - 1].toNat : Int) == 92) = true := by rw [h92]; rfl
        clear h92
        go_wp2
        go_round
        case rel => exact ⟨_, rfl, by simp; omega⟩
        case measure => simp; omega
      · have hl : z.data.toList.getLast? ≠ some 92 := by
          rw [last_of_size z h0]; intro e; exact h92 (by simpa using e)
        have hd : ((z[z.size - 1].toNat : Int) == 92) = false := by
          rw [beq_eq_false_iff_ne]; intro e; exact h92 (UInt8.toNat_inj.1 (by show z[z.size - 1].toNat = 92; omega))
        have hR := parts_rest z a b y hl hal hbl hyl hz
        clear hl h92
        obtain ⟨rm, rn, rb, hi, M1, M2, M3⟩ := hR
        have hi' : rm = true → rn = true → rb = true := hi
        have HI := Lib.hid hi; have H1 := Lib.hid M1; have H2 := Lib.hid M2; have H3 := Lib.hid M3
        clear hi M1 M2 M3 hi'
        cases hm : rm <;> cases hn : rn
        all_goals
          subst hm
          subst hn
          try (obtain rfl : rb = true := HI.out rfl rfl)
          go_wp2_with fail
          refine (H1.out _).mono ?_
          rintro e w1 ⟨rfl, hb1⟩
          go_wp2_with fail
          refine (H2.out _).mono ?_
          rintro e w2 ⟨rfl, hb2⟩
          go_wp2_with fail
          refine (H3.out _).mono ?_
          rintro e w3 ⟨rfl, hb3⟩
          go_wp2_with fail
          refine (H4.out _).mono ?_
          rintro e w4 ⟨rfl, hb4⟩
          go_wp2
          go_ret
          exact ⟨rfl, bt (bt (bt hb1 hb2) hb3) hb4⟩
    · have hl : z.data.toList.getLast? ≠ some 92 := by
        have hzl : z.data.toList.length = z.size := by simp
        have : z.data.toList = [] := List.eq_nil_of_length_eq_zero (by rw [hzl]; omega)
        rw [this]; simp
      have hz0 : z.size ≤ 0 := by omega
      have hR := parts_rest z a b y hl hal hbl hyl hz
      clear hl h0
      obtain ⟨rm, rn, rb, hi, M1, M2, M3⟩ := hR
      have HI := Lib.hid hi; have H1 := Lib.hid M1; have H2 := Lib.hid M2; have H3 := Lib.hid M3
      clear hi M1 M2 M3
      cases hm : rm <;> cases hn : rn
      all_goals
        subst hm
        subst hn
        try (obtain rfl : rb = true := HI.out rfl rfl)
        go_wp2_with fail
        refine (H1.out _).mono ?_
        rintro e w1 ⟨rfl, hb1⟩
        go_wp2_with fail
        refine (H2.out _).mono ?_
        rintro e w2 ⟨rfl, hb2⟩
        go_wp2_with fail
        refine (H3.out _).mono ?_
        rintro e w3 ⟨rfl, hb3⟩
        go_wp2_with fail
        refine (H4.out _).mono ?_
        rintro e w4 ⟨rfl, hb4⟩
        go_wp2
        go_ret
        exact ⟨rfl, bt (bt (bt hb1 hb2) hb3) hb4⟩
end Go.Proofs.Ytlghlcekakbmnaa
