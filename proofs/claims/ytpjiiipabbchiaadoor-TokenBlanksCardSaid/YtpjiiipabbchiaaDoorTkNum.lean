/-
  DERIVED. (*cutter).number of token: the walk.
-/
import Derived.Test.YtpjiiipabbchiaaDoorTkSkip
import Derived.Lib.AtoiAllCases
namespace Go.Proofs.YtpjiiipabbchiaaDoor.Tk
open Go.RowKit

def valF (a : Nat) (l : List UInt8) : Nat := l.foldl (fun a c => a * 10 + (c.toNat - 48)) a
theorem valF_ge : ∀ (l : List UInt8) (a : Nat), a ≤ valF a l
  | [], a => Nat.le_refl _
  | c :: l, a => Nat.le_trans (by omega) (valF_ge l (a * 10 + (c.toNat - 48)))
theorem dig_range {c : UInt8} (h : isDig c = true) : 48 ≤ c.toNat ∧ c.toNat ≤ 57 := by
  unfold isDig at h
  simp only [Bool.and_eq_true, decide_eq_true_eq, UInt8.le_iff_toNat_le] at h
  exact h
theorem parse_dig : ∀ (l : List UInt8) (a : Nat), l.all isDig = true → (Go.Lib.parseUint10 a l = .ok (valF a l) ∧ (l ≠ [] → valF a l < 18446744073709551616)) ∨ (Go.Lib.parseUint10 a l = .range ∧ 18446744073709551616 ≤ valF a l)
  | [], a, _ => .inl ⟨rfl, fun h => absurd rfl h⟩
  | c :: l, a, h => by
    simp only [List.all_cons, Bool.and_eq_true] at h
    obtain ⟨d1, d2⟩ := dig_range h.1
    have hv : valF a (c :: l) = valF (a * 10 + (c.toNat - 48)) l := rfl
    have hge := valF_ge l (a * 10 + (c.toNat - 48))
    unfold Go.Lib.parseUint10
    rw [if_pos ⟨d1, d2⟩, hv]
    by_cases h1 : 1844674407370955162 ≤ a
    · rw [if_pos h1]; exact .inr ⟨rfl, by omega⟩
    · rw [if_neg h1]
      by_cases h2 : 18446744073709551616 ≤ a * 10 + (c.toNat - 48)
      · rw [if_pos h2]; exact .inr ⟨rfl, by omega⟩
      · rw [if_neg h2]
        rcases parse_dig l (a * 10 + (c.toNat - 48)) h.2 with ⟨i1, i2⟩ | ⟨i1, i2⟩
        · refine .inl ⟨i1, fun _ => ?_⟩
          by_cases hl : l = []
          · subst hl; show a * 10 + (c.toNat - 48) < _; omega
          · exact i2 hl
        · exact .inr ⟨i1, i2⟩
theorem atoi_dig {l : List UInt8} (h : l.all isDig = true) (hne : l ≠ []) : (Go.Lib.atoiAll l = .ok (valL l : Int) ∧ valL l < 9223372036854775808) ∨ (Go.Lib.atoiAll l = .range ∧ 9223372036854775808 ≤ valL l) := by
  cases l with
  | nil => exact absurd rfl hne
  | cons c r =>
    have hd : isDig c = true := by
      simp only [List.all_cons, Bool.and_eq_true] at h; exact h.1
    obtain ⟨d1, d2⟩ := dig_range hd
    have hm : Go.Lib.parseMag (c :: r) = Go.Lib.parseUint10 0 (c :: r) := by unfold Go.Lib.parseMag; rw [if_neg (List.cons_ne_nil _ _)]
    have hv : valF 0 (c :: r) = valL (c :: r) := rfl
    unfold Go.Lib.atoiAll
    simp only
    rw [if_neg (by omega), hm]
    rcases parse_dig (c :: r) 0 h with ⟨i1, i2⟩ | ⟨i1, i2⟩
    · rw [i1, hv]
      simp only
      by_cases h9 : 9223372036854775808 ≤ valL (c :: r)
      · rw [if_pos ⟨by omega, h9⟩]; exact .inr ⟨rfl, h9⟩
      · rw [if_neg (fun e => h9 e.2), if_neg (fun e => by omega), if_neg (by omega)]; exact .inl ⟨rfl, by omega⟩
    · rw [i1]
      exact .inr ⟨rfl, by omega⟩
/-- what 'number' answers -/
def NumPost (b : Nat) (s : ByteArray) (l : List UInt8) (w : World) (e : Ending) (w' : World) : Prop :=
  (match numL l with
    | .error z => e = .returned (.tuple #[.int .i64 0, .int .i64 z])
    | .ok p => e = .returned (.tuple #[.int .i64 p.1.num, .int .i64 0]) ∧ RdrL w' b s p.2) ∧ w.grownBy w' (some b)
theorem NumPost.err {b : Nat} {s : ByteArray} {l : List UInt8} {w w' : World} {z : Int} (h : numL l = .error z) (g : w.grownBy w' (some b)) : NumPost b s l w (.returned (.tuple #[.int .i64 0, .int .i64 z])) w' := by
  unfold NumPost; rw [h]; exact ⟨rfl, g⟩
theorem NumPost.ok {b : Nat} {s : ByteArray} {l r : List UInt8} {w w' : World} {t : Tok} {z : Int} (h : numL l = .ok (t, r)) (hz : z = t.num) (hr : RdrL w' b s r) (g : w.grownBy w' (some b)) : NumPost b s l w (.returned (.tuple #[.int .i64 z, .int .i64 0])) w' := by
  unfold NumPost; rw [h]; exact ⟨⟨by rw [hz], hr⟩, g⟩
theorem hd_next (l : List UInt8) : hdOf isWd l = (isLet (nextL l) || isDig (nextL l)) := by
  cases l with
  | nil => decide
  | cons c t => rfl

theorem nx_ne (r : List UInt8) (k : UInt8) (h : ∀ t, r ≠ k :: t) (hk : k ≠ 0) : (((nextL r).toNat : Int) == (k.toNat : Int)) = false := by
  refine beq_eq_false_iff_ne.2 (fun e => ?_)
  have e' : nextL r = k := UInt8.toNat_inj.1 (Int.ofNat_inj.1 e)
  cases r with
  | nil => exact hk e'.symm
  | cons c t => exact h t (by rw [← e']; rfl)
/-- the cells of a variable that lies below the cutter's block -/
def ErrAt (w : World) (ev : Value) : Prop := w.cell? ⟨5, 0, none⟩ = some ev
set_option maxHeartbeats 8000000 in
set_option maxRecDepth 20000 in
theorem number_any (b : Nat) (s : ByteArray) (c : UInt8) (l : List UInt8) (te : TypeId) (pe : Value) (w : World) (hs : s.size ≤ 100000) (h : RdrL w b s (c :: l)) (hc : isDig c = true) (hb0 : 5 < b) (hev : w.cell? ⟨5, 0, none⟩ = some (.iface te pe)) :
    Calls Tryd.prog 38 #[.pointer (some ⟨b, 0, none⟩)] w (NumPost b s (c :: l) w) := by
  have HS := Lib.hid (span_digit b s (c :: l) w hs h)
  have hne : (c :: l).takeWhile isDig ≠ [] := by rw [List.takeWhile_cons, if_pos hc]; exact List.cons_ne_nil _ _
  have hall : ((c :: l).takeWhile isDig).all isDig = true := List.all_takeWhile
  have hat := atoi_dig hall hne
  have hnum : numL (c :: l) = if hdOf isWd (shiftL ((c :: l).dropWhile isDig)).2 then .error 3
    else if 2147483647 >>> (shiftL ((c :: l).dropWhile isDig)).1 < valL ((c :: l).takeWhile isDig) then .error 6
    else .ok (⟨3, [], ((valL ((c :: l).takeWhile isDig) <<< (shiftL ((c :: l).dropWhile isDig)).1 : Nat) : Int)⟩, (shiftL ((c :: l).dropWhile isDig)).2) := rfl
  have hdl : ((c :: l).takeWhile isDig).length ≤ 100000 := by
    have h1 := span_split isDig (c :: l)
    have h2 : ((c :: l).takeWhile isDig).length + ((c :: l).dropWhile isDig).length = (c :: l).length := by rw [← List.length_append, h1]
    obtain ⟨n, hre, -⟩ := h
    have := hre.1
    omega
  obtain ⟨D, hD⟩ : ∃ D, D = (c :: l).takeWhile isDig := ⟨_, rfl⟩
  obtain ⟨r, hr⟩ : ∃ r, r = (c :: l).dropWhile isDig := ⟨_, rfl⟩
  rw [← hD] at hat hdl
  rw [← hD, ← hr] at HS hnum
  have HNUM := Lib.hid hnum; have HEV := Lib.hid hev
  obtain ⟨V, hV⟩ : ∃ V, V = valL D := ⟨_, rfl⟩
  rw [← hV] at hat HNUM
  have hds : (⟨D.toArray⟩ : ByteArray).size ≤ 100000 := hdl
  have hdd : (⟨D.toArray⟩ : ByteArray).data.toList = D := rfl
  have hAT : ∀ w, w.cell? ⟨5, 0, none⟩ = some (.iface te pe) → Calls Tryd.prog 47 #[.string ⟨D.toArray⟩] w fun e w' => (∃ z y, e = .returned (.tuple #[.int .i64 z, y]) ∧ (V < 9223372036854775808 → z = V ∧ y = .nilIface) ∧ (9223372036854775808 ≤ V → ∃ N, y = .iface 104 (.pointer (some ⟨N, 0, none⟩)))) ∧ Below w.heap.size w w' := by
    intro w hw
    rcases hat with ⟨a1, a2⟩ | ⟨a1, a2⟩
    · refine (Tryd.strconv_Atoi_ok ⟨D.toArray⟩ (by omega) (V : Int) (by rw [hdd]; exact a1) w).mono ?_
      rintro e w' ⟨rfl, hw'⟩
      refine ⟨⟨_, _, rfl, fun _ => ⟨rfl, rfl⟩, fun h => by omega⟩, ?_⟩
      rcases hw' with rfl | ⟨t, rfl⟩
      · exact Below.refl _ _
      · exact Lib.bytesWorld_below _ _ _
    · refine (Tryd.strconv_Atoi_range ⟨D.toArray⟩ (by omega) (by rw [hdd]; exact a1) _ w hw (.inr ⟨te, pe, rfl⟩)).mono ?_
      rintro e w' ⟨N, rfl, -, -, hb⟩
      exact ⟨⟨_, _, rfl, fun h => by omega, fun _ => ⟨N, rfl⟩⟩, hb⟩
  have HAT := Lib.hid hAT
  clear hat hall hne hnum hev hD hr hV hAT hdd h
  go_enter Tryd.func38, Tryd.ntmps38
  go_wp2_with fail
  refine HS.out.mono ?_
  rintro e w1 ⟨rfl, hrd1, hg1⟩
  have HG1 := Lib.hid hg1
  have HEV1 := Lib.hid (cell_else' hg1 HEV.out hb0)
  have HRD1 := Lib.hid hrd1
  clear hg1 hrd1 HS HEV
  go_wp2_with fail
  refine (HAT.out _ HEV1.out).mono ?_
  rintro e w2 ⟨⟨z, y, rfl, hz1, hz2⟩, hb2⟩
  have HZ1 := Lib.hid hz1; have HZ2 := Lib.hid hz2
  have HRD2 := Lib.hid (HRD1.out.below hb2); have HG2 := Lib.hid (Go.Lib.grownBy_below HG1.out hb2)
  clear hb2 hz1 hz2 HRD1 HG1 HEV1 HAT
  obtain ⟨n, hre, hrr⟩ := HRD2.out
  have HRE := Lib.hid hre; have HRR := Lib.hid hrr
  have HN := Lib.hid (fun (w' : World) (h' : Rdr w' b s n) => next_any b n s r w' hs hre h')
  clear hre hrr
  go_wp2_with fail
  refine (HN.out _ HRR.out).mono ?_
  rintro e w3 ⟨rfl, hkk⟩
  have hb3 : Below w2.heap.size w2 w3 := by obtain ⟨k, rfl⟩ := hkk; exact below_drewN _ _
  have HRR3 := Lib.hid (HRR.out.below hb3); have HG3 := Lib.hid (Go.Lib.grownBy_below HG2.out hb3)
  clear hkk hb3 HN HRD2 HRR HG2
  have HN := HZ1
  by_cases hK : ∃ t, r = 75 :: t ∨ r = 107 :: t
  ·
    obtain ⟨t, rfl | rfl⟩ := hK
    · have HSH : Hid (shiftL (75 :: t) = (10, t)) := rfl
      obtain ⟨hlt, -, hre1⟩ := HRE.out.cons
      have HRE1 := Lib.hid hre1
      have HNX := Lib.hid (fun (w' : World) (h' : Rdr w' b s (n + 1)) => next_any b (n + 1) s t w' hs HRE1.out h')
      have g1 : (((nextL (75 :: t)).toNat : Int) == 75) = true := rfl
      have HRRX := Lib.hid HRR3.out.step
      have HGX := Lib.hid (Go.Lib.grownBy_setB HG3.out 1 (.int .i64 ((n : Int) + 1)))
      obtain ⟨c0, c1, f1, hbw⟩ := HRR3.out
      go_upto_region 13 with fail
      clear c0 c1 f1 hbw hre1 g1
      obtain ⟨W4, hW4⟩ : ∃ W4, W4 = w3.setCell ⟨b, 1, none⟩ (.int .i64 ((n : Int) + 1)) := ⟨_, rfl⟩
      rw [← hW4] at HRRX HGX ⊢
      clear hW4
      cases hl : isLet (nextL t) with
      | true =>
        have HL := Lib.hid (fun w => hl ▸ letter_any (nextL t) w)
        have HFIN : Hid (numL (c :: l) = .error 3) := by unfold Hid; rw [HNUM.out, HSH.out, if_pos (by rw [hd_next, hl]; rfl)]
        clear hl
        go_wp2_with fail
        refine (HNX.out _ HRRX.out).mono ?_
        rintro e w5 ⟨rfl, hkk⟩
        have hb5 : Below W4.heap.size W4 w5 := by obtain ⟨k, rfl⟩ := hkk; exact below_drewN _ _
        have HG5 := Lib.hid (Go.Lib.grownBy_below HGX.out hb5)
        clear hkk hb5
        go_wp2_with fail
        refine (HL.out _).mono ?_
        rintro e w6 ⟨rfl, rfl⟩
        go_wp2_with fail
        go_ret2
        exact NumPost.err HFIN.out HG5.out
      | false =>
        have HL := Lib.hid (fun w => hl ▸ letter_any (nextL t) w)
        cases hd : isDig (nextL t) with
        | true =>
          have HD := Lib.hid (fun w => hd ▸ digit_any (nextL t) w)
          have HFIN : Hid (numL (c :: l) = .error 3) := by unfold Hid; rw [HNUM.out, HSH.out, if_pos (by rw [hd_next, hl, hd]; rfl)]
          clear hl hd
          go_wp2_with fail
          refine (HNX.out _ HRRX.out).mono ?_
          rintro e w5 ⟨rfl, hkk⟩
          have hb5 : Below W4.heap.size W4 w5 := by obtain ⟨k, rfl⟩ := hkk; exact below_drewN _ _
          have HRR5 := Lib.hid (HRRX.out.below hb5)
          have HG5 := Lib.hid (Go.Lib.grownBy_below HGX.out hb5)
          clear hkk hb5
          go_wp2_with fail
          refine (HL.out _).mono ?_
          rintro e w6 ⟨rfl, rfl⟩
          go_wp2_with fail
          refine (HNX.out _ HRR5.out).mono ?_
          rintro e w7 ⟨rfl, hkk⟩
          have hb7 : Below w5.heap.size w5 w7 := by obtain ⟨k, rfl⟩ := hkk; exact below_drewN _ _
          have HG7 := Lib.hid (Go.Lib.grownBy_below HG5.out hb7)
          clear hkk hb7
          go_wp2_with fail
          refine (HD.out _).mono ?_
          rintro e w8 ⟨rfl, rfl⟩
          go_wp2_with fail
          go_ret2
          exact NumPost.err HFIN.out HG7.out
        | false =>
          have HD := Lib.hid (fun w => hd ▸ digit_any (nextL t) w)
          have HNE : Hid (¬ hdOf isWd t = true) := by unfold Hid; rw [hd_next, hl, hd]; simp
          clear hl hd
          go_wp2_with fail
          refine (HNX.out _ HRRX.out).mono ?_
          rintro e w5 ⟨rfl, hkk⟩
          have hb5 : Below W4.heap.size W4 w5 := by obtain ⟨k, rfl⟩ := hkk; exact below_drewN _ _
          have HRR5 := Lib.hid (HRRX.out.below hb5)
          have HG5 := Lib.hid (Go.Lib.grownBy_below HGX.out hb5)
          clear hkk hb5
          go_wp2_with fail
          refine (HL.out _).mono ?_
          rintro e w6 ⟨rfl, rfl⟩
          go_wp2_with fail
          refine (HNX.out _ HRR5.out).mono ?_
          rintro e w7 ⟨rfl, hkk⟩
          have hb7 : Below w5.heap.size w5 w7 := by obtain ⟨k, rfl⟩ := hkk; exact below_drewN _ _
          have HRR7 := Lib.hid (HRR5.out.below hb7)
          have HG7 := Lib.hid (Go.Lib.grownBy_below HG5.out hb7)
          clear hkk hb7
          go_wp2_with fail
          refine (HD.out _).mono ?_
          rintro e w8 ⟨rfl, rfl⟩
          by_cases hbig : 9223372036854775808 ≤ V
          · obtain ⟨N, hN⟩ := HZ2.out hbig
            have HFIN : Hid (numL (c :: l) = .error 6) := by unfold Hid; rw [HNUM.out, HSH.out, if_neg HNE.out, if_pos (by show 2147483647 >>> 10 < V; have : (2147483647 : Nat) >>> 10 ≤ 2147483647 := Nat.shiftRight_le _ _; omega)]
            subst hN
            clear HZ1 HZ2 HN
            go_wp2_with fail
            go_ret2
            exact NumPost.err HFIN.out HG7.out
          · obtain ⟨hz, hy⟩ := HZ1.out (by omega)
            subst hz; subst hy
            have hVb : V < 9223372036854775808 := by omega
            by_cases hov : 2147483647 >>> 10 < V
            · have HFIN : Hid (numL (c :: l) = .error 6) := by unfold Hid; rw [HNUM.out, HSH.out, if_neg HNE.out, if_pos hov]
              have hov' : 2097151 < V := hov
              clear HZ1 HZ2 HN hbig hov
              go_wp2_with fail
              go_ret2
              exact NumPost.err HFIN.out HG7.out
            · have HFIN : Hid (numL (c :: l) = .ok (⟨3, [], ((V <<< 10 : Nat) : Int)⟩, t)) := by unfold Hid; rw [HNUM.out, HSH.out, if_neg HNE.out, if_neg hov]
              have hov' : V ≤ 2097151 := Nat.le_of_not_lt hov
              clear HZ1 HZ2 HN hbig hov
              go_wp2_with fail
              go_ret2
              exact NumPost.ok HFIN.out (by simp [Nat.shiftLeft_eq]) ⟨n + 1, HRE1.out, HRR7.out⟩ HG7.out
    · have HSH : Hid (shiftL (107 :: t) = (10, t)) := rfl
      obtain ⟨hlt, -, hre1⟩ := HRE.out.cons
      have HRE1 := Lib.hid hre1
      have HNX := Lib.hid (fun (w' : World) (h' : Rdr w' b s (n + 1)) => next_any b (n + 1) s t w' hs HRE1.out h')
      have g1 : (((nextL (107 :: t)).toNat : Int) == 75) = false := rfl
      have g2 : (((nextL (107 :: t)).toNat : Int) == 107) = true := rfl
      have HRRX := Lib.hid HRR3.out.step
      have HGX := Lib.hid (Go.Lib.grownBy_setB HG3.out 1 (.int .i64 ((n : Int) + 1)))
      obtain ⟨c0, c1, f1, hbw⟩ := HRR3.out
      go_upto_region 13 with fail
      clear c0 c1 f1 hbw hre1 g1 g2
      obtain ⟨W4, hW4⟩ : ∃ W4, W4 = w3.setCell ⟨b, 1, none⟩ (.int .i64 ((n : Int) + 1)) := ⟨_, rfl⟩
      rw [← hW4] at HRRX HGX ⊢
      clear hW4
      cases hl : isLet (nextL t) with
      | true =>
        have HL := Lib.hid (fun w => hl ▸ letter_any (nextL t) w)
        have HFIN : Hid (numL (c :: l) = .error 3) := by unfold Hid; rw [HNUM.out, HSH.out, if_pos (by rw [hd_next, hl]; rfl)]
        clear hl
        go_wp2_with fail
        refine (HNX.out _ HRRX.out).mono ?_
        rintro e w5 ⟨rfl, hkk⟩
        have hb5 : Below W4.heap.size W4 w5 := by obtain ⟨k, rfl⟩ := hkk; exact below_drewN _ _
        have HG5 := Lib.hid (Go.Lib.grownBy_below HGX.out hb5)
        clear hkk hb5
        go_wp2_with fail
        refine (HL.out _).mono ?_
        rintro e w6 ⟨rfl, rfl⟩
        go_wp2_with fail
        go_ret2
        exact NumPost.err HFIN.out HG5.out
      | false =>
        have HL := Lib.hid (fun w => hl ▸ letter_any (nextL t) w)
        cases hd : isDig (nextL t) with
        | true =>
          have HD := Lib.hid (fun w => hd ▸ digit_any (nextL t) w)
          have HFIN : Hid (numL (c :: l) = .error 3) := by unfold Hid; rw [HNUM.out, HSH.out, if_pos (by rw [hd_next, hl, hd]; rfl)]
          clear hl hd
          go_wp2_with fail
          refine (HNX.out _ HRRX.out).mono ?_
          rintro e w5 ⟨rfl, hkk⟩
          have hb5 : Below W4.heap.size W4 w5 := by obtain ⟨k, rfl⟩ := hkk; exact below_drewN _ _
          have HRR5 := Lib.hid (HRRX.out.below hb5)
          have HG5 := Lib.hid (Go.Lib.grownBy_below HGX.out hb5)
          clear hkk hb5
          go_wp2_with fail
          refine (HL.out _).mono ?_
          rintro e w6 ⟨rfl, rfl⟩
          go_wp2_with fail
          refine (HNX.out _ HRR5.out).mono ?_
          rintro e w7 ⟨rfl, hkk⟩
          have hb7 : Below w5.heap.size w5 w7 := by obtain ⟨k, rfl⟩ := hkk; exact below_drewN _ _
          have HG7 := Lib.hid (Go.Lib.grownBy_below HG5.out hb7)
          clear hkk hb7
          go_wp2_with fail
          refine (HD.out _).mono ?_
          rintro e w8 ⟨rfl, rfl⟩
          go_wp2_with fail
          go_ret2
          exact NumPost.err HFIN.out HG7.out
        | false =>
          have HD := Lib.hid (fun w => hd ▸ digit_any (nextL t) w)
          have HNE : Hid (¬ hdOf isWd t = true) := by unfold Hid; rw [hd_next, hl, hd]; simp
          clear hl hd
          go_wp2_with fail
          refine (HNX.out _ HRRX.out).mono ?_
          rintro e w5 ⟨rfl, hkk⟩
          have hb5 : Below W4.heap.size W4 w5 := by obtain ⟨k, rfl⟩ := hkk; exact below_drewN _ _
          have HRR5 := Lib.hid (HRRX.out.below hb5)
          have HG5 := Lib.hid (Go.Lib.grownBy_below HGX.out hb5)
          clear hkk hb5
          go_wp2_with fail
          refine (HL.out _).mono ?_
          rintro e w6 ⟨rfl, rfl⟩
          go_wp2_with fail
          refine (HNX.out _ HRR5.out).mono ?_
          rintro e w7 ⟨rfl, hkk⟩
          have hb7 : Below w5.heap.size w5 w7 := by obtain ⟨k, rfl⟩ := hkk; exact below_drewN _ _
          have HRR7 := Lib.hid (HRR5.out.below hb7)
          have HG7 := Lib.hid (Go.Lib.grownBy_below HG5.out hb7)
          clear hkk hb7
          go_wp2_with fail
          refine (HD.out _).mono ?_
          rintro e w8 ⟨rfl, rfl⟩
          by_cases hbig : 9223372036854775808 ≤ V
          · obtain ⟨N, hN⟩ := HZ2.out hbig
            have HFIN : Hid (numL (c :: l) = .error 6) := by unfold Hid; rw [HNUM.out, HSH.out, if_neg HNE.out, if_pos (by show 2147483647 >>> 10 < V; have : (2147483647 : Nat) >>> 10 ≤ 2147483647 := Nat.shiftRight_le _ _; omega)]
            subst hN
            clear HZ1 HZ2 HN
            go_wp2_with fail
            go_ret2
            exact NumPost.err HFIN.out HG7.out
          · obtain ⟨hz, hy⟩ := HZ1.out (by omega)
            subst hz; subst hy
            have hVb : V < 9223372036854775808 := by omega
            by_cases hov : 2147483647 >>> 10 < V
            · have HFIN : Hid (numL (c :: l) = .error 6) := by unfold Hid; rw [HNUM.out, HSH.out, if_neg HNE.out, if_pos hov]
              have hov' : 2097151 < V := hov
              clear HZ1 HZ2 HN hbig hov
              go_wp2_with fail
              go_ret2
              exact NumPost.err HFIN.out HG7.out
            · have HFIN : Hid (numL (c :: l) = .ok (⟨3, [], ((V <<< 10 : Nat) : Int)⟩, t)) := by unfold Hid; rw [HNUM.out, HSH.out, if_neg HNE.out, if_neg hov]
              have hov' : V ≤ 2097151 := Nat.le_of_not_lt hov
              clear HZ1 HZ2 HN hbig hov
              go_wp2_with fail
              go_ret2
              exact NumPost.ok HFIN.out (by simp [Nat.shiftLeft_eq]) ⟨n + 1, HRE1.out, HRR7.out⟩ HG7.out
  · by_cases hM : ∃ t, r = 77 :: t ∨ r = 109 :: t
    ·
      obtain ⟨t, rfl | rfl⟩ := hM
      · have HSH : Hid (shiftL (77 :: t) = (20, t)) := rfl
        obtain ⟨hlt, -, hre1⟩ := HRE.out.cons
        have HRE1 := Lib.hid hre1
        have HNX := Lib.hid (fun (w' : World) (h' : Rdr w' b s (n + 1)) => next_any b (n + 1) s t w' hs HRE1.out h')
        have g1 : (((nextL (77 :: t)).toNat : Int) == 75) = false := rfl
        have g2 : (((nextL (77 :: t)).toNat : Int) == 107) = false := rfl
        have g3 : (((nextL (77 :: t)).toNat : Int) == 77) = true := rfl
        have HRRX := Lib.hid HRR3.out.step
        have HGX := Lib.hid (Go.Lib.grownBy_setB HG3.out 1 (.int .i64 ((n : Int) + 1)))
        obtain ⟨c0, c1, f1, hbw⟩ := HRR3.out
        go_upto_region 13 with fail
        clear c0 c1 f1 hbw hre1 g1 g2 g3
        obtain ⟨W4, hW4⟩ : ∃ W4, W4 = w3.setCell ⟨b, 1, none⟩ (.int .i64 ((n : Int) + 1)) := ⟨_, rfl⟩
        rw [← hW4] at HRRX HGX ⊢
        clear hW4
        cases hl : isLet (nextL t) with
        | true =>
          have HL := Lib.hid (fun w => hl ▸ letter_any (nextL t) w)
          have HFIN : Hid (numL (c :: l) = .error 3) := by unfold Hid; rw [HNUM.out, HSH.out, if_pos (by rw [hd_next, hl]; rfl)]
          clear hl
          go_wp2_with fail
          refine (HNX.out _ HRRX.out).mono ?_
          rintro e w5 ⟨rfl, hkk⟩
          have hb5 : Below W4.heap.size W4 w5 := by obtain ⟨k, rfl⟩ := hkk; exact below_drewN _ _
          have HG5 := Lib.hid (Go.Lib.grownBy_below HGX.out hb5)
          clear hkk hb5
          go_wp2_with fail
          refine (HL.out _).mono ?_
          rintro e w6 ⟨rfl, rfl⟩
          go_wp2_with fail
          go_ret2
          exact NumPost.err HFIN.out HG5.out
        | false =>
          have HL := Lib.hid (fun w => hl ▸ letter_any (nextL t) w)
          cases hd : isDig (nextL t) with
          | true =>
            have HD := Lib.hid (fun w => hd ▸ digit_any (nextL t) w)
            have HFIN : Hid (numL (c :: l) = .error 3) := by unfold Hid; rw [HNUM.out, HSH.out, if_pos (by rw [hd_next, hl, hd]; rfl)]
            clear hl hd
            go_wp2_with fail
            refine (HNX.out _ HRRX.out).mono ?_
            rintro e w5 ⟨rfl, hkk⟩
            have hb5 : Below W4.heap.size W4 w5 := by obtain ⟨k, rfl⟩ := hkk; exact below_drewN _ _
            have HRR5 := Lib.hid (HRRX.out.below hb5)
            have HG5 := Lib.hid (Go.Lib.grownBy_below HGX.out hb5)
            clear hkk hb5
            go_wp2_with fail
            refine (HL.out _).mono ?_
            rintro e w6 ⟨rfl, rfl⟩
            go_wp2_with fail
            refine (HNX.out _ HRR5.out).mono ?_
            rintro e w7 ⟨rfl, hkk⟩
            have hb7 : Below w5.heap.size w5 w7 := by obtain ⟨k, rfl⟩ := hkk; exact below_drewN _ _
            have HG7 := Lib.hid (Go.Lib.grownBy_below HG5.out hb7)
            clear hkk hb7
            go_wp2_with fail
            refine (HD.out _).mono ?_
            rintro e w8 ⟨rfl, rfl⟩
            go_wp2_with fail
            go_ret2
            exact NumPost.err HFIN.out HG7.out
          | false =>
            have HD := Lib.hid (fun w => hd ▸ digit_any (nextL t) w)
            have HNE : Hid (¬ hdOf isWd t = true) := by unfold Hid; rw [hd_next, hl, hd]; simp
            clear hl hd
            go_wp2_with fail
            refine (HNX.out _ HRRX.out).mono ?_
            rintro e w5 ⟨rfl, hkk⟩
            have hb5 : Below W4.heap.size W4 w5 := by obtain ⟨k, rfl⟩ := hkk; exact below_drewN _ _
            have HRR5 := Lib.hid (HRRX.out.below hb5)
            have HG5 := Lib.hid (Go.Lib.grownBy_below HGX.out hb5)
            clear hkk hb5
            go_wp2_with fail
            refine (HL.out _).mono ?_
            rintro e w6 ⟨rfl, rfl⟩
            go_wp2_with fail
            refine (HNX.out _ HRR5.out).mono ?_
            rintro e w7 ⟨rfl, hkk⟩
            have hb7 : Below w5.heap.size w5 w7 := by obtain ⟨k, rfl⟩ := hkk; exact below_drewN _ _
            have HRR7 := Lib.hid (HRR5.out.below hb7)
            have HG7 := Lib.hid (Go.Lib.grownBy_below HG5.out hb7)
            clear hkk hb7
            go_wp2_with fail
            refine (HD.out _).mono ?_
            rintro e w8 ⟨rfl, rfl⟩
            by_cases hbig : 9223372036854775808 ≤ V
            · obtain ⟨N, hN⟩ := HZ2.out hbig
              have HFIN : Hid (numL (c :: l) = .error 6) := by unfold Hid; rw [HNUM.out, HSH.out, if_neg HNE.out, if_pos (by show 2147483647 >>> 20 < V; have : (2147483647 : Nat) >>> 20 ≤ 2147483647 := Nat.shiftRight_le _ _; omega)]
              subst hN
              clear HZ1 HZ2 HN
              go_wp2_with fail
              go_ret2
              exact NumPost.err HFIN.out HG7.out
            · obtain ⟨hz, hy⟩ := HZ1.out (by omega)
              subst hz; subst hy
              have hVb : V < 9223372036854775808 := by omega
              by_cases hov : 2147483647 >>> 20 < V
              · have HFIN : Hid (numL (c :: l) = .error 6) := by unfold Hid; rw [HNUM.out, HSH.out, if_neg HNE.out, if_pos hov]
                have hov' : 2047 < V := hov
                clear HZ1 HZ2 HN hbig hov
                go_wp2_with fail
                go_ret2
                exact NumPost.err HFIN.out HG7.out
              · have HFIN : Hid (numL (c :: l) = .ok (⟨3, [], ((V <<< 20 : Nat) : Int)⟩, t)) := by unfold Hid; rw [HNUM.out, HSH.out, if_neg HNE.out, if_neg hov]
                have hov' : V ≤ 2047 := Nat.le_of_not_lt hov
                clear HZ1 HZ2 HN hbig hov
                go_wp2_with fail
                go_ret2
                exact NumPost.ok HFIN.out (by simp [Nat.shiftLeft_eq]) ⟨n + 1, HRE1.out, HRR7.out⟩ HG7.out
      · have HSH : Hid (shiftL (109 :: t) = (20, t)) := rfl
        obtain ⟨hlt, -, hre1⟩ := HRE.out.cons
        have HRE1 := Lib.hid hre1
        have HNX := Lib.hid (fun (w' : World) (h' : Rdr w' b s (n + 1)) => next_any b (n + 1) s t w' hs HRE1.out h')
        have g1 : (((nextL (109 :: t)).toNat : Int) == 75) = false := rfl
        have g2 : (((nextL (109 :: t)).toNat : Int) == 107) = false := rfl
        have g3 : (((nextL (109 :: t)).toNat : Int) == 77) = false := rfl
        have g4 : (((nextL (109 :: t)).toNat : Int) == 109) = true := rfl
        have HRRX := Lib.hid HRR3.out.step
        have HGX := Lib.hid (Go.Lib.grownBy_setB HG3.out 1 (.int .i64 ((n : Int) + 1)))
        obtain ⟨c0, c1, f1, hbw⟩ := HRR3.out
        go_upto_region 13 with fail
        clear c0 c1 f1 hbw hre1 g1 g2 g3 g4
        obtain ⟨W4, hW4⟩ : ∃ W4, W4 = w3.setCell ⟨b, 1, none⟩ (.int .i64 ((n : Int) + 1)) := ⟨_, rfl⟩
        rw [← hW4] at HRRX HGX ⊢
        clear hW4
        cases hl : isLet (nextL t) with
        | true =>
          have HL := Lib.hid (fun w => hl ▸ letter_any (nextL t) w)
          have HFIN : Hid (numL (c :: l) = .error 3) := by unfold Hid; rw [HNUM.out, HSH.out, if_pos (by rw [hd_next, hl]; rfl)]
          clear hl
          go_wp2_with fail
          refine (HNX.out _ HRRX.out).mono ?_
          rintro e w5 ⟨rfl, hkk⟩
          have hb5 : Below W4.heap.size W4 w5 := by obtain ⟨k, rfl⟩ := hkk; exact below_drewN _ _
          have HG5 := Lib.hid (Go.Lib.grownBy_below HGX.out hb5)
          clear hkk hb5
          go_wp2_with fail
          refine (HL.out _).mono ?_
          rintro e w6 ⟨rfl, rfl⟩
          go_wp2_with fail
          go_ret2
          exact NumPost.err HFIN.out HG5.out
        | false =>
          have HL := Lib.hid (fun w => hl ▸ letter_any (nextL t) w)
          cases hd : isDig (nextL t) with
          | true =>
            have HD := Lib.hid (fun w => hd ▸ digit_any (nextL t) w)
            have HFIN : Hid (numL (c :: l) = .error 3) := by unfold Hid; rw [HNUM.out, HSH.out, if_pos (by rw [hd_next, hl, hd]; rfl)]
            clear hl hd
            go_wp2_with fail
            refine (HNX.out _ HRRX.out).mono ?_
            rintro e w5 ⟨rfl, hkk⟩
            have hb5 : Below W4.heap.size W4 w5 := by obtain ⟨k, rfl⟩ := hkk; exact below_drewN _ _
            have HRR5 := Lib.hid (HRRX.out.below hb5)
            have HG5 := Lib.hid (Go.Lib.grownBy_below HGX.out hb5)
            clear hkk hb5
            go_wp2_with fail
            refine (HL.out _).mono ?_
            rintro e w6 ⟨rfl, rfl⟩
            go_wp2_with fail
            refine (HNX.out _ HRR5.out).mono ?_
            rintro e w7 ⟨rfl, hkk⟩
            have hb7 : Below w5.heap.size w5 w7 := by obtain ⟨k, rfl⟩ := hkk; exact below_drewN _ _
            have HG7 := Lib.hid (Go.Lib.grownBy_below HG5.out hb7)
            clear hkk hb7
            go_wp2_with fail
            refine (HD.out _).mono ?_
            rintro e w8 ⟨rfl, rfl⟩
            go_wp2_with fail
            go_ret2
            exact NumPost.err HFIN.out HG7.out
          | false =>
            have HD := Lib.hid (fun w => hd ▸ digit_any (nextL t) w)
            have HNE : Hid (¬ hdOf isWd t = true) := by unfold Hid; rw [hd_next, hl, hd]; simp
            clear hl hd
            go_wp2_with fail
            refine (HNX.out _ HRRX.out).mono ?_
            rintro e w5 ⟨rfl, hkk⟩
            have hb5 : Below W4.heap.size W4 w5 := by obtain ⟨k, rfl⟩ := hkk; exact below_drewN _ _
            have HRR5 := Lib.hid (HRRX.out.below hb5)
            have HG5 := Lib.hid (Go.Lib.grownBy_below HGX.out hb5)
            clear hkk hb5
            go_wp2_with fail
            refine (HL.out _).mono ?_
            rintro e w6 ⟨rfl, rfl⟩
            go_wp2_with fail
            refine (HNX.out _ HRR5.out).mono ?_
            rintro e w7 ⟨rfl, hkk⟩
            have hb7 : Below w5.heap.size w5 w7 := by obtain ⟨k, rfl⟩ := hkk; exact below_drewN _ _
            have HRR7 := Lib.hid (HRR5.out.below hb7)
            have HG7 := Lib.hid (Go.Lib.grownBy_below HG5.out hb7)
            clear hkk hb7
            go_wp2_with fail
            refine (HD.out _).mono ?_
            rintro e w8 ⟨rfl, rfl⟩
            by_cases hbig : 9223372036854775808 ≤ V
            · obtain ⟨N, hN⟩ := HZ2.out hbig
              have HFIN : Hid (numL (c :: l) = .error 6) := by unfold Hid; rw [HNUM.out, HSH.out, if_neg HNE.out, if_pos (by show 2147483647 >>> 20 < V; have : (2147483647 : Nat) >>> 20 ≤ 2147483647 := Nat.shiftRight_le _ _; omega)]
              subst hN
              clear HZ1 HZ2 HN
              go_wp2_with fail
              go_ret2
              exact NumPost.err HFIN.out HG7.out
            · obtain ⟨hz, hy⟩ := HZ1.out (by omega)
              subst hz; subst hy
              have hVb : V < 9223372036854775808 := by omega
              by_cases hov : 2147483647 >>> 20 < V
              · have HFIN : Hid (numL (c :: l) = .error 6) := by unfold Hid; rw [HNUM.out, HSH.out, if_neg HNE.out, if_pos hov]
                have hov' : 2047 < V := hov
                clear HZ1 HZ2 HN hbig hov
                go_wp2_with fail
                go_ret2
                exact NumPost.err HFIN.out HG7.out
              · have HFIN : Hid (numL (c :: l) = .ok (⟨3, [], ((V <<< 20 : Nat) : Int)⟩, t)) := by unfold Hid; rw [HNUM.out, HSH.out, if_neg HNE.out, if_neg hov]
                have hov' : V ≤ 2047 := Nat.le_of_not_lt hov
                clear HZ1 HZ2 HN hbig hov
                go_wp2_with fail
                go_ret2
                exact NumPost.ok HFIN.out (by simp [Nat.shiftLeft_eq]) ⟨n + 1, HRE1.out, HRR7.out⟩ HG7.out
    · have HSH : Hid (shiftL r = (0, r)) := by
        unfold Hid shiftL
        split
        · rfl
        · rename_i c t
          rw [if_neg (fun h => hK ⟨t, by rcases h with rfl | rfl; exact .inl rfl; exact .inr rfl⟩), if_neg (fun h => hM ⟨t, by rcases h with rfl | rfl; exact .inl rfl; exact .inr rfl⟩)]
      have g1 : (((nextL r).toNat : Int) == 75) = false := nx_ne r 75 (fun t e => hK ⟨t, .inl e⟩) (by decide)
      have g2 : (((nextL r).toNat : Int) == 107) = false := nx_ne r 107 (fun t e => hK ⟨t, .inr e⟩) (by decide)
      have g3 : (((nextL r).toNat : Int) == 77) = false := nx_ne r 77 (fun t e => hM ⟨t, .inl e⟩) (by decide)
      have g4 : (((nextL r).toNat : Int) == 109) = false := nx_ne r 109 (fun t e => hM ⟨t, .inr e⟩) (by decide)
      have HNX := Lib.hid (fun (w' : World) (h' : Rdr w' b s n) => next_any b n s r w' hs HRE.out h')
      have HRRX := HRR3; have HGX := HG3
      clear hK hM
      cases hl : isLet (nextL r) with
      | true =>
        have HL := Lib.hid (fun w => hl ▸ letter_any (nextL r) w)
        have HFIN : Hid (numL (c :: l) = .error 3) := by unfold Hid; rw [HNUM.out, HSH.out, if_pos (by rw [hd_next, hl]; rfl)]
        clear hl
        go_wp2_with fail
        refine (HNX.out _ HRRX.out).mono ?_
        rintro e w5 ⟨rfl, hkk⟩
        have hb5 : Below w3.heap.size w3 w5 := by obtain ⟨k, rfl⟩ := hkk; exact below_drewN _ _
        have HG5 := Lib.hid (Go.Lib.grownBy_below HGX.out hb5)
        clear hkk hb5
        go_wp2_with fail
        refine (HL.out _).mono ?_
        rintro e w6 ⟨rfl, rfl⟩
        go_wp2_with fail
        go_ret2
        exact NumPost.err HFIN.out HG5.out
      | false =>
        have HL := Lib.hid (fun w => hl ▸ letter_any (nextL r) w)
        cases hd : isDig (nextL r) with
        | true =>
          have HD := Lib.hid (fun w => hd ▸ digit_any (nextL r) w)
          have HFIN : Hid (numL (c :: l) = .error 3) := by unfold Hid; rw [HNUM.out, HSH.out, if_pos (by rw [hd_next, hl, hd]; rfl)]
          clear hl hd
          go_wp2_with fail
          refine (HNX.out _ HRRX.out).mono ?_
          rintro e w5 ⟨rfl, hkk⟩
          have hb5 : Below w3.heap.size w3 w5 := by obtain ⟨k, rfl⟩ := hkk; exact below_drewN _ _
          have HRR5 := Lib.hid (HRRX.out.below hb5)
          have HG5 := Lib.hid (Go.Lib.grownBy_below HGX.out hb5)
          clear hkk hb5
          go_wp2_with fail
          refine (HL.out _).mono ?_
          rintro e w6 ⟨rfl, rfl⟩
          go_wp2_with fail
          refine (HNX.out _ HRR5.out).mono ?_
          rintro e w7 ⟨rfl, hkk⟩
          have hb7 : Below w5.heap.size w5 w7 := by obtain ⟨k, rfl⟩ := hkk; exact below_drewN _ _
          have HG7 := Lib.hid (Go.Lib.grownBy_below HG5.out hb7)
          clear hkk hb7
          go_wp2_with fail
          refine (HD.out _).mono ?_
          rintro e w8 ⟨rfl, rfl⟩
          go_wp2_with fail
          go_ret2
          exact NumPost.err HFIN.out HG7.out
        | false =>
          have HD := Lib.hid (fun w => hd ▸ digit_any (nextL r) w)
          have HNE : Hid (¬ hdOf isWd r = true) := by unfold Hid; rw [hd_next, hl, hd]; simp
          clear hl hd
          go_wp2_with fail
          refine (HNX.out _ HRRX.out).mono ?_
          rintro e w5 ⟨rfl, hkk⟩
          have hb5 : Below w3.heap.size w3 w5 := by obtain ⟨k, rfl⟩ := hkk; exact below_drewN _ _
          have HRR5 := Lib.hid (HRRX.out.below hb5)
          have HG5 := Lib.hid (Go.Lib.grownBy_below HGX.out hb5)
          clear hkk hb5
          go_wp2_with fail
          refine (HL.out _).mono ?_
          rintro e w6 ⟨rfl, rfl⟩
          go_wp2_with fail
          refine (HNX.out _ HRR5.out).mono ?_
          rintro e w7 ⟨rfl, hkk⟩
          have hb7 : Below w5.heap.size w5 w7 := by obtain ⟨k, rfl⟩ := hkk; exact below_drewN _ _
          have HRR7 := Lib.hid (HRR5.out.below hb7)
          have HG7 := Lib.hid (Go.Lib.grownBy_below HG5.out hb7)
          clear hkk hb7
          go_wp2_with fail
          refine (HD.out _).mono ?_
          rintro e w8 ⟨rfl, rfl⟩
          by_cases hbig : 9223372036854775808 ≤ V
          · obtain ⟨N, hN⟩ := HZ2.out hbig
            have HFIN : Hid (numL (c :: l) = .error 6) := by unfold Hid; rw [HNUM.out, HSH.out, if_neg HNE.out, if_pos (by show 2147483647 >>> 0 < V; have : (2147483647 : Nat) >>> 0 ≤ 2147483647 := Nat.shiftRight_le _ _; omega)]
            subst hN
            clear HZ1 HZ2 HN
            go_wp2_with fail
            go_ret2
            exact NumPost.err HFIN.out HG7.out
          · obtain ⟨hz, hy⟩ := HZ1.out (by omega)
            subst hz; subst hy
            have hVb : V < 9223372036854775808 := by omega
            by_cases hov : 2147483647 >>> 0 < V
            · have HFIN : Hid (numL (c :: l) = .error 6) := by unfold Hid; rw [HNUM.out, HSH.out, if_neg HNE.out, if_pos hov]
              have hov' : 2147483647 < V := hov
              clear HZ1 HZ2 HN hbig hov
              go_wp2_with fail
              go_ret2
              exact NumPost.err HFIN.out HG7.out
            · have HFIN : Hid (numL (c :: l) = .ok (⟨3, [], ((V <<< 0 : Nat) : Int)⟩, r)) := by unfold Hid; rw [HNUM.out, HSH.out, if_neg HNE.out, if_neg hov]
              have hov' : V ≤ 2147483647 := Nat.le_of_not_lt hov
              clear HZ1 HZ2 HN hbig hov
              go_wp2_with fail
              go_ret2
              exact NumPost.ok HFIN.out (by simp [Nat.shiftLeft_eq]) ⟨n, HRE.out, HRR7.out⟩ HG7.out
end Go.Proofs.YtpjiiipabbchiaaDoor.Tk
