/- On the way. -/
import Derived.Test.YtmkppkjikifdlaaGreatDoorTTkA
import Derived.Test.YtmkppkjikifdlaaGreatDoorTTokL
import Derived.Test.YtmkppkjikifdlaaGreatDoorTCod
import Derived.Deep.Cut
import Derived.Lib.AtoiAllCases
set_option linter.unusedVariables false
set_option linter.unusedSimpArgs false
set_option maxHeartbeats 8000000
set_option maxRecDepth 20000
namespace Go.Proofs.YtmkppkjikifdlaaGreatDoor.Tk
open Go.RowKit
def valF (a : Nat) (l : List UInt8) : Nat := l.foldl (fun a c => a * 10 + (c.toNat - 48)) a
theorem valF_ge : ∀ (l : List UInt8) (a : Nat), a ≤ valF a l
 | [], a => Nat.le_refl _
 | c :: l, a => Nat.le_trans (by omega) (valF_ge l (a * 10 + (c.toNat - 48)))
theorem dig_range {c : UInt8} (h : isDig c = true) : 48 ≤ c.toNat ∧ c.toNat ≤ 57 := by
 unfold isDig at h
 simp only [Bool.and_eq_true, decide_eq_true_eq, UInt8.le_iff_toNat_le] at h
 exact h
theorem parse_dig : ∀ (l : List UInt8) (a : Nat), l.all isDig = true → (Go.Lib.parseUint10 a l = .ok (valF a l) ∧ (l ≠ [] → valF a l < 18446744073709551616)) ∨ (Go.Lib.parseUint10 a l = .range ∧ 18446744073709551616 ≤ valF a l)
 | [], a, _ => .inl ⟨rfl, fun h => absurd rfl h⟩
 | c :: l, a, h => by
  simp only [List.all_cons, Bool.and_eq_true] at h
  obtain ⟨d1, d2⟩ := dig_range h.1
  have hv : valF a (c :: l) = valF (a * 10 + (c.toNat - 48)) l := rfl
  have hge := valF_ge l (a * 10 + (c.toNat - 48))
  unfold Go.Lib.parseUint10
  rw [if_pos ⟨d1, d2⟩, hv]
  by_cases h1 : 1844674407370955162 ≤ a
  ·rw [if_pos h1]; exact .inr ⟨rfl, by omega⟩
  ·rw [if_neg h1]
   by_cases h2 : 18446744073709551616 ≤ a * 10 + (c.toNat - 48)
   ·rw [if_pos h2]; exact .inr ⟨rfl, by omega⟩
   ·rw [if_neg h2]
    rcases parse_dig l (a * 10 + (c.toNat - 48)) h.2 with ⟨i1, i2⟩ | ⟨i1, i2⟩
    ·refine .inl ⟨i1, fun _ => ?_⟩
     by_cases hl : l = []
     ·subst hl; show a * 10 + (c.toNat - 48) < _; omega
     ·exact i2 hl
    ·exact .inr ⟨i1, i2⟩
theorem atoi_dig {l : List UInt8} (h : l.all isDig = true) (hne : l ≠ []) : (Go.Lib.atoiAll l = .ok (valL l : Int) ∧ valL l < 9223372036854775808) ∨ (Go.Lib.atoiAll l = .range ∧ 9223372036854775808 ≤ valL l) := by
 cases l with
 | nil => exact absurd rfl hne
 | cons c r =>
  have hd : isDig c = true := by
   simp only [List.all_cons, Bool.and_eq_true] at h; exact h.1
  obtain ⟨d1, d2⟩ := dig_range hd
  have hm : Go.Lib.parseMag (c :: r) = Go.Lib.parseUint10 0 (c :: r) := by unfold Go.Lib.parseMag; rw [if_neg (List.cons_ne_nil _ _)]
  have hv : valF 0 (c :: r) = valL (c :: r) := rfl
  unfold Go.Lib.atoiAll
  simp only
  rw [if_neg (by omega), hm]
  rcases parse_dig (c :: r) 0 h with ⟨i1, i2⟩ | ⟨i1, i2⟩
  ·rw [i1, hv]
   simp only
   by_cases h9 : 9223372036854775808 ≤ valL (c :: r)
   ·rw [if_pos ⟨by omega, h9⟩]; exact .inr ⟨rfl, h9⟩
   ·rw [if_neg (fun e => h9 e.2), if_neg (fun e => by omega), if_neg (by omega)]; exact .inl ⟨rfl, by omega⟩
  ·rw [i1]
   exact .inr ⟨rfl, by omega⟩
def NumPost (b : Nat) (s : ByteArray) (l : List UInt8) (w : World) (e : Ending) (w' : World) : Prop :=
 (match numL l with
  | .error z => e = .returned (.tuple #[.int .i64 0, .int .i64 z])
  | .ok p => e = .returned (.tuple #[.int .i64 p.1.num, .int .i64 0]) ∧ RdrL w' b s p.2) ∧ w.grownBy w' (some b)
theorem NumPost.err {b : Nat} {s : ByteArray} {l : List UInt8} {w w' : World} {z : Int} (h : numL l = .error z) (g : w.grownBy w' (some b)) : NumPost b s l w (.returned (.tuple #[.int .i64 0, .int .i64 z])) w' := by
 unfold NumPost; rw [h]; exact ⟨rfl, g⟩
theorem NumPost.ok {b : Nat} {s : ByteArray} {l r : List UInt8} {w w' : World} {t : Tok} {z : Int} (h : numL l = .ok (t, r)) (hz : z = t.num) (hr : RdrL w' b s r) (g : w.grownBy w' (some b)) : NumPost b s l w (.returned (.tuple #[.int .i64 z, .int .i64 0])) w' := by
 unfold NumPost; rw [h]; exact ⟨⟨by rw [hz], hr⟩, g⟩
theorem hd_next (l : List UInt8) : hdOf isWd l = (isLet (nextL l) || isDig (nextL l)) := by
 cases l with
 | nil => decide
 | cons c t => rfl
theorem nx_ne (r : List UInt8) (k : UInt8) (h : ∀ t, r ≠ k :: t) (hk : k ≠ 0) : (((nextL r).toNat : Int) == (k.toNat : Int)) = false := by
 refine beq_eq_false_iff_ne.2 (fun e => ?_)
 have e' : nextL r = k := UInt8.toNat_inj.1 (Int.ofNat_inj.1 e)
 cases r with
 | nil => exact hk e'.symm
 | cons c t => exact h t (by rw [← e']; rfl)
theorem number_any (b : Nat) (s : ByteArray) (c : UInt8) (l : List UInt8) (te : TypeId) (pe : Value) (w : World) (hs : s.size ≤ 100000) (h : RdrL w b s (c :: l)) (hc : isDig c = true) (hb0 : 10 < b) (hev : w.cell? ⟨10, 0, none⟩ = some (.iface te pe)) :
    Calls Tryz.prog 104 #[.pointer (some ⟨b, 0, none⟩)] w (NumPost b s (c :: l) w) := by
 have HS := Lib.hid (span_digit b s (c :: l) w hs h)
 have hne : (c :: l).takeWhile isDig ≠ [] := by rw [List.takeWhile_cons, if_pos hc]; exact List.cons_ne_nil _ _
 have hall : ((c :: l).takeWhile isDig).all isDig = true := List.all_takeWhile
 have hat := atoi_dig hall hne
 have hnum : numL (c :: l) = if hdOf isWd (shiftL ((c :: l).dropWhile isDig)).2 then .error 3
  else if 2147483647 >>> (shiftL ((c :: l).dropWhile isDig)).1 < valL ((c :: l).takeWhile isDig) then .error 6
  else .ok (⟨3, [], ((valL ((c :: l).takeWhile isDig) <<< (shiftL ((c :: l).dropWhile isDig)).1 : Nat) : Int)⟩, (shiftL ((c :: l).dropWhile isDig)).2) := rfl
 have hdl : ((c :: l).takeWhile isDig).length ≤ 100000 := by
  have h1 := span_split isDig (c :: l)
  have h2 : ((c :: l).takeWhile isDig).length + ((c :: l).dropWhile isDig).length = (c :: l).length := by rw [← List.length_append, h1]
  obtain ⟨n, hre, -⟩ := h
  have := hre.1
  omega
 obtain ⟨D, hD⟩ : ∃ D, D = (c :: l).takeWhile isDig := ⟨_, rfl⟩
 obtain ⟨r, hr⟩ : ∃ r, r = (c :: l).dropWhile isDig := ⟨_, rfl⟩
 rw [← hD] at hat hdl
 rw [← hD, ← hr] at HS hnum
 have HNUM := Lib.hid hnum; have HEV := Lib.hid hev
 obtain ⟨V, hV⟩ : ∃ V, V = valL D := ⟨_, rfl⟩
 rw [← hV] at hat HNUM
 have hds : (⟨D.toArray⟩ : ByteArray).size ≤ 100000 := hdl
 have hdd : (⟨D.toArray⟩ : ByteArray).data.toList = D := rfl
 have hAT : ∀ w, w.cell? ⟨10, 0, none⟩ = some (.iface te pe) → Calls Tryz.prog 132 #[.string ⟨D.toArray⟩] w fun e w' => (∃ z y, e = .returned (.tuple #[.int .i64 z, y]) ∧ (V < 9223372036854775808 → z = V ∧ y = .nilIface) ∧ (9223372036854775808 ≤ V → ∃ N, y = .iface 282 (.pointer (some ⟨N, 0, none⟩)))) ∧ Below w.heap.size w w' := by
  intro w hw
  rcases hat with ⟨a1, a2⟩ | ⟨a1, a2⟩
  ·refine (Tryz.strconv_Atoi_ok ⟨D.toArray⟩ (by omega) (V : Int) (by rw [hdd]; exact a1) w).mono ?_
   rintro e w' ⟨rfl, hw'⟩
   refine ⟨⟨_, _, rfl, fun _ => ⟨rfl, rfl⟩, fun h => by omega⟩, ?_⟩
   rcases hw' with rfl | ⟨t, rfl⟩
   ·exact Below.refl _ _
   ·exact Lib.bytesWorld_below _ _ _
  ·refine (Tryz.strconv_Atoi_range ⟨D.toArray⟩ (by omega) (by rw [hdd]; exact a1) _ w hw (.inr ⟨te, pe, rfl⟩)).mono ?_
   rintro e w' ⟨N, rfl, -, -, hb⟩
   exact ⟨⟨_, _, rfl, fun h => by omega, fun _ => ⟨N, rfl⟩⟩, hb⟩
 have HAT := Lib.hid hAT
 clear hat hall hne hnum hev hD hr hV hAT hdd h
 go_enter Tryz.func104, Tryz.ntmps104
 go_wp2_with fail
 refine HS.out.mono ?_
 rintro e w1 ⟨rfl, hrd1, hg1⟩
 have HG1 := Lib.hid hg1
 have HEV1 := Lib.hid (cell_else' hg1 HEV.out hb0)
 have HRD1 := Lib.hid hrd1
 clear hg1 hrd1 HS HEV
 go_wp2_with fail
 refine (HAT.out _ HEV1.out).mono ?_
 rintro e w2 ⟨⟨z, y, rfl, hz1, hz2⟩, hb2⟩
 have HZ1 := Lib.hid hz1; have HZ2 := Lib.hid hz2
 have HRD2 := Lib.hid (HRD1.out.below hb2); have HG2 := Lib.hid (Go.Lib.grownBy_below HG1.out hb2)
 clear hb2 hz1 hz2 HRD1 HG1 HEV1 HAT
 obtain ⟨n, hre, hrr⟩ := HRD2.out
 have HRE := Lib.hid hre; have HRR := Lib.hid hrr
 have HN := Lib.hid (fun (w' : World) (h' : Rdr w' b s n) => next_any b n s r w' hs hre h')
 clear hre hrr
 go_wp2_with fail
 refine (HN.out _ HRR.out).mono ?_
 rintro e w3 ⟨rfl, hkk⟩
 have hb3 : Below w2.heap.size w2 w3 := by obtain ⟨k, rfl⟩ := hkk; exact below_drewN _ _
 have HRR3 := Lib.hid (HRR.out.below hb3); have HG3 := Lib.hid (Go.Lib.grownBy_below HG2.out hb3)
 clear hkk hb3 HN HRD2 HRR HG2
 have HN := HZ1
 by_cases hK : ∃ t, r = 75 :: t ∨ r = 107 :: t
 ·obtain ⟨t, rfl | rfl⟩ := hK
  ·have HSH : Hid (shiftL (75 :: t) = (10, t)) := rfl
   obtain ⟨hlt, -, hre1⟩ := HRE.out.cons
   have HRE1 := Lib.hid hre1
   have HNX := Lib.hid (fun (w' : World) (h' : Rdr w' b s (n + 1)) => next_any b (n + 1) s t w' hs HRE1.out h')
   have g1 : (((nextL (75 :: t)).toNat : Int) == 75) = true := rfl
   have HRRX := Lib.hid HRR3.out.step
   have HGX := Lib.hid (Go.Lib.grownBy_setB HG3.out 1 (.int .i64 ((n : Int) + 1)))
   obtain ⟨c0, c1, f1, hbw⟩ := HRR3.out
   go_upto_region 13 with fail
   clear c0 c1 f1 hbw hre1 g1
   obtain ⟨W4, hW4⟩ : ∃ W4, W4 = w3.setCell ⟨b, 1, none⟩ (.int .i64 ((n : Int) + 1)) := ⟨_, rfl⟩
   rw [← hW4] at HRRX HGX ⊢
   clear hW4
   cases hl : isLet (nextL t) with
   | true =>
    have HL := Lib.hid (fun w => hl ▸ letter_any (nextL t) w)
    have HFIN : Hid (numL (c :: l) = .error 3) := by unfold Hid; rw [HNUM.out, HSH.out, if_pos (by rw [hd_next, hl]; rfl)]
    clear hl
    go_wp2_with fail
    refine (HNX.out _ HRRX.out).mono ?_
    rintro e w5 ⟨rfl, hkk⟩
    have hb5 : Below W4.heap.size W4 w5 := by obtain ⟨k, rfl⟩ := hkk; exact below_drewN _ _
    have HG5 := Lib.hid (Go.Lib.grownBy_below HGX.out hb5)
    clear hkk hb5
    go_wp2_with fail
    refine (HL.out _).mono ?_
    rintro e w6 ⟨rfl, rfl⟩
    go_wp2_with fail
    go_ret2
    exact NumPost.err HFIN.out HG5.out
   | false =>
    have HL := Lib.hid (fun w => hl ▸ letter_any (nextL t) w)
    cases hd : isDig (nextL t) with
    | true =>
     have HD := Lib.hid (fun w => hd ▸ digit_any (nextL t) w)
     have HFIN : Hid (numL (c :: l) = .error 3) := by unfold Hid; rw [HNUM.out, HSH.out, if_pos (by rw [hd_next, hl, hd]; rfl)]
     clear hl hd
     go_wp2_with fail
     refine (HNX.out _ HRRX.out).mono ?_
     rintro e w5 ⟨rfl, hkk⟩
     have hb5 : Below W4.heap.size W4 w5 := by obtain ⟨k, rfl⟩ := hkk; exact below_drewN _ _
     have HRR5 := Lib.hid (HRRX.out.below hb5)
     have HG5 := Lib.hid (Go.Lib.grownBy_below HGX.out hb5)
     clear hkk hb5
     go_wp2_with fail
     refine (HL.out _).mono ?_
     rintro e w6 ⟨rfl, rfl⟩
     go_wp2_with fail
     refine (HNX.out _ HRR5.out).mono ?_
     rintro e w7 ⟨rfl, hkk⟩
     have hb7 : Below w5.heap.size w5 w7 := by obtain ⟨k, rfl⟩ := hkk; exact below_drewN _ _
     have HG7 := Lib.hid (Go.Lib.grownBy_below HG5.out hb7)
     clear hkk hb7
     go_wp2_with fail
     refine (HD.out _).mono ?_
     rintro e w8 ⟨rfl, rfl⟩
     go_wp2_with fail
     go_ret2
     exact NumPost.err HFIN.out HG7.out
    | false =>
     have HD := Lib.hid (fun w => hd ▸ digit_any (nextL t) w)
     have HNE : Hid (¬ hdOf isWd t = true) := by unfold Hid; rw [hd_next, hl, hd]; simp
     clear hl hd
     go_wp2_with fail
     refine (HNX.out _ HRRX.out).mono ?_
     rintro e w5 ⟨rfl, hkk⟩
     have hb5 : Below W4.heap.size W4 w5 := by obtain ⟨k, rfl⟩ := hkk; exact below_drewN _ _
     have HRR5 := Lib.hid (HRRX.out.below hb5)
     have HG5 := Lib.hid (Go.Lib.grownBy_below HGX.out hb5)
     clear hkk hb5
     go_wp2_with fail
     refine (HL.out _).mono ?_
     rintro e w6 ⟨rfl, rfl⟩
     go_wp2_with fail
     refine (HNX.out _ HRR5.out).mono ?_
     rintro e w7 ⟨rfl, hkk⟩
     have hb7 : Below w5.heap.size w5 w7 := by obtain ⟨k, rfl⟩ := hkk; exact below_drewN _ _
     have HRR7 := Lib.hid (HRR5.out.below hb7)
     have HG7 := Lib.hid (Go.Lib.grownBy_below HG5.out hb7)
     clear hkk hb7
     go_wp2_with fail
     refine (HD.out _).mono ?_
     rintro e w8 ⟨rfl, rfl⟩
     by_cases hbig : 9223372036854775808 ≤ V
     ·obtain ⟨N, hN⟩ := HZ2.out hbig
      have HFIN : Hid (numL (c :: l) = .error 6) := by unfold Hid; rw [HNUM.out, HSH.out, if_neg HNE.out, if_pos (by show 2147483647 >>> 10 < V; have : (2147483647 : Nat) >>> 10 ≤ 2147483647 := Nat.shiftRight_le _ _; omega)]
      subst hN
      clear HZ1 HZ2 HN
      go_wp2_with fail
      go_ret2
      exact NumPost.err HFIN.out HG7.out
     ·obtain ⟨hz, hy⟩ := HZ1.out (by omega)
      subst hz; subst hy
      have hVb : V < 9223372036854775808 := by omega
      by_cases hov : 2147483647 >>> 10 < V
      ·have HFIN : Hid (numL (c :: l) = .error 6) := by unfold Hid; rw [HNUM.out, HSH.out, if_neg HNE.out, if_pos hov]
       have hov' : 2097151 < V := hov
       clear HZ1 HZ2 HN hbig hov
       go_wp2_with fail
       go_ret2
       exact NumPost.err HFIN.out HG7.out
      ·have HFIN : Hid (numL (c :: l) = .ok (⟨3, [], ((V <<< 10 : Nat) : Int)⟩, t)) := by unfold Hid; rw [HNUM.out, HSH.out, if_neg HNE.out, if_neg hov]
       have hov' : V ≤ 2097151 := Nat.le_of_not_lt hov
       clear HZ1 HZ2 HN hbig hov
       go_wp2_with fail
       go_ret2
       exact NumPost.ok HFIN.out (by simp [Nat.shiftLeft_eq]) ⟨n + 1, HRE1.out, HRR7.out⟩ HG7.out
  ·have HSH : Hid (shiftL (107 :: t) = (10, t)) := rfl
   obtain ⟨hlt, -, hre1⟩ := HRE.out.cons
   have HRE1 := Lib.hid hre1
   have HNX := Lib.hid (fun (w' : World) (h' : Rdr w' b s (n + 1)) => next_any b (n + 1) s t w' hs HRE1.out h')
   have g1 : (((nextL (107 :: t)).toNat : Int) == 75) = false := rfl
   have g2 : (((nextL (107 :: t)).toNat : Int) == 107) = true := rfl
   have HRRX := Lib.hid HRR3.out.step
   have HGX := Lib.hid (Go.Lib.grownBy_setB HG3.out 1 (.int .i64 ((n : Int) + 1)))
   obtain ⟨c0, c1, f1, hbw⟩ := HRR3.out
   go_upto_region 13 with fail
   clear c0 c1 f1 hbw hre1 g1 g2
   obtain ⟨W4, hW4⟩ : ∃ W4, W4 = w3.setCell ⟨b, 1, none⟩ (.int .i64 ((n : Int) + 1)) := ⟨_, rfl⟩
   rw [← hW4] at HRRX HGX ⊢
   clear hW4
   cases hl : isLet (nextL t) with
   | true =>
    have HL := Lib.hid (fun w => hl ▸ letter_any (nextL t) w)
    have HFIN : Hid (numL (c :: l) = .error 3) := by unfold Hid; rw [HNUM.out, HSH.out, if_pos (by rw [hd_next, hl]; rfl)]
    clear hl
    go_wp2_with fail
    refine (HNX.out _ HRRX.out).mono ?_
    rintro e w5 ⟨rfl, hkk⟩
    have hb5 : Below W4.heap.size W4 w5 := by obtain ⟨k, rfl⟩ := hkk; exact below_drewN _ _
    have HG5 := Lib.hid (Go.Lib.grownBy_below HGX.out hb5)
    clear hkk hb5
    go_wp2_with fail
    refine (HL.out _).mono ?_
    rintro e w6 ⟨rfl, rfl⟩
    go_wp2_with fail
    go_ret2
    exact NumPost.err HFIN.out HG5.out
   | false =>
    have HL := Lib.hid (fun w => hl ▸ letter_any (nextL t) w)
    cases hd : isDig (nextL t) with
    | true =>
     have HD := Lib.hid (fun w => hd ▸ digit_any (nextL t) w)
     have HFIN : Hid (numL (c :: l) = .error 3) := by unfold Hid; rw [HNUM.out, HSH.out, if_pos (by rw [hd_next, hl, hd]; rfl)]
     clear hl hd
     go_wp2_with fail
     refine (HNX.out _ HRRX.out).mono ?_
     rintro e w5 ⟨rfl, hkk⟩
     have hb5 : Below W4.heap.size W4 w5 := by obtain ⟨k, rfl⟩ := hkk; exact below_drewN _ _
     have HRR5 := Lib.hid (HRRX.out.below hb5)
     have HG5 := Lib.hid (Go.Lib.grownBy_below HGX.out hb5)
     clear hkk hb5
     go_wp2_with fail
     refine (HL.out _).mono ?_
     rintro e w6 ⟨rfl, rfl⟩
     go_wp2_with fail
     refine (HNX.out _ HRR5.out).mono ?_
     rintro e w7 ⟨rfl, hkk⟩
     have hb7 : Below w5.heap.size w5 w7 := by obtain ⟨k, rfl⟩ := hkk; exact below_drewN _ _
     have HG7 := Lib.hid (Go.Lib.grownBy_below HG5.out hb7)
     clear hkk hb7
     go_wp2_with fail
     refine (HD.out _).mono ?_
     rintro e w8 ⟨rfl, rfl⟩
     go_wp2_with fail
     go_ret2
     exact NumPost.err HFIN.out HG7.out
    | false =>
     have HD := Lib.hid (fun w => hd ▸ digit_any (nextL t) w)
     have HNE : Hid (¬ hdOf isWd t = true) := by unfold Hid; rw [hd_next, hl, hd]; simp
     clear hl hd
     go_wp2_with fail
     refine (HNX.out _ HRRX.out).mono ?_
     rintro e w5 ⟨rfl, hkk⟩
     have hb5 : Below W4.heap.size W4 w5 := by obtain ⟨k, rfl⟩ := hkk; exact below_drewN _ _
     have HRR5 := Lib.hid (HRRX.out.below hb5)
     have HG5 := Lib.hid (Go.Lib.grownBy_below HGX.out hb5)
     clear hkk hb5
     go_wp2_with fail
     refine (HL.out _).mono ?_
     rintro e w6 ⟨rfl, rfl⟩
     go_wp2_with fail
     refine (HNX.out _ HRR5.out).mono ?_
     rintro e w7 ⟨rfl, hkk⟩
     have hb7 : Below w5.heap.size w5 w7 := by obtain ⟨k, rfl⟩ := hkk; exact below_drewN _ _
     have HRR7 := Lib.hid (HRR5.out.below hb7)
     have HG7 := Lib.hid (Go.Lib.grownBy_below HG5.out hb7)
     clear hkk hb7
     go_wp2_with fail
     refine (HD.out _).mono ?_
     rintro e w8 ⟨rfl, rfl⟩
     by_cases hbig : 9223372036854775808 ≤ V
     ·obtain ⟨N, hN⟩ := HZ2.out hbig
      have HFIN : Hid (numL (c :: l) = .error 6) := by unfold Hid; rw [HNUM.out, HSH.out, if_neg HNE.out, if_pos (by show 2147483647 >>> 10 < V; have : (2147483647 : Nat) >>> 10 ≤ 2147483647 := Nat.shiftRight_le _ _; omega)]
      subst hN
      clear HZ1 HZ2 HN
      go_wp2_with fail
      go_ret2
      exact NumPost.err HFIN.out HG7.out
     ·obtain ⟨hz, hy⟩ := HZ1.out (by omega)
      subst hz; subst hy
      have hVb : V < 9223372036854775808 := by omega
      by_cases hov : 2147483647 >>> 10 < V
      ·have HFIN : Hid (numL (c :: l) = .error 6) := by unfold Hid; rw [HNUM.out, HSH.out, if_neg HNE.out, if_pos hov]
       have hov' : 2097151 < V := hov
       clear HZ1 HZ2 HN hbig hov
       go_wp2_with fail
       go_ret2
       exact NumPost.err HFIN.out HG7.out
      ·have HFIN : Hid (numL (c :: l) = .ok (⟨3, [], ((V <<< 10 : Nat) : Int)⟩, t)) := by unfold Hid; rw [HNUM.out, HSH.out, if_neg HNE.out, if_neg hov]
       have hov' : V ≤ 2097151 := Nat.le_of_not_lt hov
       clear HZ1 HZ2 HN hbig hov
       go_wp2_with fail
       go_ret2
       exact NumPost.ok HFIN.out (by simp [Nat.shiftLeft_eq]) ⟨n + 1, HRE1.out, HRR7.out⟩ HG7.out
 ·by_cases hM : ∃ t, r = 77 :: t ∨ r = 109 :: t
  ·obtain ⟨t, rfl | rfl⟩ := hM
   ·have HSH : Hid (shiftL (77 :: t) = (20, t)) := rfl
    obtain ⟨hlt, -, hre1⟩ := HRE.out.cons
    have HRE1 := Lib.hid hre1
    have HNX := Lib.hid (fun (w' : World) (h' : Rdr w' b s (n + 1)) => next_any b (n + 1) s t w' hs HRE1.out h')
    have g1 : (((nextL (77 :: t)).toNat : Int) == 75) = false := rfl
    have g2 : (((nextL (77 :: t)).toNat : Int) == 107) = false := rfl
    have g3 : (((nextL (77 :: t)).toNat : Int) == 77) = true := rfl
    have HRRX := Lib.hid HRR3.out.step
    have HGX := Lib.hid (Go.Lib.grownBy_setB HG3.out 1 (.int .i64 ((n : Int) + 1)))
    obtain ⟨c0, c1, f1, hbw⟩ := HRR3.out
    go_upto_region 13 with fail
    clear c0 c1 f1 hbw hre1 g1 g2 g3
    obtain ⟨W4, hW4⟩ : ∃ W4, W4 = w3.setCell ⟨b, 1, none⟩ (.int .i64 ((n : Int) + 1)) := ⟨_, rfl⟩
    rw [← hW4] at HRRX HGX ⊢
    clear hW4
    cases hl : isLet (nextL t) with
    | true =>
     have HL := Lib.hid (fun w => hl ▸ letter_any (nextL t) w)
     have HFIN : Hid (numL (c :: l) = .error 3) := by unfold Hid; rw [HNUM.out, HSH.out, if_pos (by rw [hd_next, hl]; rfl)]
     clear hl
     go_wp2_with fail
     refine (HNX.out _ HRRX.out).mono ?_
     rintro e w5 ⟨rfl, hkk⟩
     have hb5 : Below W4.heap.size W4 w5 := by obtain ⟨k, rfl⟩ := hkk; exact below_drewN _ _
     have HG5 := Lib.hid (Go.Lib.grownBy_below HGX.out hb5)
     clear hkk hb5
     go_wp2_with fail
     refine (HL.out _).mono ?_
     rintro e w6 ⟨rfl, rfl⟩
     go_wp2_with fail
     go_ret2
     exact NumPost.err HFIN.out HG5.out
    | false =>
     have HL := Lib.hid (fun w => hl ▸ letter_any (nextL t) w)
     cases hd : isDig (nextL t) with
     | true =>
      have HD := Lib.hid (fun w => hd ▸ digit_any (nextL t) w)
      have HFIN : Hid (numL (c :: l) = .error 3) := by unfold Hid; rw [HNUM.out, HSH.out, if_pos (by rw [hd_next, hl, hd]; rfl)]
      clear hl hd
      go_wp2_with fail
      refine (HNX.out _ HRRX.out).mono ?_
      rintro e w5 ⟨rfl, hkk⟩
      have hb5 : Below W4.heap.size W4 w5 := by obtain ⟨k, rfl⟩ := hkk; exact below_drewN _ _
      have HRR5 := Lib.hid (HRRX.out.below hb5)
      have HG5 := Lib.hid (Go.Lib.grownBy_below HGX.out hb5)
      clear hkk hb5
      go_wp2_with fail
      refine (HL.out _).mono ?_
      rintro e w6 ⟨rfl, rfl⟩
      go_wp2_with fail
      refine (HNX.out _ HRR5.out).mono ?_
      rintro e w7 ⟨rfl, hkk⟩
      have hb7 : Below w5.heap.size w5 w7 := by obtain ⟨k, rfl⟩ := hkk; exact below_drewN _ _
      have HG7 := Lib.hid (Go.Lib.grownBy_below HG5.out hb7)
      clear hkk hb7
      go_wp2_with fail
      refine (HD.out _).mono ?_
      rintro e w8 ⟨rfl, rfl⟩
      go_wp2_with fail
      go_ret2
      exact NumPost.err HFIN.out HG7.out
     | false =>
      have HD := Lib.hid (fun w => hd ▸ digit_any (nextL t) w)
      have HNE : Hid (¬ hdOf isWd t = true) := by unfold Hid; rw [hd_next, hl, hd]; simp
      clear hl hd
      go_wp2_with fail
      refine (HNX.out _ HRRX.out).mono ?_
      rintro e w5 ⟨rfl, hkk⟩
      have hb5 : Below W4.heap.size W4 w5 := by obtain ⟨k, rfl⟩ := hkk; exact below_drewN _ _
      have HRR5 := Lib.hid (HRRX.out.below hb5)
      have HG5 := Lib.hid (Go.Lib.grownBy_below HGX.out hb5)
      clear hkk hb5
      go_wp2_with fail
      refine (HL.out _).mono ?_
      rintro e w6 ⟨rfl, rfl⟩
      go_wp2_with fail
      refine (HNX.out _ HRR5.out).mono ?_
      rintro e w7 ⟨rfl, hkk⟩
      have hb7 : Below w5.heap.size w5 w7 := by obtain ⟨k, rfl⟩ := hkk; exact below_drewN _ _
      have HRR7 := Lib.hid (HRR5.out.below hb7)
      have HG7 := Lib.hid (Go.Lib.grownBy_below HG5.out hb7)
      clear hkk hb7
      go_wp2_with fail
      refine (HD.out _).mono ?_
      rintro e w8 ⟨rfl, rfl⟩
      by_cases hbig : 9223372036854775808 ≤ V
      ·obtain ⟨N, hN⟩ := HZ2.out hbig
       have HFIN : Hid (numL (c :: l) = .error 6) := by unfold Hid; rw [HNUM.out, HSH.out, if_neg HNE.out, if_pos (by show 2147483647 >>> 20 < V; have : (2147483647 : Nat) >>> 20 ≤ 2147483647 := Nat.shiftRight_le _ _; omega)]
       subst hN
       clear HZ1 HZ2 HN
       go_wp2_with fail
       go_ret2
       exact NumPost.err HFIN.out HG7.out
      ·obtain ⟨hz, hy⟩ := HZ1.out (by omega)
       subst hz; subst hy
       have hVb : V < 9223372036854775808 := by omega
       by_cases hov : 2147483647 >>> 20 < V
       ·have HFIN : Hid (numL (c :: l) = .error 6) := by unfold Hid; rw [HNUM.out, HSH.out, if_neg HNE.out, if_pos hov]
        have hov' : 2047 < V := hov
        clear HZ1 HZ2 HN hbig hov
        go_wp2_with fail
        go_ret2
        exact NumPost.err HFIN.out HG7.out
       ·have HFIN : Hid (numL (c :: l) = .ok (⟨3, [], ((V <<< 20 : Nat) : Int)⟩, t)) := by unfold Hid; rw [HNUM.out, HSH.out, if_neg HNE.out, if_neg hov]
        have hov' : V ≤ 2047 := Nat.le_of_not_lt hov
        clear HZ1 HZ2 HN hbig hov
        go_wp2_with fail
        go_ret2
        exact NumPost.ok HFIN.out (by simp [Nat.shiftLeft_eq]) ⟨n + 1, HRE1.out, HRR7.out⟩ HG7.out
   ·have HSH : Hid (shiftL (109 :: t) = (20, t)) := rfl
    obtain ⟨hlt, -, hre1⟩ := HRE.out.cons
    have HRE1 := Lib.hid hre1
    have HNX := Lib.hid (fun (w' : World) (h' : Rdr w' b s (n + 1)) => next_any b (n + 1) s t w' hs HRE1.out h')
    have g1 : (((nextL (109 :: t)).toNat : Int) == 75) = false := rfl
    have g2 : (((nextL (109 :: t)).toNat : Int) == 107) = false := rfl
    have g3 : (((nextL (109 :: t)).toNat : Int) == 77) = false := rfl
    have g4 : (((nextL (109 :: t)).toNat : Int) == 109) = true := rfl
    have HRRX := Lib.hid HRR3.out.step
    have HGX := Lib.hid (Go.Lib.grownBy_setB HG3.out 1 (.int .i64 ((n : Int) + 1)))
    obtain ⟨c0, c1, f1, hbw⟩ := HRR3.out
    go_upto_region 13 with fail
    clear c0 c1 f1 hbw hre1 g1 g2 g3 g4
    obtain ⟨W4, hW4⟩ : ∃ W4, W4 = w3.setCell ⟨b, 1, none⟩ (.int .i64 ((n : Int) + 1)) := ⟨_, rfl⟩
    rw [← hW4] at HRRX HGX ⊢
    clear hW4
    cases hl : isLet (nextL t) with
    | true =>
     have HL := Lib.hid (fun w => hl ▸ letter_any (nextL t) w)
     have HFIN : Hid (numL (c :: l) = .error 3) := by unfold Hid; rw [HNUM.out, HSH.out, if_pos (by rw [hd_next, hl]; rfl)]
     clear hl
     go_wp2_with fail
     refine (HNX.out _ HRRX.out).mono ?_
     rintro e w5 ⟨rfl, hkk⟩
     have hb5 : Below W4.heap.size W4 w5 := by obtain ⟨k, rfl⟩ := hkk; exact below_drewN _ _
     have HG5 := Lib.hid (Go.Lib.grownBy_below HGX.out hb5)
     clear hkk hb5
     go_wp2_with fail
     refine (HL.out _).mono ?_
     rintro e w6 ⟨rfl, rfl⟩
     go_wp2_with fail
     go_ret2
     exact NumPost.err HFIN.out HG5.out
    | false =>
     have HL := Lib.hid (fun w => hl ▸ letter_any (nextL t) w)
     cases hd : isDig (nextL t) with
     | true =>
      have HD := Lib.hid (fun w => hd ▸ digit_any (nextL t) w)
      have HFIN : Hid (numL (c :: l) = .error 3) := by unfold Hid; rw [HNUM.out, HSH.out, if_pos (by rw [hd_next, hl, hd]; rfl)]
      clear hl hd
      go_wp2_with fail
      refine (HNX.out _ HRRX.out).mono ?_
      rintro e w5 ⟨rfl, hkk⟩
      have hb5 : Below W4.heap.size W4 w5 := by obtain ⟨k, rfl⟩ := hkk; exact below_drewN _ _
      have HRR5 := Lib.hid (HRRX.out.below hb5)
      have HG5 := Lib.hid (Go.Lib.grownBy_below HGX.out hb5)
      clear hkk hb5
      go_wp2_with fail
      refine (HL.out _).mono ?_
      rintro e w6 ⟨rfl, rfl⟩
      go_wp2_with fail
      refine (HNX.out _ HRR5.out).mono ?_
      rintro e w7 ⟨rfl, hkk⟩
      have hb7 : Below w5.heap.size w5 w7 := by obtain ⟨k, rfl⟩ := hkk; exact below_drewN _ _
      have HG7 := Lib.hid (Go.Lib.grownBy_below HG5.out hb7)
      clear hkk hb7
      go_wp2_with fail
      refine (HD.out _).mono ?_
      rintro e w8 ⟨rfl, rfl⟩
      go_wp2_with fail
      go_ret2
      exact NumPost.err HFIN.out HG7.out
     | false =>
      have HD := Lib.hid (fun w => hd ▸ digit_any (nextL t) w)
      have HNE : Hid (¬ hdOf isWd t = true) := by unfold Hid; rw [hd_next, hl, hd]; simp
      clear hl hd
      go_wp2_with fail
      refine (HNX.out _ HRRX.out).mono ?_
      rintro e w5 ⟨rfl, hkk⟩
      have hb5 : Below W4.heap.size W4 w5 := by obtain ⟨k, rfl⟩ := hkk; exact below_drewN _ _
      have HRR5 := Lib.hid (HRRX.out.below hb5)
      have HG5 := Lib.hid (Go.Lib.grownBy_below HGX.out hb5)
      clear hkk hb5
      go_wp2_with fail
      refine (HL.out _).mono ?_
      rintro e w6 ⟨rfl, rfl⟩
      go_wp2_with fail
      refine (HNX.out _ HRR5.out).mono ?_
      rintro e w7 ⟨rfl, hkk⟩
      have hb7 : Below w5.heap.size w5 w7 := by obtain ⟨k, rfl⟩ := hkk; exact below_drewN _ _
      have HRR7 := Lib.hid (HRR5.out.below hb7)
      have HG7 := Lib.hid (Go.Lib.grownBy_below HG5.out hb7)
      clear hkk hb7
      go_wp2_with fail
      refine (HD.out _).mono ?_
      rintro e w8 ⟨rfl, rfl⟩
      by_cases hbig : 9223372036854775808 ≤ V
      ·obtain ⟨N, hN⟩ := HZ2.out hbig
       have HFIN : Hid (numL (c :: l) = .error 6) := by unfold Hid; rw [HNUM.out, HSH.out, if_neg HNE.out, if_pos (by show 2147483647 >>> 20 < V; have : (2147483647 : Nat) >>> 20 ≤ 2147483647 := Nat.shiftRight_le _ _; omega)]
       subst hN
       clear HZ1 HZ2 HN
       go_wp2_with fail
       go_ret2
       exact NumPost.err HFIN.out HG7.out
      ·obtain ⟨hz, hy⟩ := HZ1.out (by omega)
       subst hz; subst hy
       have hVb : V < 9223372036854775808 := by omega
       by_cases hov : 2147483647 >>> 20 < V
       ·have HFIN : Hid (numL (c :: l) = .error 6) := by unfold Hid; rw [HNUM.out, HSH.out, if_neg HNE.out, if_pos hov]
        have hov' : 2047 < V := hov
        clear HZ1 HZ2 HN hbig hov
        go_wp2_with fail
        go_ret2
        exact NumPost.err HFIN.out HG7.out
       ·have HFIN : Hid (numL (c :: l) = .ok (⟨3, [], ((V <<< 20 : Nat) : Int)⟩, t)) := by unfold Hid; rw [HNUM.out, HSH.out, if_neg HNE.out, if_neg hov]
        have hov' : V ≤ 2047 := Nat.le_of_not_lt hov
        clear HZ1 HZ2 HN hbig hov
        go_wp2_with fail
        go_ret2
        exact NumPost.ok HFIN.out (by simp [Nat.shiftLeft_eq]) ⟨n + 1, HRE1.out, HRR7.out⟩ HG7.out
  ·have HSH : Hid (shiftL r = (0, r)) := by
    unfold Hid shiftL
    split
    ·rfl
    ·rename_i c t
     rw [if_neg (fun h => hK ⟨t, by rcases h with rfl | rfl; exact .inl rfl; exact .inr rfl⟩), if_neg (fun h => hM ⟨t, by rcases h with rfl | rfl; exact .inl rfl; exact .inr rfl⟩)]
   have g1 : (((nextL r).toNat : Int) == 75) = false := nx_ne r 75 (fun t e => hK ⟨t, .inl e⟩) (by decide)
   have g2 : (((nextL r).toNat : Int) == 107) = false := nx_ne r 107 (fun t e => hK ⟨t, .inr e⟩) (by decide)
   have g3 : (((nextL r).toNat : Int) == 77) = false := nx_ne r 77 (fun t e => hM ⟨t, .inl e⟩) (by decide)
   have g4 : (((nextL r).toNat : Int) == 109) = false := nx_ne r 109 (fun t e => hM ⟨t, .inr e⟩) (by decide)
   have HNX := Lib.hid (fun (w' : World) (h' : Rdr w' b s n) => next_any b n s r w' hs HRE.out h')
   have HRRX := HRR3; have HGX := HG3
   clear hK hM
   cases hl : isLet (nextL r) with
   | true =>
    have HL := Lib.hid (fun w => hl ▸ letter_any (nextL r) w)
    have HFIN : Hid (numL (c :: l) = .error 3) := by unfold Hid; rw [HNUM.out, HSH.out, if_pos (by rw [hd_next, hl]; rfl)]
    clear hl
    go_wp2_with fail
    refine (HNX.out _ HRRX.out).mono ?_
    rintro e w5 ⟨rfl, hkk⟩
    have hb5 : Below w3.heap.size w3 w5 := by obtain ⟨k, rfl⟩ := hkk; exact below_drewN _ _
    have HG5 := Lib.hid (Go.Lib.grownBy_below HGX.out hb5)
    clear hkk hb5
    go_wp2_with fail
    refine (HL.out _).mono ?_
    rintro e w6 ⟨rfl, rfl⟩
    go_wp2_with fail
    go_ret2
    exact NumPost.err HFIN.out HG5.out
   | false =>
    have HL := Lib.hid (fun w => hl ▸ letter_any (nextL r) w)
    cases hd : isDig (nextL r) with
    | true =>
     have HD := Lib.hid (fun w => hd ▸ digit_any (nextL r) w)
     have HFIN : Hid (numL (c :: l) = .error 3) := by unfold Hid; rw [HNUM.out, HSH.out, if_pos (by rw [hd_next, hl, hd]; rfl)]
     clear hl hd
     go_wp2_with fail
     refine (HNX.out _ HRRX.out).mono ?_
     rintro e w5 ⟨rfl, hkk⟩
     have hb5 : Below w3.heap.size w3 w5 := by obtain ⟨k, rfl⟩ := hkk; exact below_drewN _ _
     have HRR5 := Lib.hid (HRRX.out.below hb5)
     have HG5 := Lib.hid (Go.Lib.grownBy_below HGX.out hb5)
     clear hkk hb5
     go_wp2_with fail
     refine (HL.out _).mono ?_
     rintro e w6 ⟨rfl, rfl⟩
     go_wp2_with fail
     refine (HNX.out _ HRR5.out).mono ?_
     rintro e w7 ⟨rfl, hkk⟩
     have hb7 : Below w5.heap.size w5 w7 := by obtain ⟨k, rfl⟩ := hkk; exact below_drewN _ _
     have HG7 := Lib.hid (Go.Lib.grownBy_below HG5.out hb7)
     clear hkk hb7
     go_wp2_with fail
     refine (HD.out _).mono ?_
     rintro e w8 ⟨rfl, rfl⟩
     go_wp2_with fail
     go_ret2
     exact NumPost.err HFIN.out HG7.out
    | false =>
     have HD := Lib.hid (fun w => hd ▸ digit_any (nextL r) w)
     have HNE : Hid (¬ hdOf isWd r = true) := by unfold Hid; rw [hd_next, hl, hd]; simp
     clear hl hd
     go_wp2_with fail
     refine (HNX.out _ HRRX.out).mono ?_
     rintro e w5 ⟨rfl, hkk⟩
     have hb5 : Below w3.heap.size w3 w5 := by obtain ⟨k, rfl⟩ := hkk; exact below_drewN _ _
     have HRR5 := Lib.hid (HRRX.out.below hb5)
     have HG5 := Lib.hid (Go.Lib.grownBy_below HGX.out hb5)
     clear hkk hb5
     go_wp2_with fail
     refine (HL.out _).mono ?_
     rintro e w6 ⟨rfl, rfl⟩
     go_wp2_with fail
     refine (HNX.out _ HRR5.out).mono ?_
     rintro e w7 ⟨rfl, hkk⟩
     have hb7 : Below w5.heap.size w5 w7 := by obtain ⟨k, rfl⟩ := hkk; exact below_drewN _ _
     have HRR7 := Lib.hid (HRR5.out.below hb7)
     have HG7 := Lib.hid (Go.Lib.grownBy_below HG5.out hb7)
     clear hkk hb7
     go_wp2_with fail
     refine (HD.out _).mono ?_
     rintro e w8 ⟨rfl, rfl⟩
     by_cases hbig : 9223372036854775808 ≤ V
     ·obtain ⟨N, hN⟩ := HZ2.out hbig
      have HFIN : Hid (numL (c :: l) = .error 6) := by unfold Hid; rw [HNUM.out, HSH.out, if_neg HNE.out, if_pos (by show 2147483647 >>> 0 < V; have : (2147483647 : Nat) >>> 0 ≤ 2147483647 := Nat.shiftRight_le _ _; omega)]
      subst hN
      clear HZ1 HZ2 HN
      go_wp2_with fail
      go_ret2
      exact NumPost.err HFIN.out HG7.out
     ·obtain ⟨hz, hy⟩ := HZ1.out (by omega)
      subst hz; subst hy
      have hVb : V < 9223372036854775808 := by omega
      by_cases hov : 2147483647 >>> 0 < V
      ·have HFIN : Hid (numL (c :: l) = .error 6) := by unfold Hid; rw [HNUM.out, HSH.out, if_neg HNE.out, if_pos hov]
       have hov' : 2147483647 < V := hov
       clear HZ1 HZ2 HN hbig hov
       go_wp2_with fail
       go_ret2
       exact NumPost.err HFIN.out HG7.out
      ·have HFIN : Hid (numL (c :: l) = .ok (⟨3, [], ((V <<< 0 : Nat) : Int)⟩, r)) := by unfold Hid; rw [HNUM.out, HSH.out, if_neg HNE.out, if_neg hov]
       have hov' : V ≤ 2147483647 := Nat.le_of_not_lt hov
       clear HZ1 HZ2 HN hbig hov
       go_wp2_with fail
       go_ret2
       exact NumPost.ok HFIN.out (by simp [Nat.shiftLeft_eq]) ⟨n, HRE.out, HRR7.out⟩ HG7.out
def OnePost (b : Nat) (s : ByteArray) (l : List UInt8) (w : World) (e : Ending) (w' : World) : Prop :=
 (match oneL l with
  | .error z => e = .returned (.tuple #[.agg #[.int .i64 0, .string ⟨#[]⟩, .int .i64 0], .int .i64 z])
  | .ok p => e = .returned (.tuple #[.agg #[.int .i64 p.1.kind, .string ⟨p.1.text.toArray⟩, .int .i64 p.1.num], .int .i64 0]) ∧ RdrL w' b s p.2) ∧ w.grownBy w' (some b)
theorem has_tri {w : World} {b : Nat} {a0 a1 a2 : Value} (h : Has w b [a0, a1, a2]) : (w.cell? ⟨b, 0, none⟩ = some a0 ∧ w.cell? ⟨b, 1, none⟩ = some a1 ∧ w.cell? ⟨b, 2, none⟩ = some a2) ∧ (w.frozen? ⟨b, 0, none⟩ = false ∧ w.frozen? ⟨b, 1, none⟩ = false ∧ w.frozen? ⟨b, 2, none⟩ = false) :=
 ⟨⟨h.1 0 _ rfl, h.1 1 _ rfl, h.1 2 _ rfl⟩, ⟨h.2.1 0 (by simp), h.2.1 1 (by simp), h.2.1 2 (by simp)⟩⟩
theorem grown_else {w W : World} {b R : Nat} (hg : w.grownBy W (some b)) (hR : w.heap.size ≤ R) (i : Nat) (v : Value) : w.grownBy (W.setCell ⟨R, i, none⟩ v) (some b) := by
 have g := Go.Lib.grownBy_setB (World.grownBy.refl W (some R)) i v
 exact ⟨g.os.trans hg.os, g.tape.trans hg.tape, g.output.trans hg.output, Nat.le_trans hg.size g.size, fun k hk hn => (g.block k (Nat.lt_of_lt_of_le hk hg.size) (by intro e; have := Option.some.inj e; omega)).trans (hg.block k hk hn)⟩
theorem RdrL.else' {W : World} {b R : Nat} {s : ByteArray} {l : List UInt8} (h : RdrL W b s l) (hR : b ≠ R) (i : Nat) (v : Value) : RdrL (W.setCell ⟨R, i, none⟩ v) b s l := by
 obtain ⟨n, h1, h2, h3, h4, h5⟩ := h
 exact ⟨n, h1, (World.cell?_setCell_other _ _ _ _ (by intro e; exact hR (congrArg Addr.block e).symm)).trans h2, (World.cell?_setCell_other _ _ _ _ (by intro e; exact hR (congrArg Addr.block e).symm)).trans h3, (World.frozen?_setCell ..).trans h4, by simpa [World.setCell] using h5⟩
def w3 (W : World) (R : Nat) (x y z : Value) : World := ((W.setCell ⟨R, 0, none⟩ x).setCell ⟨R, 1, none⟩ y).setCell ⟨R, 2, none⟩ z
theorem w3_facts {w W : World} {b R : Nat} {s : ByteArray} {r : List UInt8} {a0 a1 a2 : Value} (h : Has W R [a0, a1, a2]) (hb : b < R) (hR : w.heap.size ≤ R) (hg : w.grownBy W (some b)) (x y z : Value) : Has (w3 W R x y z) R [x, y, z] ∧ (RdrL W b s r → RdrL (w3 W R x y z) b s r) ∧ w.grownBy (w3 W R x y z) (some b) :=
 ⟨((h.set' (i := 0) _ (by simp)).set' (i := 1) _ (by simp)).set' (i := 2) _ (by simp), fun hr => ((hr.else' (by omega) 0 _).else' (by omega) 1 _).else' (by omega) 2 _, grown_else (grown_else (grown_else hg hR 0 _) hR 1 _) hR 2 _⟩
theorem one_end {R b : Nat} {s : ByteArray} {l : List UInt8} {a : Act} {W w : World} {k n z : Int} {x : ByteArray} (ht : a.tmps.getD 2 undef = .pointer (some ⟨R, 0, none⟩)) (h3 : a.tmps.getD 3 undef = .int .i64 z) (hd : a.defers = []) (h : Has W R [.int .i64 k, .string x, .int .i64 n])
    (hp : OnePost b s l w (.returned (.tuple #[.agg #[.int .i64 k, .string x, .int .i64 n], .int .i64 z])) W) : bodyPost Tryz.prog Tryz.f72 (OnePost b s l w) .ret a W := by
 obtain ⟨⟨c0, c1, c2⟩, -⟩ := has_tri h
 refine bodyPost_ret (v := .tuple #[.agg #[.int .i64 k, .string x, .int .i64 n], .int .i64 z]) ?_ hd hp
 have ht' : a.tmps[2]?.getD undef = .pointer (some ⟨R, 0, none⟩) := by simpa using ht
 have h3' : a.tmps[3]?.getD undef = .int .i64 z := by simpa using h3
 simp [results, Tryz.results72, go_sem, ht', h3', c0, c1, c2]
theorem OnePost.err {b : Nat} {s : ByteArray} {l : List UInt8} {w w' : World} {z : Int} (h : oneL l = .error z) (g : w.grownBy w' (some b)) : OnePost b s l w (.returned (.tuple #[.agg #[.int .i64 0, .string ⟨#[]⟩, .int .i64 0], .int .i64 z])) w' := by
 unfold OnePost; rw [h]; exact ⟨rfl, g⟩
theorem OnePost.ok {b : Nat} {s : ByteArray} {l r x : List UInt8} {w w' : World} {k n : Int} (h : oneL l = .ok (⟨k, x, n⟩, r)) (hr : RdrL w' b s r) (g : w.grownBy w' (some b)) : OnePost b s l w (.returned (.tuple #[.agg #[.int .i64 k, .string ⟨x.toArray⟩, .int .i64 n], .int .i64 0])) w' := by
 unfold OnePost; rw [h]; exact ⟨⟨rfl, hr⟩, g⟩
theorem ib_marks (c : UInt8) : decide (0 ≤ Go.Lib.indexByte [123, 125, 40, 41, 91, 93, 59, 44] c) = decide (c ∈ marks) :=
 byte_all (fun c => decide (0 ≤ Go.Lib.indexByte [123, 125, 40, 41, 91, 93, 59, 44] c) = decide (c ∈ marks)) (by decide +kernel) c
theorem one_bad {b : UInt8} (t : List UInt8) (h1 : isLet b = false) (h2 : b ≠ 58) (h3 : isDig b = false) (h4 : b ≠ 34) (h5 : b ∉ marks) : oneL (b :: t) = .error 3 := by
 show (if isLet b = true then _ else if b = 58 then _ else if isDig b = true then numL (b :: t) else if b = 34 then _ else if b ∈ marks then _ else _) = _
 rw [if_neg (by rw [h1]; simp), if_neg h2, if_neg (by rw [h3]; simp), if_neg h4, if_neg h5]
theorem one_tag_bad (t : List UInt8) (h : hdOf isLet t = false) : oneL (58 :: t) = .error 3 := if_neg (by rw [h]; simp)
theorem hd_let (l : List UInt8) : hdOf isLet l = isLet (nextL l) := by
 cases l with
 | nil => decide
 | cons c t => rfl
theorem u8_ne {c k : UInt8} (h : c ≠ k) : ((c.toNat : Int) == (k.toNat : Int)) = false := beq_eq_false_iff_ne.2 (fun e => h (UInt8.toNat_inj.1 (Int.ofNat_inj.1 e)))
theorem num_err {l : List UInt8} {z : Int} (h : numL l = .error z) : z = 3 ∨ z = 6 := by
 unfold numL at h
 split at h
 ·injection h with h; exact .inl h.symm
 ·split at h
  ·injection h with h; exact .inr h.symm
  ·cases h
theorem num_form {l r x : List UInt8} {k v : Int} (h : numL l = .ok (⟨k, x, v⟩, r)) : k = 3 ∧ x = [] := by
 unfold numL at h
 split at h
 ·cases h
 ·split at h
  ·cases h
  ·injection h with h
   injection h with h h2
   injection h with a1 a2 a3
   exact ⟨a1.symm, a2.symm⟩
theorem byte_str (W : World) (c : UInt8) : (convert 68 9 (.slice (some ⟨W.heap.size, 0, none⟩) 1 1)).run Tryz.prog (W.alloc (.cells #[.int .u8 (c.toNat : Int)] 5)) = .ok (.string ⟨#[c]⟩) (W.alloc (.cells #[.int .u8 (c.toNat : Int)] 5)) := by
 have h : OwnB (W.alloc (.cells #[.int .u8 (c.toNat : Int)] 5)) W.heap.size 5 (.slice (some ⟨W.heap.size, 0, none⟩) 1 1) [c] :=
  World.ownsRow_lit W #[.int .u8 (c.toNat : Int)] 1 (Nat.le_refl _) (by decide) rfl
 exact run_str_own h Tryz.underlying68 Tryz.underlying5 Tryz.underlying9
theorem one_any (b : Nat) (s : ByteArray) (c : UInt8) (t : List UInt8) (te : TypeId) (pe : Value) (w : World) (hs : s.size ≤ 100000) (h : RdrL w b s (c :: t)) (hb0 : 10 < b) (hev : w.cell? ⟨10, 0, none⟩ = some (.iface te pe)) :
    Calls Tryz.prog 72 #[.pointer (some ⟨b, 0, none⟩)] w (OnePost b s (c :: t) w) := by
 have hbw := h.lt
 obtain ⟨R, hR⟩ : ∃ R, R = w.heap.size := ⟨_, rfl⟩
 have hA := ba (Below.refl w.heap.size w) (.cells #[.int .i64 0, .string ⟨#[]⟩, .int .i64 0] 147)
 have hH0 : Has (w.alloc (.cells #[.int .i64 0, .string ⟨#[]⟩, .int .i64 0] 147)) w.heap.size [.int .i64 0, .string ⟨#[]⟩, .int .i64 0] := Has.alloc w _ _
 rw [← hR] at hH0
 have hrd0 := h.below hA
 have hg0 : w.grownBy (w.alloc (.cells #[.int .i64 0, .string ⟨#[]⟩, .int .i64 0] 147)) (some b) := Go.Lib.grownBy_below (World.grownBy.refl _ _) hA
 have hev0 := moved hev hA (Nat.le_refl _)
 have hR1 : b < R := by omega
 have hR2 : w.heap.size ≤ R := by omega
 obtain ⟨W0, hW0⟩ : ∃ W0, W0 = w.alloc (.cells #[.int .i64 0, .string ⟨#[]⟩, .int .i64 0] 147) := ⟨_, rfl⟩
 rw [← hW0] at hH0 hrd0 hg0 hev0
 have HW0 := Lib.hid hW0.symm; have HR := Lib.hid hR.symm
 obtain ⟨n, hre, hrr⟩ := hrd0
 have HRE := Lib.hid hre
 have HN := Lib.hid (fun (w' : World) (h' : Rdr w' b s n) => next_any b n s (c :: t) w' hs hre h')
 have HRR := Lib.hid hrr; have HH0 := Lib.hid hH0; have HG0 := Lib.hid hg0; have HEV0 := Lib.hid hev0
 clear hW0 hA hH0 hg0 hev0 hev hre hrr h hR
 have HNX : Hid (nextL (c :: t) = c) := rfl
 go_enter Tryz.func72, Tryz.ntmps72
 go_wp2_with fail
 rw [HW0.out, HR.out]
 clear HW0 HR
 refine (HN.out _ HRR.out).mono ?_
 rw [HNX.out]
 rintro e w1 ⟨rfl, hkk⟩
 have hb1 : Below W0.heap.size W0 w1 := by obtain ⟨k, rfl⟩ := hkk; exact below_drewN _ _
 have HRR1 := Lib.hid (HRR.out.below hb1); have HH1 := Lib.hid (HH0.out.down hb1); have HG1 := Lib.hid (Go.Lib.grownBy_below HG0.out hb1); have HEV1 := Lib.hid (moved HEV0.out hb1 (Nat.le_refl _))
 have HRL1 : Hid (RdrL w1 b s (c :: t)) := ⟨n, HRE.out, HRR1.out⟩
 clear hkk hb1 HN HRR HH0 HG0 HEV0
 cases hl : isLet c with
 | true =>
  have HL := Lib.hid (fun w => hl ▸ letter_any c w)
  have HW := Lib.hid (word_at b s (c :: t) w1 hs HRL1.out)
  have HFIN := Lib.hid (one_word t hl)
  clear hl
  go_wp2_with fail
  refine (HL.out _).mono ?_
  rintro e w2 ⟨rfl, rfl⟩
  go_wp2_with fail
  refine HW.out.mono ?_
  rintro e w2 ⟨rfl, hrd2, hg2⟩
  have hh2 := HH1.out.kept hg2 (fun e => by have := Option.some.inj e; omega)
  have HG2 := Lib.hid (Go.Lib.grownBy_trans HG1.out hg2)
  have HRD2 := Lib.hid hrd2; have HH2 := Lib.hid hh2
  clear hg2 hrd2 HW HL
  obtain ⟨⟨c0, c1, c2⟩, ⟨f0, f1, f2⟩⟩ := has_tri hh2
  clear hh2
  go_wp2_with fail
  obtain ⟨z1, z2, z3⟩ := w3_facts (b := b) (s := s) (r := (c :: t).dropWhile isWd) HH2.out hR1 hR2 HG2.out (.int .i64 1) (.string ⟨((c :: t).takeWhile isWd).toArray⟩) (.int .i64 0)
  exact one_end rfl rfl rfl z1 (OnePost.ok HFIN.out (z2 HRD2.out) z3)
 | false =>
  have HL := Lib.hid (fun w => hl ▸ letter_any c w)
  by_cases h58 : c = 58
  ·have q58 : ((c.toNat : Int) == 58) = true := by rw [h58]; rfl
   obtain ⟨hlt, -, hre1⟩ := HRE.out.cons
   have HRE1 := Lib.hid hre1
   have hrr2 := HRR1.out.step
   have hg2 := Go.Lib.grownBy_setB HG1.out 1 (.int .i64 ((n : Int) + 1))
   have hh2 := HH1.out.else' (show R ≠ b by omega) (i := 1) (.int .i64 ((n : Int) + 1))
   obtain ⟨x0, x1, g1, hbw1⟩ := HRR1.out
   have HC := Lib.hid h58
   clear hl h58 hre1
   go_wp2_with fail
   refine (HL.out _).mono ?_
   rintro e w2 ⟨rfl, rfl⟩
   go_upto_region 6 with fail
   clear x0 x1 g1 hbw1 q58
   obtain ⟨W2, hW2⟩ : ∃ W2, W2 = w1.setCell ⟨b, 1, none⟩ (.int .i64 ((n : Int) + 1)) := ⟨_, rfl⟩
   rw [← hW2] at hrr2 hg2 hh2 ⊢
   have HRR2 := Lib.hid hrr2; have HG2 := Lib.hid hg2; have HH2 := Lib.hid hh2
   have HN2 := Lib.hid (next_any b (n + 1) s t W2 hs HRE1.out HRR2.out)
   clear hW2 hrr2 hg2 hh2 HL
   go_wp2_with fail
   refine HN2.out.mono ?_
   rintro e w3' ⟨rfl, hkk⟩
   have hb3 : Below W2.heap.size W2 w3' := by obtain ⟨k, rfl⟩ := hkk; exact below_drewN _ _
   have HRL3 : Hid (RdrL w3' b s t) := ⟨n + 1, HRE1.out, HRR2.out.below hb3⟩
   have HH3 := Lib.hid (HH2.out.down hb3); have HG3 := Lib.hid (Go.Lib.grownBy_below HG2.out hb3)
   clear hkk hb3 HN2 HRR2 HG2 HH2
   cases hl2 : isLet (nextL t) with
   | true =>
    have HL2 := Lib.hid (fun w => hl2 ▸ letter_any (nextL t) w)
    have HW := Lib.hid (word_at b s t w3' hs HRL3.out)
    have HFIN : Hid (oneL (c :: t) = .ok (⟨2, t.takeWhile isWd, 0⟩, t.dropWhile isWd)) := by unfold Hid; rw [HC.out]; exact one_tag t (by rw [hd_let, hl2])
    clear hl2
    go_wp2_with fail
    refine (HL2.out _).mono ?_
    rintro e w4 ⟨rfl, rfl⟩
    go_wp2_with fail
    refine HW.out.mono ?_
    rintro e w4 ⟨rfl, hrd4, hg4⟩
    have HH4 := Lib.hid (HH3.out.kept hg4 (fun e => by have := Option.some.inj e; omega))
    have HG4 := Lib.hid (Go.Lib.grownBy_trans HG3.out hg4)
    have HRD4 := Lib.hid hrd4
    clear hg4 hrd4 HW HL2
    obtain ⟨⟨c0, c1, c2⟩, ⟨f0, f1, f2⟩⟩ := has_tri HH4.out
    go_wp2_with fail
    obtain ⟨z1, z2, z3⟩ := w3_facts (b := b) (s := s) (r := t.dropWhile isWd) HH4.out hR1 hR2 HG4.out (.int .i64 2) (.string ⟨(t.takeWhile isWd).toArray⟩) (.int .i64 0)
    exact one_end rfl rfl rfl z1 (OnePost.ok HFIN.out (z2 HRD4.out) z3)
   | false =>
    have HL2 := Lib.hid (fun w => hl2 ▸ letter_any (nextL t) w)
    have HFIN : Hid (oneL (c :: t) = .error 3) := by unfold Hid; rw [HC.out]; exact one_tag_bad t (by rw [hd_let, hl2])
    clear hl2
    obtain ⟨⟨c0, c1, c2⟩, ⟨f0, f1, f2⟩⟩ := has_tri HH3.out
    go_wp2_with fail
    refine (HL2.out _).mono ?_
    rintro e w4 ⟨rfl, rfl⟩
    go_wp2_with fail
    obtain ⟨z1, z2, z3⟩ := w3_facts (b := b) (s := s) (r := []) HH3.out hR1 hR2 HG3.out (.int .i64 0) (.string ⟨#[]⟩) (.int .i64 0)
    exact one_end rfl rfl rfl z1 (OnePost.err HFIN.out z3)
  ·have q58 : ((c.toNat : Int) == 58) = false := u8_ne h58
   cases hd : isDig c with
   | true =>
    have HD := Lib.hid (fun w => hd ▸ digit_any c w)
    have HNU := Lib.hid (number_any b s c t te pe w1 hs HRL1.out hd hb0 HEV1.out)
    have HONE := Lib.hid (one_num t hd)
    clear hl hd
    go_wp2_with fail
    refine (HL.out _).mono ?_
    rintro e w2 ⟨rfl, rfl⟩
    go_wp2_with fail
    refine (HD.out _).mono ?_
    rintro e w2 ⟨rfl, rfl⟩
    go_wp2_with fail
    refine HNU.out.mono ?_
    intro e w3' hp
    unfold NumPost at hp
    obtain ⟨hp, hg3⟩ := hp
    have HH3 := Lib.hid (HH1.out.kept hg3 (fun e => by have := Option.some.inj e; omega))
    have HG3 := Lib.hid (Go.Lib.grownBy_trans HG1.out hg3)
    clear hg3 HNU
    cases hn : numL (c :: t) with
    | error z =>
     rw [hn] at hp
     obtain rfl := hp
     have hz : z = 3 ∨ z = 6 := num_err hn
     have HFIN : Hid (oneL (c :: t) = .error z) := by unfold Hid; rw [HONE.out, hn]
     clear hn HONE
     obtain ⟨⟨c0, c1, c2⟩, ⟨f0, f1, f2⟩⟩ := has_tri HH3.out
     rcases hz with rfl | rfl
     all_goals
      go_wp2_with fail
      obtain ⟨z1, z2, z3⟩ := w3_facts (b := b) (s := s) (r := []) HH3.out hR1 hR2 HG3.out (.int .i64 0) (.string ⟨#[]⟩) (.int .i64 0)
      exact one_end rfl rfl rfl z1 (OnePost.err HFIN.out z3)
    | ok p =>
     rw [hn] at hp
     obtain ⟨rfl, hrd3⟩ := hp
     obtain ⟨⟨k, x, v⟩, r⟩ := p
     obtain ⟨rfl, rfl⟩ := num_form hn
     have HFIN : Hid (oneL (c :: t) = .ok (⟨3, [], v⟩, r)) := by unfold Hid; rw [HONE.out, hn]
     have HRD3 : Hid (RdrL w3' b s r) := hrd3
     clear hn HONE hrd3
     obtain ⟨⟨c0, c1, c2⟩, ⟨f0, f1, f2⟩⟩ := has_tri HH3.out
     go_wp2_with fail
     obtain ⟨z1, z2, z3⟩ := w3_facts (b := b) (s := s) (r := r) HH3.out hR1 hR2 HG3.out (.int .i64 3) (.string ⟨#[]⟩) (.int .i64 v)
     exact one_end rfl rfl rfl z1 (OnePost.ok HFIN.out (z2 HRD3.out) z3)
   | false =>
    have HD := Lib.hid (fun w => hd ▸ digit_any c w)
    by_cases h34 : c = 34
    ·have q34 : ((c.toNat : Int) == 34) = true := by rw [h34]; rfl
     have HT := Lib.hid (text_any b s c t w1 hs HRL1.out)
     have HC := Lib.hid h34
     clear hl hd h34
     go_wp2_with fail
     refine (HL.out _).mono ?_
     rintro e w2 ⟨rfl, rfl⟩
     go_wp2_with fail
     refine (HD.out _).mono ?_
     rintro e w2 ⟨rfl, rfl⟩
     go_wp2_with fail
     refine HT.out.mono ?_
     intro e w3' hp
     unfold TextPost at hp
     obtain ⟨hp, hg3⟩ := hp
     have HH3 := Lib.hid (HH1.out.kept hg3 (fun e => by have := Option.some.inj e; omega))
     have HG3 := Lib.hid (Go.Lib.grownBy_trans HG1.out hg3)
     clear hg3 HT
     cases hn : textL t with
     | none =>
      rw [hn] at hp
      obtain rfl := hp
      have HFIN : Hid (oneL (c :: t) = .error 4) := by unfold Hid; rw [HC.out]; exact one_open hn
      clear hn
      obtain ⟨⟨c0, c1, c2⟩, ⟨f0, f1, f2⟩⟩ := has_tri HH3.out
      go_wp2_with fail
      obtain ⟨z1, z2, z3⟩ := w3_facts (b := b) (s := s) (r := []) HH3.out hR1 hR2 HG3.out (.int .i64 0) (.string ⟨#[]⟩) (.int .i64 0)
      exact one_end rfl rfl rfl z1 (OnePost.err HFIN.out z3)
     | some p =>
      rw [hn] at hp
      obtain ⟨rfl, hrd3⟩ := hp
      obtain ⟨x, r⟩ := p
      have HFIN : Hid (oneL (c :: t) = .ok (⟨4, x, 0⟩, r)) := by unfold Hid; rw [HC.out]; exact one_str hn
      have HRD3 : Hid (RdrL w3' b s r) := hrd3
      clear hn hrd3
      obtain ⟨⟨c0, c1, c2⟩, ⟨f0, f1, f2⟩⟩ := has_tri HH3.out
      go_wp2_with fail
      obtain ⟨z1, z2, z3⟩ := w3_facts (b := b) (s := s) (r := r) HH3.out hR1 hR2 HG3.out (.int .i64 4) (.string ⟨x.toArray⟩) (.int .i64 0)
      exact one_end rfl rfl rfl z1 (OnePost.ok HFIN.out (z2 HRD3.out) z3)
    ·have q34 : ((c.toNat : Int) == 34) = false := u8_ne h34
     have HIB : Hid (∀ w, Calls Tryz.prog 94 #[.string ⟨#[123, 125, 40, 41, 91, 93, 59, 44]⟩, .int .u8 (c.toNat : Int)] w fun e w' => e = .returned (.int .i64 (Go.Lib.indexByte [123, 125, 40, 41, 91, 93, 59, 44] c)) ∧ w = w') := by
      intro w
      have hx := Tryz.strings_IndexByte ⟨#[123, 125, 40, 41, 91, 93, 59, 44]⟩ (c.toNat : Int) w
      have e1 : ((c.toNat : Int).toNat.toUInt8) = c := by rw [Int.toNat_natCast]; exact UInt8.ofNat_toNat
      rw [e1] at hx
      exact hx.mono fun _ _ ⟨x, y⟩ => ⟨x, y.symm⟩
     have him := ib_marks c
     obtain ⟨ib, hib⟩ : ∃ ib, ib = Go.Lib.indexByte [123, 125, 40, 41, 91, 93, 59, 44] c := ⟨_, rfl⟩
     rw [← hib] at HIB him
     clear hib
     by_cases hm : c ∈ marks
     ·rw [decide_eq_true hm] at him
      have HFIN : Hid (oneL (c :: t) = .ok (⟨5, [c], 0⟩, t)) := one_mark t hm
      obtain ⟨hlt, -, hre1⟩ := HRE.out.cons
      have HRE1 := Lib.hid hre1
      have hrr2 := HRR1.out.step
      have hg2 := Go.Lib.grownBy_setB HG1.out 1 (.int .i64 ((n : Int) + 1))
      have hh2 := HH1.out.else' (show R ≠ b by omega) (i := 1) (.int .i64 ((n : Int) + 1))
      obtain ⟨x0, x1, g1, hbw1⟩ := HRR1.out
      clear hl hd h34 h58 hm hre1
      go_wp2_with fail
      refine (HL.out _).mono ?_
      rintro e w2 ⟨rfl, rfl⟩
      go_wp2_with fail
      refine (HD.out _).mono ?_
      rintro e w2 ⟨rfl, rfl⟩
      go_wp2_with fail
      refine (HIB.out _).mono ?_
      rintro e w2 ⟨rfl, rfl⟩
      go_upto_region 21 with fail
      clear x0 x1 g1 hbw1
      obtain ⟨W2, hW2⟩ : ∃ W2, W2 = w1.setCell ⟨b, 1, none⟩ (.int .i64 ((n : Int) + 1)) := ⟨_, rfl⟩
      rw [← hW2] at hrr2 hg2 hh2 ⊢
      have hA3 := ba (Below.refl W2.heap.size W2) (.cells #[.int .u8 (c.toNat : Int)] 5)
      have hcv := byte_str W2 c
      have HRL3 : Hid (RdrL (W2.alloc (.cells #[.int .u8 (c.toNat : Int)] 5)) b s t) := ⟨n + 1, HRE1.out, hrr2.below hA3⟩
      have HH3 := Lib.hid (hh2.down hA3); have HG3 := Lib.hid (Go.Lib.grownBy_below hg2 hA3)
      clear hW2 hrr2 hg2 hh2 hA3
      obtain ⟨⟨c0, c1, c2⟩, ⟨f0, f1, f2⟩⟩ := has_tri HH3.out
      go_wp2_with fail
      obtain ⟨z1, z2, z3⟩ := w3_facts (b := b) (s := s) (r := t) HH3.out hR1 hR2 HG3.out (.int .i64 5) (.string ⟨#[c]⟩) (.int .i64 0)
      exact one_end rfl rfl rfl z1 (OnePost.ok HFIN.out (z2 HRL3.out) z3)
     ·rw [decide_eq_false hm] at him
      have HFIN : Hid (oneL (c :: t) = .error 3) := one_bad t hl h58 hd h34 hm
      clear hl hd h34 h58 hm
      obtain ⟨⟨c0, c1, c2⟩, ⟨f0, f1, f2⟩⟩ := has_tri HH1.out
      go_wp2_with fail
      refine (HL.out _).mono ?_
      rintro e w2 ⟨rfl, rfl⟩
      go_wp2_with fail
      refine (HD.out _).mono ?_
      rintro e w2 ⟨rfl, rfl⟩
      go_wp2_with fail
      refine (HIB.out _).mono ?_
      rintro e w2 ⟨rfl, rfl⟩
      go_wp2_with fail
      obtain ⟨z1, z2, z3⟩ := w3_facts (b := b) (s := s) (r := []) HH1.out hR1 hR2 HG1.out (.int .i64 0) (.string ⟨#[]⟩) (.int .i64 0)
      exact one_end rfl rfl rfl z1 (OnePost.err HFIN.out z3)
theorem infoTok : (Tryz.prog.info? 147).map (fun i => (i.zero, i.size, i.bytes)) = some (some (.agg #[.int .i64 0, .string ⟨#[]⟩, .int .i64 0]), 3, 32) := by kernel_rfl
def tokC (t : Tok) : List Value := [.int .i64 t.kind, .string ⟨t.text.toArray⟩, .int .i64 t.num]
def cTok : Cod Tok := Cod.flat 3 tokC (fun _ => rfl)
def CutPost (r : List Tok × Nat × Int) (w : World) (e : Ending) (w' : World) : Prop :=
 (∃ v, e = .returned (.tuple #[v, .int .i64 r.2.1, .int .i64 r.2.2]) ∧ SAt cTok w' (fun b => w.heap.size ≤ b) v r.1) ∧ Below w.heap.size w w'
theorem CutPost.none' {k : Nat} {z : Int} {r : List Tok × Nat × Int} {w w' : World} (h : r = ([], k, z)) (hb : Below w.heap.size w w') : CutPost r w (.returned (.tuple #[.slice none 0 0, .int .i64 k, .int .i64 z])) w' := by
 subst h; exact ⟨⟨_, rfl, SAt.nil _ _ _⟩, hb⟩
theorem one_err {l : List UInt8} {z : Int} (h : oneL l = .error z) : z = 3 ∨ z = 4 ∨ z = 6 := by
 unfold oneL at h
 split at h
 ·injection h with h; exact .inl h.symm
 ·split at h
  ·cases h
  ·split at h
   ·split at h
    ·cases h
    ·injection h with h; exact .inl h.symm
   ·split at h
    ·rcases num_err h with h | h
     ·exact .inl h
     ·exact .inr (.inr h)
    ·split at h
     ·split at h
      ·injection h with h; exact .inr (.inl h.symm)
      ·cases h
     ·split at h
      ·cases h
      ·injection h with h; exact .inl h.symm
theorem bgr {B : Nat} {w wr w1 : World} {b : Nat} (hb : Below B w wr) (g : wr.grownBy w1 (some b)) (hB : B ≤ wr.heap.size) (hR : B ≤ b) : Below B w w1 :=
 ⟨g.os.trans hb.os, g.tape.trans hb.tape, g.output.trans hb.output, Nat.le_trans hb.size g.size, fun k hk => (g.block k (Nat.lt_of_lt_of_le hk hB) (by intro e; have := Option.some.inj e; omega)).trans (hb.block k hk)⟩
theorem news_tok (w : World) (o : Obj) (a0 a1 a2 : Value) (t : TypeId) : ∀ j u, ([a0, a1, a2] : List Value)[j]? = some u → ((w.alloc o).alloc (.cells #[a0, a1, a2] t)).cell? (Addr.add ⟨w.heap.size + 1, 0, none⟩ j) = some u := by
 intro j u h
 rw [show Addr.add ⟨w.heap.size + 1, 0, none⟩ j = ⟨w.heap.size + 1, j, none⟩ from by rw [Addr.add_lit, Nat.zero_add]]
 have := (Has.alloc (w.alloc o) [a0, a1, a2] t).1 j u h
 rwa [World.size_alloc] at this
theorem rdr_grown {w w' : World} {b : Nat} {s : ByteArray} {l : List UInt8} {o : Option Nat} (h : RdrL w b s l) (g : w.grownBy w' o) (hb : o = none ∨ o ≠ some b) : RdrL w' b s l := by
 obtain ⟨n, h1, h2, h3, h4, h5⟩ := h
 have hk := g.block b h5 (by rcases hb with rfl | hb; (exact fun e => nomatch e); (exact fun e => hb e.symm))
 exact ⟨n, h1, (World.cell?_of_block (w := w) (a := ⟨b, 0, none⟩) hk).trans h2, (World.cell?_of_block (w := w) (a := ⟨b, 1, none⟩) hk).trans h3, (World.frozen?_of_block (w := w) (a := ⟨b, 1, none⟩) hk).trans h4, Nat.lt_of_lt_of_le h5 g.size⟩
theorem toks_snoc (acc : List Tok) (t : Tok) : (acc ++ [t]).flatMap tokC = acc.flatMap tokC ++ tokC t := by simp
theorem toks_len : ∀ acc : List Tok, (acc.flatMap tokC).length = acc.length * 3
 | [] => rfl
 | t :: l => by have := toks_len l; simp only [List.flatMap_cons, List.length_append, this, tokC, List.length_cons, List.length_nil]; omega
theorem RdrL.at {w : World} {b : Nat} {s : ByteArray} {l : List UInt8} (h : RdrL w b s l) : Rdr w b s (s.size - l.length) ∧ l.length ≤ s.size := by
 obtain ⟨n, h1, h2⟩ := h
 have := h1.1
 rw [show s.size - l.length = n by omega]
 exact ⟨h2, by omega⟩
theorem cut_any (s : ByteArray) (m : Int) (te : TypeId) (pe : Value) (w : World) (hs : s.size ≤ 100000) (hm : w.cell? ⟨2, 0, none⟩ = some (.int .i64 m)) (hev : w.cell? ⟨10, 0, none⟩ = some (.iface te pe)) :
    Calls Tryz.prog 44 #[.string s] w (CutPost (cutL s.data.toList) w) := by
 have hsl : s.data.toList.length = s.size := by simp
 by_cases hbig : 2000 < s.size
 ·have HFIN : Hid (cutL s.data.toList = ([], 0, 1)) := by unfold Hid cutL; rw [if_pos (by omega)]
  clear hsl
  go_enter Tryz.func44, Tryz.ntmps44
  go_wp2_with fail
  go_ret3
  exact CutPost.none' (k := 0) HFIN.out (Below.refl _ _)
 ·have hs2 : s.size ≤ 2000 := by omega
  have h0 : cutL s.data.toList = cutEnd s.data.toList [] (cutR ([] : List Tok).length s.data.toList) := cutL_eq (by omega)
  obtain ⟨B, hB⟩ : ∃ B, B = w.heap.size := ⟨_, rfl⟩
  have hA := ba (Below.refl w.heap.size w) (.cells #[.string s, .int .i64 0] 144)
  have hpb : Has (w.alloc (.cells #[.string s, .int .i64 0] 144)) w.heap.size [.string s, .int .i64 0] := Has.alloc w _ _
  rw [← hB] at hpb
  have hmb : 2 < B := by rw [hB]; exact World.block_lt_of_cell? _ _ hm
  have heb : 10 < B := by rw [hB]; exact World.block_lt_of_cell? _ _ hev
  have hrd0 : RdrL (w.alloc (.cells #[.string s, .int .i64 0] 144)) B s s.data.toList := ⟨0, Rest.start s, hpb.two.1, hpb.two.2.1, hpb.two.2.2.2, hpb.2.2⟩
  have HM := Lib.hid hm; have HE := Lib.hid hev
  obtain ⟨W0, hW0⟩ : ∃ W0, W0 = w.alloc (.cells #[.string s, .int .i64 0] 144) := ⟨_, rfl⟩
  have hW0s : W0.heap.size = B + 1 := by rw [hW0, hB]; simp
  rw [← hW0] at hA hrd0
  have HA := Lib.hid hA; have HR0 := Lib.hid hrd0; have HB := Lib.hid hB.symm; have HW0 := Lib.hid hW0.symm; have H0 := Lib.hid h0; have HSL := Lib.hid hsl
  have hwB : w.heap.size ≤ B := by omega
  have hW0b : B + 1 ≤ W0.heap.size := by omega
  obtain ⟨i0, hi, hz0, hz1, hz2⟩ := info_parts infoTok
  have HI := Lib.hid hi; have HZ0 := Lib.hid hz0; have HZ1 := Lib.hid hz1; have HZ2 := Lib.hid hz2
  clear hi hz0 hz1 hz2 hA hpb hrd0 hm hev hW0 h0 hsl hB hbig hW0s
  go_enter Tryz.func44, Tryz.ntmps44
  go_wp2_with fail
  rw [HW0.out, HB.out]
  go_loopw [5] (fun v wr => ∃ (acc : List Tok) (rest : List UInt8), RdrL wr B s rest ∧ wr.ownsRow (B + 1) 147 3 v acc.length (acc.flatMap tokC) ∧ Hid (cutL s.data.toList = cutEnd s.data.toList acc (cutR acc.length rest)) ∧ acc.length ≤ 400 ∧ Below w.heap.size w wr ∧ B + 1 ≤ wr.heap.size) (fun _ wr => s.size - posAt wr B)
  case atStart => exact ⟨[], s.data.toList, HR0.out, World.ownsRow_nil _ _ _ _, H0.out, Nat.zero_le _, HA.out, hW0b⟩
  case round =>
   obtain ⟨acc, rest, hrd, hown, heq, hal, hbel, hsz⟩ := hrel
   have hmeas := Lib.hid hrd.len
   have hmr := moved HM.out hbel (Nat.le_refl _); have hevr := moved HE.out hbel (Nat.le_refl _)
   have HS := Lib.hid (skip_any B s rest m wr hs hrd hmb hmr)
   have HOWN := Lib.hid hown; have HBEL := Lib.hid hbel; have HEV := Lib.hid hevr
   have hwsz : w.heap.size ≤ wr.heap.size := hbel.size
   clear hrd hown hbel hmr hevr
   go_wp2_with fail
   refine HS.out.mono ?_
   rintro e w1 ⟨rfl, hrd1, hg1⟩
   have HOWN1 := Lib.hid (World.ownsRow.kept HOWN.out hg1 (row_ne HOWN.out (by omega)))
   have HBEL1 := Lib.hid (bgr HBEL.out hg1 hwsz hwB)
   have HEV1 := Lib.hid (cell_else' hg1 HEV.out heb)
   have hsz1 : B + 1 ≤ w1.heap.size := Nat.le_trans hsz hg1.size
   have HRD1 := Lib.hid hrd1
   obtain ⟨hat1, hle1⟩ := hrd1.at
   have HAT1 := Lib.hid hat1
   have hsk := skipL_le rest
   clear hg1 hrd1 hat1 HS HOWN HBEL HEV
   obtain ⟨r, hr⟩ : ∃ r, r = (skipL rest).2 := ⟨_, rfl⟩
   rw [← hr] at HRD1 HAT1 hle1 hsk
   obtain ⟨n, hn⟩ : ∃ n, n = s.size - r.length := ⟨_, rfl⟩
   rw [← hn] at HAT1
   have hnb : n + r.length = s.size := by omega
   have HN := Lib.hid hn; have HRR := Lib.hid hr
   obtain ⟨c0, c1, f1, hbw⟩ := HAT1.out
   clear hn hr
   cases hk : (skipL rest).1 with
   | false =>
    have HFIN : Hid (cutL s.data.toList = ([], n, 4)) := by
     unfold Hid
     rw [heq.out, cutR_torn hk, cutEnd_err, HSL.out, HN.out, HRR.out]
    clear hk heq
    go_wp2_with fail
    go_quiet (fail)
    go_wp2_with fail
    go_ret3
    exact CutPost.none' HFIN.out (bt HBEL1.out (below_drewN _ _))
   | true =>
    by_cases hnil : r = []
    ·have HFIN : Hid (cutL s.data.toList = (acc, 0, 0)) := by
      unfold Hid
      rw [heq.out, cutR_end hk (by rw [← HRR.out]; exact hnil), cutEnd_ok, List.append_nil]
     have q : ((n : Int) == (s.size : Int)) = true := by
      have : r.length = 0 := by rw [hnil]; rfl
      exact beq_iff_eq.2 (by omega)
     clear hk heq hnil
     go_wp2_with fail
     go_ret3
     unfold CutPost
     rw [HFIN.out]
     exact ⟨⟨_, rfl, SAt.of_row (f := tokC) (hf := fun _ => rfl) HOWN1.out (fun b hb => by show w.heap.size ≤ b; omega)⟩, HBEL1.out⟩
    ·have hrl : 0 < r.length := List.length_pos_iff.2 hnil
     have q : ((n : Int) == (s.size : Int)) = false := beq_eq_false_iff_ne.2 (by omega)
     by_cases h400 : acc.length = 400
     ·have HFIN : Hid (cutL s.data.toList = ([], n, 5)) := by
       unfold Hid
       rw [heq.out, h400, cutR_full hk (by rw [← HRR.out]; exact hnil), cutEnd_err, HSL.out, HN.out, HRR.out]
      have HL : Hid (acc.length = 400) := h400
      obtain ⟨Gv, cv, hv⟩ : ∃ Gv cv, u5 = .slice Gv acc.length cv := by
       obtain ⟨g, cap, e, -⟩ := World.ownsRow.form HOWN1.out (by omega)
       exact ⟨_, _, e⟩
      subst hv
      have q4 : ((acc.length : Int) == 400) = true := beq_iff_eq.2 (by omega)
      clear hk heq hnil h400
      go_wp2_with fail
      go_ret3
      exact CutPost.none' HFIN.out HBEL1.out
     ·obtain ⟨Gv, cv, hv⟩ : ∃ Gv cv, u5 = .slice Gv acc.length cv := by
       rcases HOWN1.out.2 with ⟨h1, h2⟩ | ⟨g, cap, _, h1, _⟩
       ·exact ⟨none, 0, by rw [h1, h2]⟩
       ·exact ⟨_, _, h1⟩
      subst hv
      have q4 : ((acc.length : Int) == 400) = false := beq_eq_false_iff_ne.2 (by omega)
      have hal4 : acc.length < 400 := by omega
      have HNE : Hid ((skipL rest).2 ≠ []) := by unfold Hid; rw [← HRR.out]; exact hnil
      have HK := Lib.hid hk
      cases r with
      | nil => exact absurd rfl hnil
      | cons c t =>
       have HON := Lib.hid (one_any B s c t te pe w1 hs HRD1.out heb HEV1.out)
       clear hk hnil
       go_wp2_with fail
       refine HON.out.mono ?_
       intro e w5 hp
       unfold OnePost at hp
       obtain ⟨hp, hg5⟩ := hp
       have HBEL5 := Lib.hid (bgr HBEL1.out hg5 HBEL1.out.size hwB)
       have HOWN5 := Lib.hid (World.ownsRow.kept HOWN1.out hg5 (row_ne HOWN1.out (by omega)))
       have hsz5 : B + 1 ≤ w5.heap.size := Nat.le_trans hsz1 hg5.size
       clear hg5 HON c0 c1 f1 hbw
       cases ho : oneL (c :: t) with
       | error z =>
        rw [ho] at hp
        obtain rfl := hp
        have hz := one_err ho
        have HFIN : Hid (cutL s.data.toList = ([], n, z)) := by
         unfold Hid
         rw [heq.out, cutR_bad HK.out HNE.out (by omega) (by rw [← HRR.out]; exact ho), cutEnd_err, HSL.out, HN.out, HRR.out]
        clear ho heq
        rcases hz with rfl | rfl | rfl
        all_goals
         go_wp2_with fail
         go_ret3
         exact CutPost.none' HFIN.out (ba HBEL5.out _)
       | ok p =>
        rw [ho] at hp
        obtain ⟨rfl, hrd5⟩ := hp
        obtain ⟨⟨k, x, v⟩, r'⟩ := p
        have HRD5 : Hid (RdrL w5 B s r') := hrd5
        have hlt5 := oneL_lt ho
        have HEQ : Hid (cutL s.data.toList = cutEnd s.data.toList (acc ++ [⟨k, x, v⟩]) (cutR (acc.length + 1) r')) := by
         unfold Hid
         rw [heq.out, cutR_one HK.out HNE.out (by omega) (by rw [← HRR.out]; exact ho), cutEnd_map]
        have HLT : Hid (r'.length < (c :: t).length) := hlt5
        have HTL := toks_len acc
        have HTS : Hid ((acc ++ [(⟨k, x, v⟩ : Tok)]).flatMap tokC = acc.flatMap tokC ++ [.int .i64 k, .string ⟨x.toArray⟩, .int .i64 v]) := toks_snoc acc _
        obtain ⟨L, hL⟩ : ∃ L, L = acc.flatMap tokC := ⟨_, rfl⟩
        rw [← hL] at HOWN5 HTL HTS
        clear ho heq hrd5 hL hlt5 HOWN1 HNE HK
        go_wp2_with (at_builtin; refine wpList_append_lies _ (by rfl) _ _ _ (by rfl) (B + 1) 147 i0 _ 3 32 Tryz.underlying112 HI.out HZ0.out HZ1.out HZ2.out rfl (by omega) (.slice Gv acc.length cv) acc.length L (by rfl) ((HOWN5.out.alloc _).alloc _) ⟨w5.heap.size + 1, 0, none⟩ 1 1 [.int .i64 k, .string ⟨x.toArray⟩, .int .i64 v] (by rfl) (by rfl) (news_tok w5 _ _ _ _ _) (by simp [Value.oneCell']) (by omega) (by unfold maxLen; omega) (by omega) (by simp; omega) (w5.heap.size + 2) (by simp) ?_)
        intro g cap w6 hown6 hgrow hat hlt6
        rw [← HTS.out] at hown6
        have hba := ba (ba (Below.refl w5.heap.size w5) (.cells #[.int .i64 k, .string ⟨x.toArray⟩, .int .i64 v] 147)) (.cells #[.int .i64 k, .string ⟨x.toArray⟩, .int .i64 v] 147)
        have hrow6 := HOWN5.out
        have hb6 : Below w.heap.size w w6 := below_row (bt HBEL5.out hba) (Nat.le_refl _) (row_down hrow6 hba) (by omega) hgrow
        have hrd6 : RdrL w6 B s r' := rdr_grown (HRD5.out.below hba) hgrow (row_ne (row_down hrow6 hba) (by omega))
        have HRD6 := Lib.hid hrd6; have HB6 := Lib.hid hb6; have HOWN6 := Lib.hid hown6
        have hsz6 : B + 1 ≤ w6.heap.size := Nat.le_trans (Nat.le_trans hsz5 hba.size) hgrow.size
        clear hown6 hgrow hat hlt6 hba hrow6 hb6 hrd6
        go_wp2_with fail
        go_roundw
        case rel => exact ⟨acc ++ [⟨k, x, v⟩], r', HRD6.out, by rw [List.length_append]; exact HOWN6.out, by rw [List.length_append]; exact HEQ.out, by rw [List.length_append, List.length_singleton]; omega, HB6.out, hsz6⟩
        case measure =>
         have h1 := HRD6.out.len
         have h2 := hmeas.out
         have h3 := HLT.out
         omega
end Go.Proofs.YtmkppkjikifdlaaGreatDoor.Tk
