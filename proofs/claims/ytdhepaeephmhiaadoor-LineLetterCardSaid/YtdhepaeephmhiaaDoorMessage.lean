/-
  DERIVED. 'Message' of postroomkeep: the walk.
-/
import Derived.Test.YtdhepaeephmhiaaDoorPair
import Derived.Deep.AppendLies
import Derived.Deep.RegionLaw
import Derived.Deep.DeepCutAuto
import Derived.Deep.CutBlock
import Derived.BigQuiet
import Derived.Test.YtdhepaeephmhiaaDoorValue
import Derived.Test.YtdhepaeephmhiaaDoorRows2
namespace Go.Proofs.YtdhepaeephmhiaaDoor
open Go.RowKit

theorem infoFld' : (Tryd.prog.info? 92).map (fun i => (i.zero, i.size, i.bytes)) = some (some (.agg #[.string ⟨#[]⟩, .string ⟨#[]⟩]), 2, 32) := by kernel_rfl
theorem extract_take (s : ByteArray) (n : Nat) : s.extract 0 n = ⟨(s.data.toList.take n).toArray⟩ := by
  rw [Lib.extract_eq]; simp
set_option maxHeartbeats 400000 in
theorem clip_any (s : ByteArray) (m : Int) (w : World) (_hs : s.size ≤ 9223372036854775807) (h0 : 0 ≤ m) (h1 : m ≤ 9223372036854775807) :
    Calls Tryd.prog 28 #[.string s, .int .i64 m] w fun e w' => e = .returned (.string ⟨(s.data.toList.take m.toNat).toArray⟩) ∧ w = w' := by
  obtain ⟨n, rfl⟩ := Int.eq_ofNat_of_zero_le h0
  rw [Int.toNat_natCast]
  have H : Hid (s.extract 0 (min (s.size : Int) (n : Int)).toNat = ⟨(s.data.toList.take n).toArray⟩) := by
    unfold Hid
    rw [extract_take]
    by_cases h : n < s.size
    · rw [show (min (s.size : Int) (n : Int)).toNat = n by omega]
    · rw [show (min (s.size : Int) (n : Int)).toNat = s.size by omega, List.take_of_length_le (by simp), List.take_of_length_le (by simp; omega)]
  go_enter Tryd.func28, Tryd.ntmps28
  go_wp2
  go_ret
  exact ⟨congrArg (fun b => Ending.returned (Value.string b)) H.out, rfl⟩

/-- a block of two cells, written whole -/
theorem res_set2' {w wr : World} {R : Nat} {a c : Value} (hbel : Below w.heap.size w wr) (hR : w.heap.size ≤ R) (z0 : wr.cell? ⟨R, 0, none⟩ = some a) (z1 : wr.cell? ⟨R, 1, none⟩ = some c) (v c' : Value) :
    ((wr.setCell ⟨R, 0, none⟩ v).setCell ⟨R, 1, none⟩ c').cell? ⟨R, 0, none⟩ = some v ∧ ((wr.setCell ⟨R, 0, none⟩ v).setCell ⟨R, 1, none⟩ c').cell? ⟨R, 1, none⟩ = some c' ∧ Below w.heap.size w ((wr.setCell ⟨R, 0, none⟩ v).setCell ⟨R, 1, none⟩ c') := by
  have n1 : (⟨R, 0, none⟩ : Addr) ≠ ⟨R, 1, none⟩ := by simp
  have n2 : (⟨R, 1, none⟩ : Addr) ≠ ⟨R, 0, none⟩ := Ne.symm n1
  refine ⟨(World.cell?_setCell_other _ _ _ _ n2).trans (World.cell?_setCell_same _ _ _ z0), World.cell?_setCell_same _ _ _ ((World.cell?_setCell_other _ _ _ _ n1).trans z1), (hbel.setCell (by show w.heap.size ≤ R; exact hR) v).setCell (by show w.heap.size ≤ R; exact hR) c'⟩
/-- the fields that Message makes -/
def msgF (x : Nat → Nat → ByteArray) (i : Nat) : Fld := (wordL (x i 0).data.toList, valueL (x i 1).data.toList)
def msgL (x : Nat → Nat → ByteArray) (k : Nat) : List Fld := (List.range k).map (msgF x)
theorem msgL_len (x : Nat → Nat → ByteArray) (k : Nat) : (msgL x k).length = k := by simp [msgL]
theorem msgL_snoc (x : Nat → Nat → ByteArray) (k : Nat) : msgL x (k + 1) = msgL x k ++ [msgF x k] := by unfold msgL; rw [List.range_succ, List.map_append]; rfl

set_option maxHeartbeats 8000000 in
set_option maxRecDepth 20000 in
theorem message_any (a : Option Addr) (len cap : Nat) (x : Nat → Nat → ByteArray) (body : ByteArray) (w : World) (hx : StrRows w a len 2 x) (hlen : len ≤ maxLen) (hbody : body.size ≤ maxLen) :
    Calls Tryd.prog 27 #[.slice a len cap, .string body] w fun e w' => (∃ v, e = .returned (.agg #[v, .string ⟨(body.data.toList.take 200).toArray⟩]) ∧ w'.ownsRow w.heap.size 92 2 v (min len 6) (fcells (msgL x (min len 6)))) ∧ Below w.heap.size w w' := by
  obtain ⟨R, hR⟩ : ∃ R, R = w.heap.size := ⟨_, rfl⟩
  have HWd : Hid (∀ (s : ByteArray) (w : World), s.size ≤ maxLen → Calls Tryd.prog 22 #[.string s] w fun e w' => e = .returned (.string ⟨(wordL s.data.toList).toArray⟩) ∧ Below w.heap.size w w') := fun s w h => word_any s w (Nat.le_trans h (by decide))
  have HVl : Hid (∀ (s : ByteArray) (w : World), s.size ≤ maxLen → Calls Tryd.prog 50 #[.string s] w fun e w' => e = .returned (.string ⟨(valueL s.data.toList).toArray⟩) ∧ Below w.heap.size w w') := fun s w h => value_any s w (Nat.le_trans h (by decide))
  have HCt : Hid (∀ w : World, Calls Tryd.prog 28 #[.string body, .int .i64 200] w fun e w' => e = .returned (.string ⟨(body.data.toList.take 200).toArray⟩) ∧ w = w') := fun w => clip_any body 200 w (Nat.le_trans hbody (by decide)) (by decide) (by decide)
  obtain ⟨BD, hBD⟩ : ∃ BD : ByteArray, BD = ⟨(body.data.toList.take 200).toArray⟩ := ⟨_, rfl⟩
  rw [← hBD] at HCt ⊢
  have HX := Lib.hid hx
  obtain ⟨i0, hi, hz0, hz1, hz2⟩ := info_parts infoFld'
  have HI := Lib.hid hi; have HZ0 := Lib.hid hz0; have HZ1 := Lib.hid hz1; have HZ2 := Lib.hid hz2
  clear hi hz0 hz1 hz2 hBD hx
  have hp0 : Pair (w.alloc (.cells #[.slice none 0 0, .string ⟨#[]⟩] 88)) R (.slice none 0 0) (.string ⟨#[]⟩) := by rw [hR]; exact Pair.alloc w _ _ _
  have hz0 : (w.alloc (.cells #[.slice none 0 0, .string ⟨#[]⟩] 88)).heap.size = R + 1 := by rw [hR]; simp
  have hp1 := Pair.alloc (w.alloc (.cells #[.slice none 0 0, .string ⟨#[]⟩] 88)) (.slice none 0 0) (.string ⟨#[]⟩) 88
  rw [hz0] at hp1
  have hp0' := hp0.below (ba (Below.refl _ (w.alloc (.cells #[.slice none 0 0, .string ⟨#[]⟩] 88))) (.cells #[.slice none 0 0, .string ⟨#[]⟩] 88)) (by omega)
  have hb0 := ba (ba (Below.refl _ w) (.cells #[.slice none 0 0, .string ⟨#[]⟩] 88)) (.cells #[.slice none 0 0, .string ⟨#[]⟩] 88)
  have hz1 : ((w.alloc (.cells #[.slice none 0 0, .string ⟨#[]⟩] 88)).alloc (.cells #[.slice none 0 0, .string ⟨#[]⟩] 88)).heap.size = R + 2 := by rw [hR]; simp
  obtain ⟨W0, hW0⟩ : ∃ W0, W0 = (w.alloc (.cells #[.slice none 0 0, .string ⟨#[]⟩] 88)).alloc (.cells #[.slice none 0 0, .string ⟨#[]⟩] 88) := ⟨_, rfl⟩
  rw [← hW0] at hp1 hp0' hb0 hz1
  have HW0 := Lib.hid hW0.symm
  have HR := Lib.hid hR
  have hL63 : len ≤ 9223372036854775807 := Nat.le_trans hlen (by decide)
  clear hp0 hz0 hW0 hR
  go_enter Tryd.func27, Tryd.ntmps27
  go_wp2_with fail
  rw [HW0.out, ← HR.out]
  go_loopw [6] (fun i wr => ∃ (k : Nat) (V : Value), k ≤ len ∧ k ≤ 6 ∧ i = .int .i64 k ∧ Pair wr R (.slice none 0 0) (.string ⟨#[]⟩) ∧ Pair wr (R + 1) V (.string ⟨#[]⟩) ∧ wr.ownsRow (R + 2) 92 2 V k (fcells (msgL x k)) ∧ Below w.heap.size w wr ∧ R + 2 ≤ wr.heap.size) (fun i _ => 6 - (intOf i).toNat)
  case atStart => exact ⟨0, _, Nat.zero_le _, by omega, rfl, hp0', hp1, World.ownsRow_nil _ _ _ _, hb0, by omega⟩
  case round =>
    obtain ⟨k, V, hk, hk6, rfl, hq0, hq1, hown, hbel, hsz⟩ := hrel
    clear hp0' hp1 hb0 hz1
    by_cases hlt : k < len ∧ k < 6
    · obtain ⟨h1, h2⟩ := hlt
      obtain ⟨b, off, hab, hbl, hxs⟩ := HX.out k h1
      obtain ⟨n0, ns0⟩ := hxs 0 (by omega)
      obtain ⟨n1, ns1⟩ := hxs 1 (by omega)
      obtain ⟨N, hN⟩ : ∃ N, N = x k 0 := ⟨_, rfl⟩
      obtain ⟨M, hM⟩ : ∃ M, M = x k 1 := ⟨_, rfl⟩
      rw [← hN] at n0 ns0
      rw [← hM] at n1 ns1
      have hsn : Hid (fcells (msgL x (k + 1)) = fcells (msgL x k) ++ [.string ⟨(wordL N.data.toList).toArray⟩, .string ⟨(valueL M.data.toList).toArray⟩]) := by
        unfold Hid; rw [msgL_snoc, fcells_snoc, hN, hM]; rfl
      clear hN hM hxs
      subst hab
      have hFW : Hid (∀ w', Below wr.heap.size wr w' → Pair w' R (.slice none 0 0) (.string ⟨#[]⟩) ∧ Pair w' (R + 1) V (.string ⟨#[]⟩) ∧ w'.ownsRow (R + 2) 92 2 V k (fcells (msgL x k)) ∧ Below w.heap.size w w' ∧ R + 2 ≤ w'.heap.size ∧
          w'.cell? ⟨b, off + k * 2, none⟩ = some (.string N) ∧ w'.cell? ⟨b, off + k * 2 + 1, none⟩ = some (.string M) ∧ w'.cell? ⟨R + 1, 0, none⟩ = some V) := by
        intro w' hb
        have hbw := bt hbel hb
        exact ⟨hq0.below hb hq0.2.2.2.2, hq1.below hb hq1.2.2.2.2, row_down hown hb, hbw, Nat.le_trans hsz hb.size, moved (by rw [← Nat.add_zero (off + k * 2), Nat.add_assoc]; exact n0) hbw (Nat.le_refl _), moved (by rw [Nat.add_assoc]; exact n1) hbw (Nat.le_refl _), (hq1.below hb hq1.2.2.2.2).1⟩
      have hVs := row_apart hown (show R + 1 < R + 2 by omega)
      have hcl := fcells_length (msgL x k)
      rw [msgL_len] at hcl
      have hbd := Below.drew (Below.refl wr.heap.size wr)
      obtain ⟨z0, z1, zo, zb, zs, m0, m1, mv⟩ := hFW.out wr.drew hbd
      clear n0 n1 hq0 hq1 hown hbel hsz hbl
      go_wp2_with fail
      go_region_law (first
        | (refine step_append_lies _ (by rfl) _ _ _ (by rfl) (R + 2) 92 i0 _ 2 32 Tryd.underlying86 HI.out HZ0.out HZ1.out HZ2.out rfl (by omega) V k (fcells (msgL x k)) (by rfl) (zo.alloc _)
            ⟨w1.heap.size, 0, none⟩ 1 1 [.string ⟨(wordL N.data.toList).toArray⟩, .string ⟨(valueL M.data.toList).toArray⟩] (by rfl) (by rfl) (World.news_of_block (cs := #[.string ⟨(wordL N.data.toList).toArray⟩, .string ⟨(valueL M.data.toList).toArray⟩]) (t := 92) (fr := (0, 0)) (heap_alloc_new w1 _)) (by simp [Value.oneCell'])
            (by omega) (by unfold maxLen; omega) (by omega) (by simp; omega) (w1.heap.size + 1) (by simp) ?_
           intro g cap2 w3 hown3 hgrow hat hlt3
           have ap := ba (Below.refl _ w1) (.cells #[.string ⟨(wordL N.data.toList).toArray⟩, .string ⟨(valueL M.data.toList).toArray⟩] 92)
           have k1 := (z1.below ap z1.2.2.2.2).kept hgrow hVs
           have a0 := k1.1
           have b0 := k1.2.2.1)
        | (go_simp
           go_at_call 22
           refine (HWd.out _ _ ns0).mono ?_
           rintro e w1 ⟨rfl, hb1⟩
           replace hbd := bt hbd hb1
           obtain ⟨z0, z1, zo, zb, zs, m0, m1, mv⟩ := hFW.out w1 hbd)
        | (go_simp
           go_at_call 50
           refine (HVl.out _ _ ns1).mono ?_
           rintro e w1 ⟨rfl, hb1⟩
           replace hbd := bt hbd hb1
           obtain ⟨z0, z1, zo, zb, zs, m0, m1, mv⟩ := hFW.out w1 hbd
           have mv2 := moved mv (ba (Below.refl _ w1) (.cells #[.string ⟨(wordL N.data.toList).toArray⟩, .string ⟨(valueL M.data.toList).toArray⟩] 92)) (Nat.le_refl _)))
      all_goals
        have k0 := (z0.below ap z0.2.2.2.2).kept hgrow (row_apart zo (by omega))
        have l1 := k1.set0 (.slice (some ⟨g, 0, none⟩) (k + 1) cap2)
        have l0 := k0.else0 (show R ≠ R + 1 by omega) (i := 0) (.slice (some ⟨g, 0, none⟩) (k + 1) cap2)
        rw [← hsn.out] at hown3
        have lo := row_else hown3 (show R + 1 < R + 2 by omega) 0 (.slice (some ⟨g, 0, none⟩) (k + 1) cap2)
        have lb := (below_row (ba zb (.cells #[.string ⟨(wordL N.data.toList).toArray⟩, .string ⟨(valueL M.data.toList).toArray⟩] 92)) (Nat.le_refl _) (zo.alloc (.cells #[.string ⟨(wordL N.data.toList).toArray⟩, .string ⟨(valueL M.data.toList).toArray⟩] 92)) (by have := HR.out; omega) hgrow).setCell (p := ⟨R + 1, 0, none⟩) (by show w.heap.size ≤ R + 1; have := HR.out; omega) (.slice (some ⟨g, 0, none⟩) (k + 1) cap2)
        have ls : R + 2 ≤ (w3.setCell ⟨R + 1, 0, none⟩ (.slice (some ⟨g, 0, none⟩) (k + 1) cap2)).heap.size := by
          have h1 := hgrow.size
          have h2 := ap.size
          have h3 : (w3.setCell ⟨R + 1, 0, none⟩ (.slice (some ⟨g, 0, none⟩) (k + 1) cap2)).heap.size = w3.heap.size := by simp [World.setCell]
          omega
        obtain ⟨w5, hw5⟩ : ∃ w5, w5 = w3.setCell ⟨R + 1, 0, none⟩ (.slice (some ⟨g, 0, none⟩) (k + 1) cap2) := ⟨_, rfl⟩
        rw [← hw5] at l0 l1 lo lb ls ⊢
        clear hw5 hown3 hgrow hat hlt3 a0 b0 k0 k1 ap z0 z1 zo zb zs m0 m1 mv mv2 hbd hb1
        go_wp2_with fail
        go_roundw
        case rel => exact ⟨k + 1, _, by omega, by omega, by go_num, l0, l1, lo, lb, ls⟩
        case measure => simp [intOf]; omega
    · have hkm := Lib.hid (show min len 6 = k by omega)
      obtain ⟨G, cp, rfl⟩ : ∃ G cp, V = .slice G k cp := by
        rcases hown.2 with ⟨h, h0⟩ | ⟨g, cp, _, h, _⟩
        · exact ⟨none, 0, by rw [h, h0]⟩
        · exact ⟨_, cp, h⟩
      have l1 := hq1.set1 (.string BD)
      have l0 := hq0.else0 (show R ≠ R + 1 by omega) (i := 1) (.string BD)
      have lo := row_else hown (show R + 1 < R + 2 by omega) 1 (.string BD)
      have lb := hbel.setCell (p := ⟨R + 1, 1, none⟩) (by show w.heap.size ≤ R + 1; have := HR.out; omega) (.string BD)
      obtain ⟨x0, x1, y0, y1, hx1⟩ := hq1
      obtain ⟨d0, d1, f0, f1, hd1⟩ := l0
      obtain ⟨c0, c1, g0, g1, hc1⟩ := l1
      obtain ⟨e0, e1, hbF⟩ := res_set2' lb (by have := HR.out; omega) d0 d1 (.slice G k cp) (.string BD)
      have hownF := row_else (row_else lo (show R < R + 2 by omega) 0 (.slice G k cp)) (show R < R + 2 by omega) 1 (.string BD)
      have hb2 := HCt.out wr
      have hdec : decide (k < 6) = false ∧ k < len ∨ decide (k < len) = false := by
        by_cases h : k < len
        · exact .inl ⟨decide_eq_false (by omega), h⟩
        · exact .inr (decide_eq_false h)
      rcases hdec with ⟨q1, q2⟩ | q1
      all_goals
        go_wp2_with fail
        refine hb2.mono ?_
        rintro e w2 ⟨rfl, rfl⟩
        go_wp2_with fail
        refine bodyPost_ret (v := .agg #[.slice G k cp, .string BD]) (by simp [results, Tryd.results27, go_sem, e0, e1]) rfl ?_
        rw [hkm.out]
        exact ⟨⟨_, rfl, row_base (by have := HR.out; omega) hownF⟩, hbF⟩
end Go.Proofs.YtdhepaeephmhiaaDoor
