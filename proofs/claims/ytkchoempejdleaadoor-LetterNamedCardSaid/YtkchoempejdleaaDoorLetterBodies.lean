/-
  DERIVED. LetterBodies: the walk.
-/
import Derived.Test.YtkchoempejdleaaDoorLetShow
import Derived.BigQuiet
import Derived.Deep.QuietTactic
namespace Go.Proofs.YtkchoempejdleaaDoor
open Go.RowKit

theorem pair_down {w w' : World} {b : Nat} {u v : Value} (h : Pair w b u v) (hb : Below w.heap.size w w') : Pair w' b u v := h.below hb h.2.2.2.2
/-- the text with a body of its own -/
theorem body_text (RES A : ByteArray) (fs : List Fld) (h : RES.data.toList = showF fs ++ [13, 10]) : RES ++ A = ⟨(showL fs A.data.toList).toArray⟩ := by
  apply ByteArray.ext
  apply Array.toList_inj.1
  rw [ByteArray.toList_data_append, h]
  rfl
theorem flds_else {w : World} {v : Value} {fs : List Fld} {b i : Nat} {u : Value} (h : FldsAt w v fs) (hne : v.ownBlock ≠ some b) : FldsAt (w.setCell ⟨b, i, none⟩ u) v fs := by
  obtain ⟨G, cap, hv, hf⟩ := h
  refine ⟨G, cap, hv, fun j f hj => ?_⟩
  obtain ⟨g, hG, hg, h0, h1⟩ := hf j f hj
  have hgb : g ≠ b := by
    intro e
    apply hne
    rw [hv, hG, e]
    rfl
  have hs : (w.setCell ⟨b, i, none⟩ u).heap.size = w.heap.size := by simp [World.setCell]
  exact ⟨g, hG, by omega, (World.cell?_setCell_other _ _ _ _ (by intro e; exact hgb (congrArg Addr.block e).symm)).trans h0, (World.cell?_setCell_other _ _ _ _ (by intro e; exact hgb (congrArg Addr.block e).symm)).trans h1⟩
/-- where the row lies -/
def Lies (v : Value) (lo hi : Nat) : Prop := ∀ k, v.ownBlock = some k → lo ≤ k ∧ k < hi
theorem Lies.ne {v : Value} {lo hi b : Nat} (h : Lies v lo hi) (hb : b < lo ∨ hi ≤ b) : v.ownBlock ≠ some b := by
  intro e
  have := h b e
  omega
theorem parse_walk2 (S B : ByteArray) (fs : List Fld) (m : Int) (w : World) (hs : S.size ≤ 2000) (h : parseL 0 [] S.data.toList = ((fs, B.data.toList), 0, 0)) (hm : w.cell? ⟨0, 0, none⟩ = some (.int .i64 m)) :
    Calls Tryd.prog 22 #[.string S] w fun e w' => (∃ v, e = .returned (.tuple #[.agg #[v, .string B], .int .i64 0, .int .i64 0]) ∧ FldsAt w' v fs ∧ Lies v w.heap.size w'.heap.size) ∧ Below w.heap.size w w' := by
  refine (parse_any S m w hs hm).mono ?_
  rintro e w' ⟨⟨v, he, hv⟩, hb⟩
  rw [h] at he hv
  exact ⟨⟨v, he, FldsAt.of_row hv, hv.lt⟩, hb⟩
theorem message_walk2 (a : Option Addr) (len cap : Nat) (x : Nat → Nat → ByteArray) (body BD : ByteArray) (w : World) (hBD : BD = ⟨(body.data.toList.take 200).toArray⟩) (hx : StrRows w a len 2 x) (hlen : len ≤ maxLen) (hbody : body.size ≤ maxLen) :
    Calls Tryd.prog 21 #[.slice a len cap, .string body] w fun e w' => (∃ v, e = .returned (.agg #[v, .string BD]) ∧ FldsAt w' v (msgL x (min len 6)) ∧ Lies v w.heap.size w'.heap.size) ∧ Below w.heap.size w w' := by
  rw [hBD]
  refine (message_any a len cap x body w hx hlen hbody).mono ?_
  rintro e w' ⟨⟨v, he, hv⟩, hb⟩
  refine ⟨⟨v, he, FldsAt.of_row (base := w.heap.size) ?_, hv.lt⟩, hb⟩
  rw [msgL_len]
  exact hv

set_option maxHeartbeats 8000000 in
set_option maxRecDepth 20000 in
theorem letterBodiesWalk (a : Option Addr) (len cap : Nat) (x : Nat → Nat → ByteArray) (a1 a2 : ByteArray) (m : Int) (w : World) (hx : StrRows w a len 2 x) (hlen : len ≤ maxLen) (ha1 : a1.size ≤ maxLen) (ha2 : a2.size ≤ maxLen) (hm : w.cell? ⟨0, 0, none⟩ = some (.int .i64 m)) :
    Calls Tryd.prog 12 #[.slice a len cap, .string a1, .string a2] w fun e w' => e = .returned (.bool true) ∧ Below w.heap.size w w' := by
  have hMs := message_walk2 a len cap x ⟨#[]⟩ ⟨#[]⟩ w rfl hx hlen (Nat.zero_le _)
  have hg := msg_good x (min len 6)
  have hl6 : (msgL x (min len 6)).length ≤ 6 := by rw [msgL_len]; omega
  have hsz0 := msg_size x (min len 6)
  obtain ⟨fs, hfs⟩ : ∃ fs, fs = msgL x (min len 6) := ⟨_, rfl⟩
  rw [← hfs] at hMs hg hl6 hsz0
  have hsz : (showF fs).length + 2 + (⟨#[]⟩ : ByteArray).size ≤ 2000 := by show _ + 2 + 0 ≤ 2000; omega
  obtain ⟨RES, hRES⟩ : ∃ RES : ByteArray, RES = ⟨(showL fs (⟨#[]⟩ : ByteArray).data.toList).toArray⟩ := ⟨_, rfl⟩
  have hRl : RES.data.toList = showF fs ++ [13, 10] := by rw [hRES]; unfold showL; simp
  have hRs : RES.size = (showF fs).length + 2 := by
    have : RES.size = RES.data.toList.length := by simp
    rw [this, hRl]; simp
  obtain ⟨A, hA⟩ : ∃ A : ByteArray, A = ⟨(a1.data.toList.take 100).toArray⟩ := ⟨_, rfl⟩
  obtain ⟨B, hB⟩ : ∃ B : ByteArray, B = ⟨(a2.data.toList.take 100).toArray⟩ := ⟨_, rfl⟩
  have hAs := take_size a1 A 100 hA
  have hBs := take_size a2 B 100 hB
  have HCa : Hid (∀ w, Calls Tryd.prog 26 #[.string a1, .int .i64 100] w fun e w' => e = .returned (.string A) ∧ w' = w) := fun w => by
    rw [hA]; exact (clip_any a1 100 w (Nat.le_trans ha1 (by decide)) (by decide) (by decide)).mono fun _ _ h => ⟨h.1, h.2.symm⟩
  have HCb : Hid (∀ w, Calls Tryd.prog 26 #[.string a2, .int .i64 100] w fun e w' => e = .returned (.string B) ∧ w' = w) := fun w => by
    rw [hB]; exact (clip_any a2 100 w (Nat.le_trans ha2 (by decide)) (by decide) (by decide)).mono fun _ _ h => ⟨h.1, h.2.symm⟩
  have HS : Hid (∀ v w, FldsAt w v fs → w.cell? ⟨0, 0, none⟩ = some (.int .i64 m) → Calls Tryd.prog 23 #[.agg #[v, .string ⟨#[]⟩]] w fun e w' => e = .returned (.tuple #[.string RES, .int .i64 0]) ∧ Below w.heap.size w w') := fun v w h1 h2 => show_walk fs v ⟨#[]⟩ RES m w hRES h1 hg (by omega) hsz h2
  have HP : Hid (∀ (X : ByteArray) w, X.size ≤ 100 → w.cell? ⟨0, 0, none⟩ = some (.int .i64 m) → Calls Tryd.prog 22 #[.string (RES ++ X)] w fun e w' => (∃ v, e = .returned (.tuple #[.agg #[v, .string X], .int .i64 0, .int .i64 0]) ∧ FldsAt w' v fs ∧ Lies v w.heap.size w'.heap.size) ∧ Below w.heap.size w w') := fun X w h1 h2 =>
    parse_walk2 (RES ++ X) X fs m w (by rw [ByteArray.size_append]; omega) (parse_back (RES ++ X) X fs (body_text RES X fs hRl) hg (by omega)) h2
  have HE : Hid (∀ v1 v2 w, FldsAt w v1 fs → FldsAt w v2 fs → Calls Tryd.prog 24 #[.agg #[v1, .string ⟨#[]⟩], .agg #[v2, .string ⟨#[]⟩]] w fun e w' => e = .returned (.bool true) ∧ Below w.heap.size w w') := fun v1 v2 w h1 h2 => same_any fs v1 v2 ⟨#[]⟩ w h1 h2 (by omega)
  have hR2 : RES.size ≤ 1000 := by omega
  have hM := Lib.hid hm
  have HMs := Lib.hid hMs
  clear hm hMs hRES hg hfs hsz hsz0 hx hA hB hRl hRs
  go_enter Tryd.func12, Tryd.ntmps12
  go_wp2_with fail
  refine HMs.out.mono ?_
  rintro e w1 ⟨⟨v, rfl, hv, hvl⟩, hw1⟩
  have P1 := Pair.alloc w1 v (.string ⟨#[]⟩) 45
  have ha := ba (Below.refl _ w1) (.cells #[v, .string ⟨#[]⟩] 45)
  have hz1 : (w1.alloc (.cells #[v, .string ⟨#[]⟩] 45)).heap.size = w1.heap.size + 1 := by simp
  have hv1 := hv.down ha
  have hw1' := bt hw1 ha
  obtain ⟨G, c, hvv, _⟩ := hv
  subst hvv
  obtain ⟨p0, p1, f0, f1, hl1⟩ := P1
  go_wp2_with fail
  have P1 : Pair _ _ _ _ := ⟨p0, p1, f0, f1, hl1⟩
  refine (HS.out _ _ hv1 (moved hM.out hw1' (Nat.le_refl _))).mono ?_
  rintro e w2 ⟨rfl, hb2⟩
  have hv2 := hv1.down hb2
  have P2 := pair_down P1 hb2
  have hw2 := bt hw1' hb2
  have hs2 := hb2.size
  clear P1 p0 p1 f0 f1 hl1 ha hv1
  go_wp2_with fail
  refine (HCa.out _).mono ?_
  rintro e w9 ⟨rfl, hw9⟩
  obtain rfl : w2 = w9 := hw9.symm
  go_wp2_with fail
  refine (HP.out A _ hAs (moved hM.out hw2 (Nat.le_refl _))).mono ?_
  rintro e w3 ⟨⟨u, rfl, hu, hul⟩, hb3⟩
  have Q3 := Pair.alloc w3 u (.string A) 45
  have ha := ba (Below.refl _ w3) (.cells #[u, .string A] 45)
  have hz3 : (w3.alloc (.cells #[u, .string A] 45)).heap.size = w3.heap.size + 1 := by simp
  have hu3 := hu.down ha
  have hv3 := (hv2.down hb3).down ha
  have P3 := pair_down (pair_down P2 hb3) ha
  have hw3 := bt (bt hw2 hb3) ha
  have hs3 := hb3.size
  obtain ⟨G2, c2, huu, _⟩ := hu
  subst huu
  clear P2 hv2 ha hw9
  go_wp2_with fail
  refine (HCb.out _).mono ?_
  rintro e w9 ⟨rfl, hw9⟩
  subst hw9
  go_wp2_with fail
  refine (HP.out B _ hBs (moved hM.out hw3 (Nat.le_refl _))).mono ?_
  rintro e w4 ⟨⟨t, rfl, ht, htl⟩, hb4⟩
  have T4 := Pair.alloc w4 t (.string B) 45
  have ha := ba (Below.refl _ w4) (.cells #[t, .string B] 45)
  have ht4 := ht.down ha
  have hu4 := (hu3.down hb4).down ha
  have hv4 := (hv3.down hb4).down ha
  have P4 := pair_down (pair_down P3 hb4) ha
  have Q4 := pair_down (pair_down Q3 hb4) ha
  have hw4 := bt (bt hw3 hb4) ha
  have hs4 := hb4.size
  obtain ⟨G3, c3, htt, _⟩ := ht
  subst htt
  obtain ⟨W, hW⟩ : ∃ W, W = w4.alloc (.cells #[.slice G3 fs.length c3, .string B] 45) := ⟨_, rfl⟩
  rw [← hW] at T4 ha ht4 hu4 hv4 P4 Q4 hw4
  have HW := Lib.hid hW.symm
  clear P3 Q3 hv3 hu3 ha hW
  have T4' := T4
  have Q4' := Q4
  obtain ⟨t0, t1, t2, t3, t5⟩ := T4
  obtain ⟨q0, q1, q2, q3, q5⟩ := Q4
  go_wp2_with fail
  rw [HW.out]
  go_quiet (first | (go_at_call 26; exact Calls.quiet_of_same (HCa.out _)) | (go_at_call 26; exact Calls.quiet_of_same (HCb.out _)))
  have hnq := below_drewN (Below.refl W.heap.size W) nq
  obtain ⟨W', hW'⟩ : ∃ W', W' = W.drewN nq := ⟨_, rfl⟩
  rw [← hW'] at hnq ⊢
  clear hW' t0 t1 t2 t3 t5 q0 q1 q2 q3 q5
  have P5 := pair_down P4 hnq
  have Q5 := pair_down Q4' hnq
  have T5 := pair_down T4' hnq
  have u5 := hu4.down hnq
  have t5 := ht4.down hnq
  have v5 := hv4.down hnq
  have hw5 := bt hw4 hnq
  have hlo := hw1.size
  have n1 : w1.heap.size ≠ w3.heap.size := by omega
  have n2 : w1.heap.size ≠ w4.heap.size := by omega
  have n3 : w3.heap.size ≠ w4.heap.size := by omega
  have P6 := (P5.else0 n1 (i := 1) (.string ⟨#[]⟩)).else0 n2 (i := 1) (.string ⟨#[]⟩)
  have Q6 := (Q5.set1 (.string ⟨#[]⟩)).else0 n3 (i := 1) (.string ⟨#[]⟩)
  have T5' := T5.else0 (Ne.symm n3) (i := 1) (.string ⟨#[]⟩)
  have T6 := T5'.set1 (.string ⟨#[]⟩)
  have u6 := flds_else (i := 1) (u := .string ⟨#[]⟩) (flds_else (i := 1) (u := .string ⟨#[]⟩) u5 (hul.ne (b := w3.heap.size) (.inr (Nat.le_refl _)))) (hul.ne (b := w4.heap.size) (.inr (by omega)))
  have t6 := flds_else (i := 1) (u := .string ⟨#[]⟩) (flds_else (i := 1) (u := .string ⟨#[]⟩) t5 (htl.ne (b := w3.heap.size) (.inl (by omega)))) (htl.ne (b := w4.heap.size) (.inr (Nat.le_refl _)))
  have v6 := flds_else (i := 1) (u := .string ⟨#[]⟩) (flds_else (i := 1) (u := .string ⟨#[]⟩) v5 (hvl.ne (b := w3.heap.size) (.inr (by omega)))) (hvl.ne (b := w4.heap.size) (.inr (by omega)))
  have hw6 := (hw5.setCell (p := ⟨w3.heap.size, 1, none⟩) (by show w.heap.size ≤ w3.heap.size; omega) (.string ⟨#[]⟩)).setCell (p := ⟨w4.heap.size, 1, none⟩) (by show w.heap.size ≤ w4.heap.size; omega) (.string ⟨#[]⟩)
  obtain ⟨q0, q1, q2, q3, q5⟩ := Q5
  obtain ⟨t0, t1, t2, t3, t7⟩ := T5'
  obtain ⟨k0, k1, k2, k3, k4⟩ := Q6
  obtain ⟨j0, j1, j2, j3, j4⟩ := T6
  obtain ⟨i0, i1, i2, i3, i4⟩ := P6
  go_wp2_with fail
  refine (HE.out _ _ _ u6 t6).mono ?_
  rintro e w7 ⟨rfl, hb7⟩
  have u7 := u6.down hb7
  have v7 := v6.down hb7
  have m0 := moved k0 hb7 (Nat.le_refl _)
  have m1 := moved k1 hb7 (Nat.le_refl _)
  have m2 := moved i0 hb7 (Nat.le_refl _)
  have m3 := moved i1 hb7 (Nat.le_refl _)
  have hw7 := bt hw6 hb7
  go_wp2_with fail
  refine (HE.out _ _ _ u7 v7).mono ?_
  rintro e w8 ⟨rfl, hb8⟩
  have hw8 := bt hw7 hb8
  go_wp2_with fail
  go_ret
  exact ⟨rfl, hw8⟩
end Go.Proofs.YtkchoempejdleaaDoor
