/-
  DERIVED. BookKeeps: the walk.
-/
import Derived.Test.YtdobigkhilimlaaDoorBooks
import Derived.IntWalk
namespace Go.Proofs.YtdobigkhilimlaaDoor
open Go.RowKit

/-- what stands behind a call that answers a tape, in memory of its own -/
def TapeNewF (D : List UInt8) (s : Int) (wr : World) (p e : Value) (wx : World) : Prop := ∃ (R : Nat) (a : Option Addr) (c : Nat), p = .pointer (some ⟨R, 0, none⟩) ∧ e = .int .i64 0 ∧ wr.heap.size ≤ R ∧ Has wx R [.slice a D.length c, .int .i64 s] ∧ Bytes wx (.slice a D.length c) D ∧ Below wr.heap.size wr wx ∧ ∀ k, (Value.slice a D.length c).ownBlock = some k → wr.heap.size ≤ k
theorem tape_newF {D : List UInt8} {s : Int} {wr wx : World} {a : Option Addr} {c : Nat} (hu : Bytes wx (.slice a D.length c) D) (hf : ∀ k, (Value.slice a D.length c).ownBlock = some k → wr.heap.size ≤ k) (hb : Below wr.heap.size wr wx) :
    TapeNewF D s wr (.pointer (some ⟨wx.heap.size, 0, none⟩)) (.int .i64 0) (wx.alloc (.cells #[.slice a D.length c, .int .i64 s] 42)) :=
  ⟨wx.heap.size, a, c, rfl, rfl, hb.size, Has.alloc wx [.slice a D.length c, .int .i64 s] 42, hu.down (ba (Below.refl _ _) _), ba hb _, hf⟩
theorem tape_atF {D : List UInt8} {s : Int} {wr wx : World} {a : Option Addr} {c R : Nat} {x0 x1 : Value} (hR : wr.heap.size ≤ R) (h : Has wx R [x0, x1]) (hu : Bytes wx (.slice a D.length c) D) (hf : ∀ k, (Value.slice a D.length c).ownBlock = some k → R + 1 ≤ k) (hb : Below wr.heap.size wr wx) :
    TapeNewF D s wr (.pointer (some ⟨R, 0, none⟩)) (.int .i64 0) ((wx.setCell ⟨R, 0, none⟩ (.slice a D.length c)).setCell ⟨R, 1, none⟩ (.int .i64 s)) := by
  have hne : ∀ k, (Value.slice a D.length c).ownBlock = some k → k ≠ R := fun k e => by have := hf k e; omega
  exact ⟨R, a, c, rfl, rfl, hR, (h.set' (i := 0) _ (by simp)).set' (i := 1) (.int .i64 s) (by simp), (hu.set2 hne).set2 hne, (hb.setCell (p := ⟨R, 0, none⟩) hR _).setCell (p := ⟨R, 1, none⟩) hR _, fun k e => by have := hf k e; omega⟩

set_option maxHeartbeats 8000000 in
set_option maxRecDepth 20000 in
theorem bookKeeps_walk (a : Option Addr) (cap : Nat) (cs : List Raw) (at' keep : Int) (m : Int) (w : World) (h : RawsAt w a cs) (hlen : cs.length ≤ 9223372036854775807) (hcap : cs.length ≤ cap) (hu' : Int64 at') (hu : Int64 keep)
    (hm : w.cell? ⟨0, 0, none⟩ = some (.int .i64 m)) :
    Calls Tryd.prog 8 #[.slice a cs.length cap, .int .i64 at', .int .i64 keep] w fun e w' => e = .returned (.bool true) ∧ Below w.heap.size w w' := by
  have hB := Lib.hid (batchesOf_any a cap cs w h hlen hcap)
  have hpk := pick_lt keep 600 (by omega)
  have hP : Hid (∀ w, Calls Tryd.prog 15 #[.int .i64 keep, .int .i64 600] w fun e w' => e = .returned (.int .i64 (pick keep (600 : Nat))) ∧ w = w') := fun w => picked_any keep 600 w hu.1 hu.2 (by omega) (by omega)
  obtain ⟨p, hp⟩ : ∃ p, p = pick keep (600 : Nat) := ⟨_, rfl⟩
  rw [← hp] at hP hpk
  have hP0 : Hid (∀ (n : Nat) w, n ≤ 100000 → Calls Tryd.prog 15 #[.int .i64 at', .int .i64 ((n : Int) + 1)] w fun e w' => e = .returned (.int .i64 (pick at' ((n : Int) + 1))) ∧ w = w') := fun n w h => picked_any at' _ w hu'.1 hu'.2 (by omega) (by omega)
  have HM := Lib.hid hm
  clear hm h hp
  go_enter Tryd.func8, Tryd.ntmps8
  go_wp2_with fail
  refine hB.out.mono ?_
  rintro e w1 ⟨⟨vb, bs, rfl, hbs, hbl, hok⟩, hb1⟩
  obtain ⟨hgood, hDl, hg2⟩ := bats_known hok hbl
  obtain ⟨D, hD⟩ : ∃ D, D = tapeL bs := ⟨_, rfl⟩
  have hDl2 : D.length ≤ 25168 := by rw [hD]; exact hDl
  obtain ⟨k, hk⟩ : ∃ k, k = pick at' ((bs.length : Int) + 1) := ⟨_, rfl⟩
  have hkb : k ≤ bs.length := by have := pick_lt_int at' ((bs.length : Int) + 1) (by omega); omega
  have hP1 : Hid (∀ w, Calls Tryd.prog 15 #[.int .i64 at', .int .i64 ((bs.length : Int) + 1)] w fun e w' => e = .returned (.int .i64 k) ∧ w = w') := fun w => by rw [hk]; exact hP0.out bs.length w (by omega)
  clear hP0 hk
  obtain ⟨Q, hQ⟩ : ∃ Q, Q = tapeL (bs.take k) := ⟨_, rfl⟩
  have hQD : Q.length ≤ D.length := by rw [hQ, hD]; exact tape_len_take bs k
  have hlk : (bs.take k).length = k := by rw [List.length_take]; omega
  have hT : Hid (∀ G w', BatsAt w' (.slice G k k) (bs.take k) → w'.cell? ⟨0, 0, none⟩ = some (.int .i64 m) → Calls Tryd.prog 17 #[.slice G k k] w' fun e w'' => (∃ a c, e = .returned (.tuple #[.agg #[.slice a Q.length c, .int .i64 0], .bool true]) ∧ Bytes w'' (.slice a Q.length c) Q) ∧ Below w'.heap.size w' w'') := by
    intro G w' h hm
    refine (taped_any _ (bs.take k) m w' h (fun b hb => hgood b (List.mem_of_mem_take hb)) (by rw [← hQ]; omega) (by omega) hm).mono ?_
    rintro e w'' ⟨⟨v, rfl, u, rfl, hu⟩, hb⟩
    rw [← hQ] at hu
    obtain ⟨a, c, rfl, -⟩ := id hu
    exact ⟨⟨a, c, rfl, hu⟩, hb⟩
  obtain ⟨n, hn⟩ : ∃ n, n = Q.length + min p (D.length - Q.length) := ⟨_, rfl⟩
  have hnD : n ≤ D.length := by omega
  obtain ⟨j, rest, hj, hrec, -, hjk⟩ := rec_torn bs n hgood (by rw [← hD]; exact hnD)
  have hkj : k ≤ j := hjk k hkb (by rw [← hQ]; omega)
  rw [← hD] at hDl hrec
  have hln : (D.take n).length = n := by rw [List.length_take]; omega
  obtain ⟨C, hC⟩ : ∃ C, C = D.take n := ⟨_, rfl⟩
  have hCr : Hid (∀ w' u, Bytes w' u D → Calls Tryd.prog 20 #[.agg #[u, .int .i64 Q.length], .int .i64 p] w' (AppPost w' C C.length)) := by
    intro w' u hu
    have := crash_any (.agg #[u, .int .i64 Q.length]) D Q.length p w' ⟨_, rfl, hu⟩ ⟨by omega, by omega, by omega⟩ (by omega)
    rw [← hn, ← hC] at this
    rw [hC, hln, ← hC]
    exact this
  rw [← hC] at hrec hln
  obtain ⟨gs, hgs⟩ : ∃ gs, gs = bs.take j := ⟨_, rfl⟩
  rw [← hgs] at hrec
  have HG3 : Hid (∀ b ∈ gs, b.1 < 1000000 ∧ b.2.length ≤ 1000) := fun b hb => hg2 b (by rw [hgs] at hb; exact List.mem_of_mem_take hb)
  have hgl : gs.length = j := by rw [hgs, List.length_take]; omega
  have hpre : Hid (gs <+: bs) := by unfold Hid; rw [hgs]; exact List.take_prefix _ _
  obtain ⟨E, hE⟩ : ∃ E, E = tapeL gs := ⟨_, rfl⟩
  have hlE : E.length ≤ C.length := by
    have := congrArg List.length hrec.1
    rw [List.length_append, ← hE] at this
    omega
  have hQE : Q.length ≤ E.length := by
    have := tape_len_take gs k
    rw [hgs, List.take_take, Nat.min_eq_left hkj, ← hQ, ← hgs, ← hE] at this
    exact this
  have hgk : k ≤ gs.length := by omega
  have hk0 : k = 0 ∨ 0 < Q.length := by
    rcases Nat.eq_zero_or_pos k with h | h
    · exact .inl h
    · right
      have := tape_count (bs.take k)
      rw [← hQ, hlk] at this
      omega
  have HREC := Lib.hid hrec; have HE := Lib.hid hE; have HD := Lib.hid hD; have HQ := Lib.hid hQ; have HG := Lib.hid hgood
  have hCD : C.length ≤ 25168 := by omega
  clear hok hgood hg2 hD hrec hgs hE hj hC hgl hkj hjk hn hln hnD hQ hlk
  obtain ⟨Gb, cb, rfl, hcb, -⟩ := id hbs
  have HBK := Lib.hid (hbs.take k hkb)
  have HBS1 := Lib.hid hbs; have HB1 := Lib.hid hb1
  have HM1 := Lib.hid (moved HM.out hb1 (Nat.le_refl _))
  clear hbs hb1 HM
  go_wp2_with fail
  refine (hP1.out _).mono ?_
  rintro e w1' ⟨rfl, rfl⟩
  have hkc : k ≤ cb := by omega
  go_wp2_with fail
  refine (hT.out _ _ HBK.out HM1.out).mono ?_
  rintro e w2 ⟨⟨a2, c2, rfl, hu2⟩, hb2⟩
  have hA2 := ba (Below.refl w2.heap.size w2) (.cells #[.slice a2 Q.length c2, .int .i64 0] 42)
  have HX2 := Lib.hid (Has.alloc w2 [.slice a2 Q.length c2, .int .i64 0] 42)
  have HU2 := Lib.hid (hu2.down hA2)
  have HB2 := Lib.hid (bt hb2 hA2)
  have hz20 : w1.heap.size ≤ w2.heap.size := hb2.size
  clear hA2 hb2 hu2 HBK
  go_wp2_with fail
  refine (sync_any _ Q 0 _ ⟨_, rfl, HU2.out⟩ ⟨by omega, by omega, by omega⟩).mono ?_
  rintro e w3 ⟨⟨u3, rfl, hu3, hf3⟩, hb3⟩
  obtain ⟨a3, c3, rfl, -⟩ := id hu3
  have hx3 := HX2.out.down hb3
  obtain ⟨c0, c1, f0, f1⟩ := hx3.two
  have hz3 := hx3.2.2
  have hf4 : ∀ k, (Value.slice a3 Q.length c3).ownBlock = some k → k ≠ w2.heap.size := fun k hk => by have := hf3 k hk; simp at this; omega
  have HX3 := Lib.hid hx3; have HU3 := Lib.hid hu3; have HB3 := Lib.hid (bt HB2.out hb3); have HF4 := Lib.hid hf4
  clear hx3 hu3 hb3 hf3 hf4 HX2 HU2 HB2
  go_wp2_with fail
  obtain ⟨R, hR⟩ : ∃ R, R = w2.heap.size := ⟨_, rfl⟩
  rw [← hR] at HX3 HF4 hz20 c0 c1 f0 f1 hz3 ⊢
  clear hR c0 c1 f0 f1 hz3
  have HF : Hid (∀ j (h : j < bs.length) (wr : World), Below w1.heap.size w1 wr → ∃ g, Gb = some ⟨g, 0, none⟩ ∧ BatIn wr g (j * 2) bs[j]) := by
    intro j h wr hb
    obtain ⟨G, cap, e, _, hc⟩ := HBS1.out
    cases e
    obtain ⟨g, hG, hg, a0⟩ := hc j bs[j] (List.getElem?_eq_getElem h)
    exact ⟨g, hG, a0.down hb⟩
  go_loopw [13] (fun i wr => ∃ (j : Nat) (u : Value), k ≤ j ∧ j ≤ bs.length ∧ i = .int .i64 j ∧ Below w1.heap.size w1 wr ∧ Has wr R [u, .int .i64 Q.length] ∧ Bytes wr u (tapeL (bs.take j)) ∧ (∀ k, u.ownBlock = some k → k ≠ R)) (fun i _ => bs.length - (intOf i).toNat)
  case atStart =>
    exact ⟨k, _, Nat.le_refl _, hkb, rfl, (HB3.out.setCell (p := ⟨R, 0, none⟩) hz20 _).setCell (p := ⟨R, 1, none⟩) hz20 _, (HX3.out.set' (i := 0) _ (by simp)).set' (i := 1) _ (by simp), by rw [← HQ.out]; exact (HU3.out.set2 HF4.out).set2 HF4.out, HF4.out⟩
  case round =>
    obtain ⟨j, u, hkj, hj, rfl, hbel, ht, hu, hne⟩ := hrel
    clear HX3 HU3 HB3 HF4
    by_cases hlt : j < bs.length
    · obtain ⟨g, hG, d1⟩ := HF.out j hlt wr hbel
      have hgood := HG.out bs[j] (List.getElem_mem _)
      have htk := tape_take bs j hlt
      have htl := tape_len_take bs (j + 1)
      have hfp := frameL_pos bs[j]
      have hQj : Q.length ≤ (tapeL (bs.take j)).length := by
        have := tape_len_take (bs.take j) k
        rwa [List.take_take, Nat.min_eq_left hkj, ← HQ.out] at this
      generalize bs[j] = b at d1 hgood htk hfp
      have hfp' : (frameL (b.1, b.2)).length = (frameL b).length := rfl
      rw [htk, List.length_append] at htl
      have hDl3 := HD.out
      obtain ⟨L, hL⟩ : ∃ L, L = tapeL (bs.take j) := ⟨_, rfl⟩
      rw [← hL] at hu htk htl hQj
      rw [← hDl3] at htl
      obtain ⟨v1, m0, m1, e1⟩ := d1
      have hdr := Below.drew (Below.refl wr.heap.size wr)
      have hA : Hid (∀ w', Below wr.heap.size wr w' → Calls Tryd.prog 21 #[.agg #[u, .int .i64 Q.length], .agg #[.int .i64 b.1, v1]] w' (AppPost w' (L ++ frameL b) Q.length)) :=
        fun w' hb => append_any _ v1 L Q.length b.1 b.2 m w' ⟨u, rfl, hu.down hb⟩ ⟨by omega, by omega, by omega⟩ (e1.down hb) hgood (by omega) (moved HM1.out (bt hbel hb) (Nat.le_refl _))
      have hz := ht.2.2
      obtain ⟨c0, c1, f0, f1⟩ := ht.two
      obtain ⟨D', hD'⟩ : ∃ D', D' = L ++ frameL b := ⟨_, rfl⟩
      rw [← hD'] at hA htk
      obtain ⟨ua, uc, hu1, -⟩ := hu
      subst hu1
      have HB := Lib.hid hbel; have HT := Lib.hid ht; have HTK := Lib.hid htk
      subst hG
      clear e1 hbel ht htk htl hL hgood hfp hfp' hne hD' hDl3
      have hda := ba (Below.refl wr.heap.size wr) (.cells #[.slice none 0 0, .int .i64 0] 42)
      have m0a := moved m0 hda (Nat.le_refl _); have m1a := moved m1 hda (Nat.le_refl _); have c0a := moved c0 hda (Nat.le_refl _); have c1a := moved c1 hda (Nat.le_refl _)
      have hH : Hid (∀ w' : World, Has (w'.alloc (.cells #[.slice none 0 0, .int .i64 0] 42)) w'.heap.size [.slice none 0 0, .int .i64 0]) := fun w' => Has.alloc w' [.slice none 0 0, .int .i64 0] 42
      clear hda
      go_upto_region 9 with fail
      go_cut [14, 15] (TapeNewF D' Q.length wr)
      case first =>
        go_region_with (go_at_call 21; refine (hA.out _ (by first | exact hdr | exact ba hdr _)).mono ?_; rintro e w3 ⟨⟨u3, rfl, hu3, hf3⟩, hb3⟩; have hu4 := hu3; obtain ⟨ua3, uc3, rfl, -⟩ := hu4; first | (have kk : Has w3 wr.heap.size [.slice none 0 0, .int .i64 0] := (hH.out wr.drew).down hb3; obtain ⟨k0, k1, k2, k3⟩ := kk.two) | (have kk := trivial))
        all_goals
          go_wp2_with fail
          go_meet
          case rel => first
            | exact tape_newF hu3 hf3 (hdr.trans hb3)
            | exact tape_atF (Nat.le_refl _) kk hu3 (fun k e => by simpa using hf3 k e) (bt (ba hdr _) hb3)
      case rest =>
        obtain ⟨R3, a3, c3, rfl, rfl, hR3, hx, hu3, hb3, hf3⟩ := hcut
        have ht3 := HT.out.down hb3
        obtain ⟨d0, d1, -, -⟩ := hx.two
        obtain ⟨e0, e1, g0, g1⟩ := ht3.two
        have hsz := hb3.size
        have hRw := HB.out.size
        have HU3 := Lib.hid hu3; have HT3 := Lib.hid ht3; have HB3 := Lib.hid (bt HB.out hb3); have HF3 := Lib.hid hf3
        clear hu3 hx ht3 hb3 hf3 m0 m1 c0 c1 f0 f1 m0a m1a c0a c1a hdr
        go_wp2_with fail
        go_roundw
        case rel => exact ⟨j + 1, _, by omega, by omega, by go_num, (HB3.out.setCell (p := ⟨R, 0, none⟩) hz20 _).setCell (p := ⟨R, 1, none⟩) hz20 _,
          (HT3.out.set' (i := 0) _ (by simp)).set' (i := 1) _ (by simp), by rw [HTK.out]; exact (HU3.out.set2 (fun k e => by have := HF3.out k e; omega)).set2 (fun k e => by have := HF3.out k e; omega), fun k e => by have := HF3.out k e; omega⟩
        case measure => simp [intOf]; omega
    · obtain rfl : j = bs.length := by omega
      rw [List.take_length, ← HD.out] at hu
      obtain ⟨ua, uc, rfl, -⟩ := id hu
      have HU := Lib.hid hu; have HT := Lib.hid ht; have HB := Lib.hid hbel; have HNE := Lib.hid hne
      obtain ⟨c0, c1, f0, f1⟩ := ht.two
      have hdr := Below.drew (Below.refl wr.heap.size wr)
      have hsw := hbel.size
      have hRz := ht.2.2
      clear hu ht hbel hne HF hkj hj hlt
      go_upto_region 13 with fail
      go_cut [16] (TapeSet R C C.length wr R)
      case first =>
        go_region_with (first
          | (go_at_call 15; refine (hP.out _).mono ?_; rintro e w4 ⟨rfl, rfl⟩)
          | (go_at_call 20; refine (hCr.out _ _ (HU.out.down hdr)).mono ?_; rintro e w4 ⟨⟨u4, rfl, hu4, hf4⟩, hb4⟩; have hu5 := hu4; obtain ⟨ua4, uc4, rfl, -⟩ := hu5; have kk := (HT.out.down hdr).down hb4; obtain ⟨k0, k1, k2, k3⟩ := kk.two))
        all_goals
          go_wp2_with fail
          go_meet
          case rel =>
            have hne : ∀ k, (Value.slice ua4 C.length uc4).ownBlock = some k → k ≠ R := fun k e => by
              have h9 : wr.heap.size ≤ k := by simpa using hf4 k e
              omega
            have hbk : Below R wr w4 := (hdr.trans hb4).mono (Nat.le_of_lt hRz)
            exact ⟨ua4, uc4, rfl, (kk.set' (i := 0) _ (by simp)).set' (i := 1) (.int .i64 C.length) (by simp), (hu4.set2 hne).set2 hne, (hbk.setCell (p := ⟨R, 0, none⟩) (Nat.le_refl _) _).setCell (p := ⟨R, 1, none⟩) (Nat.le_refl _) _⟩
      case rest =>
        obtain ⟨a4, c4, rfl, hx4, hu4, hb4⟩ := hcut
        have HB4 := Lib.hid (HB.out.trans (hb4.mono hz20)); have HU4 := Lib.hid hu4
        obtain ⟨d0, d1, -, -⟩ := hx4.two
        clear c0 c1 f0 f1 hdr hx4 hu4 hb4 HT HU HB hCr
        go_wp2_with fail
        refine (recover_any _ C C.length m _ ⟨_, rfl, HU4.out⟩ ⟨by omega, by omega, by omega⟩ (moved HM1.out HB4.out (Nat.le_refl _))).mono ?_
        rintro e w5 ⟨⟨bs5, rest5, v5, tv5, rfl, hr5, hbs5, ⟨u5, rfl, hu5⟩⟩, hb5⟩
        obtain ⟨rfl, rfl⟩ := Rec.unique hr5 HREC.out
        have hEE := HE.out
        rw [← hEE] at hu5 ⊢
        rw [show min (C.length : Int) (E.length : Int) = E.length by omega]
        obtain ⟨a5, c5, rfl, -⟩ := id hu5
        have hA5 := ba (Below.refl w5.heap.size w5) (.cells #[.slice a5 E.length c5, .int .i64 E.length] 42)
        have hb5' := bt hb5 hA5
        have HX5 := Lib.hid (Has.alloc w5 [.slice a5 E.length c5, .int .i64 E.length] 42); have HGT5 := Lib.hid (hbs5.down hA5)
        have HB5 := Lib.hid (bt HB4.out hb5')
        obtain ⟨G5, cg5, rfl, -⟩ := id hbs5
        have HBS5 := Lib.hid (HBS1.out.down HB5.out)
        clear hA5 hb5 hb5' hu5 hbs5 hr5 d0 d1 HU4 HB4 hEE HREC
        have q1 : decide ((k : Int) ≤ bs5.length) = true := decide_eq_true (by omega)
        have q2 : decide ((Q.length : Int) ≤ E.length) = true := decide_eq_true (by omega)
        go_wp2_with fail
        refine (begins_any _ _ bs5 bs _ HGT5.out HBS5.out hpre.out HG3.out (by omega)).mono ?_
        rintro e w6 ⟨rfl, hb6⟩
        obtain ⟨c0, c1, -, -⟩ := (HX5.out.down hb6).two
        have HB6 := Lib.hid (bt HB5.out hb6)
        clear hb6 HX5 HGT5
        rcases hk0 with rfl | hq
        · go_wp2_with fail
          go_ret
          exact ⟨rfl, bt HB1.out HB6.out⟩
        · have q4 : decide ((0 : Int) < Q.length) = true := decide_eq_true (by omega)
          by_cases hk : k = 0
          · subst hk
            go_wp2_with fail
            go_ret
            exact ⟨rfl, bt HB1.out HB6.out⟩
          · have q3 : ((k : Int) == 0) = false := by simp; omega
            clear hk
            go_wp2_with fail
            go_ret
            exact ⟨rfl, bt HB1.out HB6.out⟩
end Go.Proofs.YtdobigkhilimlaaDoor
