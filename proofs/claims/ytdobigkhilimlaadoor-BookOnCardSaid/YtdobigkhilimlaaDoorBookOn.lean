/-
  DERIVED. BookOn: the walk.
-/
import Derived.Test.YtdobigkhilimlaaDoorBooks
import Derived.Test.YtdobigkhilimlaaDoorBatchBack
import Derived.Deep.RegionHeld3
import Derived.IntWalk
namespace Go.Proofs.YtdobigkhilimlaaDoor
open Go.RowKit

/-- what stands behind a call that answers a tape into a variable that there is -/
def TapeSet (R : Nat) (D : List UInt8) (s : Int) (wr : World) (B : Nat) (e : Value) (wx : World) : Prop := ∃ (a : Option Addr) (c : Nat), e = .int .i64 0 ∧ Has wx R [.slice a D.length c, .int .i64 s] ∧ Bytes wx (.slice a D.length c) D ∧ Below B wr wx

set_option maxHeartbeats 8000000 in
set_option maxRecDepth 20000 in
theorem bookOn_walk (a : Option Addr) (cap : Nat) (cs : List Raw) (keep : Int) (a' : Option Addr) (cap' : Nat) (cs' : List Raw) (m : Int) (w : World) (h : RawsAt w a cs) (hlen : cs.length ≤ 9223372036854775807) (hcap : cs.length ≤ cap) (hu : Int64 keep)
    (h' : RawsAt w a' cs') (hlen' : cs'.length ≤ 9223372036854775807) (hm : w.cell? ⟨0, 0, none⟩ = some (.int .i64 m)) :
    Calls Tryd.prog 7 #[.slice a cs.length cap, .int .i64 keep, .slice a' cs'.length cap'] w fun e w' => e = .returned (.bool true) ∧ Below w.heap.size w w' := by
  have hB := Lib.hid (batchesOf_any a cap cs w h hlen hcap)
  have hpk := pick_lt keep 600 (by omega)
  have hP : Hid (∀ w, Calls Tryd.prog 15 #[.int .i64 keep, .int .i64 600] w fun e w' => e = .returned (.int .i64 (pick keep (600 : Nat))) ∧ w = w') := fun w => picked_any keep 600 w hu.1 hu.2 (by omega) (by omega)
  obtain ⟨p, hp⟩ : ∃ p, p = pick keep (600 : Nat) := ⟨_, rfl⟩
  rw [← hp] at hP hpk
  have hN : Hid (∀ w', Below w.heap.size w w' → Calls Tryd.prog 10 #[.slice a' cs'.length cap', .int .i64 1] w' fun e w'' => (∃ v, e = .returned (.agg #[.int .i64 1, v]) ∧ EntsAt w'' v (batchXs cs')) ∧ Below w'.heap.size w' w'') := by
    intro w' hb
    have := batchOf_any a' cap' cs' 1 w' (fun i c hc => by obtain ⟨g, off, h1, h2, h3⟩ := h' i c hc; exact ⟨g, off, h1, Nat.lt_of_lt_of_le h2 hb.size, h3.down hb⟩) hlen' ⟨by omega, by omega⟩
    rw [show pick 1 (3 : Nat) = 1 by decide] at this
    exact this
  have hgb : GoodB (1, batchXs cs') := batchXs_good cs' 1 (by omega)
  obtain ⟨xs, hxs⟩ : ∃ xs, xs = batchXs cs' := ⟨_, rfl⟩
  rw [← hxs] at hN hgb
  have hfl : (frameL (1, xs)).length ≤ 21303 := by have h1 := hgb.len; rw [frameL_len]; omega
  have hxl : xs.length ≤ 1000 := by obtain ⟨_, g2, _⟩ := bcheck_inv hgb; have : xs.length ≤ 10 := g2.2; omega
  have HGB := Lib.hid hgb
  have HM := Lib.hid hm
  clear hm h hp h' hgb hxs
  go_enter Tryd.func7, Tryd.ntmps7
  go_wp2_with fail
  refine hB.out.mono ?_
  rintro e w1 ⟨⟨vb, bs, rfl, hbs, hbl, hok⟩, hb1⟩
  obtain ⟨hgood, hDl, hg2⟩ := bats_known hok hbl
  obtain ⟨D, hD⟩ : ∃ D, D = tapeL bs := ⟨_, rfl⟩
  have hT : Hid (∀ v w', BatsAt w' v bs → w'.cell? ⟨0, 0, none⟩ = some (.int .i64 m) → Calls Tryd.prog 17 #[v] w' fun e w'' => (∃ a c, e = .returned (.tuple #[.agg #[.slice a D.length c, .int .i64 0], .bool true]) ∧ Bytes w'' (.slice a D.length c) D) ∧ Below w'.heap.size w' w'') := by
    intro v w' h hm
    refine (taped_any v bs m w' h hgood (by omega) (by omega) hm).mono ?_
    rintro e w'' ⟨⟨v, rfl, u, rfl, hu⟩, hb⟩
    rw [← hD] at hu
    obtain ⟨a, c, rfl, -⟩ := id hu
    exact ⟨⟨a, c, rfl, hu⟩, hb⟩
  obtain ⟨k, hk⟩ : ∃ k, k = 0 + min p (D.length - 0) := ⟨_, rfl⟩
  have hkD : k ≤ D.length := by omega
  obtain ⟨j, rest, hj, hrec, -, -⟩ := rec_torn bs k hgood (by rw [← hD]; exact hkD)
  rw [← hD] at hDl hrec
  have hlk : (D.take k).length = k := by rw [List.length_take]; omega
  obtain ⟨C, hC⟩ : ∃ C, C = D.take k := ⟨_, rfl⟩
  have hCr : Hid (∀ w' u, Bytes w' u D → Calls Tryd.prog 20 #[.agg #[u, .int .i64 0], .int .i64 p] w' (AppPost w' C C.length)) := by
    intro w' u hu
    have := crash_any (.agg #[u, .int .i64 0]) D 0 p w' ⟨_, rfl, hu⟩ ⟨by omega, by omega, by omega⟩ (by omega)
    rw [← hk, ← hC] at this
    rw [hC, hlk, ← hC]
    exact this
  rw [← hC] at hrec hlk
  obtain ⟨gs, hgs⟩ : ∃ gs, gs = bs.take j := ⟨_, rfl⟩
  rw [← hgs] at hrec
  have hgg : ∀ b ∈ gs, GoodB b := fun b hb => hgood b (by rw [hgs] at hb; exact List.mem_of_mem_take hb)
  have hrec2 : Hid (Rec (tapeL gs ++ frameL (1, xs)) (gs ++ [(1, xs)]) []) := by
    rw [← tapeL_one, ← tapeL_append]
    refine Rec.whole (fun x hx => ?_)
    rcases List.mem_append.1 hx with hx | hx
    · exact hgg x hx
    · obtain rfl := List.mem_singleton.1 hx; exact HGB.out
  have HG3 : Hid (∀ b ∈ gs, b.1 < 1000000 ∧ b.2.length ≤ 1000) := fun b hb => hg2 b (by rw [hgs] at hb; exact List.mem_of_mem_take hb)
  have hgl : gs.length ≤ 26 := by rw [hgs, List.length_take]; omega
  obtain ⟨E, hE⟩ : ∃ E, E = tapeL gs := ⟨_, rfl⟩
  have hlE : E.length ≤ C.length := by
    have := congrArg List.length hrec.1
    rw [List.length_append, ← hE] at this
    omega
  have hCD : C.length ≤ 25168 := by omega
  rw [← hE] at hrec2
  have HREC := Lib.hid hrec; have HE := Lib.hid hE
  clear hok hgood hg2 hD hk hrec hgs hE hj hC hgg hlk hkD
  obtain ⟨Gb, cb, rfl, hcb, -⟩ := id hbs
  have HBS1 := Lib.hid hbs; have HB1 := Lib.hid hb1
  clear hbs hb1
  go_wp2_with fail
  refine (hT.out _ _ HBS1.out (moved HM.out HB1.out (Nat.le_refl _))).mono ?_
  rintro e w2 ⟨⟨a2, c2, rfl, hu2⟩, hb2⟩
  have hA2 := ba (Below.refl w2.heap.size w2) (.cells #[.slice a2 D.length c2, .int .i64 0] 42)
  have hb2' := bt hb2 hA2
  have hX2 := Has.alloc w2 [.slice a2 D.length c2, .int .i64 0] 42
  have hU2 := hu2.down hA2
  have hB2 := bt HB1.out hb2'
  have hz20 : w.heap.size ≤ w2.heap.size := (bt HB1.out hb2).size
  clear hA2 hb2 hb2' hu2 HBS1 HB1
  go_upto_region 2 with fail
  obtain ⟨W2, hW2⟩ : ∃ W2, W2 = w2.alloc (.cells #[.slice a2 D.length c2, .int .i64 0] 42) := ⟨_, rfl⟩
  have hz2 : w2.heap.size < W2.heap.size := by rw [hW2]; simp
  rw [← hW2] at hX2 hU2 hB2 ⊢
  clear hW2
  have HX2 := Lib.hid hX2; have HU2 := Lib.hid hU2; have HB2 := Lib.hid hB2
  clear hX2 hU2 hB2
  obtain ⟨c0, c1, f0, f1⟩ := HX2.out.two
  have hdr := Below.drew (Below.refl W2.heap.size W2)
  go_cut [9] (TapeSet w2.heap.size C C.length W2 w2.heap.size)
  case first =>
    go_region_with (first
      | (go_at_call 15; refine (hP.out _).mono ?_; rintro e w4 ⟨rfl, rfl⟩)
      | (go_at_call 20; refine (hCr.out _ _ (HU2.out.down hdr)).mono ?_; rintro e w4 ⟨⟨u4, rfl, hu4, hf4⟩, hb4⟩; have hu5 := hu4; obtain ⟨ua4, uc4, rfl, _⟩ := hu5; have kk := (HX2.out.down hdr).down hb4; obtain ⟨k0, k1, k2, k3⟩ := kk.two))
    all_goals
      go_wp2_with fail
      go_meet
      case rel =>
        have hne : ∀ k, (Value.slice ua4 C.length uc4).ownBlock = some k → k ≠ w2.heap.size := fun k e => by
          have h9 : W2.heap.size ≤ k := by simpa using hf4 k e
          omega
        have hbk : Below w2.heap.size W2 w4 := (hdr.trans hb4).mono (Nat.le_of_lt hz2)
        exact ⟨ua4, uc4, rfl, (kk.set' (i := 0) _ (by simp)).set' (i := 1) (.int .i64 C.length) (by simp), (hu4.set2 hne).set2 hne, (hbk.setCell (p := ⟨w2.heap.size, 0, none⟩) (Nat.le_refl _) _).setCell (p := ⟨w2.heap.size, 1, none⟩) (Nat.le_refl _) _⟩
  case rest =>
    obtain ⟨a4, c4, rfl, hx4, hu4, hb4⟩ := hcut
    have HB4 := Lib.hid ((HB2.out.trans (hb4.mono hz20))); have HU4 := Lib.hid hu4
    obtain ⟨d0, d1, -, -⟩ := hx4.two
    clear c0 c1 f0 f1 hdr hx4 hu4 hb4 HX2 HU2 HB2 hCr
    go_wp2_with fail
    refine (recover_any _ C C.length m _ ⟨_, rfl, HU4.out⟩ ⟨by omega, by omega, by omega⟩ (moved HM.out HB4.out (Nat.le_refl _))).mono ?_
    rintro e w5 ⟨⟨bs5, rest5, v5, tv5, rfl, hr5, hbs5, ⟨u5, rfl, hu5⟩⟩, hb5⟩
    obtain ⟨rfl, rfl⟩ := Rec.unique hr5 HREC.out
    have hEE := HE.out
    rw [← hEE] at hu5 ⊢
    rw [show min (C.length : Int) (E.length : Int) = E.length by omega]
    obtain ⟨a5, c5, rfl, -⟩ := id hu5
    have hA5 := ba (Below.refl w5.heap.size w5) (.cells #[.slice a5 E.length c5, .int .i64 E.length] 42)
    have hb5' := bt hb5 hA5
    have HX5 := Lib.hid (Has.alloc w5 [.slice a5 E.length c5, .int .i64 E.length] 42); have HU5 := Lib.hid (hu5.down hA5); have HGT5 := Lib.hid (hbs5.down hA5)
    have HB5 := Lib.hid (bt HB4.out hb5')
    obtain ⟨G5, cg5, rfl, -⟩ := id hbs5
    clear hA5 hb5 hb5' hu5 hbs5 hr5 d0 d1 HU4 HB4 hEE HREC
    go_wp2_with fail
    refine (hN.out _ HB5.out).mono ?_
    rintro e w6 ⟨⟨v6, rfl, he6⟩, hb6⟩
    obtain ⟨G6, c6, rfl⟩ := he6.slice
    have hA6 := ba (Below.refl w6.heap.size w6) (.cells #[.int .i64 1, .slice G6 xs.length c6] 25)
    have hb6' := bt hb6 hA6
    have HX6 := Lib.hid (HX5.out.down hb6'); have HU6 := Lib.hid (HU5.out.down hb6'); have HGT6 := Lib.hid (HGT5.out.down hb6'); have HB6 := Lib.hid (bt HB5.out hb6')
    have HY6 := Lib.hid (Has.alloc w6 [.int .i64 1, .slice G6 xs.length c6] 25); have HE6 := Lib.hid (he6.down hA6)
    clear hA6 hb6 hb6' he6 HX5 HU5 HGT5 HB5
    obtain ⟨d0, d1, -, -⟩ := HX6.out.two
    obtain ⟨e0, e1, -, -⟩ := HY6.out.two
    go_wp2_with fail
    refine (append_any _ _ E E.length 1 xs m _ ⟨_, rfl, HU6.out⟩ ⟨by omega, by omega, by omega⟩ HE6.out HGB.out (by omega) (moved HM.out HB6.out (Nat.le_refl _))).mono ?_
    rintro e w7 ⟨⟨u7, rfl, hu7, -⟩, hb7⟩
    obtain ⟨F, hF⟩ : ∃ F, F = E ++ frameL (1, xs) := ⟨_, rfl⟩
    have hFl : F.length ≤ 50000 := by rw [hF, List.length_append]; omega
    have hEF : E.length ≤ F.length := by rw [hF, List.length_append]; omega
    rw [← hF] at hu7 hrec2
    obtain ⟨a7, c7, rfl, -⟩ := id hu7
    have hA7 := ba (Below.refl w7.heap.size w7) (.cells #[.slice a7 F.length c7, .int .i64 E.length] 42)
    have hb7' := bt hb7 hA7
    have HGT7 := Lib.hid (HGT6.out.down hb7'); have HB7 := Lib.hid (bt HB6.out hb7'); have HY7 := Lib.hid (HY6.out.down hb7'); have HE7 := Lib.hid (HE6.out.down hb7')
    have HU7 := Lib.hid (hu7.down hA7)
    clear hA7 hb7 hb7' hu7 d0 d1 e0 e1 HX6 HU6 HGT6 HB6 HY6 HE6 hF
    go_wp2_with fail
    refine (recover_any _ F E.length m _ ⟨_, rfl, HU7.out⟩ ⟨by omega, by omega, by omega⟩ (moved HM.out HB7.out (Nat.le_refl _))).mono ?_
    rintro e w8 ⟨⟨bs8, rest8, v8, tv8, rfl, hr8, hbs8, ⟨u8, rfl, hu8⟩⟩, hb8⟩
    obtain ⟨rfl, rfl⟩ := Rec.unique hr8 hrec2.out
    obtain ⟨a8, c8, rfl, -⟩ := id hu8
    obtain ⟨T8, hT8⟩ : ∃ T8, T8 = tapeL (bs5 ++ [(1, xs)]) := ⟨_, rfl⟩
    rw [← hT8]
    obtain ⟨S8, hS8⟩ : ∃ S8, S8 = min (E.length : Int) (T8.length : Int) := ⟨_, rfl⟩
    rw [← hS8]
    have hA8 := ba (Below.refl w8.heap.size w8) (.cells #[.slice a8 T8.length c8, .int .i64 S8] 42)
    have hb8' := bt hb8 hA8
    have HGT8 := Lib.hid (HGT7.out.down hb8'); have HB8 := Lib.hid (bt HB7.out hb8'); have HY8 := Lib.hid (HY7.out.down hb8'); have HE8 := Lib.hid (HE7.out.down hb8')
    have HA8 := Lib.hid (hbs8.down hA8)
    obtain ⟨bs8, hbs8e⟩ : ∃ bs8, bs8 = bs5 ++ [(1, xs)] := ⟨_, rfl⟩
    have hlast : Hid (bs8[bs5.length]? = some (1, xs)) := by unfold Hid; rw [hbs8e]; simp
    have hpre : Hid (bs5 <+: bs8) := by unfold Hid; rw [hbs8e]; exact List.prefix_append _ _
    have hl8 : bs8.length = bs5.length + 1 := by rw [hbs8e]; simp
    have q8 : ((bs8.length : Int) == (bs5.length : Int) + 1) = true := by simp; omega
    have hlt8 : bs5.length < bs8.length := by omega
    have hle8 : bs8.length ≤ 1000 := by omega
    have s8 : IntKind.i64.wrap ((bs5.length : Int) + 1) = (bs5.length : Int) + 1 := IntWalk.i64_in _ (by omega)
    have HS8 := Lib.hid s8; clear s8
    clear hl8
    rw [← hbs8e] at HA8 hbs8
    obtain ⟨G8, cg8, rfl, -, hc8⟩ := id hbs8
    obtain ⟨g8, rfl, hg8, hin8⟩ := hc8 _ _ hlast.out
    obtain ⟨v9, n0, n1, he9⟩ := hin8.down hA8
    obtain ⟨G9, cg9, rfl⟩ := he9.slice
    have HIN8 := Lib.hid (hin8.down hA8); have HE9 := Lib.hid he9
    obtain ⟨x0, x1, -, -⟩ := HY8.out.two
    clear hA8 hb8 hb8' hu8 hbs8 hr8 hT8 hS8 hbs8e hc8 hin8 HGT7 HB7 HY7 HE7 hrec2 HU7 he9
    go_wp2_with fail
    obtain ⟨W8, hW8⟩ : ∃ W8, W8 = w8.alloc (.cells #[.slice a8 T8.length c8, .int .i64 S8] 42) := ⟨_, rfl⟩
    rw [← hW8] at HGT8 HB8 HY8 HE8 HA8 HIN8 HE9 n0 n1 x0 x1 ⊢
    clear hW8
    clear HGB hN hB hP hT HM hlen hcap hu hlen' hpk hfl hbl hDl hcb hz2 hz20 hlE hCD hgl hFl hEF hg8 HIN8
    have hdr8 := Below.drew (Below.refl W8.heap.size W8)
    have s8 := HS8.out
    go_region_held3 (fun w' => w'.cell? ⟨g8, bs5.length * 2, none⟩ = some (.int .i64 1) ∧ w'.cell? ⟨g8, bs5.length * 2 + 1, none⟩ = some (.slice G9 xs.length cg9) ∧ w'.cell? ⟨w6.heap.size, 0, none⟩ = some (.int .i64 1) ∧ w'.cell? ⟨w6.heap.size, 1, none⟩ = some (.slice G6 xs.length c6)) (first | exact ⟨n0, n1, x0, x1⟩ | exact ⟨n0', n1', x0', x1'⟩ | exact ⟨n0'', n1'', x0'', x1''⟩) (first
      | (go_at_call 19; refine (begins_any _ _ bs5 bs8 _ (HGT8.out.down hdr8) (HA8.out.down hdr8) hpre.out HG3.out (by omega)).mono ?_; rintro e w9 ⟨rfl, hb9⟩; have n0' := moved (w := W8.drew) n0 hb9 (Nat.le_refl _); have n1' := moved (w := W8.drew) n1 hb9 (Nat.le_refl _); have x0' := moved (w := W8.drew) x0 hb9 (Nat.le_refl _); have x1' := moved (w := W8.drew) x1 hb9 (Nat.le_refl _))
      | (go_at_call 13; refine (sameBatch_any 1 xs _ _ _ ((HE9.out.down hdr8).down hb9) ((HE8.out.down hdr8).down hb9) (by omega) hxl).mono ?_; rintro e w10 ⟨rfl, hb10⟩; have n0'' := moved n0' hb10 (Nat.le_refl _); have n1'' := moved n1' hb10 (Nat.le_refl _); have x0'' := moved x0' hb10 (Nat.le_refl _); have x1'' := moved x1' hb10 (Nat.le_refl _)))
    all_goals
      go_wp2_with fail
      go_ret
      exact ⟨rfl, bt (bt (bt HB8.out hdr8) hb9) hb10⟩
end Go.Proofs.YtdobigkhilimlaaDoor
