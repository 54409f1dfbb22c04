/-
  DERIVED. The law LineLarge: its plain side and its walk.
-/
import Derived.Test.YtpekkebmdhpbeaaDoorReady
import Derived.Test.YtpekkebmdhpbeaaDoorRows2
import Derived.Deep.QuietTactic
import Derived.BigQuiet
namespace Go.Proofs.YtpekkebmdhpbeaaDoor
open Go.RowKit

/-- behind i lines of k bytes each: the text that is kept -/
def lrgT (k i : Nat) : List UInt8 := (List.replicate (min i (2000 / (k + 2))) (List.replicate k 0 ++ [13, 10])).flatten
def lrgS (f t : Ad) (k i : Nat) : Ses := ⟨4, f, [t], lrgT k i, decide (2000 / (k + 2) < i)⟩
theorem lrgT_len (k i : Nat) : (lrgT k i).length = min i (2000 / (k + 2)) * (k + 2) := by
  unfold lrgT
  simp
theorem lrgT_le (k i : Nat) : (lrgT k i).length ≤ 2000 := by
  rw [lrgT_len]
  exact Nat.le_trans (Nat.mul_le_mul_right _ (Nat.min_le_right _ _)) (Nat.div_mul_le_self _ _)
theorem lrg_room (k i : Nat) : i ≤ 2000 / (k + 2) ↔ i * (k + 2) ≤ 2000 := Nat.le_div_iff_mul_le (by omega)
theorem lrg_next (f t : Ad) (k i : Nat) (hk : 1 ≤ k) (known : List (List UInt8)) : lineS (lrgS f t k i) known (List.replicate k 0) = (lrgS f t k (i + 1), 0, []) := by
  have hne : List.replicate k (0 : UInt8) ≠ [46] := by
    intro e
    have : (0 : UInt8) ∈ [(46 : UInt8)] := by rw [← e]; exact List.mem_replicate.2 ⟨by omega, rfl⟩
    simp at this
  have hh : ¬ (List.replicate k (0 : UInt8)).head? = some 46 := by
    intro e
    have := List.mem_of_mem_head? e
    rw [List.mem_replicate] at this
    exact absurd this.2 (by decide)
  rw [lineB rfl hne]
  have hl := lrgT_len k i
  have hr := lrg_room k (i + 1)
  unfold bodyS
  simp only [if_neg hh]
  have hb : ((lrgS f t k i).large || decide (2000 < (lrgS f t k i).text.length + (List.replicate k (0 : UInt8)).length + 2)) = decide (2000 / (k + 2) < i + 1) := by
    show (decide (2000 / (k + 2) < i) || decide (2000 < (lrgT k i).length + (List.replicate k (0 : UInt8)).length + 2)) = _
    rw [hl, List.length_replicate, ← Bool.decide_or]
    rw [decide_eq_decide]
    by_cases h1 : i < 2000 / (k + 2)
    · rw [Nat.min_eq_left (by omega)]
      have := hr.1 (by omega)
      rw [Nat.add_mul] at this
      omega
    · rw [Nat.min_eq_right (by omega)]
      have h2 : ¬ (2000 / (k + 2) + 1) * (k + 2) ≤ 2000 := fun h => by
        have := (lrg_room k (2000 / (k + 2) + 1)).2 h
        omega
      rw [Nat.add_mul] at h2
      omega
  rw [hb]
  by_cases h1 : i < 2000 / (k + 2)
  · rw [if_neg (by rw [decide_eq_true_eq]; omega)]
    have ht : lrgT k (i + 1) = lrgT k i ++ List.replicate k 0 ++ [13, 10] := by
      unfold lrgT
      rw [Nat.min_eq_left (by omega), Nat.min_eq_left (by omega), List.replicate_succ', List.flatten_append, List.append_assoc]
      simp
    unfold lrgS
    rw [ht]
  · rw [if_pos (by rw [decide_eq_true_eq]; omega)]
    have ht : lrgT k (i + 1) = lrgT k i := by
      unfold lrgT
      rw [Nat.min_eq_right (by omega), Nat.min_eq_right (by omega)]
    unfold lrgS
    rw [ht]
theorem lrg_good (l d l' d' : List UInt8) (k i : Nat) : GoodSes (lrgS (zAd l d) (zAd l' d') k i) := by
  have h := rdy_good l d l' d' 4
  exact ⟨h.step, h.some', lrgT_le k i, h.frm, h.rcp, h.ok, h.names, fun e => absurd rfl e⟩
theorem lrg_zero (f t : Ad) (k : Nat) : lrgS f t k 0 = rdyS f t 4 := by
  unfold lrgS lrgT
  rw [Nat.zero_min, show decide (2000 / (k + 2) < 0) = false from decide_eq_false (Nat.not_lt_zero _)]
  rfl
set_option maxHeartbeats 4000000 in
set_option maxRecDepth 20000 in
theorem lineLarge_walk (a0 a1 a2 b0 b1 b2 : ByteArray) (G : Option Addr) (n c : Nat) (x : Nat → Nat → ByteArray) (bo : ByteArray) (zn zl : Int) (m : Int) (w : World) (h0 : a0.size ≤ maxLen) (h1 : a1.size ≤ maxLen) (_h2 : a2.size ≤ maxLen) (k0 : b0.size ≤ maxLen) (k1 : b1.size ≤ maxLen) (_k2 : b2.size ≤ maxLen) (_hx : StrRows w G n 2 x ∧ n ≤ maxLen) (_hbo : bo.size ≤ maxLen) (hzn : -9223372036854775808 ≤ zn ∧ zn ≤ 9223372036854775807) (hzl : -9223372036854775808 ≤ zl ∧ zl ≤ 9223372036854775807) (hm : w.cell? ⟨0, 0, none⟩ = some (.int .i64 m)) :
    Calls Tryd.prog 5 #[.agg #[.string a0, .string a1, .string a2, .string b0, .string b1, .string b2, .slice G n c, .string bo], .int .i64 zn, .int .i64 zl] w fun e w' => e = .returned (.bool true) ∧ Below w.heap.size w w' := by
  clear _hx
  have hA := ba (Below.refl w.heap.size w) (.cells #[.string a0, .string a1, .string a2, .string b0, .string b1, .string b2, .slice G n c, .string bo] 26)
  have hRD := ready_any a0 a1 a2 b0 b1 b2 G n c bo m (w.alloc (.cells #[.string a0, .string a1, .string a2, .string b0, .string b1, .string b2, .slice G n c, .string bo] 26)) h0 h1 k0 k1 (moved hm hA (Nat.le_refl _))
  have HPN : Hid (∀ w, Calls Tryd.prog 11 #[.int .i64 zn, .int .i64 60] w fun e w' => e = .returned (.int .i64 (pick zn (60 : Nat))) ∧ w = w') := fun w => picked_any zn 60 w hzn.1 hzn.2 (by omega) (by omega)
  have HPL : Hid (∀ w, Calls Tryd.prog 11 #[.int .i64 zl, .int .i64 200] w fun e w' => e = .returned (.int .i64 (pick zl (200 : Nat))) ∧ w = w') := fun w => picked_any zl 200 w hzl.1 hzl.2 (by omega) (by omega)
  have hk60 := pick_lt zn 60 (by omega)
  have hk200 := pick_lt zl 200 (by omega)
  obtain ⟨mm, hmm⟩ : ∃ k, k = pick zn (60 : Nat) := ⟨_, rfl⟩
  obtain ⟨kl, hkl⟩ : ∃ k, k = pick zl (200 : Nat) := ⟨_, rfl⟩
  rw [← hmm] at HPN hk60
  rw [← hkl] at HPL hk200
  obtain ⟨k, hk⟩ : ∃ k : Nat, k = kl + 1 := ⟨_, rfl⟩
  have hkk : (1 : Int) + (kl : Int) = (k : Int) := by omega
  have hkb : 1 ≤ k ∧ k ≤ 200 := by omega
  have hgood0 := lrg_good a0.data.toList a1.data.toList b0.data.toList b1.data.toList k
  obtain ⟨f, hf⟩ : ∃ f, f = zAd a0.data.toList a1.data.toList := ⟨_, rfl⟩
  obtain ⟨t, ht⟩ : ∃ t, t = zAd b0.data.toList b1.data.toList := ⟨_, rfl⟩
  rw [← hf, ← ht] at hRD hgood0
  have HRD := Lib.hid hRD; have HGOOD := Lib.hid hgood0; have HKK := Lib.hid hkk
  have HA := Lib.hid hA; have HM := Lib.hid hm
  obtain ⟨i0, hi, hz0, hz1, hz2⟩ := info_parts infoU8
  have HI := Lib.hid hi; have HZ0 := Lib.hid hz0; have HZ1 := Lib.hid hz1; have HZ2 := Lib.hid hz2
  obtain ⟨hkb1, hkb2⟩ := hkb
  clear hi hz0 hz1 hz2 hRD hgood0 hkk hk hf ht hkl hmm hm hA hzn hzl
  go_enter Tryd.func5, Tryd.ntmps5
  go_wp2_with fail
  refine HRD.out.mono ?_
  intro e w1 hp
  obtain ⟨⟨G1, c1, rfl, hv1⟩, hb1⟩ := hp
  have hB1 := bt HA.out hb1
  have HB1 := Lib.hid hB1; have HM1 := Lib.hid (moved HM.out hB1 (Nat.le_refl _)); have HV1 := Lib.hid hv1
  clear hb1 hB1 hv1 HRD HA HM
  go_wp2_with fail
  refine (HPL.out _).mono ?_
  rintro e w2 ⟨rfl, rfl⟩
  clear HPL
  go_upto_region 3 with fail
  rw [HKK.out]
  clear hk200
  have hA3 := ba (Below.refl w1.heap.size w1) (.cells #[.int .i64 4, .string ⟨f.1.toArray⟩, .string ⟨f.2.toArray⟩, .slice G1 1 c1, .string ⟨#[]⟩, .bool false] 33)
  have HS3 : Hid (SesAt 0 (w1.alloc (.cells #[.int .i64 4, .string ⟨f.1.toArray⟩, .string ⟨f.2.toArray⟩, .slice G1 1 c1, .string ⟨#[]⟩, .bool false] 33)) w1.heap.size (.slice G1 1 c1) (lrgS f t k 0)) := by
    rw [lrg_zero]
    exact ⟨Has.alloc w1 _ _, (HV1.out.lt.down hA3).mono (fun b hh => ⟨by have := hh.2; omega, Nat.zero_le _⟩)⟩
  have HB3 := Lib.hid (bt HB1.out hA3); have HM3 := Lib.hid (moved HM1.out hA3 (Nat.le_refl _))
  have o2 : w1.heap.size < (w1.alloc (.cells #[.int .i64 4, .string ⟨f.1.toArray⟩, .string ⟨f.2.toArray⟩, .slice G1 1 c1, .string ⟨#[]⟩, .bool false] 33)).heap.size := by simp
  have o3 : w.heap.size ≤ w1.heap.size := HB1.out.size
  have o4 : 0 < w1.heap.size := World.block_lt_of_cell? w1 ⟨0, 0, none⟩ HM1.out
  obtain ⟨W3, hW3⟩ : ∃ W3, W3 = w1.alloc (.cells #[.int .i64 4, .string ⟨f.1.toArray⟩, .string ⟨f.2.toArray⟩, .slice G1 1 c1, .string ⟨#[]⟩, .bool false] 33) := ⟨_, rfl⟩
  rw [← hW3] at HS3 HB3 HM3 o2 ⊢
  obtain ⟨S, hS⟩ : ∃ S, S = w1.heap.size := ⟨_, rfl⟩
  rw [← hS] at HS3 o2 o3 o4 ⊢
  clear hW3 hA3 HV1 HB1 HM1 hS
  go_wp2_with (at_make; refine wpList_make_full _ rfl (.tmp 26) (.tmp 26) 40 rfl W3.heap.size 5 i0 (.int .u8 0) 1 Tryd.underlying40 HI.out HZ0.out HZ1.out .i64 .i64 k k k rfl rfl rfl rfl (by rw [HZ2.out]; omega) (by unfold maxLen; omega) (Nat.le_refl _) ?_; intro w2 hown hgr)
  rw [madeBytes] at hown
  have hown' : OwnB w2 W3.heap.size 5 (.slice (some ⟨W3.heap.size, 0, none⟩) k k) (List.replicate k 0) := by unfold OwnB; rw [List.length_replicate]; exact hown
  have hcv := run_str_own hown' Tryd.underlying40 Tryd.underlying5 Tryd.underlying9
  have hb2 : Below W3.heap.size W3 w2 := (Below.refl _ _).grown hgr (Nat.le_refl _) (fun k h => by cases h)
  have HS2 := Lib.hid (HS3.out.down hb2); have HB2 := Lib.hid (bt HB3.out hb2); have HM2 := Lib.hid (moved HM3.out hb2 (Nat.le_refl _))
  have o2' : S < w2.heap.size := Nat.lt_of_lt_of_le o2 hb2.size
  clear hown hown' hgr hb2 HS3 HB3 HM3 o2
  obtain ⟨L, hL⟩ : ∃ L, L = List.replicate k (0 : UInt8) := ⟨_, rfl⟩
  rw [← hL] at hcv
  have HL := Lib.hid hL
  rw [hcv]
  clear hL
  go_wp2_with fail
  refine (HPN.out _).mono ?_
  rintro e w4 ⟨rfl, rfl⟩
  clear HPN hcv
  go_wp2_with fail
  go_loopw [12] (fun i wr => ∃ j : Nat, j ≤ mm ∧ i = .int .i64 j ∧ SesPost 0 S (lrgS f t k j) w2 wr) (fun i _ => mm - (intOf i).toNat)
  case atStart => exact ⟨0, Nat.zero_le _, rfl, SesPost.of HS2.out (World.grownBy.refl _ _)⟩
  case round =>
    obtain ⟨j, hj, rfl, ⟨v, hs⟩, hg⟩ := hrel
    obtain ⟨Gv, cv, rfl, -⟩ := hs.rcp.form
    have HM := Lib.hid (cell_else hg HM2.out (by omega))
    have HS := Lib.hid hs; have HG := Lib.hid hg
    have hsz : w2.heap.size ≤ wr.heap.size := hg.size
    have hSw : S < wr.heap.size := hs.has.2.2
    clear hs hg
    obtain ⟨c0, c1', c2, c3, c4, c5⟩ := (show SesAt 0 wr S (.slice Gv 1 cv) ⟨4, f, [t], lrgT k j, decide (2000 / (k + 2) < j)⟩ from HS.out).six.six
    by_cases hlt : j < mm
    · have hlc : Calls Tryd.prog 10 #[.agg #[.int .i64 4, .string ⟨f.1.toArray⟩, .string ⟨f.2.toArray⟩, .slice Gv 1 cv, .string ⟨(lrgT k j).toArray⟩, .bool (decide (2000 / (k + 2) < j))], .slice none 0 0, .string ⟨(List.replicate k 0).toArray⟩] wr (LinePost (lrgS f t k (j + 1), 0, []) wr) := by
        rw [← lrg_next f t k j hkb1 []]
        exact line_any (lrgS f t k j) _ _ _ [] (fun _ => True) _ m wr HS.out.rcp (HGOOD.out j) (SAt.nil _ _ _) (by show 0 ≤ 1000; omega) (by rw [List.length_replicate]; omega) HM.out
      have HLC := Lib.hid hlc
      obtain ⟨q', hq'⟩ : ∃ q', q' = lrgS f t k (j + 1) := ⟨_, rfl⟩
      rw [← hq'] at HLC
      have HQ' := Lib.hid hq'
      clear hlc hq'
      obtain ⟨tx, htx⟩ : ∃ tx, tx = lrgT k j := ⟨_, rfl⟩
      rw [← htx] at HLC c4
      obtain ⟨lg, hlg⟩ : ∃ lg, lg = decide (2000 / (k + 2) < j) := ⟨_, rfl⟩
      rw [← hlg] at HLC c5
      rw [← HL.out] at HLC
      clear htx hlg
      go_wp2_with fail
      refine HLC.out.mono ?_
      intro e w4 hp
      obtain ⟨G4, c4', Gl, cl, rfl, hv4, hb4⟩ := hp.form3
      obtain ⟨h4, hp4⟩ := ses_fresh 33 HG.out HS.out (Below.refl _ _) hv4 hb4 o2'
      have HP4 := Lib.hid hp4
      obtain ⟨e0, e1, e2, e3, e4, e5⟩ := h4.six
      obtain ⟨f0, f1, f2, f3, f4, f5⟩ := h4.six_free
      clear HLC hp hv4 hb4 hp4 h4 c0 c1' c2 c3 c4 c5
      go_wp2_with fail
      go_roundw
      case rel => exact ⟨j + 1, by omega, by go_num, by rw [← HQ'.out]; exact HP4.out⟩
      case measure => simp [intOf]; omega
    · obtain rfl : j = mm := by omega
      have hp1 : (lrgT k j).length = min j (2000 / (k + 2)) * (k + 2) := lrgT_len k j
      have hroom := lrg_room k j
      obtain ⟨p, hp⟩ : ∃ p : Nat, p = j * (k + 2) := ⟨_, rfl⟩
      rw [← hp] at hroom
      have hprod : (j : Int) * ((k : Int) + 2) = (p : Int) := by rw [hp]; push_cast; rfl
      have hpb : p ≤ 12120 := by
        have := Nat.mul_le_mul (show j ≤ 60 by omega) (show k + 2 ≤ 202 by omega)
        rw [hp]; omega
      have HE := Lib.hid (below_grown HB2.out HG.out (by omega))
      have HPR := Lib.hid hprod
      by_cases hroom2 : p ≤ 2000
      · have hjq := hroom.2 hroom2
        rw [Nat.min_eq_left hjq, ← hp] at hp1
        have hlg : decide (2000 / (k + 2) < j) = false := decide_eq_false (by omega)
        rw [hlg] at c5
        obtain ⟨tx, htx⟩ : ∃ tx, tx = lrgT k j := ⟨_, rfl⟩
        rw [← htx] at hp1 c4
        have q1 : ((tx.length : Int) == (p : Int)) = true := by rw [hp1]; exact beq_self_eq_true _
        have q2 : decide ((p : Int) ≤ 2000) = true := decide_eq_true (by omega)
        have hp2 : tx.length ≤ 2000 := by omega
        clear hp hp1 hroom hjq hlg htx hprod HGOOD HKK HL hlt c1' c2 c3
        have hprod := HPR.out
        go_wp2_with fail
        go_ret
        exact ⟨rfl, HE.out⟩
      · have hjq : ¬ j ≤ 2000 / (k + 2) := fun h => hroom2 (hroom.1 h)
        rw [Nat.min_eq_right (by omega)] at hp1
        have hlg : decide (2000 / (k + 2) < j) = true := decide_eq_true (by omega)
        have hgd := HGOOD.out j
        have hck : Hid (∀ w', Below wr.heap.size wr w' → Calls Tryd.prog 13 #[.agg #[.int .i64 4, .string ⟨f.1.toArray⟩, .string ⟨f.2.toArray⟩, .slice Gv 1 cv, .string ⟨(lrgT k j).toArray⟩, .bool (decide (2000 / (k + 2) < j))]] w' fun e w'' => e = .returned (.int .i64 0) ∧ Below w'.heap.size w' w'') :=
          fun w' hb => lcheck_any (lrgS f t k j) (.slice Gv 1 cv) _ m w' (HS.out.rcp.down hb) hgd (moved HM.out hb (Nat.le_refl _))
        rw [hlg] at c5 hck
        have hle := lrgT_le k j
        have hdv : (2000 : Int) / ((k : Int) + 2) = ((2000 / (k + 2) : Nat) : Int) := by push_cast; rfl
        have hdt : Int.tdiv 2000 ((k : Int) + 2) = ((2000 / (k + 2) : Nat) : Int) := by rw [Int.tdiv_eq_ediv_of_nonneg (by omega), hdv]
        have hqb : 2000 / (k + 2) ≤ 2000 := Nat.div_le_self _ _
        obtain ⟨q, hq⟩ : ∃ q, q = 2000 / (k + 2) := ⟨_, rfl⟩
        rw [← hq] at hp1 hdv hdt hqb
        obtain ⟨p2, hp2⟩ : ∃ p2 : Nat, p2 = q * (k + 2) := ⟨_, rfl⟩
        have hprod2 : (q : Int) * ((k : Int) + 2) = (p2 : Int) := by rw [hp2]; push_cast; rfl
        rw [← hp2] at hp1
        obtain ⟨tx, htx⟩ : ∃ tx, tx = lrgT k j := ⟨_, rfl⟩
        rw [← htx] at hp1 c4 hck hle
        have q1 : ((tx.length : Int) == (p2 : Int)) = true := by rw [hp1]; exact beq_self_eq_true _
        have q2 : decide ((p : Int) ≤ 2000) = false := decide_eq_false (by omega)
        have q3 : (((k : Int) + 2) == 0) = false := beq_eq_false_iff_ne.2 (by omega)
        have hp3 : p2 ≤ 2000 := by omega
        clear hp hp1 hroom hjq hlg htx hprod HGOOD HKK HL hlt hgd hq hp2 hroom2
        have hprod := HPR.out
        have hdr := Below.drew (Below.refl wr.heap.size wr)
        go_wp2_with fail
        have hw1 : IntKind.i64.wrap ((k : Int) + 2) = (k : Int) + 2 := IntWalk.i64_in _ (by omega)
        have hw2 : IntKind.i64.wrap (q : Int) = (q : Int) := IntWalk.i64_in _ (by omega)
        have hw3 : IntKind.i64.wrap (p2 : Int) = (p2 : Int) := IntWalk.i64_in _ (by omega)
        have hw4 : ((k : Int) + 2 = 0) = False := eq_false (by omega)
        go_still_tail 19, (by kernel_rfl)
        change wpList _ _ _ _ _ wr.drew
        go_wp2_with fail
        refine (hck.out _ hdr).mono ?_
        rintro e w5 ⟨rfl, hb5⟩
        go_wp2_with fail
        go_ret
        exact ⟨rfl, bt HE.out (bt hdr hb5)⟩
end Go.Proofs.YtpekkebmdhpbeaaDoor
