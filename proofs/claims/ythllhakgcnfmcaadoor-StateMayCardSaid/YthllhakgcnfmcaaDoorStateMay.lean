/-
  DERIVED. StateMay: the walk.
-/
import Derived.Test.YthllhakgcnfmcaaDoorBoxBad
namespace Go.Proofs.YthllhakgcnfmcaaDoor
open Go.RowKit

/-- a state has its first box always -/
theorem keep_boxes {s : St} {x : Ent} (h : 0 < s.boxes.length) : 0 < (applyS s x).1.boxes.length := by
  have hadd : ∀ {i fl : Nat} {tx : List UInt8} {t : St}, addS s i fl tx = some t → 0 < t.boxes.length := by
    intro i fl tx t ht
    unfold addS at ht
    split at ht
    · cases ht
    · split at ht
      · cases ht
      · obtain rfl := Option.some.inj ht
        simpa using h
  unfold applyS
  repeat' split
  all_goals first | exact h | (rename_i ht; exact hadd ht) | (simp; done) | (simpa using h)
theorem stOf_pos (cs : List Raw) : 0 < (stOf cs).boxes.length := by
  unfold stOf
  generalize cs.take 40 = l
  have key : ∀ (l : List Raw) (s : St), 0 < s.boxes.length → 0 < (l.foldl stepS s).boxes.length := by
    intro l
    induction l with
    | nil => intro s h; exact h
    | cons c l ih =>
      intro s h
      refine ih _ ?_
      unfold stepS
      split
      · rw [allS_one s _ (entOf_form c)]
        split
        · exact h
        · exact keep_boxes h
      · exact h
  exact key l st0 (by decide)

set_option maxHeartbeats 8000000 in
set_option maxRecDepth 20000 in
theorem stateMay_walk (a : Option Addr) (cap : Nat) (cs : List Raw) (m : Int) (w : World) (h : RawsAt w a cs) (hlen : cs.length ≤ 9223372036854775807) (hm : w.cell? ⟨0, 0, none⟩ = some (.int .i64 m)) :
    Calls Tryd.prog 8 #[.slice a cs.length cap] w fun e w' => e = .returned (.bool true) ∧ Below w.heap.size w w' := by
  have HS := Lib.hid (state_any a cap cs m w h hlen hm)
  have hg := stOf_good cs
  have hpos := stOf_pos cs
  obtain ⟨s, hs⟩ : ∃ s, s = stOf cs := ⟨_, rfl⟩
  rw [← hs] at HS hg hpos
  have HG := Lib.hid hg; have HM := Lib.hid hm; have hsl := hg.spool; have hbl := hg.boxes; have hroom := hg.room
  clear h hm hg hs
  go_enter Tryd.func8, Tryd.ntmps8
  go_wp2_with fail
  refine HS.out.mono ?_
  rintro e w1 ⟨⟨G1, c1, G2, c2, rfl, h1, h2⟩, hb1⟩
  have HV1 := Lib.hid (VarS.new h1 h2 28)
  have HB1 := Lib.hid (bt hb1 (ba (Below.refl w1.heap.size w1) (.cells #[.slice G1 s.boxes.length c1, .slice G2 s.spool.length c2] 28)))
  clear h1 h2 hb1 HS
  obtain ⟨c0, c1', -, -⟩ := HV1.out.1.two
  go_wp2_with fail
  refine (Size_any s _ _ _ m _ HV1.out.2.1 HV1.out.2.2 HG.out (moved HM.out HB1.out (Nat.le_refl _))).mono ?_
  rintro e w2 ⟨rfl, hb2⟩
  have HV2 := Lib.hid (HV1.out.down hb2); have HB2 := Lib.hid (bt HB1.out hb2)
  clear hb2 HV1 HB1 c0 c1'
  go_wp2_with fail
  go_loopw [6, 7] (fun v i wr => ∃ j : Nat, j ≤ s.boxes.length ∧ i = .int .i64 j ∧ v = .int .i64 (sumB (s.boxes.take j)) ∧ Below w2.heap.size w2 wr) (fun _ i _ => s.boxes.length - (intOf i).toNat)
  case atStart => exact ⟨0, Nat.zero_le _, rfl, rfl, Below.refl _ _⟩
  case round =>
    obtain ⟨wp, rfl⟩ : ∃ wp : World, wp = wr := ⟨_, rfl⟩
    obtain ⟨j, hj, rfl, rfl, hb⟩ := hrel
    have hsj := sumB_le s.boxes j
    by_cases hlt : j < s.boxes.length
    · have hst := sumB_take s.boxes j hlt
      have hs1 := sumB_le s.boxes (j + 1)
      have HMO := Lib.hid (mails_at _ s.boxes[j].mails 0 (HG.out.ok s.boxes[j] (List.getElem_mem _)).2.2.2.2)
      have HV3 := Lib.hid (HV2.out.down hb); have HB3 := Lib.hid (bt HB2.out hb)
      have HBP := Lib.hid hb
      obtain ⟨b, hbE⟩ : ∃ b, b = s.boxes[j] := ⟨_, rfl⟩
      rw [← hbE] at hst HMO
      have HBE : Hid (∀ h, s.boxes[j]'h = b) := fun _ => hbE.symm
      have hbm := (HG.out.ok b (by rw [hbE]; exact List.getElem_mem _)).2.2.2.1
      clear hbE
      obtain ⟨S0, hS0⟩ : ∃ S0, S0 = sumB (s.boxes.take j) := ⟨_, rfl⟩
      rw [← hS0] at hst hsj ⊢
      rw [hst] at hs1
      have HST := Lib.hid hst
      clear hst hb hS0
      obtain ⟨c0, c1', -, -⟩ := HV3.out.1.two
      go_wp2_with fail
      clear c0 c1'
      go_loopw [6, 8, 9] (fun v la i wr => ∃ k : Nat, k ≤ b.mails.length ∧ i = .int .i64 k ∧ la = .int .i64 (lastU b.mails k : Nat) ∧ v = .int .i64 (S0 + sumM (b.mails.take k) : Nat) ∧ Below wp.heap.size wp wr) (fun _ _ i _ => b.mails.length - (intOf i).toNat)
      case atStart => exact ⟨0, Nat.zero_le _, rfl, rfl, rfl, Below.refl _ _⟩
      case round =>
        obtain ⟨k, hk, rfl, rfl, rfl, hb⟩ := hrel
        obtain ⟨c0, c1', -, -⟩ := (HV3.out.1.down hb).two
        obtain ⟨g, off, gm, gc, rfl, hF, hg, hgc, hgm, p0, p1, p2⟩ := box_get HV3.out.2.1 hb j hlt
        rw [HBE.out hlt] at hgc hgm p0 p1 p2
        have hsm := sumM_le b.mails k
        by_cases hlk : k < b.mails.length
        · obtain ⟨g2, off2, rfl, -, hg2, q0, q1, q2⟩ := mail_get hgm (Below.refl _ _) k hlk
          obtain ⟨k1, k2, k3, k4⟩ := HMO.out k hlk
          have hk1 : lastU b.mails k < b.mails[k].uid := by
            cases k with
            | zero => exact k1
            | succ k => rw [if_neg (by omega)] at k1; exact k1
          have hlu := Lib.hid (lastU_succ b.mails k hlk)
          have hsk := sumM_take b.mails k hlk
          have hs2 := sumM_le b.mails (k + 1)
          generalize b.mails[k] = mm at q0 q1 q2 k2 k3 k4 hk1 hlu hsk
          obtain ⟨la, hla⟩ : ∃ la, la = lastU b.mails k := ⟨_, rfl⟩
          rw [← hla] at hk1 ⊢
          obtain ⟨SM, hSM⟩ : ∃ SM, SM = sumM (b.mails.take k) := ⟨_, rfl⟩
          rw [← hSM] at hsk hsm ⊢
          rw [hsk] at hs2
          have HSK := Lib.hid hsk
          have hA := ba (Below.refl wr.heap.size wr) (.cells #[.int .i64 mm.uid, .int .i64 mm.flags, .string ⟨mm.text.toArray⟩] 41)
          obtain ⟨n0, n1, n2⟩ : _ ∧ _ ∧ _ := ⟨(Has.alloc wr [.int .i64 mm.uid, .int .i64 mm.flags, .string ⟨mm.text.toArray⟩] 41).1 0 _ rfl, (Has.alloc wr [.int .i64 mm.uid, .int .i64 mm.flags, .string ⟨mm.text.toArray⟩] 41).1 1 _ rfl, (Has.alloc wr [.int .i64 mm.uid, .int .i64 mm.flags, .string ⟨mm.text.toArray⟩] 41).1 2 _ rfl⟩
          have d0 := moved c0 hA (Nat.le_refl _); have r1 := moved p1 hA (Nat.le_refl _)
          have HBA := Lib.hid (bt hb hA)
          have d1 : decide ((mm.uid : Int) ≤ la) = false := decide_eq_false (by omega)
          have d2 : decide ((b.next : Int) ≤ mm.uid) = false := decide_eq_false (by omega)
          clear hla hSM hsk hb hA hgm k1 HMO
          go_upto_region 12 with fail
          obtain ⟨WA, hWA⟩ : ∃ WA, WA = wr.alloc (.cells #[.int .i64 mm.uid, .int .i64 mm.flags, .string ⟨mm.text.toArray⟩] 41) := ⟨_, rfl⟩
          rw [← hWA] at n0 n1 n2 d0 r1 HBA ⊢
          clear hWA c0 c1' p0 p1 p2 q0 q1 q2
          go_quiet (fail)
          have hdn := below_drewN WA nq
          have HBB := Lib.hid (bt HBA.out hdn)
          have n0' := moved n0 hdn (Nat.le_refl _); have n2' := moved n2 hdn (Nat.le_refl _)
          clear n0 n1 n2 d0 r1 hdn HBA
          go_wp2_with fail
          go_roundw
          case rel => exact ⟨k + 1, hlk, by go_num, by rw [hlu.out], by rw [HSK.out]; go_num, HBB.out⟩
          case measure => simp [intOf]; omega
        · obtain rfl : k = b.mails.length := by omega
          rw [List.take_length]
          have HBB := Lib.hid (bt HBP.out hb)
          clear hb
          go_wp2_with fail
          go_roundw
          case rel => exact ⟨j + 1, hlt, by go_num, by rw [HST.out], HBB.out⟩
          case measure => simp [intOf]; omega
    · obtain rfl : j = s.boxes.length := by omega
      rw [List.take_length]
      have HV3 := Lib.hid (HV2.out.down hb); have HB3 := Lib.hid (bt HB2.out hb)
      obtain ⟨c0, c1', -, -⟩ := HV3.out.1.two
      clear hb
      have hA := ba (ba (Below.refl wp.heap.size wp) (.cells #[.string ⟨#[97]⟩, .int .i64 0, .slice none 0 0] 39)) (.cells #[.slice (some ⟨wp.heap.size, 0, none⟩) 1 1, .slice none 0 0] 28)
      have HX := Lib.hid ((Has.alloc wp [.string ⟨#[97]⟩, .int .i64 0, .slice none 0 0] 39).down (ba (Below.refl _ _) (.cells #[.slice (some ⟨wp.heap.size, 0, none⟩) 1 1, .slice none 0 0] 28)))
      have hY := Has.alloc (wp.alloc (.cells #[.string ⟨#[97]⟩, .int .i64 0, .slice none 0 0] 39)) [.slice (some ⟨wp.heap.size, 0, none⟩) 1 1, .slice none 0 0] 28
      simp only [World.size_alloc] at hY
      have HY := Lib.hid hY
      have HV4 := Lib.hid (HV3.out.down hA); have HB4 := Lib.hid (bt HB3.out hA)
      clear hA hY
      go_upto_region 17 with fail
      obtain ⟨W4, hW4⟩ : ∃ W4, W4 = (wp.alloc (.cells #[.string ⟨#[97]⟩, .int .i64 0, .slice none 0 0] 39)).alloc (.cells #[.slice (some ⟨wp.heap.size, 0, none⟩) 1 1, .slice none 0 0] 28) := ⟨_, rfl⟩
      rw [← hW4] at HX HY HV4 HB4 ⊢
      clear hW4 c0 c1'
      obtain ⟨c0, c1', -, -⟩ := HV4.out.1.two
      go_wp2_with fail
      refine (checkS_any s _ _ _ m _ HV4.out.2.1 HV4.out.2.2 HG.out (moved HM.out HB4.out (Nat.le_refl _))).mono ?_
      rintro e w5 ⟨rfl, hb5⟩
      have HV5 := Lib.hid (HV4.out.down hb5); have HB5 := Lib.hid (bt HB4.out hb5); have HX5 := Lib.hid (HX.out.down hb5)
      obtain ⟨y0, y1, -, -⟩ := (HY.out.down hb5).two
      clear hb5 HV4 HB4 c0 c1' HX HY
      go_wp2_with fail
      refine (check_bad wp.heap.size _ (HX5.out.1 0 _ rfl) (HX5.out.1 1 _ rfl) (HX5.out.1 2 _ rfl)).mono ?_
      rintro e w6 ⟨rfl, hb6⟩
      have HB6 := Lib.hid (bt HB5.out hb6)
      obtain ⟨c0, c1', -, -⟩ := (HV5.out.1.down hb6).two
      have d1 : decide ((sumB s.boxes : Int) ≤ 6000) = true := decide_eq_true (by omega)
      have d2 : decide (((0 : Int)) < s.boxes.length) = true := decide_eq_true (by omega)
      clear hb6 y0 y1 HX5 HB5 HV5
      go_wp2_with fail
      go_ret
      exact ⟨rfl, HB6.out⟩
end Go.Proofs.YthllhakgcnfmcaaDoor
