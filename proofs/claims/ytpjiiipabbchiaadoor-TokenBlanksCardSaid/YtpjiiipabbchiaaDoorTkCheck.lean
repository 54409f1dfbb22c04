/-
  DERIVED. token.Check: the walk.
-/
import Derived.Test.YtpjiiipabbchiaaDoorTkOne
import Derived.Deep.RegionHeld3
namespace Go.Proofs.YtpjiiipabbchiaaDoor.Tk
open Go.RowKit

theorem ctk3 {k z : Int} {x : List UInt8} (h : k = 3) : checkT ⟨k, x, z⟩ = if z < 0 ∨ 2147483647 < z then 6 else if x = [] then 0 else 3 := if_pos h
theorem ctk12 {k z : Int} {x : List UInt8} (h : k = 1 ∨ k = 2) : checkT ⟨k, x, z⟩ = if hdOf isLet x = true ∧ x.takeWhile isWd = x then (if z = 0 then 0 else 3) else 3 := by
  unfold checkT; rw [if_neg (by show ¬ k = 3; omega), if_pos h]
theorem ctk5 {k z : Int} {x : List UInt8} (h : k = 5) : checkT ⟨k, x, z⟩ = if x.length = 1 ∧ (∀ c ∈ x, c ∈ marks) then (if z = 0 then 0 else 3) else 3 := by
  unfold checkT; rw [if_neg (by show ¬ k = 3; omega), if_neg (by show ¬ (k = 1 ∨ k = 2); omega), if_pos h]
theorem ctk4 {k z : Int} {x : List UInt8} (h : k = 4) : checkT ⟨k, x, z⟩ = if z = 0 then 0 else 3 := by
  unfold checkT; rw [if_neg (by show ¬ k = 3; omega), if_neg (by show ¬ (k = 1 ∨ k = 2); omega), if_neg (by show ¬ k = 5; omega), if_pos h]
theorem ctk0 {k z : Int} {x : List UInt8} (h : ¬ k = 3 ∧ ¬ k = 1 ∧ ¬ k = 2 ∧ ¬ k = 5 ∧ ¬ k = 4) : checkT ⟨k, x, z⟩ = 2 := by
  unfold checkT; rw [if_neg (by show ¬ k = 3; omega), if_neg (by show ¬ (k = 1 ∨ k = 2); omega), if_neg (by show ¬ k = 5; omega), if_neg (by show ¬ k = 4; omega)]
theorem cell_gt {w w' : World} {b c o : Nat} {v : Value} (g : w.grownBy w' (some b)) (h : w.cell? ⟨c, o, none⟩ = some v) (hc : c ≠ b) : w'.cell? ⟨c, o, none⟩ = some v :=
  (World.cell?_of_block (w := w) (a := ⟨c, o, none⟩) (g.block c (World.block_lt_of_cell? _ _ h) (by intro e; exact hc (Option.some.inj e)))).trans h
theorem bgr' {B : Nat} {w wr w1 : World} {b : Nat} (hb : Below B w wr) (g : wr.grownBy w1 (some b)) (hB : B ≤ wr.heap.size) (hR : B ≤ b) : Below B w w1 :=
  ⟨g.os.trans hb.os, g.tape.trans hb.tape, g.output.trans hb.output, Nat.le_trans hb.size g.size, fun k hk => (g.block k (Nat.lt_of_lt_of_le hk hB) (by intro e; have := Option.some.inj e; omega)).trans (hb.block k hk)⟩
theorem quiet_left {P : Program} {f : FuncId} {args : Array Value} {w : World} {n : Nat} {v : Value}
    (h : Calls P f args (w.drewN n) fun e w' => e = .returned v ∧ w.drewN n = w') : Calls P f args (w.drewN n) fun e w'' => e = .returned v ∧ ∃ m, w'' = w.drewN m :=
  h.mono fun _ _ ⟨he, hm⟩ => ⟨he, n, hm.symm⟩
theorem int_bq (a b : Int) (h : a = b) : (a == b) = true := beq_iff_eq.2 h
theorem int_bn (a b : Int) (h : ¬ a = b) : (a == b) = false := beq_eq_false_iff_ne.2 h

set_option maxHeartbeats 8000000 in
set_option maxRecDepth 20000 in
theorem check_any (k z : Int) (x : ByteArray) (w : World) (hx : x.size ≤ 100000) :
    Calls Tryd.prog 14 #[.agg #[.int .i64 k, .string x, .int .i64 z]] w fun e w' => e = .returned (.int .i64 (checkT ⟨k, x.data.toList, z⟩)) ∧ Below w.heap.size w w' := by
  have hA := ba (Below.refl w.heap.size w) (.cells #[.int .i64 k, .string x, .int .i64 z] 31)
  have hxl : x.data.toList.length = x.size := by simp
  by_cases h3 : k = 3
  · rw [ctk3 h3]
    have q3 := int_bq k 3 h3
    by_cases hz : z < 0
    · rw [if_pos (.inl hz)]
      clear hxl h3
      go_enter Tryd.func14, Tryd.ntmps14
      go_wp2_with fail
      go_ret
      exact ⟨rfl, hA⟩
    · by_cases hz2 : 2147483647 < z
      · rw [if_pos (.inr hz2)]
        clear hxl h3
        go_enter Tryd.func14, Tryd.ntmps14
        go_wp2_with fail
        go_ret
        exact ⟨rfl, hA⟩
      · rw [if_neg (by omega)]
        by_cases hn : x.data.toList = []
        · rw [if_pos hn]
          have hn' : x.toList = [] := by rw [ByteArray.toList_eq x]; exact hn
          clear hxl h3
          go_enter Tryd.func14, Tryd.ntmps14
          go_wp2_with fail
          go_ret
          exact ⟨rfl, hA⟩
        · rw [if_neg hn]
          have hn1 : x.toList.isEmpty = false := by
            cases hq : x.toList with
            | nil => exact absurd (by rw [← ByteArray.toList_eq]; exact hq) hn
            | cons a b => rfl
          have hn2 : (!x.toList.isEmpty) = true := by rw [hn1]; rfl
          clear hxl h3 hn
          go_enter Tryd.func14, Tryd.ntmps14
          go_wp2_with fail
          go_ret
          exact ⟨rfl, hA⟩
  · have q3 := int_bn k 3 h3
    by_cases h12 : k = 1 ∨ k = 2
    · rw [ctk12 h12]
      have hA2 := ba hA (.cells #[.string x, .int .i64 0] 60)
      obtain ⟨b, hb⟩ : ∃ b, b = w.heap.size := ⟨_, rfl⟩
      have hT : Has ((w.alloc (.cells #[.int .i64 k, .string x, .int .i64 z] 31)).alloc (.cells #[.string x, .int .i64 0] 60)) w.heap.size [.int .i64 k, .string x, .int .i64 z] := (Has.alloc w _ _).down (ba (Below.refl _ _) _)
      have hC := Has.alloc (w.alloc (.cells #[.int .i64 k, .string x, .int .i64 z] 31)) [.string x, .int .i64 0] 60
      rw [World.size_alloc] at hC
      rw [← hb] at hT hC
      obtain ⟨W2, hW2⟩ : ∃ W2, W2 = (w.alloc (.cells #[.int .i64 k, .string x, .int .i64 z] 31)).alloc (.cells #[.string x, .int .i64 0] 60) := ⟨_, rfl⟩
      have hC' : Has W2 (b + 1) [.string x, .int .i64 0] := by rw [hW2]; exact hC
      have hrd0 : Rdr W2 (b + 1) x 0 := ⟨hC'.two.1, hC'.two.2.1, hC'.two.2.2.2, hC'.2.2⟩
      rw [← hW2] at hT hA2
      obtain ⟨⟨-, t1, t2⟩, -⟩ := has_tri hT
      have HRD := Lib.hid hrd0; have HA2 := Lib.hid hA2; have HW2 := Lib.hid hW2.symm; have HB := Lib.hid hb.symm
      have hxd : x.data.toList = x.data.toList := rfl
      have HN := Lib.hid (fun (w' : World) (h' : Rdr w' (b + 1) x 0) => next_any (b + 1) 0 x x.data.toList w' hx (Rest.start x) h')
      have hwb : w.heap.size ≤ b := by omega
      clear hC hC' hrd0 hA hA2 hW2 hT hb hxd
      cases hl : isLet (nextL x.data.toList) with
      | false =>
        rw [if_neg (by rw [hd_let, hl]; simp)]
        have HL := Lib.hid (fun w => hl ▸ letter_any (nextL x.data.toList) w)
        clear hl
        rcases h12 with rfl | rfl
        all_goals
          go_enter Tryd.func14, Tryd.ntmps14
          go_upto_region 12 with fail
          rw [HB.out, HW2.out]
          go_quiet ((first
            | (go_at_call 26; exact Calls.quiet_of (HN.out _ (HRD.out.drewN _)))
            | (go_at_call 25; exact quiet_left (HL.out _))))
          go_wp2_with fail
          go_ret
          exact ⟨rfl, bt HA2.out (below_drewN _ _)⟩
      | true =>
        have HL := Lib.hid (fun w => hl ▸ letter_any (nextL x.data.toList) w)
        have HWD := Lib.hid (fun (w' : World) (h' : RdrL w' (b + 1) x x.data.toList) => word_at (b + 1) x x.data.toList w' hx h')
        have HX := Lib.hid (ByteArray.toList_eq x)
        obtain ⟨TW, hTW⟩ : ∃ TW : ByteArray, TW = ⟨(x.data.toList.takeWhile isWd).toArray⟩ := ⟨_, rfl⟩
        rw [← hTW] at HWD
        have HTW : Hid (TW.toList = x.data.toList.takeWhile isWd) := by unfold Hid; rw [ByteArray.toList_eq TW, hTW]
        clear hTW
        by_cases htw : x.data.toList.takeWhile isWd = x.data.toList
        · rw [if_pos ⟨by rw [hd_let, hl], htw⟩]
          have hq : (TW.toList == x.toList) = true := by rw [HTW.out, HX.out, htw]; exact beq_self_eq_true _
          clear hl htw
          by_cases hz0 : z = 0
          · rw [if_pos hz0]
            have qz : (z != 0) = false := by rw [bne, int_bq z 0 hz0]; rfl
            clear hz0
            rcases h12 with rfl | rfl
            all_goals
              go_enter Tryd.func14, Tryd.ntmps14
              go_upto_region 12 with fail
              rw [HB.out, HW2.out]
              go_region_held3 (fun w' => w'.cell? ⟨b, 1, none⟩ = some (.string x) ∧ w'.cell? ⟨b, 2, none⟩ = some (.int .i64 z)) (first | exact ⟨t1, t2⟩ | exact ⟨e_1, e_2⟩ | go_keep) (first
                | (go_at_call 26; refine (HN.out _ HRD.out.drew).mono ?_; rintro e w5 ⟨rfl, hkk⟩; have hb5 : Below W2.heap.size W2 w5 := (by obtain ⟨k, rfl⟩ := hkk; exact bt (Below.drew (Below.refl _ _)) (below_drewN _ _)); have hr5 := HRD.out.below hb5; have e_1 := moved t1 hb5 (Nat.le_refl _); have e_2 := moved t2 hb5 (Nat.le_refl _); clear hkk)
                | (go_at_call 25; refine (HL.out _).mono ?_; rintro e w' ⟨rfl, rfl⟩)
                | (go_at_call 27; refine (HWD.out _ ⟨0, Rest.start x, hr5⟩).mono ?_; rintro e w6 ⟨rfl, -, hg6⟩; have e_1 := cell_gt hg6 e_1 (by omega); have e_2 := cell_gt hg6 e_2 (by omega)))
              all_goals
                have HE := Lib.hid (bgr' (bt HA2.out hb5) hg6 (bt HA2.out hb5).size (by omega))
                clear hg6 hb5 hr5 t1 t2
                go_wp2_with fail
                go_ret
                exact ⟨rfl, HE.out⟩
          · rw [if_neg hz0]
            have qz : (z != 0) = true := by rw [bne, int_bn z 0 hz0]; rfl
            clear hz0
            rcases h12 with rfl | rfl
            all_goals
              go_enter Tryd.func14, Tryd.ntmps14
              go_upto_region 12 with fail
              rw [HB.out, HW2.out]
              go_region_held3 (fun w' => w'.cell? ⟨b, 1, none⟩ = some (.string x) ∧ w'.cell? ⟨b, 2, none⟩ = some (.int .i64 z)) (first | exact ⟨t1, t2⟩ | exact ⟨e_1, e_2⟩ | go_keep) (first
                | (go_at_call 26; refine (HN.out _ HRD.out.drew).mono ?_; rintro e w5 ⟨rfl, hkk⟩; have hb5 : Below W2.heap.size W2 w5 := (by obtain ⟨k, rfl⟩ := hkk; exact bt (Below.drew (Below.refl _ _)) (below_drewN _ _)); have hr5 := HRD.out.below hb5; have e_1 := moved t1 hb5 (Nat.le_refl _); have e_2 := moved t2 hb5 (Nat.le_refl _); clear hkk)
                | (go_at_call 25; refine (HL.out _).mono ?_; rintro e w' ⟨rfl, rfl⟩)
                | (go_at_call 27; refine (HWD.out _ ⟨0, Rest.start x, hr5⟩).mono ?_; rintro e w6 ⟨rfl, -, hg6⟩; have e_1 := cell_gt hg6 e_1 (by omega); have e_2 := cell_gt hg6 e_2 (by omega)))
              all_goals
                have HE := Lib.hid (bgr' (bt HA2.out hb5) hg6 (bt HA2.out hb5).size (by omega))
                clear hg6 hb5 hr5 t1 t2
                go_wp2_with fail
                go_ret
                exact ⟨rfl, HE.out⟩
        · rw [if_neg (fun e => htw e.2)]
          have hq : (TW.toList == x.toList) = false := by rw [HTW.out, HX.out]; exact beq_eq_false_iff_ne.2 htw
          clear hl htw
          rcases h12 with rfl | rfl
          all_goals
            go_enter Tryd.func14, Tryd.ntmps14
            go_upto_region 12 with fail
            rw [HB.out, HW2.out]
            go_region_held3 (fun w' => w'.cell? ⟨b, 1, none⟩ = some (.string x) ∧ w'.cell? ⟨b, 2, none⟩ = some (.int .i64 z)) (first | exact ⟨t1, t2⟩ | exact ⟨e_1, e_2⟩ | go_keep) (first
              | (go_at_call 26; refine (HN.out _ HRD.out.drew).mono ?_; rintro e w5 ⟨rfl, hkk⟩; have hb5 : Below W2.heap.size W2 w5 := (by obtain ⟨k, rfl⟩ := hkk; exact bt (Below.drew (Below.refl _ _)) (below_drewN _ _)); have hr5 := HRD.out.below hb5; have e_1 := moved t1 hb5 (Nat.le_refl _); have e_2 := moved t2 hb5 (Nat.le_refl _); clear hkk)
              | (go_at_call 25; refine (HL.out _).mono ?_; rintro e w' ⟨rfl, rfl⟩)
              | (go_at_call 27; refine (HWD.out _ ⟨0, Rest.start x, hr5⟩).mono ?_; rintro e w6 ⟨rfl, -, hg6⟩; have e_1 := cell_gt hg6 e_1 (by omega); have e_2 := cell_gt hg6 e_2 (by omega)))
            all_goals
              have HE := Lib.hid (bgr' (bt HA2.out hb5) hg6 (bt HA2.out hb5).size (by omega))
              clear hg6 hb5 hr5 t1 t2
              go_wp2_with fail
              go_ret
              exact ⟨rfl, HE.out⟩
    · have q1 := int_bn k 1 (by omega)
      have q2 := int_bn k 2 (by omega)
      by_cases h5 : k = 5
      · rw [ctk5 h5]
        have q5 := int_bq k 5 h5
        by_cases h1 : x.size = 1
        · obtain ⟨c, rfl⟩ : ∃ c, x = ⟨#[c]⟩ := by
            obtain ⟨⟨l⟩⟩ := x
            match l, h1 with
            | [c], _ => exact ⟨c, rfl⟩
          have HCT : Hid (∀ w, Calls Tryd.prog 28 #[.string ⟨#[123, 125, 40, 41, 91, 93, 59, 44]⟩, .string ⟨#[c]⟩] w fun e w' => e = .returned (.bool (decide (c ∈ marks))) ∧ w = w') := by
            intro w
            have := Tryd.strings_Contains_one ⟨#[123, 125, 40, 41, 91, 93, 59, 44]⟩ c w
            refine this.mono ?_
            rintro e w' ⟨rfl, rfl⟩
            exact ⟨by rw [← ib_marks], rfl⟩
          by_cases hm : c ∈ marks
          · rw [if_pos (by exact ⟨rfl, fun d hd => by obtain rfl := List.mem_singleton.1 hd; exact hm⟩)]
            rw [decide_eq_true hm] at HCT
            clear hxl h3 h12 h5 h1 hm
            by_cases hz0 : z = 0
            · rw [if_pos hz0]
              have qz : (z != 0) = false := by rw [bne, int_bq z 0 hz0]; rfl
              clear hz0
              go_enter Tryd.func14, Tryd.ntmps14
              go_wp2_with fail
              refine (HCT.out _).mono ?_
              rintro e w' ⟨rfl, rfl⟩
              go_wp2_with fail
              go_ret
              exact ⟨rfl, hA⟩
            · rw [if_neg hz0]
              have qz : (z != 0) = true := by rw [bne, int_bn z 0 hz0]; rfl
              clear hz0
              go_enter Tryd.func14, Tryd.ntmps14
              go_wp2_with fail
              refine (HCT.out _).mono ?_
              rintro e w' ⟨rfl, rfl⟩
              go_wp2_with fail
              go_ret
              exact ⟨rfl, hA⟩
          · rw [if_neg (fun e => hm (e.2 c (List.mem_singleton_self _)))]
            rw [decide_eq_false hm] at HCT
            clear hxl h3 h12 h5 h1 hm
            go_enter Tryd.func14, Tryd.ntmps14
            go_wp2_with fail
            refine (HCT.out _).mono ?_
            rintro e w' ⟨rfl, rfl⟩
            go_wp2_with fail
            go_ret
            exact ⟨rfl, hA⟩
        · rw [if_neg (fun e => h1 (by rw [← hxl]; exact e.1))]
          have qn : ((x.size : Int) != 1) = true := by rw [bne, int_bn _ _ (by omega)]; rfl
          clear hxl h3 h12 h5
          go_enter Tryd.func14, Tryd.ntmps14
          go_wp2_with fail
          go_ret
          exact ⟨rfl, hA⟩
      · have q5 := int_bn k 5 h5
        by_cases h4 : k = 4
        · rw [ctk4 h4]
          have q4 := int_bq k 4 h4
          clear hxl h3 h12 h5 h4
          by_cases hz0 : z = 0
          · rw [if_pos hz0]
            have qz : (z != 0) = false := by rw [bne, int_bq z 0 hz0]; rfl
            clear hz0
            go_enter Tryd.func14, Tryd.ntmps14
            go_wp2_with fail
            go_ret
            exact ⟨rfl, hA⟩
          · rw [if_neg hz0]
            have qz : (z != 0) = true := by rw [bne, int_bn z 0 hz0]; rfl
            clear hz0
            go_enter Tryd.func14, Tryd.ntmps14
            go_wp2_with fail
            go_ret
            exact ⟨rfl, hA⟩
        · rw [ctk0 ⟨h3, by omega, by omega, h5, h4⟩]
          have q4 := int_bn k 4 h4
          clear hxl h3 h12 h5 h4
          go_enter Tryd.func14, Tryd.ntmps14
          go_wp2_with fail
          go_ret
          exact ⟨rfl, hA⟩
end Go.Proofs.YtpjiiipabbchiaaDoor.Tk
