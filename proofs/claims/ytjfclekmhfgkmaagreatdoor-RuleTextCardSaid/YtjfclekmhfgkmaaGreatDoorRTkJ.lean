/- On the way. -/
import Derived.Test.YtjfclekmhfgkmaaGreatDoorRTkB
import Derived.Test.YtjfclekmhfgkmaaGreatDoorRJgD
import Derived.Test.YtjfclekmhfgkmaaGreatDoorRTokL
import Derived.Deep.RegionHeld3
import Derived.Lib.UnsafeStr
import Derived.Lib.ReplaceLaws
import Derived.Lib.AppendIntMem
import Derived.Lib.ItoaLen
set_option linter.unusedVariables false
set_option linter.unusedSimpArgs false
set_option maxHeartbeats 8000000
set_option maxRecDepth 100000
namespace Go.Proofs.YtjfclekmhfgkmaaGreatDoor.Tk
open Go.RowKit
theorem ctk3 {k z : Int} {x : List UInt8} (h : k = 3) : checkT ⟨k, x, z⟩ = if z < 0 ∨ 2147483647 < z then 6 else if x = [] then 0 else 3 := if_pos h
theorem ctk12 {k z : Int} {x : List UInt8} (h : k = 1 ∨ k = 2) : checkT ⟨k, x, z⟩ = if hdOf isLet x = true ∧ x.takeWhile isWd = x then (if z = 0 then 0 else 3) else 3 := by
 unfold checkT; rw [if_neg (by show ¬ k = 3; omega), if_pos h]
theorem ctk5 {k z : Int} {x : List UInt8} (h : k = 5) : checkT ⟨k, x, z⟩ = if x.length = 1 ∧ (∀ c ∈ x, c ∈ marks) then (if z = 0 then 0 else 3) else 3 := by
 unfold checkT; rw [if_neg (by show ¬ k = 3; omega), if_neg (by show ¬ (k = 1 ∨ k = 2); omega), if_pos h]
theorem ctk4 {k z : Int} {x : List UInt8} (h : k = 4) : checkT ⟨k, x, z⟩ = if z = 0 then 0 else 3 := by
 unfold checkT; rw [if_neg (by show ¬ k = 3; omega), if_neg (by show ¬ (k = 1 ∨ k = 2); omega), if_neg (by show ¬ k = 5; omega), if_pos h]
theorem ctk0 {k z : Int} {x : List UInt8} (h : ¬ k = 3 ∧ ¬ k = 1 ∧ ¬ k = 2 ∧ ¬ k = 5 ∧ ¬ k = 4) : checkT ⟨k, x, z⟩ = 2 := by
 unfold checkT; rw [if_neg (by show ¬ k = 3; omega), if_neg (by show ¬ (k = 1 ∨ k = 2); omega), if_neg (by show ¬ k = 5; omega), if_neg (by show ¬ k = 4; omega)]
theorem cell_gt {w w' : World} {b c o : Nat} {v : Value} (g : w.grownBy w' (some b)) (h : w.cell? ⟨c, o, none⟩ = some v) (hc : c ≠ b) : w'.cell? ⟨c, o, none⟩ = some v :=
 (World.cell?_of_block (w := w) (a := ⟨c, o, none⟩) (g.block c (World.block_lt_of_cell? _ _ h) (by intro e; exact hc (Option.some.inj e)))).trans h
theorem bgr' {B : Nat} {w wr w1 : World} {b : Nat} (hb : Below B w wr) (g : wr.grownBy w1 (some b)) (hB : B ≤ wr.heap.size) (hR : B ≤ b) : Below B w w1 :=
 ⟨g.os.trans hb.os, g.tape.trans hb.tape, g.output.trans hb.output, Nat.le_trans hb.size g.size, fun k hk => (g.block k (Nat.lt_of_lt_of_le hk hB) (by intro e; have := Option.some.inj e; omega)).trans (hb.block k hk)⟩
theorem quiet_left {P : Program} {f : FuncId} {args : Array Value} {w : World} {n : Nat} {v : Value}
    (h : Calls P f args (w.drewN n) fun e w' => e = .returned v ∧ w.drewN n = w') : Calls P f args (w.drewN n) fun e w'' => e = .returned v ∧ ∃ m, w'' = w.drewN m :=
 h.mono fun _ _ ⟨he, hm⟩ => ⟨he, n, hm.symm⟩
theorem int_bq (a b : Int) (h : a = b) : (a == b) = true := beq_iff_eq.2 h
theorem int_bn (a b : Int) (h : ¬ a = b) : (a == b) = false := beq_eq_false_iff_ne.2 h
theorem check_any (k z : Int) (x : ByteArray) (w : World) (hx : x.size ≤ 100000) :
    Calls Tryz.prog 13 #[.agg #[.int .i64 k, .string x, .int .i64 z]] w fun e w' => e = .returned (.int .i64 (checkT ⟨k, x.data.toList, z⟩)) ∧ Below w.heap.size w w' := by
 have hA := ba (Below.refl w.heap.size w) (.cells #[.int .i64 k, .string x, .int .i64 z] 53)
 have hxl : x.data.toList.length = x.size := by simp
 by_cases h3 : k = 3
 ·rw [ctk3 h3]
  have q3 := int_bq k 3 h3
  by_cases hz : z < 0
  ·rw [if_pos (.inl hz)]
   clear hxl h3
   go_enter Tryz.func13, Tryz.ntmps13
   go_wp2_with fail
   go_ret
   exact ⟨rfl, hA⟩
  ·by_cases hz2 : 2147483647 < z
   ·rw [if_pos (.inr hz2)]
    clear hxl h3
    go_enter Tryz.func13, Tryz.ntmps13
    go_wp2_with fail
    go_ret
    exact ⟨rfl, hA⟩
   ·rw [if_neg (by omega)]
    by_cases hn : x.data.toList = []
    ·rw [if_pos hn]
     have hn' : x.toList = [] := by rw [ByteArray.toList_eq x]; exact hn
     clear hxl h3
     go_enter Tryz.func13, Tryz.ntmps13
     go_wp2_with fail
     go_ret
     exact ⟨rfl, hA⟩
    ·rw [if_neg hn]
     have hn1 : x.toList.isEmpty = false := by
      cases hq : x.toList with
      | nil => exact absurd (by rw [← ByteArray.toList_eq]; exact hq) hn
      | cons a b => rfl
     have hn2 : (!x.toList.isEmpty) = true := by rw [hn1]; rfl
     clear hxl h3 hn
     go_enter Tryz.func13, Tryz.ntmps13
     go_wp2_with fail
     go_ret
     exact ⟨rfl, hA⟩
 ·have q3 := int_bn k 3 h3
  by_cases h12 : k = 1 ∨ k = 2
  ·rw [ctk12 h12]
   have hA2 := ba hA (.cells #[.string x, .int .i64 0] 79)
   obtain ⟨b, hb⟩ : ∃ b, b = w.heap.size := ⟨_, rfl⟩
   have hT : Has ((w.alloc (.cells #[.int .i64 k, .string x, .int .i64 z] 53)).alloc (.cells #[.string x, .int .i64 0] 79)) w.heap.size [.int .i64 k, .string x, .int .i64 z] := (Has.alloc w _ _).down (ba (Below.refl _ _) _)
   have hC := Has.alloc (w.alloc (.cells #[.int .i64 k, .string x, .int .i64 z] 53)) [.string x, .int .i64 0] 79
   rw [World.size_alloc] at hC
   rw [← hb] at hT hC
   obtain ⟨W2, hW2⟩ : ∃ W2, W2 = (w.alloc (.cells #[.int .i64 k, .string x, .int .i64 z] 53)).alloc (.cells #[.string x, .int .i64 0] 79) := ⟨_, rfl⟩
   have hC' : Has W2 (b + 1) [.string x, .int .i64 0] := by rw [hW2]; exact hC
   have hrd0 : Rdr W2 (b + 1) x 0 := ⟨hC'.two.1, hC'.two.2.1, hC'.two.2.2.2, hC'.2.2⟩
   rw [← hW2] at hT hA2
   obtain ⟨⟨-, t1, t2⟩, -⟩ := has_tri hT
   have HRD := Lib.hid hrd0; have HA2 := Lib.hid hA2; have HW2 := Lib.hid hW2.symm; have HB := Lib.hid hb.symm
   have hxd : x.data.toList = x.data.toList := rfl
   have HN := Lib.hid (fun (w' : World) (h' : Rdr w' (b + 1) x 0) => next_any (b + 1) 0 x x.data.toList w' hx (Rest.start x) h')
   have hwb : w.heap.size ≤ b := by omega
   clear hC hC' hrd0 hA hA2 hW2 hT hb hxd
   cases hl : isLet (nextL x.data.toList) with
   | false =>
    rw [if_neg (by rw [hd_let, hl]; simp)]
    have HL := Lib.hid (fun w => hl ▸ letter_any (nextL x.data.toList) w)
    clear hl
    rcases h12 with rfl | rfl
    all_goals
     go_enter Tryz.func13, Tryz.ntmps13
     go_upto_region 12 with fail
     rw [HB.out, HW2.out]
     go_quiet ((first
      | (go_at_call 31; exact Calls.quiet_of (HN.out _ (HRD.out.drewN _)))
      | (go_at_call 30; exact quiet_left (HL.out _))))
     go_wp2_with fail
     go_ret
     exact ⟨rfl, bt HA2.out (below_drewN _ _)⟩
   | true =>
    have HL := Lib.hid (fun w => hl ▸ letter_any (nextL x.data.toList) w)
    have HWD := Lib.hid (fun (w' : World) (h' : RdrL w' (b + 1) x x.data.toList) => word_at (b + 1) x x.data.toList w' hx h')
    have HX := Lib.hid (ByteArray.toList_eq x)
    obtain ⟨TW, hTW⟩ : ∃ TW : ByteArray, TW = ⟨(x.data.toList.takeWhile isWd).toArray⟩ := ⟨_, rfl⟩
    rw [← hTW] at HWD
    have HTW : Hid (TW.toList = x.data.toList.takeWhile isWd) := by unfold Hid; rw [ByteArray.toList_eq TW, hTW]
    clear hTW
    by_cases htw : x.data.toList.takeWhile isWd = x.data.toList
    ·rw [if_pos ⟨by rw [hd_let, hl], htw⟩]
     have hq : (TW.toList == x.toList) = true := by rw [HTW.out, HX.out, htw]; exact beq_self_eq_true _
     clear hl htw
     by_cases hz0 : z = 0
     ·rw [if_pos hz0]
      have qz : (z != 0) = false := by rw [bne, int_bq z 0 hz0]; rfl
      clear hz0
      rcases h12 with rfl | rfl
      all_goals
       go_enter Tryz.func13, Tryz.ntmps13
       go_upto_region 12 with fail
       rw [HB.out, HW2.out]
       go_region_held3 (fun w' => w'.cell? ⟨b, 1, none⟩ = some (.string x) ∧ w'.cell? ⟨b, 2, none⟩ = some (.int .i64 z)) (first | exact ⟨t1, t2⟩ | exact ⟨e_1, e_2⟩ | go_keep) (first
        | (go_at_call 31; refine (HN.out _ HRD.out.drew).mono ?_; rintro e w5 ⟨rfl, hkk⟩; have hb5 : Below W2.heap.size W2 w5 := (by obtain ⟨k, rfl⟩ := hkk; exact bt (Below.drew (Below.refl _ _)) (below_drewN _ _)); have hr5 := HRD.out.below hb5; have e_1 := moved t1 hb5 (Nat.le_refl _); have e_2 := moved t2 hb5 (Nat.le_refl _); clear hkk)
        | (go_at_call 30; refine (HL.out _).mono ?_; rintro e w' ⟨rfl, rfl⟩)
        | (go_at_call 32; refine (HWD.out _ ⟨0, Rest.start x, hr5⟩).mono ?_; rintro e w6 ⟨rfl, -, hg6⟩; have e_1 := cell_gt hg6 e_1 (by omega); have e_2 := cell_gt hg6 e_2 (by omega)))
       all_goals
        have HE := Lib.hid (bgr' (bt HA2.out hb5) hg6 (bt HA2.out hb5).size (by omega))
        clear hg6 hb5 hr5 t1 t2
        go_wp2_with fail
        go_ret
        exact ⟨rfl, HE.out⟩
     ·rw [if_neg hz0]
      have qz : (z != 0) = true := by rw [bne, int_bn z 0 hz0]; rfl
      clear hz0
      rcases h12 with rfl | rfl
      all_goals
       go_enter Tryz.func13, Tryz.ntmps13
       go_upto_region 12 with fail
       rw [HB.out, HW2.out]
       go_region_held3 (fun w' => w'.cell? ⟨b, 1, none⟩ = some (.string x) ∧ w'.cell? ⟨b, 2, none⟩ = some (.int .i64 z)) (first | exact ⟨t1, t2⟩ | exact ⟨e_1, e_2⟩ | go_keep) (first
        | (go_at_call 31; refine (HN.out _ HRD.out.drew).mono ?_; rintro e w5 ⟨rfl, hkk⟩; have hb5 : Below W2.heap.size W2 w5 := (by obtain ⟨k, rfl⟩ := hkk; exact bt (Below.drew (Below.refl _ _)) (below_drewN _ _)); have hr5 := HRD.out.below hb5; have e_1 := moved t1 hb5 (Nat.le_refl _); have e_2 := moved t2 hb5 (Nat.le_refl _); clear hkk)
        | (go_at_call 30; refine (HL.out _).mono ?_; rintro e w' ⟨rfl, rfl⟩)
        | (go_at_call 32; refine (HWD.out _ ⟨0, Rest.start x, hr5⟩).mono ?_; rintro e w6 ⟨rfl, -, hg6⟩; have e_1 := cell_gt hg6 e_1 (by omega); have e_2 := cell_gt hg6 e_2 (by omega)))
       all_goals
        have HE := Lib.hid (bgr' (bt HA2.out hb5) hg6 (bt HA2.out hb5).size (by omega))
        clear hg6 hb5 hr5 t1 t2
        go_wp2_with fail
        go_ret
        exact ⟨rfl, HE.out⟩
    ·rw [if_neg (fun e => htw e.2)]
     have hq : (TW.toList == x.toList) = false := by rw [HTW.out, HX.out]; exact beq_eq_false_iff_ne.2 htw
     clear hl htw
     rcases h12 with rfl | rfl
     all_goals
      go_enter Tryz.func13, Tryz.ntmps13
      go_upto_region 12 with fail
      rw [HB.out, HW2.out]
      go_region_held3 (fun w' => w'.cell? ⟨b, 1, none⟩ = some (.string x) ∧ w'.cell? ⟨b, 2, none⟩ = some (.int .i64 z)) (first | exact ⟨t1, t2⟩ | exact ⟨e_1, e_2⟩ | go_keep) (first
       | (go_at_call 31; refine (HN.out _ HRD.out.drew).mono ?_; rintro e w5 ⟨rfl, hkk⟩; have hb5 : Below W2.heap.size W2 w5 := (by obtain ⟨k, rfl⟩ := hkk; exact bt (Below.drew (Below.refl _ _)) (below_drewN _ _)); have hr5 := HRD.out.below hb5; have e_1 := moved t1 hb5 (Nat.le_refl _); have e_2 := moved t2 hb5 (Nat.le_refl _); clear hkk)
       | (go_at_call 30; refine (HL.out _).mono ?_; rintro e w' ⟨rfl, rfl⟩)
       | (go_at_call 32; refine (HWD.out _ ⟨0, Rest.start x, hr5⟩).mono ?_; rintro e w6 ⟨rfl, -, hg6⟩; have e_1 := cell_gt hg6 e_1 (by omega); have e_2 := cell_gt hg6 e_2 (by omega)))
      all_goals
       have HE := Lib.hid (bgr' (bt HA2.out hb5) hg6 (bt HA2.out hb5).size (by omega))
       clear hg6 hb5 hr5 t1 t2
       go_wp2_with fail
       go_ret
       exact ⟨rfl, HE.out⟩
  ·have q1 := int_bn k 1 (by omega)
   have q2 := int_bn k 2 (by omega)
   by_cases h5 : k = 5
   ·rw [ctk5 h5]
    have q5 := int_bq k 5 h5
    by_cases h1 : x.size = 1
    ·obtain ⟨c, rfl⟩ : ∃ c, x = ⟨#[c]⟩ := by
      obtain ⟨⟨l⟩⟩ := x
      match l, h1 with
      | [c], _ => exact ⟨c, rfl⟩
     have HCT : Hid (∀ w, Calls Tryz.prog 33 #[.string ⟨#[123, 125, 40, 41, 91, 93, 59, 44]⟩, .string ⟨#[c]⟩] w fun e w' => e = .returned (.bool (decide (c ∈ marks))) ∧ w = w') := by
      intro w
      have := Tryz.strings_Contains_one ⟨#[123, 125, 40, 41, 91, 93, 59, 44]⟩ c w
      refine this.mono ?_
      rintro e w' ⟨rfl, rfl⟩
      exact ⟨by rw [← ib_marks], rfl⟩
     by_cases hm : c ∈ marks
     ·rw [if_pos (by exact ⟨rfl, fun d hd => by obtain rfl := List.mem_singleton.1 hd; exact hm⟩)]
      rw [decide_eq_true hm] at HCT
      clear hxl h3 h12 h5 h1 hm
      by_cases hz0 : z = 0
      ·rw [if_pos hz0]
       have qz : (z != 0) = false := by rw [bne, int_bq z 0 hz0]; rfl
       clear hz0
       go_enter Tryz.func13, Tryz.ntmps13
       go_wp2_with fail
       refine (HCT.out _).mono ?_
       rintro e w' ⟨rfl, rfl⟩
       go_wp2_with fail
       go_ret
       exact ⟨rfl, hA⟩
      ·rw [if_neg hz0]
       have qz : (z != 0) = true := by rw [bne, int_bn z 0 hz0]; rfl
       clear hz0
       go_enter Tryz.func13, Tryz.ntmps13
       go_wp2_with fail
       refine (HCT.out _).mono ?_
       rintro e w' ⟨rfl, rfl⟩
       go_wp2_with fail
       go_ret
       exact ⟨rfl, hA⟩
     ·rw [if_neg (fun e => hm (e.2 c (List.mem_singleton_self _)))]
      rw [decide_eq_false hm] at HCT
      clear hxl h3 h12 h5 h1 hm
      go_enter Tryz.func13, Tryz.ntmps13
      go_wp2_with fail
      refine (HCT.out _).mono ?_
      rintro e w' ⟨rfl, rfl⟩
      go_wp2_with fail
      go_ret
      exact ⟨rfl, hA⟩
    ·rw [if_neg (fun e => h1 (by rw [← hxl]; exact e.1))]
     have qn : ((x.size : Int) != 1) = true := by rw [bne, int_bn _ _ (by omega)]; rfl
     clear hxl h3 h12 h5
     go_enter Tryz.func13, Tryz.ntmps13
     go_wp2_with fail
     go_ret
     exact ⟨rfl, hA⟩
   ·have q5 := int_bn k 5 h5
    by_cases h4 : k = 4
    ·rw [ctk4 h4]
     have q4 := int_bq k 4 h4
     clear hxl h3 h12 h5 h4
     by_cases hz0 : z = 0
     ·rw [if_pos hz0]
      have qz : (z != 0) = false := by rw [bne, int_bq z 0 hz0]; rfl
      clear hz0
      go_enter Tryz.func13, Tryz.ntmps13
      go_wp2_with fail
      go_ret
      exact ⟨rfl, hA⟩
     ·rw [if_neg hz0]
      have qz : (z != 0) = true := by rw [bne, int_bn z 0 hz0]; rfl
      clear hz0
      go_enter Tryz.func13, Tryz.ntmps13
      go_wp2_with fail
      go_ret
      exact ⟨rfl, hA⟩
    ·rw [ctk0 ⟨h3, by omega, by omega, h5, h4⟩]
     have q4 := int_bn k 4 h4
     clear hxl h3 h12 h5 h4
     go_enter Tryz.func13, Tryz.ntmps13
     go_wp2_with fail
     go_ret
     exact ⟨rfl, hA⟩
theorem writeByte_any (B b : Nat) (bs : List Value) (c : UInt8) (w : World) (h : Lib.IsBuilder 51 5 B b bs w) (hlen : bs.length ≤ 140737488355320) (hBw : B ≤ w.heap.size) :
    Calls Tryz.prog 17 #[.pointer (some ⟨b, 0, none⟩), .int .u8 (c.toNat : Int)] w fun e w' => e = .returned .nilIface ∧ (Lib.BuilderAt 51 5 B b (.pointer (some ⟨b, 0, none⟩)) (bs ++ [.int .u8 (c.toNat : Int)]) w' ∧ Below B w w') := by
 obtain ⟨i0, hi, hz0, hz1, hz2⟩ := info_parts infoB8
 go_enter Tryz.func17, Tryz.ntmps17
 go_wp2_with fail
 refine (copyCheck_any B b bs _ h).mono ?_
 rintro e w1 ⟨rfl, h1, hb1⟩
 obtain ⟨hB, v, hbk, hown, hne⟩ := h1
 have c0 : w1.cell? ⟨b, 0, none⟩ = some (.pointer (some ⟨b, 0, none⟩)) := by rw [Lib.cell_of_heap hbk]; rfl
 have c1 : w1.cell? ⟨b, 1, none⟩ = some v := by rw [Lib.cell_of_heap hbk]; rfl
 have hsz1 := hb1.size
 go_wp2_with (at_builtin; refine wpList_append_own _ rfl _ _ 49 rfl B 5 i0 (.int .u8 0) 1 1 Tryz.underlying49 hi hz0 hz1 hz2 rfl (by decide) v bs.length bs rfl (hown.alloc _) ⟨w1.heap.size, 0, none⟩ 1 1 [.int .u8 (c.toNat : Int)] rfl rfl (cell_one_new _ _ _) ?c2 ?c3 ?c4 ?c5 ?_)
 case c2 => intro u hu; simp at hu; subst hu; rfl
 case c3 => unfold maxLen; omega
 case c4 => omega
 case c5 => simp; omega
 intro v' w2 hown' hgrow _
 have hlt : b < w1.heap.size := by
  rcases Nat.lt_or_ge b w1.heap.size with h' | h'
  ·exact h'
  ·simp [Array.getElem?_eq_none h'] at hbk
 have hal := ba (Below.refl w1.heap.size w1) (.cells #[.int .u8 (c.toNat : Int)] 5)
 have hb2 : w2.heap[b]? = some (.cells #[.pointer (some ⟨b, 0, none⟩), v] 51 (0, 0)) := by
  rw [hgrow.block b (by simp; omega) (fun e => hne e.symm), hal.block b hlt]
  exact hbk
 have d0 : w2.cell? ⟨b, 0, none⟩ = some (.pointer (some ⟨b, 0, none⟩)) := by rw [Lib.cell_of_heap hb2]; rfl
 have d1 : w2.cell? ⟨b, 1, none⟩ = some v := by rw [Lib.cell_of_heap hb2]; rfl
 have f1 : w2.frozen? ⟨b, 1, none⟩ = false := Lib.frozen_of_heap hb2 1
 obtain ⟨ao, n', cap, rfl⟩ : ∃ ao n' cap, v' = .slice ao n' cap := by
  rcases hown'.2 with ⟨hv, _⟩ | ⟨g, cap, cur, hv, _⟩
  ·exact ⟨_, _, _, hv⟩
  ·exact ⟨_, _, _, hv⟩
 go_wp2
 go_ret
 refine ⟨rfl, ?_, ?_⟩
 ·exact Lib.BuilderAt.put (T := 51) (e := 5) hB hb2 (bs' := bs ++ [.int .u8 (c.toNat : Int)]) (by simpa using hown') (by decide)
 ·exact ((hb1.trans (hal.mono (by omega))).grown hgrow (by simp; omega) (fun k hk => (hown.lt k hk).1)).setCell (p := ⟨b, 1, none⟩) hB _
theorem replaceK_one (c : UInt8) (new : List UInt8) : ∀ (s : List UInt8) (k : Nat), Go.Lib.count s [c] ≤ k → Go.Lib.replaceK [c] new k s = s.flatMap (fun x => if x = c then new else [x])
 | [], 0, _ => rfl
 | [], k + 1, _ => by unfold Go.Lib.replaceK; rw [if_pos (by rfl)]; rfl
 | b :: l, k, h => by
  by_cases hb : b = c
  ·subst hb
   rw [Go.Lib.count_cons_eq] at h
   obtain ⟨k', rfl⟩ : ∃ k', k = k' + 1 := ⟨k - 1, by omega⟩
   have h0 : Go.Lib.index (b :: l) [b] = ((0 : Nat) : Int) := by unfold Go.Lib.index; rw [if_pos (by simp)]; rfl
   rw [Go.Lib.replaceK_hit _ _ _ _ 0 h0, List.flatMap_cons, if_pos rfl]
   show [] ++ new ++ Go.Lib.replaceK [b] new k' l = _
   rw [replaceK_one b new l k' (by omega)]
   rfl
  ·rw [Go.Lib.count_cons_ne _ _ _ hb] at h
   have ih := replaceK_one c new l k h
   rw [List.flatMap_cons, if_neg hb]
   cases k with
   | zero =>
    show b :: l = _
    have : l = Go.Lib.replaceK [c] new 0 l := rfl
    rw [← ih, ← this]; rfl
   | succ k =>
    have hp : List.isPrefixOf [c] (b :: l) = false := by
     simp only [List.isPrefixOf, Bool.and_eq_false_imp, beq_iff_eq]
     intro e; exact absurd e.symm hb
    have hge := Go.Lib.index_ge l [c]
    by_cases hm : Go.Lib.index l [c] = -1
    ·have hm2 : Go.Lib.index (b :: l) [c] = -1 := by unfold Go.Lib.index; rw [hp, hm]; rfl
     unfold Go.Lib.replaceK at ih ⊢
     rw [hm] at ih
     rw [hm2, if_pos (by rfl)]
     rw [if_pos (by rfl)] at ih
     rw [← ih]; rfl
    ·obtain ⟨i, hi⟩ : ∃ i : Nat, Go.Lib.index l [c] = i := ⟨(Go.Lib.index l [c]).toNat, by omega⟩
     have hi2 : Go.Lib.index (b :: l) [c] = ((i + 1 : Nat) : Int) := by
      unfold Go.Lib.index
      rw [hp, hi]
      have : ((i : Int) == -1) = false := beq_eq_false_iff_ne.2 (by omega)
      rw [this]; simp
     rw [Go.Lib.replaceK_hit _ _ _ _ i hi] at ih
     rw [Go.Lib.replaceK_hit _ _ _ _ (i + 1) hi2, ← ih]
     simp [List.take_succ_cons]
theorem replaceAll_one (c : UInt8) (new s : List UInt8) (h : [c] ≠ new) : Go.Lib.replaceAll s [c] new = s.flatMap (fun x => if x = c then new else [x]) := by
 unfold Go.Lib.replaceAll Go.Lib.replace
 have h1 : ([c] == new) = false := beq_eq_false_iff_ne.2 h
 rw [h1]
 show Go.Lib.replaceK [c] new (Go.Lib.replaceNum s [c] (-1)) s = _
 refine replaceK_one c new s _ ?_
 unfold Go.Lib.replaceNum
 rw [if_pos (.inl (by decide))]
 exact Nat.le_refl _
theorem esc_two (s : List UInt8) : Go.Lib.replaceAll (Go.Lib.replaceAll s [92] [92, 92]) [34] [92, 34] = esc s := by
 rw [replaceAll_one 92 [92, 92] s (by simp), replaceAll_one 34 [92, 34] _ (by simp)]
 unfold esc
 induction s with
 | nil => rfl
 | cons c s ih =>
  rw [List.flatMap_cons, List.flatMap_append, ih, List.flatMap_cons]
  congr 1
  by_cases h1 : c = 92
  ·subst h1; rfl
  ·by_cases h2 : c = 34
   ·subst h2; rfl
   ·rw [if_neg h1, if_neg (by rintro (h | h); exact h2 h; exact h1 h)]
    simp [h2]
theorem quote_eq (x : ByteArray) {s : List UInt8} (h : x.data.toList = esc s) : (⟨#[34]⟩ : ByteArray) ++ x ++ ⟨#[34]⟩ = ⟨(quoteL s).toArray⟩ := by
 rw [← Lib.mk_data ((⟨#[34]⟩ : ByteArray) ++ x ++ ⟨#[34]⟩)]
 congr 2
 rw [ByteArray.toList_data_append, ByteArray.toList_data_append, h]
 rfl
theorem quote_any (x : ByteArray) (m : Int) (w : World) (hx : x.size ≤ 100000) (hm : w.cell? ⟨5, 0, none⟩ = some (.int .i64 m)) :
    Calls Tryz.prog 16 #[.string x] w fun e w' => e = .returned (.string ⟨(quoteL x.data.toList).toArray⟩) ∧ Below w.heap.size w w' := by
 have hc1 := Go.Lib.countB_mul_le ⟨#[92]⟩ (by decide) x.size x (Nat.le_refl _)
 have h1 := Tryz.strings_ReplaceAll x ⟨#[92]⟩ ⟨#[92, 92]⟩ m w (by omega) hm (by decide) (by show x.size + _ * 2 ≤ _; have : Go.Lib.countB x ⟨#[92]⟩ * 1 ≤ x.size := hc1; omega)
 obtain ⟨Y, hY⟩ : ∃ Y : ByteArray, Y = ⟨(Go.Lib.replaceAll x.data.toList (⟨#[92]⟩ : ByteArray).data.toList (⟨#[92, 92]⟩ : ByteArray).data.toList).toArray⟩ := ⟨_, rfl⟩
 rw [← hY] at h1
 have hYl : Y.data.toList = Go.Lib.replaceAll x.data.toList [92] [92, 92] := by rw [hY]
 have hYs : Y.size ≤ 200000 := by
  have e1 : Y.size = Y.data.toList.length := by simp
  have hf : ∀ l : List UInt8, (l.flatMap (fun z => if z = 92 then [92, 92] else [z])).length ≤ 2 * l.length := by
   intro l
   induction l with
   | nil => exact Nat.le_refl _
   | cons c l ih =>
    rw [List.flatMap_cons, List.length_append, List.length_cons]
    have : (if c = 92 then [92, 92] else [c] : List UInt8).length ≤ 2 := by split <;> simp
    omega
  have hl := hf x.data.toList
  have e2 : x.data.toList.length = x.size := by simp
  rw [e1, hYl, replaceAll_one 92 [92, 92] _ (by simp)]
  omega
 have hc2 := Go.Lib.countB_mul_le ⟨#[34]⟩ (by decide) Y.size Y (Nat.le_refl _)
 have h2 : Hid (∀ w', w'.cell? ⟨5, 0, none⟩ = some (.int .i64 m) → Calls Tryz.prog 36 #[.string Y, .string ⟨#[34]⟩, .string ⟨#[92, 34]⟩] w' fun e w'' => (∃ Z : ByteArray, e = .returned (.string Z) ∧ Z.data.toList = esc x.data.toList ∧ Z.size ≤ 400000) ∧ Below w'.heap.size w' w'') := by
  intro w' hm'
  refine (Tryz.strings_ReplaceAll Y ⟨#[34]⟩ ⟨#[92, 34]⟩ m w' (by omega) hm' (by decide) (by show Y.size + _ * 2 ≤ _; have : Go.Lib.countB Y ⟨#[34]⟩ * 1 ≤ Y.size := hc2; omega)).mono ?_
  rintro e w'' ⟨rfl, hb⟩
  refine ⟨⟨_, rfl, ?_, ?_⟩, hb⟩
  ·show Go.Lib.replaceAll Y.data.toList [34] [92, 34] = _
   rw [hYl, esc_two]
  ·show (List.toArray _).size ≤ _
   rw [List.size_toArray]
   show (Go.Lib.replaceAll Y.data.toList [34] [92, 34]).length ≤ _
   rw [hYl, esc_two]
   have := esc_len x.data.toList
   have e2 : x.data.toList.length = x.size := by simp
   omega
 have H1 := Lib.hid h1; have HM := Lib.hid hm
 clear hc1 hc2 h1 hm hY hYl hYs
 go_enter Tryz.func16, Tryz.ntmps16
 go_wp2_with fail
 refine H1.out.mono ?_
 rintro e w1 ⟨rfl, hb1⟩
 have HM1 := moved HM.out hb1 (Nat.le_refl _)
 have H2 := Lib.hid (h2.out w1 HM1)
 have HB1 := Lib.hid hb1
 clear HM1 hb1 H1
 go_wp2_with fail
 refine H2.out.mono ?_
 rintro e w2 ⟨⟨Z, rfl, hz, hzs⟩, hb2⟩
 have HQ := Lib.hid (quote_eq Z hz)
 have HB2 := Lib.hid (bt HB1.out hb2)
 clear hz hb2 h2 H2
 go_wp2_with fail
 go_ret
 exact ⟨congrArg (fun b => Ending.returned (Value.string b)) HQ.out, HB2.out⟩
theorem tab_below {w w' : World} {n : String} {k : IntKind} {zs : List Int} (h : Lib.TabIs Tryz.prog w n k zs) (hb : Below w.heap.size w w') : Lib.TabIs Tryz.prog w' n k zs := by
 unfold Lib.TabIs World.var? at h ⊢
 cases hg : Tryz.prog.globalNamed n with
 | none => rw [hg] at h; cases h
 | some g =>
  rw [hg] at h
  simp only [Option.bind_some] at h ⊢
  cases hh : w.heap[g]? with
  | none => rw [hh] at h; cases h
  | some o =>
   have hlt : g < w.heap.size := by
    rcases Nat.lt_or_ge g w.heap.size with h' | h'
    ·exact h'
    ·simp [Array.getElem?_eq_none h'] at hh
   rw [hb.block g hlt]; exact h
theorem isB_down {T e B b : Nat} {bs : List Value} {w w' : World} (h : Lib.IsBuilder T e B b bs w) (hb : Below w.heap.size w w') : Lib.IsBuilder T e B b bs w' := by
 have dn : ∀ p, Lib.BuilderAt T e B b p bs w → Lib.BuilderAt T e B b p bs w' := fun p h => by
  have hlt := h.lt
  obtain ⟨h1, v, h2, h3, h4⟩ := h
  exact ⟨h1, v, (hb.block b hlt).trans h2, row_down h3 hb, h4⟩
 exact h.elim (fun h => .inl (dn _ h)) (fun h => .inr (dn _ h))
def JoinPost (r : List UInt8 × Int) (w : World) (e : Ending) (w' : World) : Prop := e = .returned (.tuple #[.string ⟨r.1.toArray⟩, .int .i64 r.2]) ∧ Below w.heap.size w w'
theorem JoinPost.err {z : Int} {r : List UInt8 × Int} {w w' : World} (h : r = ([], z)) (hb : Below w.heap.size w w') : JoinPost r w (.returned (.tuple #[.string ⟨#[]⟩, .int .i64 z])) w' := by subst h; exact ⟨rfl, hb⟩
theorem joinF_bad {acc : List UInt8} {t : Tok} {l : List Tok} (h : checkT t ≠ 0) : joinF acc (t :: l) = ([], checkT t) := if_neg h
theorem joinF_long {acc : List UInt8} {t : Tok} {l : List Tok} (h : checkT t = 0) (h2 : 2000 < (acc ++ formL t ++ [32]).length) : joinF acc (t :: l) = ([], 1) := by rw [joinF, if_pos h, if_pos h2]
theorem joinF_next {acc : List UInt8} {t : Tok} {l : List Tok} (h : checkT t = 0) (h2 : ¬ 2000 < (acc ++ formL t ++ [32]).length) : joinF acc (t :: l) = joinF (acc ++ formL t ++ [32]) l := by rw [joinF, if_pos h, if_neg h2]
theorem check_kind {t : Tok} (h : checkT t = 0) : (t.kind = 3 ∧ 0 ≤ t.num ∧ t.num ≤ 2147483647) ∨ t.kind = 2 ∨ t.kind = 4 ∨ t.kind = 1 ∨ t.kind = 5 := by
 unfold checkT at h
 split at h
 ·rename_i h3
  split at h
  ·cases h
  ·exact .inl ⟨h3, by omega, by omega⟩
 ·split at h
  ·rename_i h12
   rcases h12 with h | h
   ·exact .inr (.inr (.inr (.inl h)))
   ·exact .inr (.inl h)
  ·split at h
   ·rename_i h5; exact .inr (.inr (.inr (.inr h5)))
   ·split at h
    ·rename_i h4; exact .inr (.inr (.inl h4))
    ·cases h
theorem colon_eq (x : List UInt8) : (⟨#[58]⟩ : ByteArray) ++ ⟨x.toArray⟩ = ⟨(58 :: x).toArray⟩ := by
 rw [← Lib.mk_data ((⟨#[58]⟩ : ByteArray) ++ ⟨x.toArray⟩)]
 congr 2
theorem cells_str (A x : List UInt8) : Lib.byteCells A ++ Lib.strCells ⟨x.toArray⟩ = Lib.byteCells (A ++ x) := by
 rw [Lib.strCells_eq, ← Lib.byteCells_append]
theorem cells_blank (A : List UInt8) : Lib.byteCells A ++ [.int .u8 (((32 : UInt8)).toNat : Int)] = Lib.byteCells (A ++ [32]) := by
 rw [Lib.byteCells_append]; rfl
theorem join_any (ts : List Tok) (v : Value) (F : Dom) (m : Int) (w : World) (hv : SAt cTok w F v ts) (hx : ∀ t ∈ ts, t.text.length ≤ 50000) (hm : w.cell? ⟨5, 0, none⟩ = some (.int .i64 m)) (htab : Lib.TabIs Tryz.prog w "internal/strconv.uint64pow10" .u64 Lib.pow10Tab) :
    Calls Tryz.prog 6 #[v] w (JoinPost (joinL ts) w) := by
 obtain ⟨G, cap, rfl, hcap⟩ := hv.form
 by_cases hbig : 400 < ts.length
 ·have HFIN : Hid (joinL ts = ([], 5)) := if_pos hbig
  go_enter Tryz.func6, Tryz.ntmps6
  go_wp2_with fail
  go_ret2
  exact JoinPost.err HFIN.out (Below.refl _ _)
 ·have h400 : ts.length ≤ 400 := by omega
  have HJ : Hid (joinL ts = joinF [] ts) := if_neg hbig
  obtain ⟨R, hR⟩ : ∃ R, R = w.heap.size := ⟨_, rfl⟩
  have hbl := Lib.fresh_isBuilder 51 5 w
  have hb0 := ba (Below.refl w.heap.size w) (.cells #[.pointer none, .slice none 0 0] 51)
  rw [← hR] at hbl
  obtain ⟨W0, hW0⟩ : ∃ W0, W0 = w.alloc (.cells #[.pointer none, .slice none 0 0] 51) := ⟨_, rfl⟩
  rw [← hW0] at hbl hb0
  have HBL := Lib.hid hbl; have HB0 := Lib.hid hb0; have HV := Lib.hid hv; have HX := Lib.hid hx; have HM := Lib.hid hm; have HT := Lib.hid htab
  have HW0 := Lib.hid hW0.symm; have HR := Lib.hid hR.symm
  have hRw : R = w.heap.size := hR
  have hRle : R ≤ w.heap.size ∧ w.heap.size ≤ R := by omega
  obtain ⟨hR1, hR2⟩ := hRle
  have hRW : R + 1 ≤ W0.heap.size := by rw [hW0]; simp; omega
  clear hbig hbl hb0 hW0 hv hx hm htab hR hRw
  go_enter Tryz.func6, Tryz.ntmps6
  go_wp2_with fail
  rw [HW0.out, HR.out]
  go_loopw [13] (fun i wr => ∃ (j : Nat) (A : List UInt8), j ≤ ts.length ∧ i = .int .i64 j ∧ Lib.IsBuilder 51 5 R R (Lib.byteCells A) wr ∧ Below w.heap.size w wr ∧ A.length ≤ 2000 ∧ Hid (joinL ts = joinF A (ts.drop j)) ∧ R + 1 ≤ wr.heap.size) (fun i _ => ts.length - (intOf i).toNat)
  case atStart => exact ⟨0, [], Nat.zero_le _, rfl, HBL.out, HB0.out, Nat.zero_le _, HJ.out, hRW⟩
  case round =>
   obtain ⟨j, A, hj, rfl, hib, hbel, hA2, heq, hsz⟩ := hrel
   have HIB := Lib.hid hib; have HBEL := Lib.hid hbel
   clear hib hbel
   by_cases hlt : j < ts.length
   ·obtain ⟨g, off, vs, hG, hF, hg, hrep, hcells⟩ := (HV.out.down HBEL.out).get j hlt
    obtain rfl : vs = tokC ts[j] := hrep
    subst hG
    have c0 : wr.cell? ⟨g, off + j * 3, none⟩ = some (.int .i64 ts[j].kind) := hcells 0 _ rfl
    have c1 : wr.cell? ⟨g, off + j * 3 + 1, none⟩ = some (.string ⟨ts[j].text.toArray⟩) := hcells 1 _ rfl
    have c2 : wr.cell? ⟨g, off + j * 3 + 2, none⟩ = some (.int .i64 ts[j].num) := hcells 2 _ rfl
    have hdrop : ts.drop j = ts[j] :: ts.drop (j + 1) := List.drop_eq_getElem_cons hlt
    rw [hdrop] at heq
    obtain ⟨t, ht⟩ : ∃ t, t = ts[j] := ⟨_, rfl⟩
    have htx : t.text.length ≤ 50000 := HX.out t (by rw [ht]; exact List.getElem_mem hlt)
    rw [← ht] at c0 c1 c2 heq
    clear hcells hdrop ht
    go_wp2_with fail
    have hsw : wr.heap.size < (wr.alloc (.cells #[.int .i64 t.kind, .string ⟨t.text.toArray⟩, .int .i64 t.num] 53)).heap.size := by simp
    obtain ⟨c, hc⟩ : ∃ c, c = checkT t := ⟨_, rfl⟩
    have hck : Calls Tryz.prog 13 #[.agg #[.int .i64 t.kind, .string ⟨t.text.toArray⟩, .int .i64 t.num]] (wr.alloc (.cells #[.int .i64 t.kind, .string ⟨t.text.toArray⟩, .int .i64 t.num] 53)) fun e w' => e = .returned (.int .i64 c) ∧ Below (wr.alloc (.cells #[.int .i64 t.kind, .string ⟨t.text.toArray⟩, .int .i64 t.num] 53)).heap.size (wr.alloc (.cells #[.int .i64 t.kind, .string ⟨t.text.toArray⟩, .int .i64 t.num] 53)) w' := by
     rw [hc]
     exact check_any t.kind t.num ⟨t.text.toArray⟩ _ (by show t.text.toArray.size ≤ _; rw [List.size_toArray]; omega)
    refine hck.mono ?_
    rintro e w2 ⟨rfl, hb2⟩
    have d0 : w2.cell? ⟨wr.heap.size, 0, none⟩ = some (.int .i64 t.kind) := moved (alloc_cell wr _ _ 0 _ rfl) hb2 (Nat.le_refl _)
    have d1 : w2.cell? ⟨wr.heap.size, 1, none⟩ = some (.string ⟨t.text.toArray⟩) := moved (alloc_cell wr _ _ 1 _ rfl) hb2 (Nat.le_refl _)
    have d2 : w2.cell? ⟨wr.heap.size, 2, none⟩ = some (.int .i64 t.num) := moved (alloc_cell wr _ _ 2 _ rfl) hb2 (Nat.le_refl _)
    have hbw : Below wr.heap.size wr w2 := bt (ba (Below.refl _ _) _) hb2
    have HIB2 := Lib.hid (isB_down HIB.out hbw)
    have HBEL2 := Lib.hid (bt HBEL.out hbw)
    have hsz2 : R + 1 ≤ w2.heap.size := Nat.le_trans hsz hbw.size
    clear hb2 hbw hck c0 c1 c2 HIB HBEL
    by_cases hk : c = 0
    ·subst hk
     have HEQ := Lib.hid hc.symm
     clear hc
     rcases check_kind HEQ.out with ⟨k3, n0, n1⟩ | k2 | k4 | k1 | k5
     ·have HF : Hid (formL t = Go.Lib.itoa t.num) := by unfold Hid formL; rw [if_pos k3]
      rw [k3] at d0
      clear k3
      have HIT := Lib.hid (Tryz.strconv_Itoa t.num (by omega) (by omega) w2 (tab_below HT.out HBEL2.out))
      go_wp2_with fail
      refine HIT.out.mono ?_
      rintro e w3 ⟨rfl, kk, os, hw3⟩
      have hg3 : Below w2.heap.size w2 w3 := hw3 ▸ Lib.below_grow w2.heap.size w2 (Nat.le_refl _) kk os
      have HIB3 := Lib.hid (isB_down HIB2.out hg3)
      have HBEL3 := Lib.hid (bt HBEL2.out hg3)
      have hsz3 : R + 1 ≤ w3.heap.size := Nat.le_trans hsz2 hg3.size
      clear hw3 hg3 HIT HIB2 HBEL2 d0 d1 d2
      have hft : (formL t).length ≤ 200000 := by
       rw [HF.out]; have := Go.Lib.itoa_length_le t.num (by omega) (by omega); omega
      have hws : Calls Tryz.prog 14 #[.pointer (some ⟨R, 0, none⟩), .string ⟨(Go.Lib.itoa t.num).toArray⟩] w3 fun e w' => (∃ z : Int, e = .returned (.tuple #[.int .i64 z, .nilIface])) ∧ (Lib.BuilderAt 51 5 R R (.pointer (some ⟨R, 0, none⟩)) (Lib.byteCells (A ++ formL t)) w' ∧ Below R w3 w') := by
       rw [← cells_str, ← HF.out]
       exact (writeString_any R R _ _ w3 HIB3.out (by rw [Lib.byteCells_length]; show _ + (List.toArray _).size ≤ _; rw [List.size_toArray]; omega) (by omega)).mono fun e w' ⟨he, hr⟩ => ⟨⟨_, he⟩, hr⟩
      have HWS := Lib.hid hws
      clear hws
      go_wp2_with fail
      refine HWS.out.mono ?_
      rintro e w4 ⟨⟨z, rfl⟩, hib4, hb4⟩
      have HIB4 := Lib.hid hib4
      have HBEL4 := Lib.hid (HBEL3.out.trans (hb4.mono hR2))
      have hsz4 : R + 1 ≤ w4.heap.size := Nat.le_trans hsz3 hb4.size
      clear hib4 hb4 HWS HIB3 HBEL3
      have HIBx := HIB4
      have hwb : Calls Tryz.prog 17 #[.pointer (some ⟨R, 0, none⟩), .int .u8 32] w4 fun e w' => e = .returned .nilIface ∧ (Lib.BuilderAt 51 5 R R (.pointer (some ⟨R, 0, none⟩)) (Lib.byteCells (A ++ formL t ++ [32])) w' ∧ Below R w4 w') := by
       rw [← cells_blank]
       exact writeByte_any R R _ 32 w4 (.inr HIBx.out) (by rw [Lib.byteCells_length, List.length_append]; omega) (by omega)
      have HWB := Lib.hid hwb
      clear hwb
      go_wp2_with fail
      refine HWB.out.mono ?_
      rintro e w5 ⟨rfl, hib5, hb5⟩
      have hbel5 : Below w.heap.size w w5 := HBEL4.out.trans (hb5.mono hR2)
      have hsz5 : R + 1 ≤ w5.heap.size := Nat.le_trans hsz4 hb5.size
      obtain ⟨L, hL⟩ : ∃ L : Nat, L = (A ++ formL t ++ [32]).length := ⟨_, rfl⟩
      have hln : Calls Tryz.prog 18 #[.pointer (some ⟨R, 0, none⟩)] w5 fun e w' => e = .returned (.int .i64 (L : Int)) ∧ w' = w5 := by
       have := Tryz.Builder_Len R R _ w5 (.inr hib5)
       rw [Lib.byteCells_length, ← hL] at this
       exact this
      have HBEL5 := Lib.hid hbel5; have HIB5 := Lib.hid hib5; have HLN := Lib.hid hln; have HL := Lib.hid hL
      have hL64 : L < 4611686018427387904 := by
       rw [hL, List.length_append, List.length_append]
       show A.length + (formL t).length + 1 < _
       omega
      clear hb5 hbel5 hib5 hln hL HWB HIBx HIB4 HBEL4
      go_wp2_with fail
      refine HLN.out.mono ?_
      rintro e w6 ⟨rfl, rfl⟩
      clear HLN
      by_cases hbig : 2000 < L
      ·go_wp2_with fail
       go_ret2
       exact JoinPost.err (heq.out.trans (joinF_long HEQ.out (by rw [← HL.out]; exact hbig))) HBEL5.out
      ·go_wp2_with fail
       go_roundw
       case rel => exact ⟨j + 1, A ++ formL t ++ [32], by omega, by go_num, .inr HIB5.out, HBEL5.out, by rw [← HL.out]; omega, heq.out.trans (joinF_next HEQ.out (by rw [← HL.out]; exact hbig)), hsz5⟩
       case measure => simp [intOf]; omega
     ·have HF : Hid (formL t = 58 :: t.text) := by unfold Hid formL; rw [if_neg (by omega), if_pos k2]
      rw [k2] at d0
      clear k2
      obtain ⟨w3, hw3⟩ : ∃ w3, w3 = w2 := ⟨_, rfl⟩
      subst hw3
      have HIB3 := HIB2; have HBEL3 := HBEL2; have hsz3 := hsz2
      clear HIB2 HBEL2
      have hft : (formL t).length ≤ 200000 := by
       rw [HF.out]; show t.text.length + 1 ≤ _; omega
      have hws : Calls Tryz.prog 14 #[.pointer (some ⟨R, 0, none⟩), .string ((⟨#[58]⟩ : ByteArray) ++ ⟨t.text.toArray⟩)] w3 fun e w' => (∃ z : Int, e = .returned (.tuple #[.int .i64 z, .nilIface])) ∧ (Lib.BuilderAt 51 5 R R (.pointer (some ⟨R, 0, none⟩)) (Lib.byteCells (A ++ formL t)) w' ∧ Below R w3 w') := by
       rw [← cells_str, colon_eq, ← HF.out]
       exact (writeString_any R R _ _ w3 HIB3.out (by rw [Lib.byteCells_length]; show _ + (List.toArray _).size ≤ _; rw [List.size_toArray]; omega) (by omega)).mono fun e w' ⟨he, hr⟩ => ⟨⟨_, he⟩, hr⟩
      have HWS := Lib.hid hws
      clear hws
      go_wp2_with fail
      refine HWS.out.mono ?_
      rintro e w4 ⟨⟨z, rfl⟩, hib4, hb4⟩
      have HIB4 := Lib.hid hib4
      have HBEL4 := Lib.hid (HBEL3.out.trans (hb4.mono hR2))
      have hsz4 : R + 1 ≤ w4.heap.size := Nat.le_trans hsz3 hb4.size
      clear hib4 hb4 HWS HIB3 HBEL3
      have HIBx := HIB4
      have hwb : Calls Tryz.prog 17 #[.pointer (some ⟨R, 0, none⟩), .int .u8 32] w4 fun e w' => e = .returned .nilIface ∧ (Lib.BuilderAt 51 5 R R (.pointer (some ⟨R, 0, none⟩)) (Lib.byteCells (A ++ formL t ++ [32])) w' ∧ Below R w4 w') := by
       rw [← cells_blank]
       exact writeByte_any R R _ 32 w4 (.inr HIBx.out) (by rw [Lib.byteCells_length, List.length_append]; omega) (by omega)
      have HWB := Lib.hid hwb
      clear hwb
      go_wp2_with fail
      refine HWB.out.mono ?_
      rintro e w5 ⟨rfl, hib5, hb5⟩
      have hbel5 : Below w.heap.size w w5 := HBEL4.out.trans (hb5.mono hR2)
      have hsz5 : R + 1 ≤ w5.heap.size := Nat.le_trans hsz4 hb5.size
      obtain ⟨L, hL⟩ : ∃ L : Nat, L = (A ++ formL t ++ [32]).length := ⟨_, rfl⟩
      have hln : Calls Tryz.prog 18 #[.pointer (some ⟨R, 0, none⟩)] w5 fun e w' => e = .returned (.int .i64 (L : Int)) ∧ w' = w5 := by
       have := Tryz.Builder_Len R R _ w5 (.inr hib5)
       rw [Lib.byteCells_length, ← hL] at this
       exact this
      have HBEL5 := Lib.hid hbel5; have HIB5 := Lib.hid hib5; have HLN := Lib.hid hln; have HL := Lib.hid hL
      have hL64 : L < 4611686018427387904 := by
       rw [hL, List.length_append, List.length_append]
       show A.length + (formL t).length + 1 < _
       omega
      clear hb5 hbel5 hib5 hln hL HWB HIBx HIB4 HBEL4
      go_wp2_with fail
      refine HLN.out.mono ?_
      rintro e w6 ⟨rfl, rfl⟩
      clear HLN
      by_cases hbig : 2000 < L
      ·go_wp2_with fail
       go_ret2
       exact JoinPost.err (heq.out.trans (joinF_long HEQ.out (by rw [← HL.out]; exact hbig))) HBEL5.out
      ·go_wp2_with fail
       go_roundw
       case rel => exact ⟨j + 1, A ++ formL t ++ [32], by omega, by go_num, .inr HIB5.out, HBEL5.out, by rw [← HL.out]; omega, heq.out.trans (joinF_next HEQ.out (by rw [← HL.out]; exact hbig)), hsz5⟩
       case measure => simp [intOf]; omega
     ·have HF : Hid (formL t = quoteL t.text) := by unfold Hid formL; rw [if_neg (by omega), if_neg (by omega), if_pos k4]
      rw [k4] at d0
      clear k4
      have HQT := Lib.hid (quote_any ⟨t.text.toArray⟩ m w2 (by show t.text.toArray.size ≤ _; rw [List.size_toArray]; omega) (moved HM.out HBEL2.out (Nat.le_refl _)))
      go_wp2_with fail
      refine HQT.out.mono ?_
      rintro e w3 ⟨rfl, hg3⟩
      have HIB3 := Lib.hid (isB_down HIB2.out hg3)
      have HBEL3 := Lib.hid (bt HBEL2.out hg3)
      have hsz3 : R + 1 ≤ w3.heap.size := Nat.le_trans hsz2 hg3.size
      clear hg3 HQT HIB2 HBEL2 d0 d1 d2
      have hft : (formL t).length ≤ 200000 := by
       rw [HF.out]; show (34 :: (esc t.text ++ [34])).length ≤ _; have := esc_len t.text; rw [List.length_cons, List.length_append]; show _ + 1 + 1 ≤ _; omega
      have hws : Calls Tryz.prog 14 #[.pointer (some ⟨R, 0, none⟩), .string ⟨(quoteL t.text).toArray⟩] w3 fun e w' => (∃ z : Int, e = .returned (.tuple #[.int .i64 z, .nilIface])) ∧ (Lib.BuilderAt 51 5 R R (.pointer (some ⟨R, 0, none⟩)) (Lib.byteCells (A ++ formL t)) w' ∧ Below R w3 w') := by
       rw [← cells_str, ← HF.out]
       exact (writeString_any R R _ _ w3 HIB3.out (by rw [Lib.byteCells_length]; show _ + (List.toArray _).size ≤ _; rw [List.size_toArray]; omega) (by omega)).mono fun e w' ⟨he, hr⟩ => ⟨⟨_, he⟩, hr⟩
      have HWS := Lib.hid hws
      clear hws
      go_wp2_with fail
      refine HWS.out.mono ?_
      rintro e w4 ⟨⟨z, rfl⟩, hib4, hb4⟩
      have HIB4 := Lib.hid hib4
      have HBEL4 := Lib.hid (HBEL3.out.trans (hb4.mono hR2))
      have hsz4 : R + 1 ≤ w4.heap.size := Nat.le_trans hsz3 hb4.size
      clear hib4 hb4 HWS HIB3 HBEL3
      have HIBx := HIB4
      have hwb : Calls Tryz.prog 17 #[.pointer (some ⟨R, 0, none⟩), .int .u8 32] w4 fun e w' => e = .returned .nilIface ∧ (Lib.BuilderAt 51 5 R R (.pointer (some ⟨R, 0, none⟩)) (Lib.byteCells (A ++ formL t ++ [32])) w' ∧ Below R w4 w') := by
       rw [← cells_blank]
       exact writeByte_any R R _ 32 w4 (.inr HIBx.out) (by rw [Lib.byteCells_length, List.length_append]; omega) (by omega)
      have HWB := Lib.hid hwb
      clear hwb
      go_wp2_with fail
      refine HWB.out.mono ?_
      rintro e w5 ⟨rfl, hib5, hb5⟩
      have hbel5 : Below w.heap.size w w5 := HBEL4.out.trans (hb5.mono hR2)
      have hsz5 : R + 1 ≤ w5.heap.size := Nat.le_trans hsz4 hb5.size
      obtain ⟨L, hL⟩ : ∃ L : Nat, L = (A ++ formL t ++ [32]).length := ⟨_, rfl⟩
      have hln : Calls Tryz.prog 18 #[.pointer (some ⟨R, 0, none⟩)] w5 fun e w' => e = .returned (.int .i64 (L : Int)) ∧ w' = w5 := by
       have := Tryz.Builder_Len R R _ w5 (.inr hib5)
       rw [Lib.byteCells_length, ← hL] at this
       exact this
      have HBEL5 := Lib.hid hbel5; have HIB5 := Lib.hid hib5; have HLN := Lib.hid hln; have HL := Lib.hid hL
      have hL64 : L < 4611686018427387904 := by
       rw [hL, List.length_append, List.length_append]
       show A.length + (formL t).length + 1 < _
       omega
      clear hb5 hbel5 hib5 hln hL HWB HIBx HIB4 HBEL4
      go_wp2_with fail
      refine HLN.out.mono ?_
      rintro e w6 ⟨rfl, rfl⟩
      clear HLN
      by_cases hbig : 2000 < L
      ·go_wp2_with fail
       go_ret2
       exact JoinPost.err (heq.out.trans (joinF_long HEQ.out (by rw [← HL.out]; exact hbig))) HBEL5.out
      ·go_wp2_with fail
       go_roundw
       case rel => exact ⟨j + 1, A ++ formL t ++ [32], by omega, by go_num, .inr HIB5.out, HBEL5.out, by rw [← HL.out]; omega, heq.out.trans (joinF_next HEQ.out (by rw [← HL.out]; exact hbig)), hsz5⟩
       case measure => simp [intOf]; omega
     ·have HF : Hid (formL t = t.text) := by unfold Hid formL; rw [if_neg (by omega), if_neg (by omega), if_neg (by omega)]
      rw [k1] at d0
      clear k1
      obtain ⟨w3, hw3⟩ : ∃ w3, w3 = w2 := ⟨_, rfl⟩
      subst hw3
      have HIB3 := HIB2; have HBEL3 := HBEL2; have hsz3 := hsz2
      clear HIB2 HBEL2
      have hft : (formL t).length ≤ 200000 := by
       rw [HF.out]; omega
      have hws : Calls Tryz.prog 14 #[.pointer (some ⟨R, 0, none⟩), .string ⟨t.text.toArray⟩] w3 fun e w' => (∃ z : Int, e = .returned (.tuple #[.int .i64 z, .nilIface])) ∧ (Lib.BuilderAt 51 5 R R (.pointer (some ⟨R, 0, none⟩)) (Lib.byteCells (A ++ formL t)) w' ∧ Below R w3 w') := by
       rw [← cells_str, ← HF.out]
       exact (writeString_any R R _ _ w3 HIB3.out (by rw [Lib.byteCells_length]; show _ + (List.toArray _).size ≤ _; rw [List.size_toArray]; omega) (by omega)).mono fun e w' ⟨he, hr⟩ => ⟨⟨_, he⟩, hr⟩
      have HWS := Lib.hid hws
      clear hws
      go_wp2_with fail
      refine HWS.out.mono ?_
      rintro e w4 ⟨⟨z, rfl⟩, hib4, hb4⟩
      have HIB4 := Lib.hid hib4
      have HBEL4 := Lib.hid (HBEL3.out.trans (hb4.mono hR2))
      have hsz4 : R + 1 ≤ w4.heap.size := Nat.le_trans hsz3 hb4.size
      clear hib4 hb4 HWS HIB3 HBEL3
      have HIBx := HIB4
      have hwb : Calls Tryz.prog 17 #[.pointer (some ⟨R, 0, none⟩), .int .u8 32] w4 fun e w' => e = .returned .nilIface ∧ (Lib.BuilderAt 51 5 R R (.pointer (some ⟨R, 0, none⟩)) (Lib.byteCells (A ++ formL t ++ [32])) w' ∧ Below R w4 w') := by
       rw [← cells_blank]
       exact writeByte_any R R _ 32 w4 (.inr HIBx.out) (by rw [Lib.byteCells_length, List.length_append]; omega) (by omega)
      have HWB := Lib.hid hwb
      clear hwb
      go_wp2_with fail
      refine HWB.out.mono ?_
      rintro e w5 ⟨rfl, hib5, hb5⟩
      have hbel5 : Below w.heap.size w w5 := HBEL4.out.trans (hb5.mono hR2)
      have hsz5 : R + 1 ≤ w5.heap.size := Nat.le_trans hsz4 hb5.size
      obtain ⟨L, hL⟩ : ∃ L : Nat, L = (A ++ formL t ++ [32]).length := ⟨_, rfl⟩
      have hln : Calls Tryz.prog 18 #[.pointer (some ⟨R, 0, none⟩)] w5 fun e w' => e = .returned (.int .i64 (L : Int)) ∧ w' = w5 := by
       have := Tryz.Builder_Len R R _ w5 (.inr hib5)
       rw [Lib.byteCells_length, ← hL] at this
       exact this
      have HBEL5 := Lib.hid hbel5; have HIB5 := Lib.hid hib5; have HLN := Lib.hid hln; have HL := Lib.hid hL
      have hL64 : L < 4611686018427387904 := by
       rw [hL, List.length_append, List.length_append]
       show A.length + (formL t).length + 1 < _
       omega
      clear hb5 hbel5 hib5 hln hL HWB HIBx HIB4 HBEL4
      go_wp2_with fail
      refine HLN.out.mono ?_
      rintro e w6 ⟨rfl, rfl⟩
      clear HLN
      by_cases hbig : 2000 < L
      ·go_wp2_with fail
       go_ret2
       exact JoinPost.err (heq.out.trans (joinF_long HEQ.out (by rw [← HL.out]; exact hbig))) HBEL5.out
      ·go_wp2_with fail
       go_roundw
       case rel => exact ⟨j + 1, A ++ formL t ++ [32], by omega, by go_num, .inr HIB5.out, HBEL5.out, by rw [← HL.out]; omega, heq.out.trans (joinF_next HEQ.out (by rw [← HL.out]; exact hbig)), hsz5⟩
       case measure => simp [intOf]; omega
     ·have HF : Hid (formL t = t.text) := by unfold Hid formL; rw [if_neg (by omega), if_neg (by omega), if_neg (by omega)]
      rw [k5] at d0
      clear k5
      obtain ⟨w3, hw3⟩ : ∃ w3, w3 = w2 := ⟨_, rfl⟩
      subst hw3
      have HIB3 := HIB2; have HBEL3 := HBEL2; have hsz3 := hsz2
      clear HIB2 HBEL2
      have hft : (formL t).length ≤ 200000 := by
       rw [HF.out]; omega
      have hws : Calls Tryz.prog 14 #[.pointer (some ⟨R, 0, none⟩), .string ⟨t.text.toArray⟩] w3 fun e w' => (∃ z : Int, e = .returned (.tuple #[.int .i64 z, .nilIface])) ∧ (Lib.BuilderAt 51 5 R R (.pointer (some ⟨R, 0, none⟩)) (Lib.byteCells (A ++ formL t)) w' ∧ Below R w3 w') := by
       rw [← cells_str, ← HF.out]
       exact (writeString_any R R _ _ w3 HIB3.out (by rw [Lib.byteCells_length]; show _ + (List.toArray _).size ≤ _; rw [List.size_toArray]; omega) (by omega)).mono fun e w' ⟨he, hr⟩ => ⟨⟨_, he⟩, hr⟩
      have HWS := Lib.hid hws
      clear hws
      go_wp2_with fail
      refine HWS.out.mono ?_
      rintro e w4 ⟨⟨z, rfl⟩, hib4, hb4⟩
      have HIB4 := Lib.hid hib4
      have HBEL4 := Lib.hid (HBEL3.out.trans (hb4.mono hR2))
      have hsz4 : R + 1 ≤ w4.heap.size := Nat.le_trans hsz3 hb4.size
      clear hib4 hb4 HWS HIB3 HBEL3
      have HIBx := HIB4
      have hwb : Calls Tryz.prog 17 #[.pointer (some ⟨R, 0, none⟩), .int .u8 32] w4 fun e w' => e = .returned .nilIface ∧ (Lib.BuilderAt 51 5 R R (.pointer (some ⟨R, 0, none⟩)) (Lib.byteCells (A ++ formL t ++ [32])) w' ∧ Below R w4 w') := by
       rw [← cells_blank]
       exact writeByte_any R R _ 32 w4 (.inr HIBx.out) (by rw [Lib.byteCells_length, List.length_append]; omega) (by omega)
      have HWB := Lib.hid hwb
      clear hwb
      go_wp2_with fail
      refine HWB.out.mono ?_
      rintro e w5 ⟨rfl, hib5, hb5⟩
      have hbel5 : Below w.heap.size w w5 := HBEL4.out.trans (hb5.mono hR2)
      have hsz5 : R + 1 ≤ w5.heap.size := Nat.le_trans hsz4 hb5.size
      obtain ⟨L, hL⟩ : ∃ L : Nat, L = (A ++ formL t ++ [32]).length := ⟨_, rfl⟩
      have hln : Calls Tryz.prog 18 #[.pointer (some ⟨R, 0, none⟩)] w5 fun e w' => e = .returned (.int .i64 (L : Int)) ∧ w' = w5 := by
       have := Tryz.Builder_Len R R _ w5 (.inr hib5)
       rw [Lib.byteCells_length, ← hL] at this
       exact this
      have HBEL5 := Lib.hid hbel5; have HIB5 := Lib.hid hib5; have HLN := Lib.hid hln; have HL := Lib.hid hL
      have hL64 : L < 4611686018427387904 := by
       rw [hL, List.length_append, List.length_append]
       show A.length + (formL t).length + 1 < _
       omega
      clear hb5 hbel5 hib5 hln hL HWB HIBx HIB4 HBEL4
      go_wp2_with fail
      refine HLN.out.mono ?_
      rintro e w6 ⟨rfl, rfl⟩
      clear HLN
      by_cases hbig : 2000 < L
      ·go_wp2_with fail
       go_ret2
       exact JoinPost.err (heq.out.trans (joinF_long HEQ.out (by rw [← HL.out]; exact hbig))) HBEL5.out
      ·go_wp2_with fail
       go_roundw
       case rel => exact ⟨j + 1, A ++ formL t ++ [32], by omega, by go_num, .inr HIB5.out, HBEL5.out, by rw [← HL.out]; omega, heq.out.trans (joinF_next HEQ.out (by rw [← HL.out]; exact hbig)), hsz5⟩
       case measure => simp [intOf]; omega
    ·have HFIN : Hid (joinL ts = ([], c)) := by
      unfold Hid
      rw [hc]
      exact heq.out.trans (joinF_bad (by rw [← hc]; exact hk))
     have q := int_bn c 0 hk
     clear hc hk heq
     go_wp2_with fail
     go_ret2
     exact JoinPost.err HFIN.out HBEL2.out
   ·obtain rfl : j = ts.length := by omega
    have HFIN : Hid (joinL ts = (A, 0)) := by unfold Hid; rw [heq.out, List.drop_length]; rfl
    have HST := Lib.hid (Tryz.Builder_String_any R R A wr HIB.out (by omega))
    clear heq hlt
    go_wp2_with fail
    refine HST.out.mono ?_
    rintro e w2 ⟨rfl, hb2⟩
    have HB2 := Lib.hid (HBEL.out.trans (hb2.mono (by omega)))
    clear hb2 HST
    go_wp2_with fail
    go_ret2
    exact ⟨by rw [HFIN.out]; rfl, HB2.out⟩
end Go.Proofs.YtjfclekmhfgkmaaGreatDoor.Tk
