/-
  DERIVED. WhoMany: the walk.
-/
import Derived.Test.YtkchoempejdleaaDoorManyPlain
import Derived.Test.YtkchoempejdleaaDoorLetPlain
import Derived.Test.YtkchoempejdleaaDoorRows2
import Derived.Test.YtkchoempejdleaaDoorWhoBad
import Derived.BigRegion
namespace Go.Proofs.YtkchoempejdleaaDoor
open Go.RowKit

def sepV : Array Value := #[.string ⟨#[44]⟩, .string ⟨#[44, 32]⟩, .string ⟨#[32, 44, 9]⟩]
theorem sep_pick (s : Nat) (hs : s < 3) : ∃ P : ByteArray, sepV[s]? = some (.string P) ∧ P.data.toList = spT s ∧ P.size ≤ 3 := by
  have : s = 0 ∨ s = 1 ∨ s = 2 := by omega
  rcases this with rfl | rfl | rfl
  · exact ⟨⟨#[44]⟩, rfl, rfl, by decide⟩
  · exact ⟨⟨#[44, 32]⟩, rfl, rfl, by decide⟩
  · exact ⟨⟨#[32, 44, 9]⟩, rfl, rfl, by decide⟩
/-- the persons of raw bytes -/
def pnOf (x : Nat → Nat → ByteArray) (i : Nat) : Pn := ⟨pick (x i 0).size (4 : Nat), pick (x i 2).size (3 : Nat), (x i 0).data.toList, (x i 1).data.toList, (x i 2).data.toList⟩
theorem ad_len (l d : List UInt8) : (adT l d).length ≤ 21 := by
  have h1 := wordL_le l
  have h2 := wordL_le d
  unfold adT
  simp only [List.length_append, List.length_cons, List.length_nil]
  omega
theorem it_len (p : Nat) (l d v : List UInt8) : (itT p l d v).length ≤ 40 := by
  have h1 := ad_len l d
  have h2 := wordL_le v
  unfold itT
  split
  · omega
  · split
    · simp only [List.length_append, List.length_cons, List.length_nil]; omega
    · split <;> (simp only [List.length_append, List.length_cons, List.length_nil]; omega)
theorem many_len (q : Nat → Pn) : ∀ j, (manyT q j).length ≤ 43 * j
  | 0 => Nat.le_refl _
  | j + 1 => by
    have ih := many_len q j
    have h1 : (q j).it.length ≤ 40 := it_len _ _ _ _
    have h2 : (if j = 0 then ([] : List UInt8) else spT (q j).s).length ≤ 3 := by
      split
      · exact Nat.zero_le _
      · unfold spT
        split
        · decide
        · split <;> decide
    rw [manyT, List.length_append, List.length_append]
    omega
theorem many_zero (q : Nat → Pn) (S X : ByteArray) (hS : S.data.toList = manyT q 0) (hX : X.data.toList = (q 0).it) : (S ++ X).data.toList = manyT q 1 := by
  rw [ByteArray.toList_data_append, hS, hX]; rfl
theorem many_succ (q : Nat → Pn) (j : Nat) (hj : j ≠ 0) (S P X : ByteArray) (hS : S.data.toList = manyT q j) (hP : P.data.toList = spT (q j).s) (hX : X.data.toList = (q j).it) : (S ++ P ++ X).data.toList = manyT q (j + 1) := by
  rw [ByteArray.toList_data_append, ByteArray.toList_data_append, hS, hP, hX, manyT, if_neg hj, List.append_assoc]
/-- the four forms -/
theorem form_eq (q : Pn) (T W : ByteArray) (hT : T.data.toList = adT q.l q.d) (hW : W.data.toList = wordL q.v) :
    (q.p = 0 → T.data.toList = q.it) ∧ (q.p = 1 → (⟨#[60]⟩ ++ T ++ ⟨#[62]⟩ : ByteArray).data.toList = q.it) ∧ (q.p = 2 → (W ++ ⟨#[32, 98, 46, 32, 60]⟩ ++ T ++ ⟨#[62, 32]⟩).data.toList = q.it) ∧
      (q.p ≠ 0 → q.p ≠ 1 → q.p ≠ 2 → (⟨#[34, 120, 44, 32, 92, 34, 32]⟩ ++ W ++ ⟨#[64, 34, 60]⟩ ++ T ++ ⟨#[62]⟩ : ByteArray).data.toList = q.it) := by
  refine ⟨fun h => ?_, fun h => ?_, fun h => ?_, fun h0 h1 h2 => ?_⟩
  · unfold Pn.it itT; rw [if_pos h, hT]
  · unfold Pn.it itT; rw [if_neg (by omega), if_pos h, ByteArray.toList_data_append, ByteArray.toList_data_append, hT]; rfl
  · unfold Pn.it itT; rw [if_neg (by omega), if_neg (by omega), if_pos h, ByteArray.toList_data_append, ByteArray.toList_data_append, ByteArray.toList_data_append, hT, hW]
  · unfold Pn.it itT; rw [if_neg h0, if_neg h1, if_neg h2, ByteArray.toList_data_append, ByteArray.toList_data_append, ByteArray.toList_data_append, ByteArray.toList_data_append, hT, hW]
theorem text_ad (l d : List UInt8) : (addrL l ++ ⟨#[64]⟩ ++ addrD d).data.toList = adT l d := text_one l d
/-- List of the whole text -/
theorem list_walk_many (S : ByteArray) (ys : List (List UInt8 × List UInt8)) (m : Int) (w : World) (hs : S.size ≤ 2000) (hl : listL S.data.toList = some ys) (hy : ys.length ≤ 20) (hm : w.cell? ⟨0, 0, none⟩ = some (.int .i64 m)) :
    Calls Tryd.prog 19 #[.string S] w fun e w' => (∃ v, e = .returned (.tuple #[v, .int .i64 0]) ∧ w'.ownsRow w.heap.size 25 2 v ys.length (acells ys)) ∧ Below w.heap.size w w' := by
  refine (list_any S m w hs hm).mono ?_
  rintro e w' ⟨h, hb⟩
  rw [hl] at h
  refine ⟨?_, hb⟩
  rcases h with ⟨h0, _⟩ | ⟨zs, h1, h2, _⟩ | ⟨zs, v, h1, _, h3, h4⟩
  · cases h0
  · obtain rfl := Option.some.inj h1
    omega
  · obtain rfl := Option.some.inj h1
    exact ⟨v, h3, h4⟩

set_option maxHeartbeats 8000000 in
set_option maxRecDepth 20000 in
theorem whoManyWalk (a : Option Addr) (len cap : Nat) (x : Nat → Nat → ByteArray) (m : Int) (w : World) (hx : StrRows w a len 3 x) (hlen : len ≤ maxLen) (hm : w.cell? ⟨0, 0, none⟩ = some (.int .i64 m)) :
    Calls Tryd.prog 6 #[.slice a len cap] w fun e w' => e = .returned (.bool true) ∧ Below w.heap.size w w' := by
  have hM := Lib.hid hm
  have hL63 : len ≤ 9223372036854775807 := Nat.le_trans hlen (by decide)
  by_cases hl0 : len = 0
  · subst hl0
    have HL := list_walk_bad ⟨#[]⟩ m w (by decide) (by decide +kernel) hm
    clear hm hx
    go_enter Tryd.func6, Tryd.ntmps6
    go_wp2_with fail
    refine HL.mono ?_
    rintro e w1 ⟨rfl, hw1⟩
    go_wp2_with fail
    go_ret
    exact ⟨rfl, hw1⟩
  · obtain ⟨n, hn⟩ : ∃ n, n = min len 12 := ⟨_, rfl⟩
    have hn1 : 1 ≤ n ∧ n ≤ 12 ∧ n ≤ len := by omega
    obtain ⟨hn1, hn12, hnl⟩ := hn1
    have hmin : min (len : Int) 12 = (n : Int) := by omega
    obtain ⟨q, hq⟩ : ∃ q, q = pnOf x := ⟨_, rfl⟩
    have HR : Hid (∀ j (h : j < n) (wr : World), Below w.heap.size w wr → ∃ b off, a = some ⟨b, off, none⟩ ∧ ∃ X0 X1 X2 A D T Wd SP : ByteArray, ∃ p s : Nat,
        (wr.cell? ⟨b, off + j * 3, none⟩ = some (.string X0) ∧ wr.cell? ⟨b, off + j * 3 + 1, none⟩ = some (.string X1) ∧ wr.cell? ⟨b, off + j * 3 + 2, none⟩ = some (.string X2) ∧ X0.size ≤ maxLen ∧ X2.size ≤ maxLen) ∧
        ((∀ w, Calls Tryd.prog 15 #[.agg #[.string X0, .string X1, .string X2]] w fun e w' => e = .returned (.agg #[.string A, .string D]) ∧ Below w.heap.size w w') ∧
         (∀ w, w.cell? ⟨0, 0, none⟩ = some (.int .i64 m) → Calls Tryd.prog 16 #[.int .i64 1, .agg #[.string A, .string D]] w fun e w' => e = .returned (.tuple #[.string T, .int .i64 0]) ∧ Below w.heap.size w w') ∧
         (∀ w, Calls Tryd.prog 17 #[.int .i64 X2.size, .int .i64 3] w fun e w' => e = .returned (.int .i64 s) ∧ w = w') ∧
         (∀ w, Calls Tryd.prog 17 #[.int .i64 X0.size, .int .i64 4] w fun e w' => e = .returned (.int .i64 p) ∧ w = w') ∧
         (∀ w, Calls Tryd.prog 20 #[.string X2] w fun e w' => e = .returned (.string Wd) ∧ Below w.heap.size w w')) ∧
        (s < 3 ∧ (∀ wx : World, (wx.alloc (.cells sepV 9)).cell? ⟨wx.heap.size, s, none⟩ = some (.string SP)) ∧ T.size ≤ 21 ∧ Wd.size ≤ 8 ∧ SP.size ≤ 3 ∧ p < 4) ∧
        Hid (∀ (S X : ByteArray), S.data.toList = manyT q j → X.data.toList = (q j).it → (j = 0 → (S ++ X).data.toList = manyT q (j + 1)) ∧ (j ≠ 0 → (S ++ SP ++ X).data.toList = manyT q (j + 1))) ∧
        Hid ((p = 0 → T.data.toList = (q j).it) ∧ (p = 1 → (⟨#[60]⟩ ++ T ++ ⟨#[62]⟩ : ByteArray).data.toList = (q j).it) ∧ (p = 2 → (Wd ++ ⟨#[32, 98, 46, 32, 60]⟩ ++ T ++ ⟨#[62, 32]⟩).data.toList = (q j).it) ∧
          (p ≠ 0 → p ≠ 1 → p ≠ 2 → (⟨#[34, 120, 44, 32, 92, 34, 32]⟩ ++ Wd ++ ⟨#[64, 34, 60]⟩ ++ T ++ ⟨#[62]⟩ : ByteArray).data.toList = (q j).it)) ∧
        Hid (A = ⟨(wordL (q j).l).toArray⟩ ∧ D = ⟨(wordL (q j).d ++ [46, 111, 114, 103]).toArray⟩)) := by
      intro j h wr hb
      obtain ⟨b, off, hab, _, hxs⟩ := hx j (by omega)
      obtain ⟨c0, s0⟩ := hxs 0 (by omega)
      obtain ⟨c1, s1⟩ := hxs 1 (by omega)
      obtain ⟨c2, s2⟩ := hxs 2 (by omega)
      have mL : maxLen ≤ 9223372036854775807 := by decide
      have hs3 : pick (x j 2).size (3 : Nat) < 3 := pick_lt _ 3 (by omega)
      obtain ⟨SP, hSP, hSPl, hSPs⟩ := sep_pick (pick (x j 2).size (3 : Nat)) hs3
      have hTl := text_ad (x j 0).data.toList (x j 1).data.toList
      have hAs := addrL_size (x j 0).data.toList
      have hDs := (addrD_size (x j 1).data.toList).1
      refine ⟨b, off, hab, x j 0, x j 1, x j 2, addrL (x j 0).data.toList, addrD (x j 1).data.toList, addrL (x j 0).data.toList ++ ⟨#[64]⟩ ++ addrD (x j 1).data.toList, addrL (x j 2).data.toList, SP, pick (x j 0).size (4 : Nat), pick (x j 2).size (3 : Nat),
        ⟨moved (by rw [← Nat.add_zero (off + j * 3), Nat.add_assoc]; exact c0) hb (Nat.le_refl _), moved (by rw [Nat.add_assoc]; exact c1) hb (Nat.le_refl _), moved (by rw [Nat.add_assoc]; exact c2) hb (Nat.le_refl _), s0, s2⟩,
        ⟨fun w => address_any _ _ _ w (Nat.le_trans s0 mL) (Nat.le_trans s1 mL), ?_, fun w => picked_any _ 3 w (by omega) (by omega) (by omega) (by omega), fun w => picked_any _ 4 w (by omega) (by omega) (by omega) (by omega), fun w => word_any _ w (Nat.le_trans s2 mL)⟩,
        ⟨hs3, fun wx => alloc_cell wx sepV _ _ _ hSP, text_size _ _, addrL_size _, hSPs, pick_lt _ 4 (by omega)⟩, ?_, ?_, ?_⟩
      · intro w hw
        have hc0 := chk_ok (x j 0).data.toList (x j 1).data.toList
        have := part_any 1 (addrL (x j 0).data.toList) (addrD (x j 1).data.toList) m w (by omega) (by omega) hw
        rw [show partV 1 (addrL (x j 0).data.toList) (addrD (x j 1).data.toList) = (addrL (x j 0).data.toList ++ ⟨#[64]⟩ ++ addrD (x j 1).data.toList, 0) by unfold partV; rw [hc0, if_neg (by decide), if_pos rfl]] at this
        exact this
      · intro S X hS hX
        refine ⟨?_, fun hj => many_succ q j hj S SP X hS (by rw [hSPl, hq]; rfl) hX⟩
        rintro rfl
        exact many_zero q S X hS hX
      · have := form_eq (q j) (addrL (x j 0).data.toList ++ ⟨#[64]⟩ ++ addrD (x j 1).data.toList) (addrL (x j 2).data.toList) (by rw [hq]; exact hTl) (by rw [hq]; rfl)
        rw [hq] at this ⊢
        exact this
      · rw [hq]
        exact ⟨rfl, (arr_addrD _).symm⟩
    have HSZ : Hid (∀ (S : ByteArray) j, j ≤ n → S.data.toList = manyT q j → S.size ≤ 520) := by
      intro S j hj h
      have h1 : S.size = S.data.toList.length := by simp
      have h2 := many_len q j
      rw [h1, h]; omega
    have HLi : Hid (∀ (S : ByteArray) w, S.data.toList = manyT q n → w.cell? ⟨0, 0, none⟩ = some (.int .i64 m) → Calls Tryd.prog 19 #[.string S] w fun e w' => (∃ v, e = .returned (.tuple #[v, .int .i64 0]) ∧ w'.ownsRow w.heap.size 25 2 v n (fcells ((List.range n).map fun i => (q i).ad))) ∧ Below w.heap.size w w') := by
      intro S w h1 h2
      have hs := HSZ.out S n (Nat.le_refl _) h1
      have hl : listL S.data.toList = some ((List.range n).map fun i => (q i).ad) := by
        rw [h1]
        obtain ⟨k, rfl⟩ : ∃ k, n = k + 1 := ⟨n - 1, by omega⟩
        exact list_manyT q k
      have h := list_walk_many S _ m w (by omega) hl (by rw [List.length_map, List.length_range]; omega) h2
      rw [List.length_map, List.length_range] at h
      exact h
    clear hm hx hn hq
    have hl0' : ((len : Int) == 0) = false := beq_eq_false_iff_ne.2 (by omega)
    go_enter Tryd.func6, Tryd.ntmps6
    go_wp2_with fail
    clear hmin
    go_loopw [5, 7] (fun v i wr => ∃ (S : ByteArray) (j : Nat), j ≤ n ∧ v = .string S ∧ i = .int .i64 j ∧ Hid (S.data.toList = manyT q j) ∧ Below w.heap.size w wr) (fun _ i _ => n - (intOf i).toNat)
    case atStart => exact ⟨⟨#[]⟩, 0, Nat.zero_le _, rfl, rfl, rfl, Below.refl _ _⟩
    case round =>
      obtain ⟨S, j, hj, rfl, rfl, hS, hbel⟩ := hrel
      have hSs := HSZ.out S j hj hS.out
      by_cases hlt : j < n
      · obtain ⟨b, off, hab, X0, X1, X2, A, D, T, Wd, SP, p, s, ⟨c0, c1, c2, s0, s2⟩, ⟨hAd, hPt, hp3, hp4, hWd⟩, ⟨hs3, hSP, hT, hW, hSPs, hp⟩, hstep, hform, hADe⟩ := HR.out j hlt wr hbel
        clear hADe
        subst hab
        have hAd := Lib.hid hAd; have hPt := Lib.hid hPt; have hp3 := Lib.hid hp3; have hp4 := Lib.hid hp4; have hWd := Lib.hid hWd; have hSP := Lib.hid hSP
        have hjl : (j : Int) < (len : Int) := by omega
        go_wp2_with fail
        refine (hAd.out _).mono ?_
        rintro e w1 ⟨rfl, hb1⟩
        have hw1 := bt hbel hb1
        go_wp2_with fail
        refine (hPt.out _ (moved hM.out hw1 (Nat.le_refl _))).mono ?_
        rintro e w2 ⟨rfl, hb2⟩
        have hb12 := bt hb1 hb2
        have hw2 := bt hbel hb12
        have d0 := moved c0 hb12 (Nat.le_refl _)
        have d2 := moved c2 hb12 (Nat.le_refl _)
        clear c0 c1 c2 hb1 hb2 hw1
        by_cases hj0 : j = 0
        · have hgt : decide (0 < j) = false := decide_eq_false (by omega)
          have hst := Lib.hid (fun X h => (hstep.out S X hS.out h).1 hj0)
          clear hS hstep hj0
          go_wp2_with fail
          refine (hp4.out _).mono ?_
          rintro e w8 ⟨rfl, hw8⟩
          subst hw8
          have hform0 := hform.out
          have hpc : p = 0 ∨ p = 1 ∨ p = 2 ∨ p = 3 := by omega
          rcases hpc with rfl | rfl | rfl | rfl
          · have hX := Lib.hid (hst.out T (hform0.1 rfl))
            clear hform0 hform
            go_wp2_with fail
            go_roundw
            case rel => exact ⟨_, j + 1, by omega, rfl, by go_num, hX, hw2⟩
            case measure => simp [intOf]; omega
          · have hX := Lib.hid (hst.out _ (hform0.2.1 rfl))
            clear hform0 hform
            go_wp2_with fail
            go_roundw
            case rel => exact ⟨_, j + 1, by omega, rfl, by go_num, hX, hw2⟩
            case measure => simp [intOf]; omega
          · have hX := Lib.hid (hst.out _ (hform0.2.2.1 rfl))
            clear hform0 hform
            go_wp2_with fail
            refine (hWd.out _).mono ?_
            rintro e w9 ⟨rfl, hb9⟩
            have hw9 := bt hw2 hb9
            go_wp2_with fail
            go_roundw
            case rel => exact ⟨_, j + 1, by omega, rfl, by go_num, hX, hw9⟩
            case measure => simp [intOf]; omega
          · have hX := Lib.hid (hst.out _ (hform0.2.2.2 (by omega) (by omega) (by omega)))
            clear hform0 hform
            go_wp2_with fail
            refine (hWd.out _).mono ?_
            rintro e w9 ⟨rfl, hb9⟩
            have hw9 := bt hw2 hb9
            go_wp2_with fail
            go_roundw
            case rel => exact ⟨_, j + 1, by omega, rfl, by go_num, hX, hw9⟩
            case measure => simp [intOf]; omega
        · have hgt : 0 < j := by omega
          have hgt' : (0 : Int) < (j : Int) := by omega
          have hst := Lib.hid (fun X h => (hstep.out S X hS.out h).2 hj0)
          clear hS hstep hj0
          have hsp := hSP.out w2
          have haw := ba (Below.refl _ w2) (.cells sepV 9)
          unfold sepV at hsp haw
          have e0 := moved d0 haw (Nat.le_refl _)
          have e2 := moved d2 haw (Nat.le_refl _)
          have hw3 := bt hw2 haw
          go_wp2_with fail
          refine (hp3.out _).mono ?_
          rintro e w7 ⟨rfl, hw7⟩
          subst hw7
          go_wp2_with fail
          refine (hp4.out _).mono ?_
          rintro e w8 ⟨rfl, hw8⟩
          subst hw8
          have hform0 := hform.out
          have hpc : p = 0 ∨ p = 1 ∨ p = 2 ∨ p = 3 := by omega
          rcases hpc with rfl | rfl | rfl | rfl
          · have hX := Lib.hid (hst.out T (hform0.1 rfl))
            clear hform0 hform
            go_wp2_with fail
            go_roundw
            case rel => exact ⟨_, j + 1, by omega, rfl, by go_num, hX, hw3⟩
            case measure => simp [intOf]; omega
          · have hX := Lib.hid (hst.out _ (hform0.2.1 rfl))
            clear hform0 hform
            go_wp2_with fail
            go_roundw
            case rel => exact ⟨_, j + 1, by omega, rfl, by go_num, hX, hw3⟩
            case measure => simp [intOf]; omega
          · have hX := Lib.hid (hst.out _ (hform0.2.2.1 rfl))
            clear hform0 hform
            go_wp2_with fail
            refine (hWd.out _).mono ?_
            rintro e w9 ⟨rfl, hb9⟩
            have hw9 := bt hw3 hb9
            go_wp2_with fail
            go_roundw
            case rel => exact ⟨_, j + 1, by omega, rfl, by go_num, hX, hw9⟩
            case measure => simp [intOf]; omega
          · have hX := Lib.hid (hst.out _ (hform0.2.2.2 (by omega) (by omega) (by omega)))
            clear hform0 hform
            go_wp2_with fail
            refine (hWd.out _).mono ?_
            rintro e w9 ⟨rfl, hb9⟩
            have hw9 := bt hw3 hb9
            go_wp2_with fail
            go_roundw
            case rel => exact ⟨_, j + 1, by omega, rfl, by go_num, hX, hw9⟩
            case measure => simp [intOf]; omega
      · have hjn : n = j := by omega
        subst hjn
        have hc := HLi.out S wr hS.out (moved hM.out hbel (Nat.le_refl _))
        clear hS
        go_wp2_with fail
        refine hc.mono ?_
        rintro e w1 ⟨⟨v, rfl, hown⟩, hb1⟩
        obtain ⟨g, cap2, rfl, hg1, hg2⟩ := World.ownsRow.form hown (by omega)
        have hw1 := bt hbel hb1
        have HG : Hid (∀ j, j < n → ∀ wr, Below w1.heap.size w1 wr → wr.cell? ⟨g, j * 2, none⟩ = some (.string ⟨(wordL (q j).l).toArray⟩) ∧ wr.cell? ⟨g, j * 2 + 1, none⟩ = some (.string ⟨(wordL (q j).d ++ [46, 111, 114, 103]).toArray⟩)) := by
          intro j h wr hb
          obtain ⟨e0, e1⟩ := fcells_at ((List.range n).map fun i => (q i).ad) j (q j).ad (by simp [h])
          exact ⟨moved ((hown.cellAt (j * 2) (by omega)).trans e0) hb (Nat.le_refl _), moved ((hown.cellAt (j * 2 + 1) (by omega)).trans e1) hb (Nat.le_refl _)⟩
        clear hbel hb1 hown hc
        go_wp2_with fail
        go_loopw [12] (fun i wr => ∃ j : Nat, j ≤ n ∧ i = .int .i64 j ∧ Below w1.heap.size w1 wr) (fun i _ => n - (intOf i).toNat)
        case atStart => exact ⟨0, Nat.zero_le _, rfl, Below.refl _ _⟩
        case round =>
          obtain ⟨j, hj, rfl, hbw⟩ := hrel
          have hwr := bt hw1 hbw
          by_cases hlt : j < n
          · obtain ⟨b, off, hab, X0, X1, X2, A, D, T, Wd, SP, p, s, ⟨c0, c1, c2, s0, s2⟩, ⟨hAd, _, _, _, _⟩, _, _, _, hADe⟩ := HR.out j hlt wr hwr
            obtain ⟨g0, g1⟩ := HG.out j hlt wr hbw
            rw [← hADe.out.1] at g0
            rw [← hADe.out.2] at g1
            clear hADe
            subst hab
            have hAd := Lib.hid hAd
            have hjl : (j : Int) < (len : Int) := by omega
            go_wp2_with fail
            go_region_with (go_at_call 15; refine (hAd.out _).mono ?_; rintro e w3 ⟨rfl, hb3⟩; have k0 := moved (w := wr.drew) g0 hb3 (Nat.le_refl _); have k1 := moved (w := wr.drew) g1 hb3 (Nat.le_refl _))
            all_goals
              have hbw3 := bt (Below.drew hbw) hb3
              clear hb3 hwr hbw c0 c1 c2 g0 g1
              go_wp2_with fail
              go_roundw
              case rel => exact ⟨j + 1, by omega, by go_num, hbw3⟩
              case measure => simp [intOf]; omega
          · have hjn : n = j := by omega
            subst hjn
            go_wp2_with fail
            go_ret
            exact ⟨rfl, hwr⟩
end Go.Proofs.YtkchoempejdleaaDoor
