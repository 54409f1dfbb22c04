/-
  DERIVED. BatchBack: the walk.
-/
import Derived.Test.YtdobigkhilimlaaDoorSameBatch
import Derived.Test.YtdobigkhilimlaaDoorTape
import Derived.Test.YtdobigkhilimlaaDoorEncode
import Derived.Test.YtdobigkhilimlaaDoorBatchOf
import Derived.Test.YtdobigkhilimlaaDoorDecB
namespace Go.Proofs.YtdobigkhilimlaaDoor
open Go.RowKit

theorem batchXs_good (cs : List Raw) (u : Nat) (hu : u < 3) : GoodB (u, batchXs cs) := bcheck_ok hu (batchXs_len cs) (batchXs_form cs)
theorem below_grown_none {w w' : World} (h : w.grownBy w' (Value.slice none 0 0).ownBlock) : Below w.heap.size w w' := ⟨h.os, h.tape, h.output, h.size, fun k hk => h.block k hk (by simp [Value.ownBlock])⟩

set_option maxHeartbeats 8000000 in
set_option maxRecDepth 20000 in
theorem batchBack_walk (a : Option Addr) (cap : Nat) (cs : List Raw) (user : Int) (tail : UInt8) (m : Int) (w : World) (h : RawsAt w a cs) (hlen : cs.length ≤ 9223372036854775807) (hu : Int64 user) (hm : w.cell? ⟨0, 0, none⟩ = some (.int .i64 m)) :
    Calls Tryd.prog 3 #[.slice a cs.length cap, .int .i64 user, .int .u8 tail.toNat] w fun e w' => e = .returned (.bool true) ∧ Below w.heap.size w w' := by
  obtain ⟨i0, hi, hz0, hz1, hz2⟩ := info_parts infoU8
  have HI := Lib.hid hi; have HZ0 := Lib.hid hz0; have HZ1 := Lib.hid hz1; have HZ2 := Lib.hid hz2
  clear hi hz0 hz1 hz2
  have hB := Lib.hid (batchOf_any a cap cs user w h hlen hu)
  have hk3 := pick_lt user 3 (by omega)
  obtain ⟨k, hk⟩ : ∃ k, k = pick user (3 : Nat) := ⟨_, rfl⟩
  rw [← hk] at hB hk3
  obtain ⟨xs, hx⟩ : ∃ xs, xs = batchXs cs := ⟨_, rfl⟩
  have hg : GoodB (k, xs) := by rw [hx]; exact batchXs_good cs k hk3
  rw [← hx] at hB
  clear hk hx h
  obtain ⟨g1, g2, g3⟩ := bcheck_inv hg
  have g2' : 1 ≤ xs.length ∧ xs.length ≤ 10 := g2
  have hE : Hid (∀ v w', EntsAt w' v xs → w'.cell? ⟨0, 0, none⟩ = some (.int .i64 m) → Calls Tryd.prog 11 #[.agg #[.int .i64 k, v]] w' fun e w'' => (∃ v', e = .returned (.tuple #[v', .int .i64 0]) ∧ OwnB w'' w'.heap.size 5 v' (batchL k xs)) ∧ Below w'.heap.size w' w'') := by
    intro v w' he hm
    have := encode_any k xs v m w' he (fun x hx => (small_of_form (g3 x hx)).fits) (by omega) (by omega) hm
    rw [show bcheckV k xs = 0 from hg, if_pos rfl] at this
    exact this
  have hC : Hid (∀ v w', EntsAt w' v xs → w'.cell? ⟨0, 0, none⟩ = some (.int .i64 m) → Calls Tryd.prog 14 #[.agg #[.int .i64 k, v]] w' fun e w'' => e = .returned (.int .i64 0) ∧ Below w'.heap.size w' w'') := by
    intro v w' he hm
    have := bcheck_any k xs v m w' he (fun x hx => (small_of_form (g3 x hx)).fits) (by omega) (by omega) hm
    rw [show bcheckV k xs = 0 from hg] at this
    exact this
  have hS : Hid (∀ v1 v2 w', EntsAt w' v1 xs → EntsAt w' v2 xs → Calls Tryd.prog 13 #[.agg #[.int .i64 k, v1], .agg #[.int .i64 k, v2]] w' fun e w'' => e = .returned (.bool true) ∧ Below w'.heap.size w' w'') :=
    fun v1 v2 w' h1 h2 => sameBatch_any k xs v1 v2 w' h1 h2 (by omega) (by omega)
  have hgl : (batchL k xs).length ≤ 21300 := hg.len
  have hpos : 0 < (batchL k xs).length := Nat.succ_pos _
  have hD1 : Hid (∀ v w', Bytes w' v (batchL k xs) → w'.cell? ⟨0, 0, none⟩ = some (.int .i64 m) → Calls Tryd.prog 12 #[v] w' fun e w'' => (∃ v, e = .returned (.tuple #[.agg #[.int .i64 k, v], .int .i64 0]) ∧ EntsAt w'' v xs) ∧ Below w'.heap.size w' w'') := by
    intro v w' h hm
    have := decode_bytes v _ m w' h (by omega) hm
    rw [decodeV_batch hg] at this
    exact this
  have hD2 : Hid (∀ v w', Bytes w' v (batchL k xs ++ [tail]) → w'.cell? ⟨0, 0, none⟩ = some (.int .i64 m) → Calls Tryd.prog 12 #[v] w' fun e w'' => (∃ (u : Nat) (v : Value) (n : Nat), e = .returned (.tuple #[.agg #[.int .i64 u, v], .int .i64 3]) ∧ SliceOf v n) ∧ Below w'.heap.size w' w'') := by
    intro v w' h hm
    refine (decode_bytes v _ m w' h (by simp; omega) hm).mono ?_
    rintro e w'' ⟨⟨v, rfl, he⟩, hb⟩
    have h3 : (decodeV (batchL k xs ++ [tail])).2 = 3 := decodeV_tail (b := (k, xs)) hg tail
    exact ⟨⟨(decodeV (batchL k xs ++ [tail])).1.1, v, (decodeV (batchL k xs ++ [tail])).1.2.length, by rw [h3], he.slice⟩, hb⟩
  obtain ⟨B, hBB⟩ : ∃ B, B = batchL k xs := ⟨_, rfl⟩
  rw [← hBB] at hE hD1 hD2 hgl hpos
  clear hBB g1 g2 g3 hg
  have HM := Lib.hid hm; clear hm
  go_enter Tryd.func3, Tryd.ntmps3
  go_wp2_with fail
  refine hB.out.mono ?_
  rintro e w1 ⟨⟨v, rfl, he⟩, hb1⟩
  obtain ⟨G, cp, rfl⟩ := he.slice
  have hA := ba (Below.refl w1.heap.size w1) (.cells #[.int .i64 k, .slice G xs.length cp] 25)
  have he1 := he.down hA
  have hb1' := bt hb1 hA
  have HX1 := Lib.hid (Has.alloc w1 [.int .i64 k, .slice G xs.length cp] 25)
  have HE1 := Lib.hid he1; have HB1 := Lib.hid hb1'
  clear hA he1 hb1' hb1 he
  go_wp2_with fail
  refine (hE.out _ _ HE1.out (moved HM.out HB1.out (Nat.le_refl _))).mono ?_
  rintro e w2 ⟨⟨v2, rfl, ho2⟩, hb2⟩
  obtain ⟨gF, cF, rfl, hF1, hF2⟩ := World.ownsRow.form ho2 hpos
  have hb2' := bt HB1.out hb2
  have HX2 := Lib.hid (HX1.out.down hb2); have HE2 := Lib.hid (HE1.out.down hb2); have HB2 := Lib.hid hb2'; have HO2 := Lib.hid ho2
  clear hb2 hb2' ho2 HX1 HE1 HB1
  go_wp2_with fail
  refine (hD1.out _ _ HO2.out.bytes (moved HM.out HB2.out (Nat.le_refl _))).mono ?_
  rintro e w3 ⟨⟨v3, rfl, he3⟩, hb3⟩
  obtain ⟨G3, cp3, rfl⟩ := he3.slice
  have hA := ba (Below.refl w3.heap.size w3) (.cells #[.int .i64 k, .slice G3 xs.length cp3] 25)
  have HY3 := Lib.hid (Has.alloc w3 [.int .i64 k, .slice G3 xs.length cp3] 25)
  have HX3 := Lib.hid ((HX2.out.down hb3).down hA); have HE3 := Lib.hid ((HE2.out.down hb3).down hA); have HF3 := Lib.hid (he3.down hA); have HB3 := Lib.hid (bt (bt HB2.out hb3) hA)
  have HO3 := Lib.hid ((row_down HO2.out hb3).alloc (.cells #[.int .i64 k, .slice G3 xs.length cp3] 25))
  have hs23 := hb3.size
  clear hb3 he3 hA HX2 HE2 HB2 HO2
  have hNW : Hid (∀ j u, (bcells B)[j]? = some u → (w3.alloc (.cells #[.int .i64 k, .slice G3 xs.length cp3] 25)).cell? (Addr.add ⟨gF, 0, none⟩ j) = some u) := fun j u hj => World.ownsRow.cells HO3.out (g := gF) rfl j _ hj
  go_wp2_with (at_builtin; refine wpList_append_lies _ (by rfl) _ _ _ (by rfl) (w3.heap.size + 1) 5 i0 _ 1 1 Tryd.underlying27 HI.out HZ0.out HZ1.out HZ2.out rfl (by omega) (.slice none 0 0) 0 [] (by rfl) (World.ownsRow_nil _ _ _ _) ⟨gF, 0, none⟩ B.length cF (bcells B) (by rfl) (by rw [bcells_length, Nat.mul_one]) hNW.out (bcells_one B) hpos (by unfold maxLen; omega) (by omega) (by simp) (w3.heap.size + 1) (by simp) ?_)
  intro g4 cap4 w4 hown4 hgrow4 hat4 hlt4
  have hd4 := below_grown_none hgrow4
  have HO4 := Lib.hid hown4
  have hs4 := hd4.size
  have hs03 := HB3.out.size
  simp only [World.size_alloc] at hs4 hs03
  have HD4 := Lib.hid hd4
  clear hd4 hgrow4 hat4 hown4 HO3 hNW
  go_wp2_with (at_builtin; refine wpList_append_lies _ (by rfl) _ _ _ (by rfl) (w3.heap.size + 1) 5 i0 _ 1 1 Tryd.underlying27 HI.out HZ0.out HZ1.out HZ2.out rfl (by omega) (.slice (some ⟨g4, 0, none⟩) B.length cap4) B.length (bcells B) (by rfl) (HO4.out.alloc _) ⟨w4.heap.size, 0, none⟩ 1 1 [.int .u8 tail.toNat] (by rfl) (by rfl) (World.news_of_block (cs := #[.int .u8 tail.toNat]) (t := 5) (fr := (0, 0)) (heap_alloc_new w4 _)) (by simp [Value.oneCell']) (by omega) (by unfold maxLen; omega) (by omega) (by simp; omega) (w4.heap.size + 1) (by simp) ?_)
  intro g5 cap5 w5 hown5 hgrow5 hat5 hlt5
  have hd5 : Below (w3.heap.size + 1) w4 w5 := below_row ((Below.refl (w3.heap.size + 1) w4).alloc (by omega) (.cells #[.int .u8 tail.toNat] 5)) (by omega) (HO4.out.alloc _) (Nat.le_refl _) hgrow5
  have ho5 : Bytes w5 (.slice (some ⟨g5, 0, none⟩) (B.length + 1) cap5) (B ++ [tail]) := by
    refine OwnB.bytes (base := w3.heap.size + 1) (e := 5) ?_
    unfold OwnB
    rw [bcells_append, List.length_append]
    exact hown5
  have hd35 := HD4.out.trans (by simpa using hd5)
  have HX5 := Lib.hid (HX3.out.down hd35); have HY5 := Lib.hid (HY3.out.down hd35); have HE5 := Lib.hid (HE3.out.down hd35); have HF5 := Lib.hid (HF3.out.down hd35); have HB5 := Lib.hid (bt HB3.out hd35)
  have hs5 := hd5.size
  have HO5 := Lib.hid ho5
  clear hd5 hd35 hown5 hgrow5 hat5 ho5 HX3 HY3 HE3 HF3 HB3 HD4 HO4
  go_wp2_with fail
  refine (hD2.out _ _ HO5.out (moved HM.out HB5.out (Nat.le_refl _))).mono ?_
  rintro e w6 ⟨⟨u6, v6, n6, rfl, G6, cp6, rfl⟩, hb6⟩
  have hA := ba (Below.refl w6.heap.size w6) (.cells #[.int .i64 u6, .slice G6 n6 cp6] 25)
  have hb7 := bt hb6 hA
  have HX7 := HX5.out.down hb7; have HY7 := HY5.out.down hb7
  have HE7 := Lib.hid (HE5.out.down hb7); have HF7 := Lib.hid (HF5.out.down hb7); have HB7 := Lib.hid (bt HB5.out hb7)
  obtain ⟨c0, c1, _, _⟩ := HX7.two
  obtain ⟨d0, d1, _, _⟩ := HY7.two
  have HX8 := Lib.hid HX7
  clear hA hb6 hb7 HX5 HY5 HE5 HF5 HB5 HX7 HY7 HO5
  go_wp2_with fail
  refine (hS.out _ _ _ HE7.out HF7.out).mono ?_
  rintro e w8 ⟨rfl, hb8⟩
  obtain ⟨e0, e1, _, _⟩ := (HX8.out.down hb8).two
  have HE8 := Lib.hid (HE7.out.down hb8); have HB8 := Lib.hid (bt HB7.out hb8)
  clear c0 c1 d0 d1 hb8
  go_wp2_with fail
  refine (hC.out _ _ HE8.out (moved HM.out HB8.out (Nat.le_refl _))).mono ?_
  rintro e w9 ⟨rfl, hb9⟩
  have HB9 := Lib.hid (bt HB8.out hb9)
  clear hb9
  go_wp2_with fail
  go_ret
  exact ⟨rfl, HB9.out⟩
end Go.Proofs.YtdobigkhilimlaaDoor
