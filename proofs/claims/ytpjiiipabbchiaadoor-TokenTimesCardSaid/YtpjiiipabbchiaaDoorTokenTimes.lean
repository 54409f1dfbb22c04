/-
  DERIVED. The law TokenTimes: its walk.
-/
import Derived.Test.YtpjiiipabbchiaaDoorTkJoin
import Derived.Test.YtpjiiipabbchiaaDoorTkLaid
namespace Go.Proofs.YtpjiiipabbchiaaDoor.Tk
open Go.RowKit

theorem one_tok (w : World) (t : Tok) : SAt cTok (w.alloc (.cells #[.int .i64 t.kind, .string ⟨t.text.toArray⟩, .int .i64 t.num] 31)) (fun b => w.heap.size ≤ b) (.slice (some ⟨w.heap.size, 0, none⟩) 1 1) [t] := by
  have h := World.ownsRow_lit (e := 31) (base := w.heap.size) (size := 3) w #[.int .i64 t.kind, .string ⟨t.text.toArray⟩, .int .i64 t.num] 1 (Nat.le_refl _) (by decide) rfl
  exact SAt.of_row (f := tokC) (hf := fun _ => rfl) h (fun b hb => hb)

set_option maxHeartbeats 8000000 in
set_option maxRecDepth 20000 in
theorem tokenTimes_any (a mx : Int) (w : World) (hz : -9223372036854775808 ≤ a ∧ a ≤ 9223372036854775807) (htab : Lib.TabIs Tryd.prog w "internal/strconv.uint64pow10" .u64 Lib.pow10Tab) (hev : ∃ te pe, w.cell? ⟨5, 0, none⟩ = some (.iface te pe)) (hm : w.cell? ⟨0, 0, none⟩ = some (.int .i64 mx)) :
    Calls Tryd.prog 5 #[.int .i64 a] w fun e w' => e = .returned (.bool true) ∧ Below w.heap.size w w' := by
  obtain ⟨te, pe, hev⟩ := hev
  obtain ⟨hz1, hz2⟩ := hz
  have HPK : Hid (∀ w, Calls Tryd.prog 12 #[.int .i64 a, .int .i64 2047] w fun e w' => e = .returned (.int .i64 (pick a (2047 : Nat))) ∧ w = w') := fun w => picked_any a 2047 w hz1 hz2 (by omega) (by omega)
  have hk8 := pick_lt a 2047 (by omega)
  obtain ⟨k, hk⟩ : ∃ k, k = pick a (2047 : Nat) := ⟨_, rfl⟩
  rw [← hk] at HPK hk8
  have hlen := dec_len 3 k (by omega)
  have hj := times_join k hk8
  have hcut : ∀ x : ByteArray, x.size ≤ 100000 → Hid (∀ w', Below w.heap.size w w' → Calls Tryd.prog 10 #[.string x] w' (CutPost (cutL x.data.toList) w')) := fun x hx w' hb => cut_any x mx te pe w' hx (moved hm hb (Nat.le_refl _)) (moved hev hb (Nat.le_refl _))
  obtain ⟨D, hD⟩ : ∃ D, D = Go.Lib.decDigits k := ⟨_, rfl⟩
  have hc1 := times_k k hk8
  have hc2 := times_m k hk8
  have hc4 := times_kb k hk8
  rw [← hD] at hc1 hc2 hc4 hj hlen
  have e1 : ((⟨D.toArray⟩ : ByteArray) ++ ⟨#[75]⟩ ++ ⟨#[32]⟩ ++ ⟨D.toArray⟩ ++ ⟨#[107]⟩).data.toList = D ++ 75 :: 32 :: (D ++ [107]) := by simp
  have e2 : ((⟨D.toArray⟩ : ByteArray) ++ ⟨#[77]⟩).data.toList = D ++ [77] := by simp
  have e4 : ((⟨D.toArray⟩ : ByteArray) ++ ⟨#[75, 98]⟩).data.toList = D ++ [75, 98] := by simp
  have k1 := hcut ((⟨D.toArray⟩ : ByteArray) ++ ⟨#[75]⟩ ++ ⟨#[32]⟩ ++ ⟨D.toArray⟩ ++ ⟨#[107]⟩) (by rw [← ByteArray.size_data, ← Array.length_toList, e1]; simp; omega)
  have k2 := hcut ((⟨D.toArray⟩ : ByteArray) ++ ⟨#[77]⟩) (by rw [← ByteArray.size_data, ← Array.length_toList, e2]; simp; omega)
  have k4 := hcut ((⟨D.toArray⟩ : ByteArray) ++ ⟨#[75, 98]⟩) (by rw [← ByteArray.size_data, ← Array.length_toList, e4]; simp; omega)
  have k3 := hcut ⟨#[50, 48, 52, 56, 77]⟩ (by decide)
  rw [e1, hc1] at k1
  rw [e2, hc2] at k2
  rw [e4, hc4] at k4
  rw [show (⟨#[50, 48, 52, 56, 77]⟩ : ByteArray).data.toList = [50, 48, 52, 56, 77] from rfl, times_over] at k3
  have hjc := join_any [⟨3, [], (k : Int)⟩] _ _ mx _ (one_tok w ⟨3, [], (k : Int)⟩) (fun t ht => by rw [List.mem_singleton.1 ht]; exact Nat.zero_le _) (moved hm (ba (Below.refl _ _) _) (Nat.le_refl _)) (tab_below htab (ba (Below.refl _ _) _))
  rw [hj] at hjc
  have hex : (⟨(D ++ [32]).toArray⟩ : ByteArray).extract 0 D.length = ⟨D.toArray⟩ := by
    refine (Lib.mk_data _).symm.trans ?_
    congr 1
    simp
  have HEX := Lib.hid hex
  clear hex
  have HJC := Lib.hid hjc; have HSZ : Hid ((⟨(D ++ [32]).toArray⟩ : ByteArray).size = D.length + 1) := by unfold Hid; show (List.toArray _).size = _; rw [List.size_toArray, List.length_append]; rfl
  clear hm hev htab hj hjc hk hc1 hc2 hc4 e1 e2 e4 hcut hD
  go_enter Tryd.func5, Tryd.ntmps5
  go_wp2_with fail
  refine (HPK.out _).mono ?_
  rintro e w2 ⟨rfl, rfl⟩
  clear HPK
  go_wp2_with fail
  refine HJC.out.mono ?_
  intro e w3 hp
  unfold JoinPost at hp
  obtain ⟨rfl, hb3⟩ := hp
  have HB3 := Lib.hid (bt (ba (Below.refl _ _) _) hb3)
  clear hb3 HJC
  go_wp2_with fail
  rw [HEX.out]
  refine (k1.out w3 HB3.out).mono ?_
  intro e w4 hp
  unfold CutPost at hp
  obtain ⟨⟨v4, rfl, hv4⟩, hb4⟩ := hp
  obtain ⟨G4, c4, rfl, hc4⟩ := hv4.form
  have HB4 := Lib.hid (bt HB3.out hb4); have HV4 := Lib.hid hv4
  clear hb4 k1 hv4 HB3
  go_wp2_with fail
  refine (k2.out w4 HB4.out).mono ?_
  intro e w5 hp
  unfold CutPost at hp
  obtain ⟨⟨v5, rfl, hv5⟩, hb5⟩ := hp
  obtain ⟨G5, c5, rfl, hc5⟩ := hv5.form
  have HB5 := Lib.hid (bt HB4.out hb5); have HV5 := Lib.hid hv5; have HV45 := Lib.hid (HV4.out.down hb5)
  clear hb5 k2 hv5 HB4 HV4
  go_wp2_with fail
  refine (k3.out w5 HB5.out).mono ?_
  intro e w6 hp
  unfold CutPost at hp
  obtain ⟨⟨v6, rfl, hv6⟩, hb6⟩ := hp
  have HB6 := Lib.hid (bt HB5.out hb6); have HV56 := Lib.hid (HV5.out.down hb6); have HV46 := Lib.hid (HV45.out.down hb6)
  clear hb6 k3 hv6 HB5 HV5 HV45
  go_wp2_with fail
  refine (k4.out w6 HB6.out).mono ?_
  intro e w7 hp
  unfold CutPost at hp
  obtain ⟨⟨v7, rfl, hv7⟩, hb7⟩ := hp
  have HB7 := Lib.hid (bt HB6.out hb7)
  have hV5 := HV56.out.down hb7; have hV4 := HV46.out.down hb7
  clear hb7 k4 hv7 HB6 HV56 HV46
  obtain ⟨g4, o4, vs4, hG4, -, -, hr4, hq4⟩ := hV4.get 0 (by simp)
  obtain ⟨g4', o4', vs4', hG4', -, -, hr4', hq4'⟩ := hV4.get 1 (by simp)
  obtain ⟨g5, o5, vs5, hG5, -, -, hr5, hq5⟩ := hV5.get 0 (by simp)
  subst hG4
  obtain ⟨rfl, rfl⟩ : g4 = g4' ∧ o4 = o4' := by injection hG4' with h; injection h with h1 h2; exact ⟨h1, h2⟩
  subst hG5
  obtain rfl : vs4 = _ := hr4
  obtain rfl : vs4' = _ := hr4'
  obtain rfl : vs5 = _ := hr5
  have a0 : w7.cell? ⟨g4, o4, none⟩ = some (.int .i64 3) := hq4 0 _ rfl
  have a1 : w7.cell? ⟨g4, o4 + 1, none⟩ = some (.string ⟨#[]⟩) := hq4 1 _ rfl
  have a2 : w7.cell? ⟨g4, o4 + 2, none⟩ = some (.int .i64 ((1024 * k : Nat) : Int)) := hq4 2 _ rfl
  have b0 : w7.cell? ⟨g4, o4 + 3, none⟩ = some (.int .i64 3) := hq4' 0 _ rfl
  have b1 : w7.cell? ⟨g4, o4 + 3 + 1, none⟩ = some (.string ⟨#[]⟩) := hq4' 1 _ rfl
  have b2 : w7.cell? ⟨g4, o4 + 3 + 2, none⟩ = some (.int .i64 ((1024 * k : Nat) : Int)) := hq4' 2 _ rfl
  have d2 : w7.cell? ⟨g5, o5 + 2, none⟩ = some (.int .i64 ((1048576 * k : Nat) : Int)) := hq5 2 _ rfl
  have q1 : (((1024 * k : Nat) : Int) == 1024 * (k : Int)) = true := beq_iff_eq.2 (by omega)
  have q2 : (((1048576 * k : Nat) : Int) == 1048576 * (k : Int)) = true := beq_iff_eq.2 (by omega)
  clear hV5 hV4 hG4' hq4 hq4' hq5
  simp only [List.length_cons, List.length_nil] at hc4 hc5 ⊢
  go_wp2_with fail
  go_quiet (fail)
  go_wp2_with fail
  go_ret
  exact ⟨rfl, bt HB7.out (below_drewN _ _)⟩
end Go.Proofs.YtpjiiipabbchiaaDoor.Tk
