/-
  DERIVED. The law TokenPlace: its walk.
-/
import Derived.Test.YtpjiiipabbchiaaDoorTkJoin
import Derived.Test.YtpjiiipabbchiaaDoorTkLaid
import Derived.Test.YtpjiiipabbchiaaDoorTkToks
import Derived.Test.YtpjiiipabbchiaaDoorPcOpen
namespace Go.Proofs.YtpjiiipabbchiaaDoor.Tk
open Go.RowKit

/-- the two tables of the law -/
def badS : Array Value := #[.string ⟨#[64]⟩, .string ⟨#[34, 97]⟩, .string ⟨#[58, 32, 97]⟩, .string ⟨#[57, 57, 57, 57, 57, 57, 57, 57, 57, 57, 57, 57, 57, 57, 57, 57, 57, 57, 57, 57]⟩, .string ⟨#[49, 120]⟩, .string ⟨#[47]⟩, .string ⟨#[34, 92]⟩, .string ⟨#[0]⟩, .string ⟨#[45, 49]⟩, .string ⟨#[92]⟩]
def badE : Array Value := #[.int .i64 3, .int .i64 4, .int .i64 3, .int .i64 6, .int .i64 3, .int .i64 3, .int .i64 4, .int .i64 3, .int .i64 3, .int .i64 3]
theorem bad_at {i : Nat} (h : i < 10) : badS[i]? = some (.string ⟨(badL i).1.toArray⟩) ∧ badE[i]? = some (.int .i64 (badL i).2) := by
  have h' : i = 0 ∨ i = 1 ∨ i = 2 ∨ i = 3 ∨ i = 4 ∨ i = 5 ∨ i = 6 ∨ i = 7 ∨ i = 8 ∨ i = 9 := by omega
  rcases h' with rfl | rfl | rfl | rfl | rfl | rfl | rfl | rfl | rfl | rfl <;> exact ⟨rfl, rfl⟩

set_option maxHeartbeats 8000000 in
set_option maxRecDepth 20000 in
theorem tokenPlace_any (v : Value) (ps : List Pc) (bad : Int) (mx : Int) (w : World) (hv : SAt cPc w (fun _ => True) v ps) (hp : ∀ p ∈ ps, GoodPc p) (hz : -9223372036854775808 ≤ bad ∧ bad ≤ 9223372036854775807) (htab : Lib.TabIs Tryd.prog w "internal/strconv.uint64pow10" .u64 Lib.pow10Tab) (hev : ∃ te pe, w.cell? ⟨5, 0, none⟩ = some (.iface te pe)) (hm : w.cell? ⟨0, 0, none⟩ = some (.int .i64 mx)) :
    Calls Tryd.prog 6 #[v, .int .i64 bad] w fun e w' => e = .returned (.bool true) ∧ Below w.heap.size w w' := by
  obtain ⟨te, pe, hev⟩ := hev
  obtain ⟨hz1, hz2⟩ := hz
  have htk := tokens_any ps v _ 15 w hv hp (by omega)
  have hg := tokL_good 15 ps
  have hl := tokL_len 15 ps
  obtain ⟨ts, hts⟩ : ∃ ts, ts = tokL 15 ps := ⟨_, rfl⟩
  rw [← hts] at htk hg hl
  have hjl := jn_len ts hg
  have hi10 := pick_lt bad 10 (by omega)
  have HPK : Hid (∀ w, Calls Tryd.prog 12 #[.int .i64 bad, .int .i64 10] w fun e w' => e = .returned (.int .i64 (pick bad (10 : Nat))) ∧ w = w') := fun w => picked_any bad 10 w hz1 hz2 (by omega) (by omega)
  obtain ⟨i, hi⟩ : ∃ i, i = pick bad (10 : Nat) := ⟨_, rfl⟩
  rw [← hi] at hi10 HPK
  obtain ⟨hb1, hb2⟩ := token_place hg hl i
  obtain ⟨hx1, hx2⟩ := bad_at hi10
  have hel := bad_len i
  obtain ⟨E, hE⟩ : ∃ E, E = (badL i).1 := ⟨_, rfl⟩
  obtain ⟨z, hzz⟩ : ∃ z, z = (badL i).2 := ⟨_, rfl⟩
  rw [← hE, ← hzz] at hb2
  rw [← hE] at hx1 hel
  rw [← hzz] at hx2
  have hjoin : Hid (∀ (v : Value) (F : Dom) (w' : World), SAt cTok w' F v ts → Below w.heap.size w w' → Calls Tryd.prog 9 #[v] w' (JoinPost (jn ts, 0) w')) := fun v F w' hs hb => by
    have h := join_any ts v F mx w' hs (fun t ht => by have := (hg t ht).2; omega) (moved hm hb (Nat.le_refl _)) (tab_below htab hb)
    rwa [hb1] at h
  have hcut : Hid (∀ w', Below w.heap.size w w' → Calls Tryd.prog 10 #[.string (⟨(jn ts).toArray⟩ ++ ⟨E.toArray⟩)] w' (CutPost ([], (jn ts).length, z) w')) := fun w' hb => by
    have e : ((⟨(jn ts).toArray⟩ : ByteArray) ++ ⟨E.toArray⟩).data.toList = jn ts ++ E := by simp
    have h := cut_any (⟨(jn ts).toArray⟩ ++ ⟨E.toArray⟩) mx te pe w' (by rw [← ByteArray.size_data, ← Array.length_toList, e, List.length_append]; omega) (moved hm hb (Nat.le_refl _)) (moved hev hb (Nat.le_refl _))
    rwa [e, hb2] at h
  have HTK := Lib.hid htk; have HX1 := Lib.hid hx1; have HX2 := Lib.hid hx2
  obtain ⟨J, hJ⟩ : ∃ J, J = jn ts := ⟨_, rfl⟩
  rw [← hJ] at hjoin hcut hjl
  clear htk hg hb1 hb2 hv hp hm hev htab hts hJ hi hx1 hx2 hE hzz
  go_enter Tryd.func6, Tryd.ntmps6
  go_wp2_with fail
  refine HTK.out.mono ?_
  rintro e w1 ⟨⟨v1, rfl, hs1⟩, hb1⟩
  have HJN := Lib.hid (hjoin.out v1 _ w1 hs1 hb1); have HB1 := Lib.hid hb1
  clear hs1 hb1 HTK hjoin
  go_wp2_with fail
  refine HJN.out.mono ?_
  intro e w2 hq
  unfold JoinPost at hq
  obtain ⟨rfl, hb2⟩ := hq
  have HB2 := Lib.hid (bt HB1.out hb2)
  clear hb2 HJN HB1
  go_wp2_with fail
  refine (HPK.out _).mono ?_
  rintro e w3 ⟨rfl, rfl⟩
  clear HPK
  obtain ⟨W5, hW5⟩ : ∃ W5, W5 = (w2.alloc (.cells #[.string ⟨#[64]⟩, .string ⟨#[34, 97]⟩, .string ⟨#[58, 32, 97]⟩, .string ⟨#[57, 57, 57, 57, 57, 57, 57, 57, 57, 57, 57, 57, 57, 57, 57, 57, 57, 57, 57, 57]⟩, .string ⟨#[49, 120]⟩, .string ⟨#[47]⟩, .string ⟨#[34, 92]⟩, .string ⟨#[0]⟩, .string ⟨#[45, 49]⟩, .string ⟨#[92]⟩] 9)).alloc (.cells #[.int .i64 3, .int .i64 4, .int .i64 3, .int .i64 6, .int .i64 3, .int .i64 3, .int .i64 4, .int .i64 3, .int .i64 3, .int .i64 3] 25) := ⟨_, rfl⟩
  rw [← hW5]
  have x1 : W5.cell? ⟨w2.heap.size, i, none⟩ = some (.string ⟨E.toArray⟩) := by rw [hW5]; exact moved (alloc_cell w2 badS 9 i _ HX1.out) (ba (Below.refl _ _) _) (Nat.le_refl _)
  have x2 : W5.cell? ⟨w2.heap.size + 1, i, none⟩ = some (.int .i64 z) := by
    rw [hW5]
    have h := alloc_cell (w2.alloc (.cells badS 9)) badE 25 i _ HX2.out
    rw [World.size_alloc] at h
    exact h
  have HB5 : Hid (Below w.heap.size w W5) := by rw [hW5]; exact ba (ba HB2.out _) _
  have HX5 := Lib.hid x2
  clear hW5 HX1 HX2 HB2 x2
  go_wp2_with fail
  refine (hcut.out W5 HB5.out).mono ?_
  intro e w6 hq
  unfold CutPost at hq
  obtain ⟨⟨v6, rfl, hv6⟩, hb6⟩ := hq
  obtain ⟨G6, c6, rfl, -⟩ := hv6.form
  have x6 := moved HX5.out hb6 (Nat.le_refl _)
  have HB6 := Lib.hid (bt HB5.out hb6)
  clear hv6 hb6 hcut HX5 HB5 x1
  go_wp2_with fail
  go_ret
  exact ⟨rfl, HB6.out⟩
end Go.Proofs.YtpjiiipabbchiaaDoor.Tk
