/-
  DERIVED. The law TokenBack: its walk.
-/
import Derived.Test.YtpjiiipabbchiaaDoorTkJoin
import Derived.Test.YtpjiiipabbchiaaDoorTkLaid
import Derived.Test.YtpjiiipabbchiaaDoorTkToks
import Derived.Test.YtpjiiipabbchiaaDoorPcOpen
namespace Go.Proofs.YtpjiiipabbchiaaDoor.Tk
open Go.RowKit

theorem word_tok (w : World) : SAt cTok (w.alloc (.cells #[.int .i64 1, .string ⟨#[97]⟩, .int .i64 0] 31)) (fun b => w.heap.size ≤ b) (.slice (some ⟨w.heap.size, 0, none⟩) 1 1) [⟨1, [97], 0⟩] := by
  have h := World.ownsRow_lit (e := 31) (base := w.heap.size) (size := 3) w #[.int .i64 1, .string ⟨#[97]⟩, .int .i64 0] 1 (Nat.le_refl _) (by decide) rfl
  exact SAt.of_row (f := tokC) (hf := fun _ => rfl) h (fun b hb => hb)
theorem word_join : joinL [⟨1, [97], 0⟩] = ([97, 32], 0) := by decide +kernel

set_option maxHeartbeats 8000000 in
set_option maxRecDepth 20000 in
theorem tokenBack_any (v : Value) (ps : List Pc) (mx : Int) (w : World) (hv : SAt cPc w (fun _ => True) v ps) (hp : ∀ p ∈ ps, GoodPc p) (htab : Lib.TabIs Tryd.prog w "internal/strconv.uint64pow10" .u64 Lib.pow10Tab) (hev : ∃ te pe, w.cell? ⟨5, 0, none⟩ = some (.iface te pe)) (hm : w.cell? ⟨0, 0, none⟩ = some (.int .i64 mx)) :
    Calls Tryd.prog 3 #[v] w fun e w' => e = .returned (.bool true) ∧ Below w.heap.size w w' := by
  obtain ⟨te, pe, hev⟩ := hev
  have htk := tokens_any ps v _ 25 w hv hp (by omega)
  have hg := tokL_good 25 ps
  have hl := tokL_len 25 ps
  obtain ⟨ts, hts⟩ : ∃ ts, ts = tokL 25 ps := ⟨_, rfl⟩
  rw [← hts] at htk hg hl
  have hjl := jn_len ts hg
  obtain ⟨hb1, hb2⟩ := token_back (fun t ht => (hg t ht).1) (by omega) (by omega : (jn ts).length ≤ 2000)
  have hjoin : Hid (∀ (v : Value) (F : Dom) (w' : World), SAt cTok w' F v ts → Below w.heap.size w w' → Calls Tryd.prog 9 #[v] w' (JoinPost (jn ts, 0) w')) := fun v F w' hs hb => by
    have h := join_any ts v F mx w' hs (fun t ht => by have := (hg t ht).2; omega) (moved hm hb (Nat.le_refl _)) (tab_below htab hb)
    rwa [hb1] at h
  have hcut : Hid (∀ w', Below w.heap.size w w' → Calls Tryd.prog 10 #[.string ⟨(jn ts).toArray⟩] w' (CutPost (ts, 0, 0) w')) := fun w' hb => by
    have h := cut_any ⟨(jn ts).toArray⟩ mx te pe w' (by show (List.toArray _).size ≤ _; rw [List.size_toArray]; omega) (moved hm hb (Nat.le_refl _)) (moved hev hb (Nat.le_refl _))
    rwa [show (⟨(jn ts).toArray⟩ : ByteArray).data.toList = jn ts from rfl, hb2] at h
  have hone : Hid (∀ w', Below w.heap.size w w' → Calls Tryd.prog 9 #[.slice (some ⟨w'.heap.size, 0, none⟩) 1 1] (w'.alloc (.cells #[.int .i64 1, .string ⟨#[97]⟩, .int .i64 0] 31)) (JoinPost ([97, 32], 0) (w'.alloc (.cells #[.int .i64 1, .string ⟨#[97]⟩, .int .i64 0] 31)))) := fun w' hb => by
    have h := join_any [⟨1, [97], 0⟩] _ _ mx _ (word_tok w') (fun t ht => by rw [List.mem_singleton.1 ht]; decide) (moved hm (ba hb _) (Nat.le_refl _)) (tab_below htab (ba hb _))
    rwa [word_join] at h
  have HTK := Lib.hid htk
  obtain ⟨J, hJ⟩ : ∃ J, J = jn ts := ⟨_, rfl⟩
  rw [← hJ] at hjoin hcut
  clear htk hg hjl hb1 hb2 hv hp hm hev htab hts hJ
  go_enter Tryd.func3, Tryd.ntmps3
  go_wp2_with fail
  refine HTK.out.mono ?_
  rintro e w1 ⟨⟨v1, rfl, hs1⟩, hb1⟩
  have HJN := Lib.hid (hjoin.out v1 _ w1 hs1 hb1); have HS1 := Lib.hid hs1; have HB1 := Lib.hid hb1
  clear hs1 hb1 HTK hjoin
  go_wp2_with fail
  refine HJN.out.mono ?_
  intro e w2 hq
  unfold JoinPost at hq
  obtain ⟨rfl, hb2⟩ := hq
  have HS2 := Lib.hid (HS1.out.down hb2); have HB2 := Lib.hid (bt HB1.out hb2)
  clear hb2 HJN HS1 HB1
  have HCU := Lib.hid (hcut.out w2 HB2.out)
  clear hcut
  go_wp2_with fail
  refine HCU.out.mono ?_
  intro e w3 hq
  unfold CutPost at hq
  obtain ⟨⟨v3, rfl, hv3⟩, hb3⟩ := hq
  have HS3 := Lib.hid (HS2.out.down hb3); have HB3 := Lib.hid (bt HB2.out hb3); have HV3 := Lib.hid hv3
  clear hb3 hv3 HCU HS2 HB2
  have HON := Lib.hid (hone.out w3 HB3.out)
  clear hone
  go_wp2_with fail
  refine HON.out.mono ?_
  intro e w4 hq
  unfold JoinPost at hq
  obtain ⟨rfl, hb4⟩ := hq
  have hb34 := bt (ba (Below.refl w3.heap.size w3) (.cells #[.int .i64 1, .string ⟨#[97]⟩, .int .i64 0] 31)) hb4
  have HSM := Lib.hid (same_any ts (by omega) v1 v3 _ _ w4 (HS3.out.down hb34) (HV3.out.down hb34)); have HB4 := Lib.hid (bt HB3.out hb34)
  clear hb4 hb34 HON HS3 HB3 HV3
  go_wp2_with fail
  refine HSM.out.mono ?_
  rintro e w5 ⟨rfl, hb5⟩
  have HB5 := Lib.hid (bt HB4.out hb5)
  clear hb5 HSM
  go_wp2_with fail
  go_ret
  exact ⟨rfl, HB5.out⟩
end Go.Proofs.YtpjiiipabbchiaaDoor.Tk
