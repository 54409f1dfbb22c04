/-
  DERIVED. The law TokenMany: its walk.
-/
import Derived.Test.YtpjiiipabbchiaaDoorTkJoin
import Derived.Test.YtpjiiipabbchiaaDoorTkLaid
namespace Go.Proofs.YtpjiiipabbchiaaDoor.Tk
open Go.RowKit

theorem semi_snoc (j : Nat) : (⟨(List.replicate j (59 : UInt8)).toArray⟩ : ByteArray) ++ ⟨#[59]⟩ = ⟨(List.replicate (j + 1) (59 : UInt8)).toArray⟩ := by
  rw [← Lib.mk_data ((⟨(List.replicate j (59 : UInt8)).toArray⟩ : ByteArray) ++ ⟨#[59]⟩)]
  congr 2
  rw [List.replicate_succ']
  rfl
theorem semi_row (j : Nat) : (List.replicate (j + 1) semi).flatMap tokC = (List.replicate j semi).flatMap tokC ++ [.int .i64 5, .string ⟨#[59]⟩, .int .i64 0] := by
  rw [List.replicate_succ', toks_snoc]; rfl
theorem news_tok1 (w : World) (a0 a1 a2 : Value) (t : TypeId) : ∀ j u, ([a0, a1, a2] : List Value)[j]? = some u → (w.alloc (.cells #[a0, a1, a2] t)).cell? (Addr.add ⟨w.heap.size, 0, none⟩ j) = some u := by
  intro j u h
  rw [show Addr.add ⟨w.heap.size, 0, none⟩ j = ⟨w.heap.size, j, none⟩ from by rw [Addr.add_lit, Nat.zero_add]]
  exact (Has.alloc w [a0, a1, a2] t).1 j u h
theorem row_form {w : World} {B : Nat} {t : TypeId} {k n : Nat} {v : Value} {L : List Value} (h : w.ownsRow B t k v n L) : ∃ Gv cv, v = .slice Gv n cv := by
  rcases h.2 with ⟨h1, h2⟩ | ⟨g, cap, _, h1, _⟩
  · exact ⟨none, 0, by rw [h1, h2]⟩
  · exact ⟨_, _, h1⟩

set_option maxHeartbeats 8000000 in
set_option maxRecDepth 20000 in
theorem tokenMany_any (a mx : Int) (w : World) (hz : -9223372036854775808 ≤ a ∧ a ≤ 9223372036854775807) (htab : Lib.TabIs Tryd.prog w "internal/strconv.uint64pow10" .u64 Lib.pow10Tab) (hev : ∃ te pe, w.cell? ⟨5, 0, none⟩ = some (.iface te pe)) (hm : w.cell? ⟨0, 0, none⟩ = some (.int .i64 mx)) :
    Calls Tryd.prog 7 #[.int .i64 a] w fun e w' => e = .returned (.bool true) ∧ Below w.heap.size w w' := by
  obtain ⟨te, pe, hev⟩ := hev
  obtain ⟨hz1, hz2⟩ := hz
  have HPK : Hid (∀ w, Calls Tryd.prog 12 #[.int .i64 a, .int .i64 800] w fun e w' => e = .returned (.int .i64 (pick a (800 : Nat))) ∧ w = w') := fun w => picked_any a 800 w hz1 hz2 (by omega) (by omega)
  have hk8 := pick_lt a 800 (by omega)
  obtain ⟨k, hk⟩ : ∃ k, k = pick a (800 : Nat) := ⟨_, rfl⟩
  rw [← hk] at HPK hk8
  obtain ⟨hjn, hct⟩ := token_many k hk8
  have HM := Lib.hid hm; have HE := Lib.hid hev; have HT := Lib.hid htab; have HJN := Lib.hid hjn; have HCT := Lib.hid hct
  obtain ⟨i0, hi, hz0, hz1', hz2'⟩ := info_parts infoTok
  have HI := Lib.hid hi; have HZ0 := Lib.hid hz0; have HZ1 := Lib.hid hz1'; have HZ2 := Lib.hid hz2'
  clear hi hz0 hz1' hz2' hm hev htab hjn hct hk
  go_enter Tryd.func7, Tryd.ntmps7
  go_wp2_with fail
  refine (HPK.out _).mono ?_
  rintro e w2 ⟨rfl, rfl⟩
  clear HPK
  go_wp2_with fail
  go_loopw [4, 5, 6] (fun v s i wr => ∃ j : Nat, j ≤ k ∧ i = .int .i64 j ∧ s = .string ⟨(List.replicate j (59 : UInt8)).toArray⟩ ∧ wr.ownsRow w.heap.size 31 3 v j ((List.replicate j semi).flatMap tokC) ∧ Below w.heap.size w wr) (fun _ _ i _ => k - (intOf i).toNat)
  case atStart => exact ⟨0, Nat.zero_le _, rfl, rfl, World.ownsRow_nil _ _ _ _, Below.refl _ _⟩
  case round =>
    obtain ⟨j, hj, rfl, rfl, hown, hbel⟩ := hrel
    by_cases hlt : j < k
    · obtain ⟨Gv, cv, rfl⟩ := row_form hown
      have HOWN := Lib.hid hown; have HBEL := Lib.hid hbel; have HSN := Lib.hid (semi_snoc j); have HSR := Lib.hid (semi_row j)
      have hszw : w.heap.size ≤ wr.heap.size := hbel.size
      have HTL := toks_len (List.replicate j semi)
      rw [List.length_replicate] at HTL
      obtain ⟨L, hL⟩ : ∃ L, L = (List.replicate j semi).flatMap tokC := ⟨_, rfl⟩
      rw [← hL] at HOWN HTL HSR
      clear hown hbel hL
      go_wp2_with (at_builtin; refine wpList_append_lies _ (by rfl) _ _ _ (by rfl) w.heap.size 31 i0 _ 3 32 Tryd.underlying23 HI.out HZ0.out HZ1.out HZ2.out rfl (by omega) (.slice Gv j cv) j L (by rfl) (HOWN.out.alloc _) ⟨wr.heap.size, 0, none⟩ 1 1 [.int .i64 5, .string ⟨#[59]⟩, .int .i64 0] (by rfl) (by rfl) (news_tok1 wr _ _ _ _) (by simp [Value.oneCell']) (by omega) (by unfold maxLen; omega) (by omega) (by simp; omega) (wr.heap.size + 1) (by simp) ?_)
      intro g cap w6 hown6 hgrow hat hlt6
      rw [← HSR.out] at hown6
      have hba := ba (Below.refl wr.heap.size wr) (.cells #[.int .i64 5, .string ⟨#[59]⟩, .int .i64 0] 31)
      have hrow6 := HOWN.out
      have hb6 : Below w.heap.size w w6 := below_row (bt HBEL.out hba) (Nat.le_refl _) (row_down hrow6 hba) (by omega) hgrow
      have HB6 := Lib.hid hb6; have HOWN6 := Lib.hid hown6
      clear hown6 hgrow hat hlt6 hba hrow6 hb6
      go_wp2_with fail
      go_roundw
      case rel => exact ⟨j + 1, by omega, by go_num, congrArg Value.string HSN.out, HOWN6.out, HB6.out⟩
      case measure => simp [intOf]; omega
    · obtain rfl : j = k := by omega
      obtain ⟨Gv, cv, hv⟩ := row_form hown
      subst hv
      have hsat : SAt cTok wr (fun b => w.heap.size ≤ b) (.slice Gv j cv) (List.replicate j semi) := SAt.of_row (f := tokC) (hf := fun _ => rfl) (by rw [List.length_replicate]; exact hown) (fun b hb => hb)
      have hjc := join_any (List.replicate j semi) _ _ mx wr hsat (fun t ht => by rw [(List.mem_replicate.1 ht).2]; decide) (moved HM.out hbel (Nat.le_refl _)) (tab_below HT.out hbel)
      have hjs : (jn (List.replicate j semi)).length = 2 * j := jn_semis j
      obtain ⟨S, hS⟩ : ∃ S : List UInt8, S = List.replicate j 59 := ⟨_, rfl⟩
      have hSl : S.length = j := by rw [hS, List.length_replicate]
      have hcc : Hid (∀ w', Below w.heap.size w w' → Calls Tryd.prog 10 #[.string ⟨S.toArray⟩] w' (CutPost (cutL S) w')) := fun w' hb => cut_any ⟨S.toArray⟩ mx te pe w' (by show (List.toArray _).size ≤ _; rw [List.size_toArray]; omega) (moved HM.out hb (Nat.le_refl _)) (moved HE.out hb (Nat.le_refl _))
      rw [← hS]
      rw [← hS] at HCT
      obtain ⟨J, hJ⟩ : ∃ J, J = joinL (List.replicate j semi) := ⟨_, rfl⟩
      rw [← hJ] at hjc HJN
      have HJC := Lib.hid hjc; have HBEL := Lib.hid hbel
      have hj2 : 400 < j ∨ ¬ 400 < j := Decidable.em _
      clear hown hbel hsat hjc hS hJ hSl HI HZ0 HZ1 HZ2
      rcases hj2 with h4 | h4
      · have hJ5 : J = ([], 5) := HJN.out.trans (if_pos h4)
        have hC5 := HCT.out.trans (if_pos h4)
        rw [hC5] at hcc
        subst hJ5
        clear hC5 HCT HJN hjs
        go_wp2_with fail
        refine HJC.out.mono ?_
        intro e w3 hp
        unfold JoinPost at hp
        obtain ⟨rfl, hb3⟩ := hp
        have hbel3 := bt HBEL.out hb3
        have HCC := Lib.hid (hcc.out w3 hbel3); have HB3 := Lib.hid hbel3
        clear hb3 hbel3 hcc HJC HBEL
        go_wp2_with fail
        refine HCC.out.mono ?_
        intro e w4 hp
        unfold CutPost at hp
        obtain ⟨⟨v4, rfl, hv4⟩, hb4⟩ := hp
        obtain ⟨G4, c4, rfl, -⟩ := hv4.form
        have HB4 := Lib.hid (bt HB3.out hb4)
        clear hv4 hb4 HCC
        go_wp2_with fail
        go_ret
        exact ⟨rfl, HB4.out⟩
      · obtain ⟨A, hA⟩ : ∃ A, A = jn (List.replicate j semi) := ⟨_, rfl⟩
        rw [← hA] at hjs HJN
        have hJ5 : J = (A, 0) := HJN.out.trans (if_neg h4)
        obtain ⟨T, hT⟩ : ∃ T, T = List.replicate j semi := ⟨_, rfl⟩
        have hTl : T.length = j := by rw [hT, List.length_replicate]
        rw [← hT] at HCT
        have hC5 : cutL S = (T, 0, 0) := HCT.out.trans (if_neg h4)
        rw [hC5] at hcc
        subst hJ5
        clear hC5 HCT HJN hA hT
        go_wp2_with fail
        refine HJC.out.mono ?_
        intro e w3 hp
        unfold JoinPost at hp
        obtain ⟨rfl, hb3⟩ := hp
        have hbel3 := bt HBEL.out hb3
        have HCC := Lib.hid (hcc.out w3 hbel3); have HB3 := Lib.hid hbel3
        clear hb3 hbel3 hcc HJC HBEL
        go_wp2_with fail
        refine HCC.out.mono ?_
        intro e w4 hp
        unfold CutPost at hp
        obtain ⟨⟨v4, rfl, hv4⟩, hb4⟩ := hp
        obtain ⟨G4, c4, rfl, -⟩ := hv4.form
        have HB4 := Lib.hid (bt HB3.out hb4)
        have q1 : ((T.length : Int) == (j : Int)) = true := beq_iff_eq.2 (by omega)
        have q2 : ((A.length : Int) == 2 * (j : Int)) = true := beq_iff_eq.2 (by omega)
        clear hv4 hb4 HCC
        go_wp2_with fail
        go_ret
        exact ⟨rfl, HB4.out⟩
end Go.Proofs.YtpjiiipabbchiaaDoor.Tk
