/-
  DERIVED. tokens and sameTokens of postroomkeep.
-/
import Derived.Test.YtpjiiipabbchiaaDoorTkTok
namespace Go.Proofs.YtpjiiipabbchiaaDoor.Tk
open Go.RowKit

abbrev Pc := Int × Int × ByteArray
def pcC (p : Pc) : List Value := [.int .i64 p.1, .int .i64 p.2.1, .string p.2.2]
def cPc : Cod Pc := Cod.flat 3 pcC (fun _ => rfl)
def tkOf (p : Pc) : Tok := tokP p.1 p.2.1 p.2.2.data.toList
/-- the tokens of the first Pieces -/
def tokL (most : Nat) (ps : List Pc) : List Tok := (ps.take most).map tkOf
def GoodPc (p : Pc) : Prop := (-9223372036854775808 ≤ p.1 ∧ p.1 ≤ 9223372036854775807) ∧ (-9223372036854775808 ≤ p.2.1 ∧ p.2.1 ≤ 9223372036854775807) ∧ p.2.2.size ≤ 9223372036854775807
theorem tokL_good (most : Nat) (ps : List Pc) : ∀ t ∈ tokL most ps, GoodTok t := by
  intro t ht
  obtain ⟨p, -, rfl⟩ := List.mem_map.1 ht
  exact tokP_good _ _ _
theorem tokL_len (most : Nat) (ps : List Pc) : (tokL most ps).length ≤ most := by
  unfold tokL; rw [List.length_map]; exact List.length_take_le _ _
theorem tokL_snoc (ps : List Pc) (j : Nat) (h : j < ps.length) : ((tokL (j + 1) ps).flatMap tokC) = (tokL j ps).flatMap tokC ++ tokC (tkOf ps[j]) := by
  unfold tokL
  rw [List.take_succ_eq_append_getElem h, List.map_append]
  exact toks_snoc _ _

set_option maxHeartbeats 8000000 in
set_option maxRecDepth 20000 in
theorem tokens_any (ps : List Pc) (v : Value) (F : Dom) (most : Nat) (w : World) (hv : SAt cPc w F v ps) (hp : ∀ p ∈ ps, GoodPc p) (hmost : most ≤ 1000) :
    Calls Tryd.prog 8 #[v, .int .i64 (most : Int)] w fun e w' => (∃ v', e = .returned v' ∧ SAt cTok w' (fun b => w.heap.size ≤ b) v' (tokL most ps)) ∧ Below w.heap.size w w' := by
  obtain ⟨G, cap, rfl, hcap⟩ := hv.form
  obtain ⟨i0, hi, hz0, hz1, hz2⟩ := info_parts infoTok
  have HI := Lib.hid hi; have HZ0 := Lib.hid hz0; have HZ1 := Lib.hid hz1; have HZ2 := Lib.hid hz2
  have HV := Lib.hid hv; have HP := Lib.hid hp
  clear hi hz0 hz1 hz2 hv hp
  go_enter Tryd.func8, Tryd.ntmps8
  go_wp2_with fail
  go_loopw [5, 6] (fun v i wr => ∃ j : Nat, j ≤ ps.length ∧ j ≤ most ∧ i = .int .i64 j ∧ wr.ownsRow w.heap.size 31 3 v j ((tokL j ps).flatMap tokC) ∧ Below w.heap.size w wr) (fun _ i _ => ps.length - (intOf i).toNat)
  case atStart => exact ⟨0, Nat.zero_le _, Nat.zero_le _, rfl, World.ownsRow_nil _ _ _ _, Below.refl _ _⟩
  case round =>
    obtain ⟨j, hj, hjm, rfl, hown, hbel⟩ := hrel
    obtain ⟨Gv, cv, hv⟩ := row_form hown
    subst hv
    by_cases hlt : j < ps.length
    · by_cases hltm : j < most
      · obtain ⟨g, off, vs, hG, hF, hg, hrep, hcells⟩ := (HV.out.down hbel).get j hlt
        obtain rfl : vs = pcC ps[j] := hrep
        subst hG
        have c0 : wr.cell? ⟨g, off + j * 3, none⟩ = some (.int .i64 ps[j].1) := hcells 0 _ rfl
        have c1 : wr.cell? ⟨g, off + j * 3 + 1, none⟩ = some (.int .i64 ps[j].2.1) := hcells 1 _ rfl
        have c2 : wr.cell? ⟨g, off + j * 3 + 2, none⟩ = some (.string ps[j].2.2) := hcells 2 _ rfl
        have hsn := tokL_snoc ps j hlt
        obtain ⟨h1, h2, h3⟩ := HP.out ps[j] (List.getElem_mem hlt)
        have htk := token_any ps[j].1 ps[j].2.1 ps[j].2.2 wr h1 h2 h3
        have hlen : (tokL j ps).length = j := by unfold tokL; rw [List.length_map, List.length_take, Nat.min_eq_left (by omega)]
        have HTL := toks_len (tokL j ps)
        rw [hlen] at HTL
        obtain ⟨t, ht⟩ : ∃ t, t = tkOf ps[j] := ⟨_, rfl⟩
        rw [show tokP ps[j].1 ps[j].2.1 ps[j].2.2.data.toList = t from ht.symm] at htk
        rw [← ht] at hsn
        have HTK := Lib.hid htk; have HOWN := Lib.hid hown; have HBEL := Lib.hid hbel
        have hszw : w.heap.size ≤ wr.heap.size := hbel.size
        have HSN : Hid ((tokL (j + 1) ps).flatMap tokC = (tokL j ps).flatMap tokC ++ [.int .i64 t.kind, .string ⟨t.text.toArray⟩, .int .i64 t.num]) := hsn
        obtain ⟨L, hL⟩ : ∃ L, L = (tokL j ps).flatMap tokC := ⟨_, rfl⟩
        rw [← hL] at HOWN HTL HSN
        clear hown hbel hL htk hsn hlen ht hcells h1 h2 h3
        go_wp2_with fail
        refine HTK.out.mono ?_
        rintro e w5 ⟨rfl, hb5⟩
        have HOWN5 := Lib.hid (row_down HOWN.out hb5)
        have HBEL5 := Lib.hid (bt HBEL.out hb5)
        have hsz5 : w.heap.size ≤ w5.heap.size := Nat.le_trans hszw hb5.size
        clear hb5 HTK HOWN HBEL c0 c1 c2
        go_wp2_with (at_builtin; refine wpList_append_lies _ (by rfl) _ _ _ (by rfl) w.heap.size 31 i0 _ 3 32 Tryd.underlying23 HI.out HZ0.out HZ1.out HZ2.out rfl (by omega) (.slice Gv j cv) j L (by rfl) ((HOWN5.out.alloc _).alloc _) ⟨w5.heap.size + 1, 0, none⟩ 1 1 [.int .i64 t.kind, .string ⟨t.text.toArray⟩, .int .i64 t.num] (by rfl) (by rfl) (news_tok w5 _ _ _ _ _) (by simp [Value.oneCell']) (by omega) (by unfold maxLen; omega) (by omega) (by simp; omega) (w5.heap.size + 2) (by simp) ?_)
        intro gg cap6 w6 hown6 hgrow hat hlt6
        rw [← HSN.out] at hown6
        have hba := ba (ba (Below.refl w5.heap.size w5) (.cells #[.int .i64 t.kind, .string ⟨t.text.toArray⟩, .int .i64 t.num] 31)) (.cells #[.int .i64 t.kind, .string ⟨t.text.toArray⟩, .int .i64 t.num] 31)
        have hrow5 := HOWN5.out
        have hb6 : Below w.heap.size w w6 := below_row (bt HBEL5.out hba) (Nat.le_refl _) (row_down hrow5 hba) (by omega) hgrow
        have HB6 := Lib.hid hb6; have HOWN6 := Lib.hid hown6
        clear hown6 hgrow hat hlt6 hba hrow5 hb6
        go_wp2_with fail
        go_roundw
        case rel => exact ⟨j + 1, by omega, by omega, by go_num, HOWN6.out, HB6.out⟩
        case measure => simp [intOf]; omega
      · obtain rfl : j = most := by omega
        have hlen : (tokL j ps).length = j := by unfold tokL; rw [List.length_map, List.length_take, Nat.min_eq_left (by omega)]
        have hs : SAt cTok wr (fun b => w.heap.size ≤ b) (.slice Gv j cv) (tokL j ps) := SAt.of_row (f := tokC) (hf := fun _ => rfl) (by rw [hlen]; exact hown) (fun b hb => hb)
        have HS := Lib.hid hs; have HBEL := Lib.hid hbel
        clear hs hbel hown hlen
        go_wp2_with fail
        go_ret
        exact ⟨⟨_, rfl, HS.out⟩, HBEL.out⟩
    · obtain rfl : j = ps.length := by omega
      have htl : tokL most ps = tokL ps.length ps := by unfold tokL; rw [List.take_of_length_le hjm, List.take_length]
      have hlen : (tokL ps.length ps).length = ps.length := by unfold tokL; rw [List.length_map, List.take_length]
      have hs : SAt cTok wr (fun b => w.heap.size ≤ b) (.slice Gv ps.length cv) (tokL most ps) := by rw [htl]; exact SAt.of_row (f := tokC) (hf := fun _ => rfl) (by rw [hlen]; exact hown) (fun b hb => hb)
      have HS := Lib.hid hs; have HBEL := Lib.hid hbel
      clear hs hbel hown hlen htl
      go_wp2_with fail
      go_ret
      exact ⟨⟨_, rfl, HS.out⟩, HBEL.out⟩

set_option maxHeartbeats 8000000 in
set_option maxRecDepth 20000 in
theorem same_any (ts : List Tok) (hts : ts.length ≤ 1000) (v1 v2 : Value) (F1 F2 : Dom) (w : World) (h1 : SAt cTok w F1 v1 ts) (h2 : SAt cTok w F2 v2 ts) :
    Calls Tryd.prog 11 #[v1, v2] w fun e w' => e = .returned (.bool true) ∧ Below w.heap.size w w' := by
  obtain ⟨G1, cap1, rfl, hcap1⟩ := h1.form
  obtain ⟨G2, cap2, rfl, hcap2⟩ := h2.form
  have HV1 := Lib.hid h1; have HV2 := Lib.hid h2
  clear h1 h2
  go_enter Tryd.func11, Tryd.ntmps11
  go_wp2_with fail
  go_loopw [5] (fun i wr => ∃ j : Nat, j ≤ ts.length ∧ i = .int .i64 j ∧ Below w.heap.size w wr) (fun i _ => ts.length - (intOf i).toNat)
  case atStart => exact ⟨0, Nat.zero_le _, rfl, Below.refl _ _⟩
  case round =>
    obtain ⟨j, hj, rfl, hbel⟩ := hrel
    by_cases hlt : j < ts.length
    · obtain ⟨g, off, vs, hG, -, -, hrep, hcells⟩ := (HV1.out.down hbel).get j hlt
      obtain rfl : vs = tokC ts[j] := hrep
      subst hG
      have a0 : wr.cell? ⟨g, off + j * 3, none⟩ = some (.int .i64 ts[j].kind) := hcells 0 _ rfl
      have a1 : wr.cell? ⟨g, off + j * 3 + 1, none⟩ = some (.string ⟨ts[j].text.toArray⟩) := hcells 1 _ rfl
      have a2 : wr.cell? ⟨g, off + j * 3 + 2, none⟩ = some (.int .i64 ts[j].num) := hcells 2 _ rfl
      obtain ⟨g', off', vs', hG', -, -, hrep', hcells'⟩ := (HV2.out.down hbel).get j hlt
      obtain rfl : vs' = tokC ts[j] := hrep'
      subst hG'
      have b0 : wr.cell? ⟨g', off' + j * 3, none⟩ = some (.int .i64 ts[j].kind) := hcells' 0 _ rfl
      have b1 : wr.cell? ⟨g', off' + j * 3 + 1, none⟩ = some (.string ⟨ts[j].text.toArray⟩) := hcells' 1 _ rfl
      have b2 : wr.cell? ⟨g', off' + j * 3 + 2, none⟩ = some (.int .i64 ts[j].num) := hcells' 2 _ rfl
      generalize ts[j] = t at a0 a1 a2 b0 b1 b2
      have HBEL := Lib.hid hbel; have HLT := Lib.hid hlt
      clear hcells hcells' hbel
      go_wp2_with fail
      go_quiet (fail)
      go_wp2_with fail
      go_roundw
      case rel => exact ⟨j + 1, HLT.out, by go_num, bt HBEL.out (below_drewN _ _)⟩
      case measure => have := HLT.out; simp [intOf]; omega
    · obtain rfl : j = ts.length := by omega
      go_wp2_with fail
      go_ret
      exact ⟨rfl, hbel⟩
end Go.Proofs.YtpjiiipabbchiaaDoor.Tk
