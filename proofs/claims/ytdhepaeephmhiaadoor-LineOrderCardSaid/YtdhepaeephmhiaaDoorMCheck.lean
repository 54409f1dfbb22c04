/-
  DERIVED. 'Check', 'Show' of letter: the walks, of messages whose fields may be.
-/
import Derived.Test.YtdhepaeephmhiaaDoorShow
import Derived.Shelf.Strings.SlTrimAscii
import Derived.BigQuiet
namespace Go.Proofs.YtdhepaeephmhiaaDoor
open Go.RowKit

/-- a field that may be -/
def Good (f : Fld) : Prop := nameOK f.1 = true ∧ sepL [13, 10] f.2 = none ∧ trimV f.2 = f.2
theorem trim_good (S : ByteArray) (w : World) (hS : S.size ≤ 2000000) (h : trimV S.data.toList = S.data.toList) :
    Calls Tryd.prog 70 #[.string S, .string ⟨#[32, 9]⟩] w fun e w' => e = .returned (.string S) ∧ Below w.heap.size w w' := by
  have := Any.strings_Trim_laid Tryd.lays160 (by kernel_rfl) S ⟨#[32, 9]⟩ w (by omega) (by decide) (ascii_of_all (by decide))
  refine this.mono ?_
  rintro e w' ⟨rfl, hb⟩
  refine ⟨?_, hb⟩
  show Ending.returned (.string ⟨(trimV S.data.toList).toArray⟩) = _
  rw [h]
theorem contains_none (S : ByteArray) (m : Int) (w : World) (hS : S.size ≤ 2000000) (h : sepL [13, 10] S.data.toList = none) (hm : w.cell? ⟨0, 0, none⟩ = some (.int .i64 m)) :
    Calls Tryd.prog 69 #[.string S, .string ⟨#[13, 10]⟩] w fun e w' => e = .returned (.bool false) ∧ w = w' := by
  refine (Tryd.strings_Contains S ⟨#[13, 10]⟩ m w (by omega) hm).mono ?_
  rintro e w' ⟨rfl, rfl⟩
  refine ⟨?_, rfl⟩
  rw [contains_sep _ _ (by decide)]
  show Ending.returned (.bool (sepL [13, 10] S.data.toList).isSome) = _
  rw [h]; rfl

set_option maxHeartbeats 4000000 in
set_option maxRecDepth 20000 in
theorem mcheck_any (fs : List Fld) (v : Value) (body : ByteArray) (m : Int) (w : World) (hv : FldsAt w v fs) (hgood : ∀ f ∈ fs, Good f) (hlen : fs.length ≤ 30) (hsz : (showF fs).length + body.size ≤ 900000) (hm : w.cell? ⟨0, 0, none⟩ = some (.int .i64 m)) :
    Calls Tryd.prog 51 #[.agg #[v, .string body]] w fun e w' => e = .returned (.int .i64 (if 2000 < (showL fs body.data.toList).length then 1 else 0)) ∧ Below w.heap.size w w' := by
  obtain ⟨R, hR⟩ : ∃ R, R = w.heap.size := ⟨_, rfl⟩
  have HV := Lib.hid hv
  obtain ⟨G, cap, hvv, hcells⟩ := hv
  subst hvv
  have HF : Hid (∀ j (h : j < fs.length) (wr : World), Below w.heap.size w wr → ∃ g, G = some ⟨g, 0, none⟩ ∧ ∃ N V : ByteArray, wr.cell? ⟨g, j * 2, none⟩ = some (.string N) ∧ wr.cell? ⟨g, j * 2 + 1, none⟩ = some (.string V) ∧
      (∀ w, Calls Tryd.prog 68 #[.string N] w fun e w' => e = .returned (.bool true) ∧ w = w') ∧ (∀ w, w.cell? ⟨0, 0, none⟩ = some (.int .i64 m) → Calls Tryd.prog 69 #[.string V, .string ⟨#[13, 10]⟩] w fun e w' => e = .returned (.bool false) ∧ w = w') ∧
      (∀ w, Calls Tryd.prog 70 #[.string V, .string ⟨#[32, 9]⟩] w fun e w' => e = .returned (.string V) ∧ Below w.heap.size w w')) := by
    intro j h wr hb
    obtain ⟨g, hG, hg, h0, h1⟩ := hcells j fs[j] (List.getElem?_eq_getElem h)
    have hmem := showF_mem fs fs[j] (List.getElem_mem h)
    obtain ⟨g1, g2, g3⟩ := hgood fs[j] (List.getElem_mem h)
    have hN : (⟨fs[j].1.toArray⟩ : ByteArray).size = fs[j].1.length := by show (List.toArray _).size = _; exact List.size_toArray
    have hV : (⟨fs[j].2.toArray⟩ : ByteArray).size = fs[j].2.length := by show (List.toArray _).size = _; exact List.size_toArray
    refine ⟨g, hG, ⟨fs[j].1.toArray⟩, ⟨fs[j].2.toArray⟩, moved h0 hb (Nat.le_refl _), moved h1 hb (Nat.le_refl _), ?_, ?_, ?_⟩
    · intro w
      refine (name_any ⟨fs[j].1.toArray⟩ w (by omega)).mono ?_
      rintro e w' ⟨rfl, rfl⟩
      exact ⟨by rw [show (⟨fs[j].1.toArray⟩ : ByteArray).data.toList = fs[j].1 from rfl, g1], rfl⟩
    · intro w hw
      exact contains_none _ m w (by omega) g2 hw
    · intro w
      exact trim_good _ w (by omega) g3
  have HSH : Hid (∀ wr, Below w.heap.size w wr → Calls Tryd.prog 52 #[.agg #[.slice G fs.length cap, .string body]] wr fun e w' => e = .returned (.string ⟨(showL fs body.data.toList).toArray⟩) ∧ Below wr.heap.size wr w') :=
    fun wr hb => show_any fs _ body wr (HV.out.down hb) (by omega)
  obtain ⟨RES, hRES⟩ : ∃ RES : ByteArray, RES = ⟨(showL fs body.data.toList).toArray⟩ := ⟨_, rfl⟩
  have hRs : (showL fs body.data.toList).length = RES.size := by rw [hRES]; show _ = (List.toArray _).size; exact List.size_toArray.symm
  have hRl : RES.size ≤ 1000000 := by
    rw [← hRs]; unfold showL
    simp only [List.length_append, List.length_cons, List.length_nil]
    have : body.data.toList.length = body.size := by simp
    omega
  rw [← hRES] at HSH
  rw [hRs]
  have hbox := alloc_cell w #[.slice G fs.length cap, .string body] 88 1 (.string body) rfl
  have hbox0 := alloc_cell w #[.slice G fs.length cap, .string body] 88 0 (.slice G fs.length cap) rfl
  rw [← hR] at hbox hbox0
  obtain ⟨W0, hW0⟩ : ∃ W0, W0 = w.alloc (.cells #[.slice G fs.length cap, .string body] 88) := ⟨_, rfl⟩
  have hz1 : W0.heap.size = R + 1 := by rw [hW0, hR]; simp
  have hb0 : Below w.heap.size w W0 := by rw [hW0]; exact ba (Below.refl _ w) _
  rw [← hW0] at hbox hbox0
  have HW0 := Lib.hid hW0.symm
  have HR := Lib.hid hR
  have hM := Lib.hid hm
  clear hW0 hR hRES hsz hcells hRs hm
  go_enter Tryd.func51, Tryd.ntmps51
  go_wp2_with fail
  rw [HW0.out, ← HR.out]
  go_loopw [13] (fun i wr => ∃ j : Nat, j ≤ fs.length ∧ i = .int .i64 j ∧ Below W0.heap.size W0 wr) (fun i _ => fs.length - (intOf i).toNat)
  case atStart => exact ⟨0, Nat.zero_le _, rfl, Below.refl _ _⟩
  case round =>
    obtain ⟨j, hj, rfl, hbw⟩ := hrel
    have hbel : Below w.heap.size w wr := bt hb0 hbw
    by_cases hlt : j < fs.length
    · obtain ⟨g, hG, N, V, h0, h1, hn, hc, ht⟩ := HF.out j hlt wr hbel
      subst hG
      have p0 := alloc_cell wr #[.string N, .string V] 92 0 _ rfl
      have p1 := alloc_cell wr #[.string N, .string V] 92 1 _ rfl
      have hbA := ba (Below.refl _ wr) (.cells #[.string N, .string V] 92)
      obtain ⟨W1, hW1⟩ : ∃ W1, W1 = wr.alloc (.cells #[.string N, .string V] 92) := ⟨_, rfl⟩
      rw [← hW1] at p0 p1 hbA
      have HW1 := Lib.hid hW1.symm; clear hW1
      have hbwA := bt hbw hbA
      have HTr := ht W1.drew
      have HCn := hc W1.drew (moved hM.out (Below.drew (bt hb0 hbwA)) (Nat.le_refl _))
      have HNm := hn W1.drew
      clear hbel hbox hbox0
      go_wp2_with fail
      rw [HW1.out]
      go_region_with (first
        | (go_at_call 68; refine HNm.mono ?_; rintro e w3 ⟨rfl, rfl⟩)
        | (go_at_call 69; refine HCn.mono ?_; rintro e w3 ⟨rfl, rfl⟩)
        | (go_at_call 70; refine HTr.mono ?_; rintro e w3 ⟨rfl, hb3⟩; have p3 := moved (w := W1.drew) p1 hb3 (Nat.le_refl _)))
      all_goals
        have hbw3 : Below W0.heap.size W0 w3 := bt (Below.drew hbwA) hb3
        clear hb3 hbwA hbA hbw p0 p1 p3 h0 h1
        go_wp2_with fail
        go_roundw
        case rel => exact ⟨j + 1, by omega, by go_num, hbw3⟩
        case measure => simp [intOf]; omega
    · obtain rfl : j = fs.length := by omega
      have hbx0 := moved hbox0 hbw (Nat.le_refl _)
      have hbx1 := moved hbox hbw (Nat.le_refl _)
      have hs := HSH.out wr hbel
      clear hbox hbox0
      go_wp2_with fail
      refine hs.mono ?_
      rintro e w3 ⟨rfl, hb3⟩
      have hfin := bt hbel hb3
      by_cases h2k : 2000 < RES.size
      · go_wp2_with fail
        go_ret
        exact ⟨rfl, hfin⟩
      · have hd : decide (2000 < RES.size) = false := decide_eq_false h2k
        go_wp2_with fail
        go_ret
        exact ⟨rfl, hfin⟩

set_option maxHeartbeats 2000000 in
set_option maxRecDepth 20000 in
theorem mshow_any (fs : List Fld) (v : Value) (body : ByteArray) (m : Int) (w : World) (hv : FldsAt w v fs) (hgood : ∀ f ∈ fs, Good f) (hlen : fs.length ≤ 30) (hsz : (showF fs).length + body.size ≤ 900000) (hm : w.cell? ⟨0, 0, none⟩ = some (.int .i64 m)) :
    Calls Tryd.prog 29 #[.agg #[v, .string body]] w fun e w' => e = .returned (if 2000 < (showL fs body.data.toList).length then .tuple #[.string ⟨#[]⟩, .int .i64 1] else .tuple #[.string ⟨(showL fs body.data.toList).toArray⟩, .int .i64 0]) ∧ Below w.heap.size w w' := by
  have HV := Lib.hid hv
  have hM := Lib.hid hm
  have HSH : Hid (∀ wr, Below w.heap.size w wr → Calls Tryd.prog 52 #[.agg #[v, .string body]] wr fun e w' => e = .returned (.string ⟨(showL fs body.data.toList).toArray⟩) ∧ Below wr.heap.size wr w') :=
    fun wr hb => show_any fs _ body wr (HV.out.down hb) (by omega)
  have HCH : Hid (∀ wr, Below w.heap.size w wr → Calls Tryd.prog 51 #[.agg #[v, .string body]] wr fun e w' => e = .returned (.int .i64 (if 2000 < (showL fs body.data.toList).length then 1 else 0)) ∧ Below wr.heap.size wr w') :=
    fun wr hb => mcheck_any fs _ body m wr (HV.out.down hb) hgood hlen hsz (moved hM.out hb (Nat.le_refl _))
  obtain ⟨n, hn⟩ : ∃ n, n = (showL fs body.data.toList).length := ⟨_, rfl⟩
  obtain ⟨RES, hRES⟩ : ∃ RES : ByteArray, RES = ⟨(showL fs body.data.toList).toArray⟩ := ⟨_, rfl⟩
  rw [← hRES] at HSH ⊢
  rw [← hn] at HCH ⊢
  have hb0 := ba (Below.refl _ w) (.cells #[v, .string body] 88)
  have hbox := alloc_cell w #[v, .string body] 88 1 (.string body) rfl
  have hbox0 := alloc_cell w #[v, .string body] 88 0 v rfl
  obtain ⟨G, cap, hvv, _⟩ := hv
  subst hvv
  clear hm hRES hn
  by_cases h2k : 2000 < n
  · rw [if_pos h2k] at HCH ⊢
    go_enter Tryd.func29, Tryd.ntmps29
    go_wp2_with fail
    refine (HCH.out _ hb0).mono ?_
    rintro e w1 ⟨rfl, hb1⟩
    have hw1 := bt hb0 hb1
    go_wp2_with fail
    go_ret2
    exact ⟨rfl, hw1⟩
  · rw [if_neg h2k] at HCH ⊢
    go_enter Tryd.func29, Tryd.ntmps29
    go_wp2_with fail
    refine (HCH.out _ hb0).mono ?_
    rintro e w1 ⟨rfl, hb1⟩
    have hw1 := bt hb0 hb1
    have p0 := moved hbox0 hb1 (Nat.le_refl _)
    have p1 := moved hbox hb1 (Nat.le_refl _)
    have hs := HSH.out w1 hw1
    clear hbox hbox0
    go_wp2_with fail
    refine hs.mono ?_
    rintro e w2 ⟨rfl, hb2⟩
    have hw2 := bt hw1 hb2
    go_wp2_with fail
    go_ret2
    exact ⟨rfl, hw2⟩
end Go.Proofs.YtdhepaeephmhiaaDoor
