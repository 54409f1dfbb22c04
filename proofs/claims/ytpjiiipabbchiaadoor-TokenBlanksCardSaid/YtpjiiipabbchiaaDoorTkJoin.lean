/-
  DERIVED. token.Join: the walk.
-/
import Derived.Test.YtpjiiipabbchiaaDoorTkQuote
import Derived.Test.YtpjiiipabbchiaaDoorTkCut
import Derived.Lib.AppendIntMem
import Derived.Lib.ItoaLen
namespace Go.Proofs.YtpjiiipabbchiaaDoor.Tk
open Go.RowKit

theorem tab_below {w w' : World} {n : String} {k : IntKind} {zs : List Int} (h : Lib.TabIs Tryd.prog w n k zs) (hb : Below w.heap.size w w') : Lib.TabIs Tryd.prog w' n k zs := by
  unfold Lib.TabIs World.var? at h ⊢
  cases hg : Tryd.prog.globalNamed n with
  | none => rw [hg] at h; cases h
  | some g =>
    rw [hg] at h
    simp only [Option.bind_some] at h ⊢
    cases hh : w.heap[g]? with
    | none => rw [hh] at h; cases h
    | some o =>
      have hlt : g < w.heap.size := by
        rcases Nat.lt_or_ge g w.heap.size with h' | h'
        · exact h'
        · simp [Array.getElem?_eq_none h'] at hh
      rw [hb.block g hlt]; exact h
theorem isB_down {T e B b : Nat} {bs : List Value} {w w' : World} (h : Lib.IsBuilder T e B b bs w) (hb : Below w.heap.size w w') : Lib.IsBuilder T e B b bs w' := by
  have dn : ∀ p, Lib.BuilderAt T e B b p bs w → Lib.BuilderAt T e B b p bs w' := fun p h => by
    have hlt := h.lt
    obtain ⟨h1, v, h2, h3, h4⟩ := h
    exact ⟨h1, v, (hb.block b hlt).trans h2, row_down h3 hb, h4⟩
  exact h.elim (fun h => .inl (dn _ h)) (fun h => .inr (dn _ h))
/-- what Join answers -/
def JoinPost (r : List UInt8 × Int) (w : World) (e : Ending) (w' : World) : Prop := e = .returned (.tuple #[.string ⟨r.1.toArray⟩, .int .i64 r.2]) ∧ Below w.heap.size w w'
theorem JoinPost.err {z : Int} {r : List UInt8 × Int} {w w' : World} (h : r = ([], z)) (hb : Below w.heap.size w w') : JoinPost r w (.returned (.tuple #[.string ⟨#[]⟩, .int .i64 z])) w' := by subst h; exact ⟨rfl, hb⟩
theorem joinF_bad {acc : List UInt8} {t : Tok} {l : List Tok} (h : checkT t ≠ 0) : joinF acc (t :: l) = ([], checkT t) := if_neg h
theorem joinF_long {acc : List UInt8} {t : Tok} {l : List Tok} (h : checkT t = 0) (h2 : 2000 < (acc ++ formL t ++ [32]).length) : joinF acc (t :: l) = ([], 1) := by rw [joinF, if_pos h, if_pos h2]
theorem joinF_next {acc : List UInt8} {t : Tok} {l : List Tok} (h : checkT t = 0) (h2 : ¬ 2000 < (acc ++ formL t ++ [32]).length) : joinF acc (t :: l) = joinF (acc ++ formL t ++ [32]) l := by rw [joinF, if_pos h, if_neg h2]
theorem check_kind {t : Tok} (h : checkT t = 0) : (t.kind = 3 ∧ 0 ≤ t.num ∧ t.num ≤ 2147483647) ∨ t.kind = 2 ∨ t.kind = 4 ∨ t.kind = 1 ∨ t.kind = 5 := by
  unfold checkT at h
  split at h
  · rename_i h3
    split at h
    · cases h
    · exact .inl ⟨h3, by omega, by omega⟩
  · split at h
    · rename_i h12
      rcases h12 with h | h
      · exact .inr (.inr (.inr (.inl h)))
      · exact .inr (.inl h)
    · split at h
      · rename_i h5; exact .inr (.inr (.inr (.inr h5)))
      · split at h
        · rename_i h4; exact .inr (.inr (.inl h4))
        · cases h
theorem colon_eq (x : List UInt8) : (⟨#[58]⟩ : ByteArray) ++ ⟨x.toArray⟩ = ⟨(58 :: x).toArray⟩ := by
  rw [← Lib.mk_data ((⟨#[58]⟩ : ByteArray) ++ ⟨x.toArray⟩)]
  congr 2
theorem cells_str (A x : List UInt8) : Lib.byteCells A ++ Lib.strCells ⟨x.toArray⟩ = Lib.byteCells (A ++ x) := by
  rw [Lib.strCells_eq, ← Lib.byteCells_append]
theorem cells_blank (A : List UInt8) : Lib.byteCells A ++ [.int .u8 (((32 : UInt8)).toNat : Int)] = Lib.byteCells (A ++ [32]) := by
  rw [Lib.byteCells_append]; rfl

set_option maxHeartbeats 8000000 in
set_option maxRecDepth 20000 in
theorem join_any (ts : List Tok) (v : Value) (F : Dom) (m : Int) (w : World) (hv : SAt cTok w F v ts) (hx : ∀ t ∈ ts, t.text.length ≤ 50000) (hm : w.cell? ⟨0, 0, none⟩ = some (.int .i64 m)) (htab : Lib.TabIs Tryd.prog w "internal/strconv.uint64pow10" .u64 Lib.pow10Tab) :
    Calls Tryd.prog 9 #[v] w (JoinPost (joinL ts) w) := by
  obtain ⟨G, cap, rfl, hcap⟩ := hv.form
  by_cases hbig : 400 < ts.length
  · have HFIN : Hid (joinL ts = ([], 5)) := if_pos hbig
    go_enter Tryd.func9, Tryd.ntmps9
    go_wp2_with fail
    go_ret2
    exact JoinPost.err HFIN.out (Below.refl _ _)
  · have h400 : ts.length ≤ 400 := by omega
    have HJ : Hid (joinL ts = joinF [] ts) := if_neg hbig
    obtain ⟨R, hR⟩ : ∃ R, R = w.heap.size := ⟨_, rfl⟩
    have hbl := Lib.fresh_isBuilder 47 5 w
    have hb0 := ba (Below.refl w.heap.size w) (.cells #[.pointer none, .slice none 0 0] 47)
    rw [← hR] at hbl
    obtain ⟨W0, hW0⟩ : ∃ W0, W0 = w.alloc (.cells #[.pointer none, .slice none 0 0] 47) := ⟨_, rfl⟩
    rw [← hW0] at hbl hb0
    have HBL := Lib.hid hbl; have HB0 := Lib.hid hb0; have HV := Lib.hid hv; have HX := Lib.hid hx; have HM := Lib.hid hm; have HT := Lib.hid htab
    have HW0 := Lib.hid hW0.symm; have HR := Lib.hid hR.symm
    have hRw : R = w.heap.size := hR
    have hRle : R ≤ w.heap.size ∧ w.heap.size ≤ R := by omega
    obtain ⟨hR1, hR2⟩ := hRle
    have hRW : R + 1 ≤ W0.heap.size := by rw [hW0]; simp; omega
    clear hbig hbl hb0 hW0 hv hx hm htab hR hRw
    go_enter Tryd.func9, Tryd.ntmps9
    go_wp2_with fail
    rw [HW0.out, HR.out]
    go_loopw [13] (fun i wr => ∃ (j : Nat) (A : List UInt8), j ≤ ts.length ∧ i = .int .i64 j ∧ Lib.IsBuilder 47 5 R R (Lib.byteCells A) wr ∧ Below w.heap.size w wr ∧ A.length ≤ 2000 ∧ Hid (joinL ts = joinF A (ts.drop j)) ∧ R + 1 ≤ wr.heap.size) (fun i _ => ts.length - (intOf i).toNat)
    case atStart => exact ⟨0, [], Nat.zero_le _, rfl, HBL.out, HB0.out, Nat.zero_le _, HJ.out, hRW⟩
    case round =>
      obtain ⟨j, A, hj, rfl, hib, hbel, hA2, heq, hsz⟩ := hrel
      have HIB := Lib.hid hib; have HBEL := Lib.hid hbel
      clear hib hbel
      by_cases hlt : j < ts.length
      · obtain ⟨g, off, vs, hG, hF, hg, hrep, hcells⟩ := (HV.out.down HBEL.out).get j hlt
        obtain rfl : vs = tokC ts[j] := hrep
        subst hG
        have c0 : wr.cell? ⟨g, off + j * 3, none⟩ = some (.int .i64 ts[j].kind) := hcells 0 _ rfl
        have c1 : wr.cell? ⟨g, off + j * 3 + 1, none⟩ = some (.string ⟨ts[j].text.toArray⟩) := hcells 1 _ rfl
        have c2 : wr.cell? ⟨g, off + j * 3 + 2, none⟩ = some (.int .i64 ts[j].num) := hcells 2 _ rfl
        have hdrop : ts.drop j = ts[j] :: ts.drop (j + 1) := List.drop_eq_getElem_cons hlt
        rw [hdrop] at heq
        obtain ⟨t, ht⟩ : ∃ t, t = ts[j] := ⟨_, rfl⟩
        have htx : t.text.length ≤ 50000 := HX.out t (by rw [ht]; exact List.getElem_mem hlt)
        rw [← ht] at c0 c1 c2 heq
        clear hcells hdrop ht
        -- BODY
        go_wp2_with fail
        have hsw : wr.heap.size < (wr.alloc (.cells #[.int .i64 t.kind, .string ⟨t.text.toArray⟩, .int .i64 t.num] 31)).heap.size := by simp
        obtain ⟨c, hc⟩ : ∃ c, c = checkT t := ⟨_, rfl⟩
        have hck : Calls Tryd.prog 14 #[.agg #[.int .i64 t.kind, .string ⟨t.text.toArray⟩, .int .i64 t.num]] (wr.alloc (.cells #[.int .i64 t.kind, .string ⟨t.text.toArray⟩, .int .i64 t.num] 31)) fun e w' => e = .returned (.int .i64 c) ∧ Below (wr.alloc (.cells #[.int .i64 t.kind, .string ⟨t.text.toArray⟩, .int .i64 t.num] 31)).heap.size (wr.alloc (.cells #[.int .i64 t.kind, .string ⟨t.text.toArray⟩, .int .i64 t.num] 31)) w' := by
          rw [hc]
          exact check_any t.kind t.num ⟨t.text.toArray⟩ _ (by show t.text.toArray.size ≤ _; rw [List.size_toArray]; omega)
        refine hck.mono ?_
        rintro e w2 ⟨rfl, hb2⟩
        have d0 : w2.cell? ⟨wr.heap.size, 0, none⟩ = some (.int .i64 t.kind) := moved (alloc_cell wr _ _ 0 _ rfl) hb2 (Nat.le_refl _)
        have d1 : w2.cell? ⟨wr.heap.size, 1, none⟩ = some (.string ⟨t.text.toArray⟩) := moved (alloc_cell wr _ _ 1 _ rfl) hb2 (Nat.le_refl _)
        have d2 : w2.cell? ⟨wr.heap.size, 2, none⟩ = some (.int .i64 t.num) := moved (alloc_cell wr _ _ 2 _ rfl) hb2 (Nat.le_refl _)
        have hbw : Below wr.heap.size wr w2 := bt (ba (Below.refl _ _) _) hb2
        have HIB2 := Lib.hid (isB_down HIB.out hbw)
        have HBEL2 := Lib.hid (bt HBEL.out hbw)
        have hsz2 : R + 1 ≤ w2.heap.size := Nat.le_trans hsz hbw.size
        clear hb2 hbw hck c0 c1 c2 HIB HBEL
        by_cases hk : c = 0
        · subst hk
          have HEQ := Lib.hid hc.symm
          clear hc
          rcases check_kind HEQ.out with ⟨k3, n0, n1⟩ | k2 | k4 | k1 | k5
          · have HF : Hid (formL t = Go.Lib.itoa t.num) := by unfold Hid formL; rw [if_pos k3]
            rw [k3] at d0
            clear k3
            have HIT := Lib.hid (Tryd.strconv_Itoa t.num (by omega) (by omega) w2 (tab_below HT.out HBEL2.out))
            go_wp2_with fail
            refine HIT.out.mono ?_
            rintro e w3 ⟨rfl, kk, os, hw3⟩
            have hg3 : Below w2.heap.size w2 w3 := hw3 ▸ Lib.below_grow w2.heap.size w2 (Nat.le_refl _) kk os
            have HIB3 := Lib.hid (isB_down HIB2.out hg3)
            have HBEL3 := Lib.hid (bt HBEL2.out hg3)
            have hsz3 : R + 1 ≤ w3.heap.size := Nat.le_trans hsz2 hg3.size
            clear hw3 hg3 HIT HIB2 HBEL2 d0 d1 d2
            have hft : (formL t).length ≤ 200000 := by
              rw [HF.out]; have := Go.Lib.itoa_length_le t.num (by omega) (by omega); omega
            have hws : Calls Tryd.prog 15 #[.pointer (some ⟨R, 0, none⟩), .string ⟨(Go.Lib.itoa t.num).toArray⟩] w3 fun e w' => (∃ z : Int, e = .returned (.tuple #[.int .i64 z, .nilIface])) ∧ (Lib.BuilderAt 47 5 R R (.pointer (some ⟨R, 0, none⟩)) (Lib.byteCells (A ++ formL t)) w' ∧ Below R w3 w') := by
              rw [← cells_str, ← HF.out]
              exact (writeString_any R R _ _ w3 HIB3.out (by rw [Lib.byteCells_length]; show _ + (List.toArray _).size ≤ _; rw [List.size_toArray]; omega) (by omega)).mono fun e w' ⟨he, hr⟩ => ⟨⟨_, he⟩, hr⟩
            have HWS := Lib.hid hws
            clear hws
            go_wp2_with fail
            refine HWS.out.mono ?_
            rintro e w4 ⟨⟨z, rfl⟩, hib4, hb4⟩
            have HIB4 := Lib.hid hib4
            have HBEL4 := Lib.hid (HBEL3.out.trans (hb4.mono hR2))
            have hsz4 : R + 1 ≤ w4.heap.size := Nat.le_trans hsz3 hb4.size
            clear hib4 hb4 HWS HIB3 HBEL3
            have HIBx := HIB4
            have hwb : Calls Tryd.prog 18 #[.pointer (some ⟨R, 0, none⟩), .int .u8 32] w4 fun e w' => e = .returned .nilIface ∧ (Lib.BuilderAt 47 5 R R (.pointer (some ⟨R, 0, none⟩)) (Lib.byteCells (A ++ formL t ++ [32])) w' ∧ Below R w4 w') := by
              rw [← cells_blank]
              exact writeByte_any R R _ 32 w4 (.inr HIBx.out) (by rw [Lib.byteCells_length, List.length_append]; omega) (by omega)
            have HWB := Lib.hid hwb
            clear hwb
            go_wp2_with fail
            refine HWB.out.mono ?_
            rintro e w5 ⟨rfl, hib5, hb5⟩
            have hbel5 : Below w.heap.size w w5 := HBEL4.out.trans (hb5.mono hR2)
            have hsz5 : R + 1 ≤ w5.heap.size := Nat.le_trans hsz4 hb5.size
            obtain ⟨L, hL⟩ : ∃ L : Nat, L = (A ++ formL t ++ [32]).length := ⟨_, rfl⟩
            have hln : Calls Tryd.prog 19 #[.pointer (some ⟨R, 0, none⟩)] w5 fun e w' => e = .returned (.int .i64 (L : Int)) ∧ w' = w5 := by
              have := Tryd.Builder_Len R R _ w5 (.inr hib5)
              rw [Lib.byteCells_length, ← hL] at this
              exact this
            have HBEL5 := Lib.hid hbel5; have HIB5 := Lib.hid hib5; have HLN := Lib.hid hln; have HL := Lib.hid hL
            have hL64 : L < 4611686018427387904 := by
              rw [hL, List.length_append, List.length_append]
              show A.length + (formL t).length + 1 < _
              omega
            clear hb5 hbel5 hib5 hln hL HWB HIBx HIB4 HBEL4
            go_wp2_with fail
            refine HLN.out.mono ?_
            rintro e w6 ⟨rfl, rfl⟩
            clear HLN
            by_cases hbig : 2000 < L
            · go_wp2_with fail
              go_ret2
              exact JoinPost.err (heq.out.trans (joinF_long HEQ.out (by rw [← HL.out]; exact hbig))) HBEL5.out
            · go_wp2_with fail
              go_roundw
              case rel => exact ⟨j + 1, A ++ formL t ++ [32], by omega, by go_num, .inr HIB5.out, HBEL5.out, by rw [← HL.out]; omega, heq.out.trans (joinF_next HEQ.out (by rw [← HL.out]; exact hbig)), hsz5⟩
              case measure => simp [intOf]; omega
          · have HF : Hid (formL t = 58 :: t.text) := by unfold Hid formL; rw [if_neg (by omega), if_pos k2]
            rw [k2] at d0
            clear k2
            obtain ⟨w3, hw3⟩ : ∃ w3, w3 = w2 := ⟨_, rfl⟩
            subst hw3
            have HIB3 := HIB2; have HBEL3 := HBEL2; have hsz3 := hsz2
            clear HIB2 HBEL2
            have hft : (formL t).length ≤ 200000 := by
              rw [HF.out]; show t.text.length + 1 ≤ _; omega
            have hws : Calls Tryd.prog 15 #[.pointer (some ⟨R, 0, none⟩), .string ((⟨#[58]⟩ : ByteArray) ++ ⟨t.text.toArray⟩)] w3 fun e w' => (∃ z : Int, e = .returned (.tuple #[.int .i64 z, .nilIface])) ∧ (Lib.BuilderAt 47 5 R R (.pointer (some ⟨R, 0, none⟩)) (Lib.byteCells (A ++ formL t)) w' ∧ Below R w3 w') := by
              rw [← cells_str, colon_eq, ← HF.out]
              exact (writeString_any R R _ _ w3 HIB3.out (by rw [Lib.byteCells_length]; show _ + (List.toArray _).size ≤ _; rw [List.size_toArray]; omega) (by omega)).mono fun e w' ⟨he, hr⟩ => ⟨⟨_, he⟩, hr⟩
            have HWS := Lib.hid hws
            clear hws
            go_wp2_with fail
            refine HWS.out.mono ?_
            rintro e w4 ⟨⟨z, rfl⟩, hib4, hb4⟩
            have HIB4 := Lib.hid hib4
            have HBEL4 := Lib.hid (HBEL3.out.trans (hb4.mono hR2))
            have hsz4 : R + 1 ≤ w4.heap.size := Nat.le_trans hsz3 hb4.size
            clear hib4 hb4 HWS HIB3 HBEL3
            have HIBx := HIB4
            have hwb : Calls Tryd.prog 18 #[.pointer (some ⟨R, 0, none⟩), .int .u8 32] w4 fun e w' => e = .returned .nilIface ∧ (Lib.BuilderAt 47 5 R R (.pointer (some ⟨R, 0, none⟩)) (Lib.byteCells (A ++ formL t ++ [32])) w' ∧ Below R w4 w') := by
              rw [← cells_blank]
              exact writeByte_any R R _ 32 w4 (.inr HIBx.out) (by rw [Lib.byteCells_length, List.length_append]; omega) (by omega)
            have HWB := Lib.hid hwb
            clear hwb
            go_wp2_with fail
            refine HWB.out.mono ?_
            rintro e w5 ⟨rfl, hib5, hb5⟩
            have hbel5 : Below w.heap.size w w5 := HBEL4.out.trans (hb5.mono hR2)
            have hsz5 : R + 1 ≤ w5.heap.size := Nat.le_trans hsz4 hb5.size
            obtain ⟨L, hL⟩ : ∃ L : Nat, L = (A ++ formL t ++ [32]).length := ⟨_, rfl⟩
            have hln : Calls Tryd.prog 19 #[.pointer (some ⟨R, 0, none⟩)] w5 fun e w' => e = .returned (.int .i64 (L : Int)) ∧ w' = w5 := by
              have := Tryd.Builder_Len R R _ w5 (.inr hib5)
              rw [Lib.byteCells_length, ← hL] at this
              exact this
            have HBEL5 := Lib.hid hbel5; have HIB5 := Lib.hid hib5; have HLN := Lib.hid hln; have HL := Lib.hid hL
            have hL64 : L < 4611686018427387904 := by
              rw [hL, List.length_append, List.length_append]
              show A.length + (formL t).length + 1 < _
              omega
            clear hb5 hbel5 hib5 hln hL HWB HIBx HIB4 HBEL4
            go_wp2_with fail
            refine HLN.out.mono ?_
            rintro e w6 ⟨rfl, rfl⟩
            clear HLN
            by_cases hbig : 2000 < L
            · go_wp2_with fail
              go_ret2
              exact JoinPost.err (heq.out.trans (joinF_long HEQ.out (by rw [← HL.out]; exact hbig))) HBEL5.out
            · go_wp2_with fail
              go_roundw
              case rel => exact ⟨j + 1, A ++ formL t ++ [32], by omega, by go_num, .inr HIB5.out, HBEL5.out, by rw [← HL.out]; omega, heq.out.trans (joinF_next HEQ.out (by rw [← HL.out]; exact hbig)), hsz5⟩
              case measure => simp [intOf]; omega
          · have HF : Hid (formL t = quoteL t.text) := by unfold Hid formL; rw [if_neg (by omega), if_neg (by omega), if_pos k4]
            rw [k4] at d0
            clear k4
            have HQT := Lib.hid (quote_any ⟨t.text.toArray⟩ m w2 (by show t.text.toArray.size ≤ _; rw [List.size_toArray]; omega) (moved HM.out HBEL2.out (Nat.le_refl _)))
            go_wp2_with fail
            refine HQT.out.mono ?_
            rintro e w3 ⟨rfl, hg3⟩
            have HIB3 := Lib.hid (isB_down HIB2.out hg3)
            have HBEL3 := Lib.hid (bt HBEL2.out hg3)
            have hsz3 : R + 1 ≤ w3.heap.size := Nat.le_trans hsz2 hg3.size
            clear hg3 HQT HIB2 HBEL2 d0 d1 d2
            have hft : (formL t).length ≤ 200000 := by
              rw [HF.out]; show (34 :: (esc t.text ++ [34])).length ≤ _; have := esc_len t.text; rw [List.length_cons, List.length_append]; show _ + 1 + 1 ≤ _; omega
            have hws : Calls Tryd.prog 15 #[.pointer (some ⟨R, 0, none⟩), .string ⟨(quoteL t.text).toArray⟩] w3 fun e w' => (∃ z : Int, e = .returned (.tuple #[.int .i64 z, .nilIface])) ∧ (Lib.BuilderAt 47 5 R R (.pointer (some ⟨R, 0, none⟩)) (Lib.byteCells (A ++ formL t)) w' ∧ Below R w3 w') := by
              rw [← cells_str, ← HF.out]
              exact (writeString_any R R _ _ w3 HIB3.out (by rw [Lib.byteCells_length]; show _ + (List.toArray _).size ≤ _; rw [List.size_toArray]; omega) (by omega)).mono fun e w' ⟨he, hr⟩ => ⟨⟨_, he⟩, hr⟩
            have HWS := Lib.hid hws
            clear hws
            go_wp2_with fail
            refine HWS.out.mono ?_
            rintro e w4 ⟨⟨z, rfl⟩, hib4, hb4⟩
            have HIB4 := Lib.hid hib4
            have HBEL4 := Lib.hid (HBEL3.out.trans (hb4.mono hR2))
            have hsz4 : R + 1 ≤ w4.heap.size := Nat.le_trans hsz3 hb4.size
            clear hib4 hb4 HWS HIB3 HBEL3
            have HIBx := HIB4
            have hwb : Calls Tryd.prog 18 #[.pointer (some ⟨R, 0, none⟩), .int .u8 32] w4 fun e w' => e = .returned .nilIface ∧ (Lib.BuilderAt 47 5 R R (.pointer (some ⟨R, 0, none⟩)) (Lib.byteCells (A ++ formL t ++ [32])) w' ∧ Below R w4 w') := by
              rw [← cells_blank]
              exact writeByte_any R R _ 32 w4 (.inr HIBx.out) (by rw [Lib.byteCells_length, List.length_append]; omega) (by omega)
            have HWB := Lib.hid hwb
            clear hwb
            go_wp2_with fail
            refine HWB.out.mono ?_
            rintro e w5 ⟨rfl, hib5, hb5⟩
            have hbel5 : Below w.heap.size w w5 := HBEL4.out.trans (hb5.mono hR2)
            have hsz5 : R + 1 ≤ w5.heap.size := Nat.le_trans hsz4 hb5.size
            obtain ⟨L, hL⟩ : ∃ L : Nat, L = (A ++ formL t ++ [32]).length := ⟨_, rfl⟩
            have hln : Calls Tryd.prog 19 #[.pointer (some ⟨R, 0, none⟩)] w5 fun e w' => e = .returned (.int .i64 (L : Int)) ∧ w' = w5 := by
              have := Tryd.Builder_Len R R _ w5 (.inr hib5)
              rw [Lib.byteCells_length, ← hL] at this
              exact this
            have HBEL5 := Lib.hid hbel5; have HIB5 := Lib.hid hib5; have HLN := Lib.hid hln; have HL := Lib.hid hL
            have hL64 : L < 4611686018427387904 := by
              rw [hL, List.length_append, List.length_append]
              show A.length + (formL t).length + 1 < _
              omega
            clear hb5 hbel5 hib5 hln hL HWB HIBx HIB4 HBEL4
            go_wp2_with fail
            refine HLN.out.mono ?_
            rintro e w6 ⟨rfl, rfl⟩
            clear HLN
            by_cases hbig : 2000 < L
            · go_wp2_with fail
              go_ret2
              exact JoinPost.err (heq.out.trans (joinF_long HEQ.out (by rw [← HL.out]; exact hbig))) HBEL5.out
            · go_wp2_with fail
              go_roundw
              case rel => exact ⟨j + 1, A ++ formL t ++ [32], by omega, by go_num, .inr HIB5.out, HBEL5.out, by rw [← HL.out]; omega, heq.out.trans (joinF_next HEQ.out (by rw [← HL.out]; exact hbig)), hsz5⟩
              case measure => simp [intOf]; omega
          · have HF : Hid (formL t = t.text) := by unfold Hid formL; rw [if_neg (by omega), if_neg (by omega), if_neg (by omega)]
            rw [k1] at d0
            clear k1
            obtain ⟨w3, hw3⟩ : ∃ w3, w3 = w2 := ⟨_, rfl⟩
            subst hw3
            have HIB3 := HIB2; have HBEL3 := HBEL2; have hsz3 := hsz2
            clear HIB2 HBEL2
            have hft : (formL t).length ≤ 200000 := by
              rw [HF.out]; omega
            have hws : Calls Tryd.prog 15 #[.pointer (some ⟨R, 0, none⟩), .string ⟨t.text.toArray⟩] w3 fun e w' => (∃ z : Int, e = .returned (.tuple #[.int .i64 z, .nilIface])) ∧ (Lib.BuilderAt 47 5 R R (.pointer (some ⟨R, 0, none⟩)) (Lib.byteCells (A ++ formL t)) w' ∧ Below R w3 w') := by
              rw [← cells_str, ← HF.out]
              exact (writeString_any R R _ _ w3 HIB3.out (by rw [Lib.byteCells_length]; show _ + (List.toArray _).size ≤ _; rw [List.size_toArray]; omega) (by omega)).mono fun e w' ⟨he, hr⟩ => ⟨⟨_, he⟩, hr⟩
            have HWS := Lib.hid hws
            clear hws
            go_wp2_with fail
            refine HWS.out.mono ?_
            rintro e w4 ⟨⟨z, rfl⟩, hib4, hb4⟩
            have HIB4 := Lib.hid hib4
            have HBEL4 := Lib.hid (HBEL3.out.trans (hb4.mono hR2))
            have hsz4 : R + 1 ≤ w4.heap.size := Nat.le_trans hsz3 hb4.size
            clear hib4 hb4 HWS HIB3 HBEL3
            have HIBx := HIB4
            have hwb : Calls Tryd.prog 18 #[.pointer (some ⟨R, 0, none⟩), .int .u8 32] w4 fun e w' => e = .returned .nilIface ∧ (Lib.BuilderAt 47 5 R R (.pointer (some ⟨R, 0, none⟩)) (Lib.byteCells (A ++ formL t ++ [32])) w' ∧ Below R w4 w') := by
              rw [← cells_blank]
              exact writeByte_any R R _ 32 w4 (.inr HIBx.out) (by rw [Lib.byteCells_length, List.length_append]; omega) (by omega)
            have HWB := Lib.hid hwb
            clear hwb
            go_wp2_with fail
            refine HWB.out.mono ?_
            rintro e w5 ⟨rfl, hib5, hb5⟩
            have hbel5 : Below w.heap.size w w5 := HBEL4.out.trans (hb5.mono hR2)
            have hsz5 : R + 1 ≤ w5.heap.size := Nat.le_trans hsz4 hb5.size
            obtain ⟨L, hL⟩ : ∃ L : Nat, L = (A ++ formL t ++ [32]).length := ⟨_, rfl⟩
            have hln : Calls Tryd.prog 19 #[.pointer (some ⟨R, 0, none⟩)] w5 fun e w' => e = .returned (.int .i64 (L : Int)) ∧ w' = w5 := by
              have := Tryd.Builder_Len R R _ w5 (.inr hib5)
              rw [Lib.byteCells_length, ← hL] at this
              exact this
            have HBEL5 := Lib.hid hbel5; have HIB5 := Lib.hid hib5; have HLN := Lib.hid hln; have HL := Lib.hid hL
            have hL64 : L < 4611686018427387904 := by
              rw [hL, List.length_append, List.length_append]
              show A.length + (formL t).length + 1 < _
              omega
            clear hb5 hbel5 hib5 hln hL HWB HIBx HIB4 HBEL4
            go_wp2_with fail
            refine HLN.out.mono ?_
            rintro e w6 ⟨rfl, rfl⟩
            clear HLN
            by_cases hbig : 2000 < L
            · go_wp2_with fail
              go_ret2
              exact JoinPost.err (heq.out.trans (joinF_long HEQ.out (by rw [← HL.out]; exact hbig))) HBEL5.out
            · go_wp2_with fail
              go_roundw
              case rel => exact ⟨j + 1, A ++ formL t ++ [32], by omega, by go_num, .inr HIB5.out, HBEL5.out, by rw [← HL.out]; omega, heq.out.trans (joinF_next HEQ.out (by rw [← HL.out]; exact hbig)), hsz5⟩
              case measure => simp [intOf]; omega
          · have HF : Hid (formL t = t.text) := by unfold Hid formL; rw [if_neg (by omega), if_neg (by omega), if_neg (by omega)]
            rw [k5] at d0
            clear k5
            obtain ⟨w3, hw3⟩ : ∃ w3, w3 = w2 := ⟨_, rfl⟩
            subst hw3
            have HIB3 := HIB2; have HBEL3 := HBEL2; have hsz3 := hsz2
            clear HIB2 HBEL2
            have hft : (formL t).length ≤ 200000 := by
              rw [HF.out]; omega
            have hws : Calls Tryd.prog 15 #[.pointer (some ⟨R, 0, none⟩), .string ⟨t.text.toArray⟩] w3 fun e w' => (∃ z : Int, e = .returned (.tuple #[.int .i64 z, .nilIface])) ∧ (Lib.BuilderAt 47 5 R R (.pointer (some ⟨R, 0, none⟩)) (Lib.byteCells (A ++ formL t)) w' ∧ Below R w3 w') := by
              rw [← cells_str, ← HF.out]
              exact (writeString_any R R _ _ w3 HIB3.out (by rw [Lib.byteCells_length]; show _ + (List.toArray _).size ≤ _; rw [List.size_toArray]; omega) (by omega)).mono fun e w' ⟨he, hr⟩ => ⟨⟨_, he⟩, hr⟩
            have HWS := Lib.hid hws
            clear hws
            go_wp2_with fail
            refine HWS.out.mono ?_
            rintro e w4 ⟨⟨z, rfl⟩, hib4, hb4⟩
            have HIB4 := Lib.hid hib4
            have HBEL4 := Lib.hid (HBEL3.out.trans (hb4.mono hR2))
            have hsz4 : R + 1 ≤ w4.heap.size := Nat.le_trans hsz3 hb4.size
            clear hib4 hb4 HWS HIB3 HBEL3
            have HIBx := HIB4
            have hwb : Calls Tryd.prog 18 #[.pointer (some ⟨R, 0, none⟩), .int .u8 32] w4 fun e w' => e = .returned .nilIface ∧ (Lib.BuilderAt 47 5 R R (.pointer (some ⟨R, 0, none⟩)) (Lib.byteCells (A ++ formL t ++ [32])) w' ∧ Below R w4 w') := by
              rw [← cells_blank]
              exact writeByte_any R R _ 32 w4 (.inr HIBx.out) (by rw [Lib.byteCells_length, List.length_append]; omega) (by omega)
            have HWB := Lib.hid hwb
            clear hwb
            go_wp2_with fail
            refine HWB.out.mono ?_
            rintro e w5 ⟨rfl, hib5, hb5⟩
            have hbel5 : Below w.heap.size w w5 := HBEL4.out.trans (hb5.mono hR2)
            have hsz5 : R + 1 ≤ w5.heap.size := Nat.le_trans hsz4 hb5.size
            obtain ⟨L, hL⟩ : ∃ L : Nat, L = (A ++ formL t ++ [32]).length := ⟨_, rfl⟩
            have hln : Calls Tryd.prog 19 #[.pointer (some ⟨R, 0, none⟩)] w5 fun e w' => e = .returned (.int .i64 (L : Int)) ∧ w' = w5 := by
              have := Tryd.Builder_Len R R _ w5 (.inr hib5)
              rw [Lib.byteCells_length, ← hL] at this
              exact this
            have HBEL5 := Lib.hid hbel5; have HIB5 := Lib.hid hib5; have HLN := Lib.hid hln; have HL := Lib.hid hL
            have hL64 : L < 4611686018427387904 := by
              rw [hL, List.length_append, List.length_append]
              show A.length + (formL t).length + 1 < _
              omega
            clear hb5 hbel5 hib5 hln hL HWB HIBx HIB4 HBEL4
            go_wp2_with fail
            refine HLN.out.mono ?_
            rintro e w6 ⟨rfl, rfl⟩
            clear HLN
            by_cases hbig : 2000 < L
            · go_wp2_with fail
              go_ret2
              exact JoinPost.err (heq.out.trans (joinF_long HEQ.out (by rw [← HL.out]; exact hbig))) HBEL5.out
            · go_wp2_with fail
              go_roundw
              case rel => exact ⟨j + 1, A ++ formL t ++ [32], by omega, by go_num, .inr HIB5.out, HBEL5.out, by rw [← HL.out]; omega, heq.out.trans (joinF_next HEQ.out (by rw [← HL.out]; exact hbig)), hsz5⟩
              case measure => simp [intOf]; omega
        · have HFIN : Hid (joinL ts = ([], c)) := by
            unfold Hid
            rw [hc]
            exact heq.out.trans (joinF_bad (by rw [← hc]; exact hk))
          have q := int_bn c 0 hk
          clear hc hk heq
          go_wp2_with fail
          go_ret2
          exact JoinPost.err HFIN.out HBEL2.out
        -- YDOB
      · obtain rfl : j = ts.length := by omega
        have HFIN : Hid (joinL ts = (A, 0)) := by unfold Hid; rw [heq.out, List.drop_length]; rfl
        have HST := Lib.hid (Tryd.Builder_String_any R R A wr HIB.out (by omega))
        clear heq hlt
        go_wp2_with fail
        refine HST.out.mono ?_
        rintro e w2 ⟨rfl, hb2⟩
        have HB2 := Lib.hid (HBEL.out.trans (hb2.mono (by omega)))
        clear hb2 HST
        go_wp2_with fail
        go_ret2
        exact ⟨by rw [HFIN.out]; rfl, HB2.out⟩
end Go.Proofs.YtpjiiipabbchiaaDoor.Tk
