/-
  DERIVED. The writer of tokens: branch, command: the walks.
-/
import Derived.Test.YtpfbkdbblpppdaaGreatDoorScWtC
import Derived.Test.YtpfbkdbblpppdaaGreatDoorScChk3
set_option linter.unusedVariables false
set_option linter.unusedSimpArgs false
namespace Go.Proofs.YtpfbkdbblpppdaaGreatDoor.Sc
open Go.RowKit
open Tk (Tok)

theorem elseT_br {c : Cmd} (h : c.kind = 2) : elseT [c] ([c].flatMap wC) ([c].map wBr) = W elsifW :: wBr c := by
  unfold elseT; rw [if_pos (by simp [isElsif, h])]; simp
theorem elseT_bl {el : List Cmd} (h : isElsif el = false) (hne : el ≠ []) : elseT el (el.flatMap wC) (el.map wBr) = W elseW :: blkT (el.flatMap wC) := by
  unfold elseT; rw [if_neg (by rw [h]; simp), if_neg hne]
theorem blkT_len (x : List Tok) : (blkT x).length = x.length + 2 := by unfold blkT; rw [List.length_cons, List.length_append]; rfl
set_option maxHeartbeats 8000000 in
set_option maxRecDepth 20000 in
theorem wtB_succ (n : Nat) (IK : WtK n) (IB : WtB n) : WtB (n + 1) := by
  intro c vs F base R l w h hF h2 hFl hz htab hw hlen
  obtain ⟨m, Gx, cx, Gn, cn, Gk, ck, Gt, ct, Gh, ch, Ge, ce, hm, rfl, -, hT, hH, hE⟩ := cmd_open h
  obtain rfl : n = m := by omega
  have hwb := wBr_eq c
  obtain ⟨hx, hf⟩ := (FormC.iff c).1 hF
  rcases hf with ⟨-, fT, fH, fE⟩ | ⟨h, -⟩
  · obtain ⟨k, tx, t, th, el⟩ := c
    simp only [cmdC, tstC, List.cons_append, List.nil_append] at *
    subst h2
    obtain ⟨vs, hvs⟩ : ∃ vs : List Value, vs = [.int .i64 2, .slice Gx tx.length cx, .int .i64 t.kind, .int .i64 t.mat, .int .i64 t.part, .slice Gn t.names.length cn, .slice Gk t.keys.length ck, .bool t.over, .int .i64 t.limit, .slice Gt t.tests.length ct, .slice Gh th.length ch, .slice Ge el.length ce] := ⟨_, rfl⟩
    have hst := wt_start (t := 50) (vs := vs) hz htab hw
    have hA0 : At w (w.alloc (.cells vs.toArray 50)) base R w.heap.size vs l := ⟨hst.2.2.1, hst.2.2.2.1, hst.1, hst.2.2.2.2.1, hst.2.1, hst.2.2.2.2.2.2⟩
    have hb0 : Below w.heap.size w (w.alloc (.cells vs.toArray 50)) := ba (Below.refl _ _) _
    have hne : w.heap.size ≠ R := hw.new.2.1
    have hlen' := hlen
    rw [hwb, List.length_append, List.length_append, blkT_len] at hlen'
    have H1 := Lib.hid (wtT_all (n + 1) t _ F base R l (w.alloc (.cells vs.toArray 50)) ((cTst (n + 1)).stable hT (Same.of_below hb0) hb0.size) fT hFl hA0.z hA0.tab hA0.wr (by omega))
    have HIK := Lib.hid (fun (cs : List Cmd) (v : Value) (l : List Tok) (w : World) (h : SAt (cCmd n) w F v cs) (hf : ∀ c ∈ cs, FormC c) (hz : base ≤ w.heap.size) (ht : Tabs w base) (hw : Wr w base R l) (hl : l.length + (cs.flatMap wC).length + 2 ≤ 4000000) => IK cs v F base R l w h hf hFl hz ht hw hl)
    have HIB := Lib.hid (fun (c : Cmd) (vs : List Value) (l : List Tok) (w : World) (h : (cCmd n).rep w F c vs) (hf : FormC c) (hk : c.kind = 2) (hz : base ≤ w.heap.size) (ht : Tabs w base) (hw : Wr w base R l) (hl : l.length + (wBr c).length ≤ 4000000) => IB c vs F base R l w h hf hk hFl hz ht hw hl)
    have HP := Lib.hid (fun (k : Int) (l : List Tok) (s : Str) (w : World) (hz : base ≤ w.heap.size) (h : Wr w base R l) (hl : l.length ≤ 10000000) => put_str base R l k s w hz h hl)
    obtain ⟨LF, hLF⟩ : ∃ LF, LF = l ++ wBr ⟨2, tx, t, th, el⟩ := ⟨_, rfl⟩
    rw [← hLF]
    have HLF : Hid (LF = ((l ++ wT t) ++ blkT (th.flatMap wC)) ++ elseT el (el.flatMap wC) (el.map wBr)) := by unfold Hid; rw [hLF, hwb]; simp
    have hA0v := hA0
    rw [hvs] at hA0v H1
    have HA0 := Lib.hid hA0v
    have HLN := Lib.hid hlen'
    have HHS := Lib.hid hH; have HES := Lib.hid hE; have HFH := Lib.hid fH; have HFE := Lib.hid fE; have HFL := Lib.hid hFl; have HWR := Lib.hid hw; have HZ := Lib.hid hz
    have hE0 : el = [] ∨ el ≠ [] := by cases el with
      | nil => exact .inl rfl
      | cons a b => exact .inr (by simp)
    obtain ⟨ne, hnn⟩ : ∃ ne, ne = el.length := ⟨_, rfl⟩
    rw [← hnn] at HA0 H1 HES ⊢
    have HNE := Lib.hid hnn
    obtain ⟨H, hHH⟩ : ∃ H, H = w.heap.size := ⟨_, rfl⟩
    rw [← hHH] at HA0 hne
    have HHH := Lib.hid hHH.symm
    clear IK IB hvs hst hA0 hb0 hlen hlen' hT hH hE hLF hwb hA0v h hF hFl hz htab hw hx fT fH fE hm hnn hHH
    go_enter Tryz.func100, Tryz.ntmps100
    go_wp2_with fail
    refine H1.out.mono ?_
    rintro e w1 ⟨rfl, hw1, hb1⟩
    have HA1 := Lib.hid (HA0.out.next hne hw1 hb1)
    obtain ⟨-, -, -, c10, c11⟩ := has_twelve HA1.out.has
    clear hw1 hb1 H1 HA0
    rw [HHH.out]
    go_wp2_with fail
    have hbel1 := HWR.out.below HZ.out HA1.out.st
    refine (HIK.out th _ _ w1 (HHS.out.stable (fun b hb _ => hbel1.block b (HFL.out b hb)) hbel1.size) HFH.out HA1.out.z HA1.out.tab HA1.out.wr (by have := HLN.out; rw [List.length_append]; omega)).mono ?_
    rintro e w2 ⟨rfl, hw2, hb2⟩
    have HA2 := Lib.hid (HA1.out.next hne hw2 hb2)
    obtain ⟨-, -, -, -, d11⟩ := has_twelve HA2.out.has
    have HBE := Lib.hid (HWR.out.below HZ.out HA2.out.st)
    clear hw2 hb2 c10 c11 hbel1 HA1 HHS HFH
    rcases els_cases el with ⟨c0, rfl, hk2, he⟩ | ⟨he, hcs⟩
    · have HE := Lib.hid (elseT_br hk2)
      obtain ⟨g, off, Gx', cx', Gn', cn', Gk', ck', Gs', cs', Gh', ch', Ge', ce', rfl, hrep, e0, e1, ⟨e2, e3, e4, e5, e6, e7, e8, e9⟩, e10, e11⟩ := cmd_get HES.out (fun b hb _ => HBE.out.block b (HFL.out b hb)) HBE.out.size 0 (by simp)
      simp only [List.getElem_cons_zero, Nat.zero_mul, Nat.add_zero] at hrep e0 e1 e2 e3 e4 e5 e6 e7 e8 e9 e10 e11
      have q1 : ((ne : Int) == 1) = true := by rw [HNE.out]; rfl
      have q2 : 0 < ne := by rw [HNE.out]; simp
      have hk : ((c0.kind : Int) == 2) = true := beq_iff_eq.2 hk2
      have HREP := Lib.hid hrep; have HK2 := Lib.hid hk2
      have hlen2 : ((l ++ wT t) ++ blkT (th.flatMap wC)).length + 1 + (wBr c0).length ≤ 4000000 := by
        have := HLN.out; rw [HE.out] at this; simp only [List.length_append, blkT_len, List.length_cons] at this ⊢; omega
      have HL2 := Lib.hid hlen2
      clear he hrep hk2 hlen2 hE0
      go_wp2_with fail
      refine (HP.out 1 _ elsifW w2 HA2.out.z HA2.out.wr (by have := HL2.out; omega)).mono ?_
      rintro e w3 ⟨rfl, hw3, hb3⟩
      have HA3 := Lib.hid (HA2.out.next hne hw3 hb3)
      obtain ⟨-, -, -, -, f11⟩ := has_twelve HA3.out.has
      have hb23 := HA2.out.wr.below HA2.out.z hb3
      have HB23 := Lib.hid hb23
      have hgb : g < base := by
        obtain ⟨g', off', vs', hG, hFg, -⟩ := HES.out.get 0 (by simp)
        cases hG; exact HFL.out _ hFg
      have mv : ∀ (o : Nat) (v : Value), w2.cell? ⟨g, o, none⟩ = some v → w3.cell? ⟨g, o, none⟩ = some v := fun o v h => (HB23.out.cell (p := ⟨g, o, none⟩) hgb).trans h
      have y0 := mv _ _ e0; have y1 := mv _ _ e1; have y2 := mv _ _ e2; have y3 := mv _ _ e3; have y4 := mv _ _ e4; have y5 := mv _ _ e5; have y6 := mv _ _ e6; have y7 := mv _ _ e7; have y8 := mv _ _ e8; have y9 := mv _ _ e9; have y10 := mv _ _ e10; have y11 := mv _ _ e11
      clear hw3 hb3 d11 hb23 mv e0 e1 e2 e3 e4 e5 e6 e7 e8 e9 e10 e11
      go_wp2_with fail
      refine (HIB.out c0 _ _ w3 ((cCmd n).stable HREP.out (fun b hb _ => HB23.out.block b (HFL.out b hb)) HB23.out.size) (HFE.out _ (List.mem_singleton_self _)) HK2.out HA3.out.z HA3.out.tab HA3.out.wr (by have := HL2.out; rw [List.length_append]; exact this)).mono ?_
      rintro e w4 ⟨rfl, hw4, hb4⟩
      have HA4 := Lib.hid (HA3.out.next hne hw4 hb4)
      clear hw4 hb4
      go_wp2_with fail
      go_returns
      exact ⟨rfl, by rw [HLF.out, HE.out]; have := HA4.out.wr; rw [List.append_assoc _ [_]] at this; exact this, HA4.out.st⟩
    · rcases hE0 with rfl | hne0
      · have q1 : ((ne : Int) == 1) = false := by rw [HNE.out]; rfl
        have q2 : (ne : Int) = 0 := by rw [HNE.out]; rfl
        obtain rfl : ne = 0 := by omega
        clear he hcs q2
        go_wp2_with fail
        go_returns
        exact ⟨rfl, by rw [HLF.out]; have := HA2.out.wr; show Wr w2 base R (_ ++ []); rw [List.append_nil]; exact this, HA2.out.st⟩
      · have HE := Lib.hid (elseT_bl he hne0)
        have hlen2 : ((l ++ wT t) ++ blkT (th.flatMap wC)).length + 1 + (el.flatMap wC).length + 2 ≤ 4000000 := by
          have := HLN.out; rw [HE.out] at this; simp only [List.length_append, blkT_len, List.length_cons] at this ⊢; omega
        have HL2 := Lib.hid hlen2
        have q3 : 0 < ne := by rw [HNE.out]; exact List.length_pos_iff.2 hne0
        have key : ((ne : Int) == 1) = false ∨ (((ne : Int) == 1) = true ∧ ∃ g off, Ge = some ⟨g, off, none⟩ ∧ ∃ kk : Int, w2.cell? ⟨g, off, none⟩ = some (.int .i64 kk) ∧ (kk == 2) = false) := by
          rcases hcs with ⟨c0, rfl, hk2⟩ | hcs
          · obtain ⟨g, off, Gx', cx', Gn', cn', Gk', ck', Gs', cs', Gh', ch', Ge', ce', rfl, hrep, e0, -⟩ := cmd_get HES.out (fun b hb _ => HBE.out.block b (HFL.out b hb)) HBE.out.size 0 (by simp)
            simp only [List.getElem_cons_zero, Nat.zero_mul, Nat.add_zero] at e0
            exact .inr ⟨by rw [HNE.out]; rfl, g, off, rfl, _, e0, beq_eq_false_iff_ne.2 hk2⟩
          · exact .inl (beq_eq_false_iff_ne.2 (by rw [HNE.out]; omega))
        clear he hcs hne0 hlen2
        rcases key with q1 | ⟨q1, g, off, rfl, kk, e0, q2⟩
        all_goals
          go_wp2_with fail
          refine (HP.out 1 _ elseW w2 HA2.out.z HA2.out.wr (by have := HL2.out; omega)).mono ?_
          rintro e w3 ⟨rfl, hw3, hb3⟩
          have HA3 := Lib.hid (HA2.out.next hne hw3 hb3)
          obtain ⟨-, -, -, -, f11⟩ := has_twelve HA3.out.has
          have HB3 := Lib.hid (HWR.out.below HZ.out HA3.out.st)
          clear hw3 hb3 d11
          go_wp2_with fail
          refine (HIK.out el _ _ w3 (HES.out.stable (fun b hb _ => HB3.out.block b (HFL.out b hb)) HB3.out.size) HFE.out HA3.out.z HA3.out.tab HA3.out.wr (by have := HL2.out; rw [List.length_append]; exact this)).mono ?_
          rintro e w4 ⟨rfl, hw4, hb4⟩
          have HA4 := Lib.hid (HA3.out.next hne hw4 hb4)
          clear hw4 hb4
          go_wp2_with fail
          go_returns
          exact ⟨rfl, by rw [HLF.out, HE.out]; have := HA4.out.wr; rw [List.append_assoc _ [_]] at this; exact this, HA4.out.st⟩
  · exact absurd h2 h
set_option maxHeartbeats 8000000 in
set_option maxRecDepth 20000 in
theorem wtC_succ (n : Nat) (IB : WtB (n + 1)) : WtC (n + 1) := by
  intro c vs F base R l w h hF hFl hz htab hw hlen
  obtain ⟨m, Gx, cx, Gn, cn, Gk, ck, Gt, ct, Gh, ch, Ge, ce, hm, rfl, hX, -⟩ := cmd_open h
  have hk12 := hF.kind
  obtain ⟨hx, hf⟩ := (FormC.iff c).1 hF
  have hif : c.kind = 2 → wC c = W (wd cmdTab 2) :: wBr c := fun e => wC_if e
  have hel : c.kind ≠ 2 → wC c = W (wd cmdTab c.kind) :: ((if c.texts = [] then [] else listT c.texts) ++ [M 59]) := fun e => wC_else e
  have hsub := (wC_subs hF).1
  have IB' := fun l w h hk hz ht hw hl => IB c (cmdC c (.slice Gx c.texts.length cx) (tstC c.test (.slice Gn c.test.names.length cn) (.slice Gk c.test.keys.length ck) (.slice Gt c.test.tests.length ct)) (.slice Gh c.thn.length ch) (.slice Ge c.els.length ce)) F base R l w h hF hk hFl hz ht hw hl
  have hrepA := fun (wr : World) (hs : Same F w wr) (hz : w.heap.size ≤ wr.heap.size) => (cCmd (n + 1)).stable h hs hz
  obtain ⟨k, tx, t, th, el⟩ := c
  simp only [cmdC, tstC, List.cons_append, List.nil_append] at *
  obtain ⟨vs, hvs⟩ : ∃ vs : List Value, vs = [.int .i64 k, .slice Gx tx.length cx, .int .i64 t.kind, .int .i64 t.mat, .int .i64 t.part, .slice Gn t.names.length cn, .slice Gk t.keys.length ck, .bool t.over, .int .i64 t.limit, .slice Gt t.tests.length ct, .slice Gh th.length ch, .slice Ge el.length ce] := ⟨_, rfl⟩
  have hst := wt_start (t := 50) (vs := vs) hz htab hw
  have hA0 : At w (w.alloc (.cells vs.toArray 50)) base R w.heap.size vs l := ⟨hst.2.2.1, hst.2.2.2.1, hst.1, hst.2.2.2.2.1, hst.2.1, hst.2.2.2.2.2.2⟩
  have hne : w.heap.size ≠ R := hw.new.2.1
  have HP := Lib.hid (fun (k : Int) (l : List Tok) (s : Str) (w : World) (hz : base ≤ w.heap.size) (h : Wr w base R l) (hl : l.length ≤ 10000000) => put_str base R l k s w hz h hl)
  have HLI := Lib.hid (fun (l : List Tok) (ns : List Str) (v : Value) (w : World) (hz : base ≤ w.heap.size) (hv : SAt cStr w F v ns) (h : Wr w base R l) (hl : l.length + 2 * ns.length ≤ 9000000) => list_any base R l ns v F w hz hFl hv h hl)
  obtain ⟨LF, hLF⟩ : ∃ LF, LF = l ++ wC ⟨k, tx, t, th, el⟩ := ⟨_, rfl⟩
  rw [← hLF]
  have tt := tab_at hA0.tab.c (k := k) (by omega) (by show k.toNat < 11; omega)
  rw [hvs] at hA0 tt
  obtain ⟨W0, hW0⟩ : ∃ W0, W0 = w.alloc (.cells [Value.int .i64 k, .slice Gx tx.length cx, .int .i64 t.kind, .int .i64 t.mat, .int .i64 t.part, .slice Gn t.names.length cn, .slice Gk t.keys.length ck, .bool t.over, .int .i64 t.limit, .slice Gt t.tests.length ct, .slice Gh th.length ch, .slice Ge el.length ce].toArray 50) := ⟨_, rfl⟩
  rw [← hW0] at hA0 tt
  obtain ⟨H, hHH⟩ : ∃ H, H = w.heap.size := ⟨_, rfl⟩
  rw [← hHH] at hA0 hne
  obtain ⟨t0, -⟩ := has_twelve hA0.has
  have HA0 := Lib.hid hA0; have HLN := Lib.hid hlen; have HXS := Lib.hid hX; have HFL := Lib.hid hFl; have HWR := Lib.hid hw; have HZ := Lib.hid hz
  have HHH := Lib.hid hHH.symm; have HW0 := Lib.hid hW0.symm; have HIF := Lib.hid hif; have HEL := Lib.hid hel; have HLF := Lib.hid hLF; have HX := Lib.hid hx
  have HIB := Lib.hid IB'; have HRA := Lib.hid hrepA; have HSUB := Lib.hid hsub
  have hk1 := hk12.1; have hk2 := hk12.2
  clear IB hst hvs hA0 hlen hX hFl hw hz htab hHH hW0 hif hel hLF h hF hf hm hx IB' hrepA hk12 hsub
  go_enter Tryz.func59, Tryz.ntmps59
  go_upto_region 1 with fail
  rw [show w.alloc (.cells #[Value.int .i64 k, .slice Gx tx.length cx, .int .i64 t.kind, .int .i64 t.mat, .int .i64 t.part, .slice Gn t.names.length cn, .slice Gk t.keys.length ck, .bool t.over, .int .i64 t.limit, .slice Gt t.tests.length ct, .slice Gh th.length ch, .slice Ge el.length ce] 50) = W0 from HW0.out, HHH.out]
  go_wp2_with fail
  refine (HP.out 1 l _ W0 HA0.out.z HA0.out.wr (by have := HLN.out; omega)).mono ?_
  rintro e w1 ⟨rfl, hw1, hb1⟩
  have HA1 := Lib.hid (HA0.out.next hne hw1 hb1)
  obtain ⟨c0, c1, ⟨c2, c3, c4, c5, c6, c7, c8, c9⟩, c10, c11⟩ := has_twelve HA1.out.has
  have HBE := Lib.hid (HWR.out.below HZ.out HA1.out.st)
  clear hw1 hb1 HA0 tt t0
  by_cases h2 : k = 2
  · have hwl := HIF.out h2
    have hlen2 : (l ++ [W (wd cmdTab k)]).length + (wBr ⟨k, tx, t, th, el⟩).length ≤ 4000000 := by have := HLN.out; rw [hwl] at this; simp only [List.length_append, List.length_cons, List.length_nil] at this ⊢; omega
    have HC := Lib.hid (HIB.out _ w1 (HRA.out w1 (fun b hb _ => HBE.out.block b (HFL.out b hb)) HBE.out.size) h2 HA1.out.z HA1.out.tab HA1.out.wr (by exact hlen2))
    have hE : LF = (l ++ [W (wd cmdTab k)]) ++ wBr ⟨k, tx, t, th, el⟩ := by rw [HLF.out, hwl, h2]; simp
    have HE := Lib.hid hE
    have q : ((k : Int) == 2) = true := beq_iff_eq.2 h2
    clear h2 hE hlen2 hwl
    go_wp2_with fail
    refine HC.out.mono ?_
    rintro e w4 ⟨rfl, hw4, hb4⟩
    have HA4 := Lib.hid (HA1.out.next hne hw4 hb4)
    clear hw4 hb4 HC
    go_wp2_with fail
    go_returns
    exact ⟨rfl, by rw [HE.out]; exact HA4.out.wr, HA4.out.st⟩
  · have hwl := HEL.out h2
    have q : ((k : Int) == 2) = false := beq_eq_false_iff_ne.2 h2
    have hlt : (listT tx).length ≤ 4000000 ∨ tx = [] := by
      by_cases e : tx = []
      · exact .inr e
      · left; have := HLN.out; rw [hwl, if_neg e] at this; simp only [List.length_append, List.length_cons] at this; omega
    have hE : LF = (l ++ [W (wd cmdTab k)]) ++ ((if tx = [] then [] else listT tx) ++ [M 59]) := by rw [HLF.out, hwl]; simp
    have hln : (l ++ [W (wd cmdTab k)]).length + (if tx = [] then [] else listT tx : List Tok).length + 1 ≤ 4000000 := by
      have := HLN.out; rw [hwl] at this; simp only [List.length_append, List.length_cons, List.length_nil] at this ⊢; omega
    have HE := Lib.hid hE; have HLN2 := Lib.hid hln
    clear hE hln hlt hwl h2
    by_cases h0 : tx = []
    · subst h0
      have hq0 : ([] : List Str).length = 0 := rfl
      rw [hq0] at c1 ⊢
      clear hq0
      go_wp2_with fail
      refine (HP.out 5 _ [59] w1 HA1.out.z HA1.out.wr (by have := HLN2.out; simp only [List.length_append, List.length_cons, List.length_nil] at this ⊢; omega)).mono ?_
      rintro e w4 ⟨rfl, hw4, hb4⟩
      have HA4 := Lib.hid (HA1.out.next hne hw4 hb4)
      clear hw4 hb4
      go_wp2_with fail
      go_returns
      exact ⟨rfl, by rw [HE.out]; exact HA4.out.wr, HA4.out.st⟩
    · have hp : 0 < tx.length := List.length_pos_iff.2 h0
      rw [if_neg h0] at HE HLN2
      clear h0
      have hll := Lib.hid (listT_len tx)
      go_wp2_with fail
      refine (HLI.out _ tx _ w1 HA1.out.z (HXS.out.stable (fun b hb _ => HBE.out.block b (HFL.out b hb)) HBE.out.size) HA1.out.wr (by have h1 := HLN2.out; have h2 := hll.out; simp only [List.length_append, List.length_cons, List.length_nil] at h1 ⊢; omega)).mono ?_
      rintro e w3 ⟨rfl, hw3, hb3⟩
      have HA3 := Lib.hid (HA1.out.next hne hw3 hb3)
      clear hw3 hb3 c0 c1 c2 c3 c4 c5 c6 c7 c8 c9 c10 c11
      go_wp2_with fail
      refine (HP.out 5 _ [59] w3 HA3.out.z HA3.out.wr (by have := HLN2.out; simp only [List.length_append, List.length_cons, List.length_nil] at this ⊢; omega)).mono ?_
      rintro e w4 ⟨rfl, hw4, hb4⟩
      have HA4 := Lib.hid (HA3.out.next hne hw4 hb4)
      clear hw4 hb4
      go_wp2_with fail
      go_returns
      exact ⟨rfl, by rw [HE.out]; have := HA4.out.wr; rw [List.append_assoc _ (listT tx)] at this; exact this, HA4.out.st⟩
theorem wt_both : ∀ n, WtC n ∧ WtB n
  | 0 => ⟨fun _ _ _ _ _ _ _ h _ _ _ _ _ _ => h.elim, fun _ _ _ _ _ _ _ h _ _ _ _ _ _ _ => h.elim⟩
  | n + 1 =>
    have h := wt_both n
    have hb := wtB_succ n (wtK_of n h.1) h.2
    ⟨wtC_succ n hb, hb⟩
theorem wtC_all (n : Nat) : WtC n := (wt_both n).1
end Go.Proofs.YtpfbkdbblpppdaaGreatDoor.Sc
