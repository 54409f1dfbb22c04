/-
  DERIVED. The writer of tokens: test: the walk.
-/
import Derived.Test.YtpfbkdbblpppdaaGreatDoorScWt
import Derived.Deep.RegionLaw
set_option linter.unusedVariables false
set_option linter.unusedSimpArgs false
namespace Go.Proofs.YtpfbkdbblpppdaaGreatDoor.Sc
open Go.RowKit
open Tk (Tok)

theorem has_oct {w : World} {b : Nat} {a0 a1 a2 a3 a4 a5 a6 a7 : Value} (h : Has w b [a0, a1, a2, a3, a4, a5, a6, a7]) : w.cell? ⟨b, 0, none⟩ = some a0 ∧ w.cell? ⟨b, 1, none⟩ = some a1 ∧ w.cell? ⟨b, 2, none⟩ = some a2 ∧ w.cell? ⟨b, 3, none⟩ = some a3 ∧ w.cell? ⟨b, 4, none⟩ = some a4 ∧ w.cell? ⟨b, 5, none⟩ = some a5 ∧ w.cell? ⟨b, 6, none⟩ = some a6 ∧ w.cell? ⟨b, 7, none⟩ = some a7 :=
  ⟨h.1 0 _ rfl, h.1 1 _ rfl, h.1 2 _ rfl, h.1 3 _ rfl, h.1 4 _ rfl, h.1 5 _ rfl, h.1 6 _ rfl, h.1 7 _ rfl⟩
/-- what holds at a world behind the start -/
structure At (w w1 : World) (base R H : Nat) (vs : List Value) (l : List Tok) : Prop where
  wr : Wr w1 base R l
  st : WStep R w w1
  has : Has w1 H vs
  off : rowB w1 R ≠ some H
  tab : Tabs w1 base
  z : base ≤ w1.heap.size
theorem At.next {w w1 w2 : World} {base R H : Nat} {vs : List Value} {l l' : List Tok} (h : At w w1 base R H vs l) (hne : H ≠ R) (hw : Wr w2 base R l') (hs : WStep R w1 w2) : At w w2 base R H vs l' :=
  ⟨hw, h.st.trans hs, hs.has h.has hne h.off, hs.off h.has.2.2 h.off, h.tab.below (h.wr.below h.z hs), Nat.le_trans h.z hs.size⟩
theorem At.alloc {w w1 : World} {base R H : Nat} {vs : List Value} {l : List Tok} (h : At w w1 base R H vs l) (o : Obj) (hR : R < w1.heap.size) : At w (w1.alloc o) base R H vs l :=
  have hb : Below w1.heap.size w1 (w1.alloc o) := ba (Below.refl _ _) _
  ⟨h.wr.down hb, h.st.trans ((WStep.refl R w1).down hR hb), h.has.down hb, by rw [rowB_of (hb.block R hR)]; exact h.off, h.tab.down h.z hb, Nat.le_trans h.z hb.size⟩
theorem At.R_lt {w w1 : World} {base R H : Nat} {vs : List Value} {l : List Tok} (h : At w w1 base R H vs l) : R < w1.heap.size := h.wr.new.1
theorem At.read {w w1 : World} {base R H : Nat} {vs : List Value} {l l0 : List Tok} (h : At w w1 base R H vs l) (h0 : Wr w base R l0) (hz : base ≤ w.heap.size) : Below base w w1 := h0.below hz h.st
theorem wr_put2 {w w1 w6 : World} {base R g cap n : Nat} {l : List Tok} {t : Tok} {v : Value} {vs : List Value} (hb1 : Below w.heap.size w w1) (hz : base ≤ w.heap.size) (h1 : Has w R [v]) (hR : base ≤ R) (hr : w.ownsRow base 151 3 v n (tcells l)) (h2 : v.ownBlock ≠ some R) (hn : n = l.length)
    (hc : tcells (l ++ [t]) = tcells l ++ vs) (hown : w6.ownsRow base 151 3 (.slice (some ⟨g, 0, none⟩) (n + 1) cap) (n + 1) (tcells l ++ vs)) (hgrow : w1.grownBy w6 v.ownBlock) (hat : v.ownBlock = some g ∨ g = w.heap.size + 1) :
    Has w6 R [v] ∧ Wr (w6.setCell ⟨R, 0, none⟩ (.slice (some ⟨g, 0, none⟩) (n + 1) cap)) base R (l ++ [t]) ∧ WStep R w (w6.setCell ⟨R, 0, none⟩ (.slice (some ⟨g, 0, none⟩) (n + 1) cap)) := by
  subst hn
  exact wr_put hb1 hz h1 hR hr h2 (by rw [hc]; exact hown) hgrow (by rcases hat with h | h; exact .inl h; exact .inr (by omega))
set_option maxHeartbeats 8000000 in
set_option maxRecDepth 20000 in
theorem wtT_succ (n : Nat) (IH : WtT n) : WtT (n + 1) := by
  intro t vs F base R l w h hF hFl hz htab hw hlen
  obtain ⟨m, Gn, cn, Gk, ck, Gt, ct, hm, rfl, hN, hK, hT⟩ := tst_open h
  obtain rfl : n = m := by omega
  have h1 := hF.one
  have hk12 := h1.kind
  have hFa := hF.all
  obtain ⟨hs1, hs2, hs3, hs4⟩ := wT_subs hF
  have hwt := wT_eq t
  obtain ⟨k, mt, p, ns, ks, o, lm, ts⟩ := t
  simp only [tstC] at *
  obtain ⟨W0, hW0⟩ : ∃ W0, W0 = w.alloc (.cells #[.int .i64 k, .int .i64 mt, .int .i64 p, .slice Gn ns.length cn, .slice Gk ks.length ck, .bool o, .int .i64 lm, .slice Gt ts.length ct] 40) := ⟨_, rfl⟩
  have hst := wt_start (t := 40) (vs := [.int .i64 k, .int .i64 mt, .int .i64 p, .slice Gn ns.length cn, .slice Gk ks.length ck, .bool o, .int .i64 lm, .slice Gt ts.length ct]) hz htab hw
  rw [show w.alloc (.cells [Value.int .i64 k, .int .i64 mt, .int .i64 p, .slice Gn ns.length cn, .slice Gk ks.length ck, .bool o, .int .i64 lm, .slice Gt ts.length ct].toArray 40) = W0 from hW0.symm] at hst
  have hA0 : At w W0 base R w.heap.size [.int .i64 k, .int .i64 mt, .int .i64 p, .slice Gn ns.length cn, .slice Gk ks.length ck, .bool o, .int .i64 lm, .slice Gt ts.length ct] l := ⟨hst.2.2.1, hst.2.2.2.1, hst.1, hst.2.2.2.2.1, hst.2.1, hst.2.2.2.2.2.2⟩
  obtain ⟨H, hH⟩ : ∃ H, H = w.heap.size := ⟨_, rfl⟩
  rw [← hH] at hA0
  have hne : H ≠ R := by rw [hH]; exact hw.new.2.1
  obtain ⟨t0, -⟩ := has_oct hA0.has
  have tt := tab_at hA0.tab.t (k := k) (by omega) (by show k.toNat < 11; omega)
  have HP := Lib.hid (fun (k : Int) (l : List Tok) (s : Str) (w : World) (hz : base ≤ w.heap.size) (h : Wr w base R l) (hl : l.length ≤ 10000000) => put_str base R l k s w hz h hl)
  have HLI := Lib.hid (fun (l : List Tok) (ns : List Str) (v : Value) (w : World) (hz : base ≤ w.heap.size) (hv : SAt cStr w F v ns) (h : Wr w base R l) (hl : l.length + 2 * ns.length ≤ 9000000) => list_any base R l ns v F w hz hFl hv h hl)
  have HI := Lib.hid IH; have HFA := Lib.hid hFa; have HFL := Lib.hid hFl; have HTS := Lib.hid hT; have HNS := Lib.hid hN; have HKS := Lib.hid hK
  have HH := Lib.hid hH.symm; have HW0 := Lib.hid hW0.symm; have H1 := Lib.hid h1; have HWT := Lib.hid hwt
  have HA0 := Lib.hid hA0; have HZ := Lib.hid hz; have HLN := Lib.hid hlen; have HWR := Lib.hid hw
  have HS4 := Lib.hid hs4; have HTAB := Lib.hid htab
  have hk1 := hk12.1; have hk2 := hk12.2
  obtain ⟨LF, hLF⟩ : ∃ LF, LF = l ++ wT ⟨k, mt, p, ns, ks, o, lm, ts⟩ := ⟨_, rfl⟩
  rw [← hLF]
  have HLF := Lib.hid hLF
  clear hLF h hF hFa hFl hz htab hw hlen hm hN hK hT h1 hwt hst hA0 hH hW0 IH hk12 hs4
  go_enter Tryz.func140, Tryz.ntmps140
  go_upto_region 1 with fail
  rw [HW0.out, HH.out]
  go_wp2_with fail
  refine (HP.out 1 l _ W0 HA0.out.z HA0.out.wr (by have := HLN.out; omega)).mono ?_
  rintro e w1 ⟨rfl, hw1, hb1⟩
  have hA1 := HA0.out.next hne hw1 hb1
  have HA1 := Lib.hid hA1
  obtain ⟨t0, t1, t2, t3, t4, t5, t6, t7⟩ := has_oct hA1.has
  clear hw1 hb1 hA1 HA0 tt HW0
  have hlen := HLN.out
  have hbt : (wT ⟨k, mt, p, ns, ks, o, lm, ts⟩).length = (bodyT k mt p ns ks o lm (ts.map wT)).length + 1 := by rw [HWT.out]; rfl
  rw [hbt] at hlen
  have HLE : Hid (l ++ wT ⟨k, mt, p, ns, ks, o, lm, ts⟩ = (l ++ [(⟨1, wd tstTab k, 0⟩ : Tok)]) ++ bodyT k mt p ns ks o lm (ts.map wT)) := by unfold Hid; rw [HWT.out]; simp [W]
  obtain ⟨L, hL⟩ : ∃ L, L = l ++ [(⟨1, wd tstTab k, 0⟩ : Tok)] := ⟨_, rfl⟩
  have hLl : L.length + (bodyT k mt p ns ks o lm (ts.map wT)).length ≤ 4000000 := by rw [hL, List.length_append]; show l.length + 1 + _ ≤ _; omega
  rw [← hL] at HA1 HLE; rw [← HLF.out] at HLE
  have HLL := Lib.hid hLl
  clear hlen hbt hL hLl HLN HWT
  rcases H1.out with ⟨hk | hk, e1, e2, e3, e4, e5, e6, e8⟩ | ⟨hk, e1, e2, e3, e4, e5, e6, e8⟩ | ⟨hk, e1, e2, e3, e4, e5, e6, e8⟩ | ⟨hk, ⟨hm1, hm3⟩, e2, e3, e4, e5, e6, e8⟩ | ⟨hk, ⟨hm1, hm3⟩, ⟨hp1, hp3⟩, e3, e4, e5, e6, e8⟩ | ⟨hk, e1, e2, e3, e4, e5, e6, e8⟩ | ⟨hk, e1, e2, e3, e4, ⟨hl1, hl3⟩, e8⟩
  · -- true
    subst hk
    have HE : Hid (LF = L) := by unfold Hid; rw [HLE.out]; show L ++ [] = L; rw [List.append_nil]
    clear e1 e2 e3 e4 e5 e6 e8 H1
    go_wp2_with fail
    go_returns
    exact ⟨rfl, by rw [HE.out]; exact HA1.out.wr, HA1.out.st⟩
  · -- false
    subst hk
    have HE : Hid (LF = L) := by unfold Hid; rw [HLE.out]; show L ++ [] = L; rw [List.append_nil]
    clear e1 e2 e3 e4 e5 e6 e8 H1
    go_wp2_with fail
    go_returns
    exact ⟨rfl, by rw [HE.out]; exact HA1.out.wr, HA1.out.st⟩
  · -- not
    subst hk
    obtain ⟨s, hs⟩ := List.length_eq_one_iff.1 e8
    subst hs
    have HE : Hid (LF = L ++ wT s) := by
      unfold Hid; rw [HLE.out]
      have : bodyT 3 mt p ns ks o lm ([s].map wT) = wT s := by simp [bodyT]
      rw [this]
    have hbel := HA1.out.read HWR.out HZ.out
    obtain ⟨g, off, Ga, ca, Gb, cb, Gc, cc, rfl, hrep, c0, c1, c2, c3, c4, c5, c6, c7⟩ := tst_get HTS.out (fun b hb _ => hbel.block b (HFL.out b hb)) hbel.size 0 (by simp)
    simp only [List.getElem_cons_zero, Nat.zero_mul, Nat.add_zero] at hrep c0 c1 c2 c3 c4 c5 c6 c7
    have hbl : (bodyT 3 mt p ns ks o lm ([s].map wT)).length = (wT s).length := by
      have : bodyT 3 mt p ns ks o lm ([s].map wT) = wT s := by simp [bodyT]
      rw [this]
    have hlen := HLL.out
    rw [hbl] at hlen
    have HC := Lib.hid (HI.out s _ F base R L w1 hrep (HFA.out s (List.mem_singleton_self _)) HFL.out HA1.out.z HA1.out.tab HA1.out.wr hlen)
    have hq : ([s] : List Tst).length = 1 := rfl
    rw [hq] at t7 ⊢
    clear e1 e2 e3 e4 e5 e6 e8 H1 hbel hrep hbl hlen hq
    go_wp2_with fail
    refine HC.out.mono ?_
    rintro e w2 ⟨rfl, hw2, hb2⟩
    have HW2 := Lib.hid hw2; have HB2 := Lib.hid (HA1.out.st.trans hb2)
    clear hw2 hb2 HC
    go_wp2_with fail
    go_returns
    exact ⟨rfl, by rw [HE.out]; exact HW2.out, HB2.out⟩
  · -- allof, anyof
    have hkk : k = 4 ∨ k = 5 := hk
    have hbody : bodyT k mt p ns ks o lm (ts.map wT) = seqT (ts.map wT) ++ [M 41] := by unfold bodyT; rw [if_neg (by omega), if_pos hkk]
    have HE : Hid (LF = (L ++ seqI 0 ((ts.take ts.length).map wT)) ++ [M 41]) := by
      unfold Hid; rw [HLE.out, hbody, List.take_length, seqT_items]; simp
    have hlen : L.length + (seqT (ts.map wT)).length + 1 ≤ 4000000 := by
      have h1 := HLL.out
      rw [hbody, List.length_append] at h1
      exact h1
    have HLEN := Lib.hid hlen
    obtain ⟨nt, hnt⟩ : ∃ nt, nt = ts.length := ⟨_, rfl⟩
    rw [← hnt] at t7 HA1 HTS ⊢
    have HNT := Lib.hid hnt
    have hts : ts.length ≤ 4000000 := by
      have := seqT_len (ts.map wT) (fun x hx => by obtain ⟨s, -, rfl⟩ := List.mem_map.1 hx; exact wT_pos' s)
      rw [List.length_map] at this; omega
    clear e1 e2 e3 e4 e5 e6 e8 H1 hlen hkk hbody hnt
    rcases hk with hk | hk
    all_goals
      subst hk
      go_wp2_with fail
      go_loopw [28] (fun v wr => ∃ j : Nat, v = .int .i64 j ∧ j ≤ ts.length ∧ At w wr base R H _ (L ++ seqI 0 ((ts.take j).map wT))) (fun v _ => ts.length - (intOf v).toNat)
      case atStart => exact ⟨0, rfl, Nat.zero_le _, by rw [List.take_zero]; show At w w1 base R H _ (L ++ []); rw [List.append_nil]; exact HA1.out⟩
      case round =>
        obtain ⟨j, rfl, hj, hA⟩ := hrel
        have HA := Lib.hid hA
        by_cases hlt : j < ts.length
        · have hbel := HA.out.read HWR.out HZ.out
          obtain ⟨g, off, Ga, ca, Gb, cb, Gc, cc, rfl, hrep, c0, c1, c2, c3, c4, c5, c6, c7⟩ := tst_get HTS.out (fun b hb _ => hbel.block b (HFL.out b hb)) hbel.size j hlt
          have hst := seq_step ts j hlt
          have hsl := seq_len ts (j + 1)
          obtain ⟨s, hs⟩ : ∃ s, s = ts[j] := ⟨_, rfl⟩
          have hFs : FormT s := by rw [hs]; exact HFA.out _ (List.getElem_mem hlt)
          rw [← hs] at hrep c0 c1 c2 c3 c4 c5 c6 c7 hst
          have hsl2 : (L ++ seqI 0 ((ts.take j).map wT)).length + 1 + (wT s).length ≤ 4000000 := by
            have := HLEN.out; rw [hst] at hsl; simp only [List.length_append, List.length_singleton] at hsl ⊢; omega
          obtain ⟨L1, hL1⟩ : ∃ L1, L1 = L ++ seqI 0 ((ts.take j).map wT) := ⟨_, rfl⟩
          have hL2 : L ++ seqI 0 ((ts.take (j + 1)).map wT) = (L1 ++ [M (if j = 0 then 40 else 44)]) ++ wT s := by rw [hst, hL1]; simp
          rw [← hL1] at HA hsl2
          have hB := wt_start (t := 40) (vs := tstC s (.slice Ga s.names.length ca) (.slice Gb s.keys.length cb) (.slice Gc s.tests.length cc)) HA.out.z HA.out.tab HA.out.wr
          have hA1 : At wr (wr.alloc (.cells #[.int .i64 s.kind, .int .i64 s.mat, .int .i64 s.part, .slice Ga s.names.length ca, .slice Gb s.keys.length cb, .bool s.over, .int .i64 s.limit, .slice Gc s.tests.length cc] 40)) base R wr.heap.size [.int .i64 s.kind, .int .i64 s.mat, .int .i64 s.part, .slice Ga s.names.length ca, .slice Gb s.keys.length cb, .bool s.over, .int .i64 s.limit, .slice Gc s.tests.length cc] L1 := ⟨hB.2.2.1, hB.2.2.2.1, hB.1, hB.2.2.2.2.1, hB.2.1, hB.2.2.2.2.2.2⟩
          have HNB := Lib.hid hB.2.2.2.2.2.1
          have HB := Lib.hid (hA1.alloc (.cells #[.string ⟨#[44]⟩, .string ⟨#[40]⟩] 9) hA1.R_lt)
          have HREP := Lib.hid hrep; have HFS := Lib.hid hFs; have HSL := Lib.hid hsl2; have HL2 := Lib.hid hL2; have HLT := Lib.hid hlt
          have hjn : (j : Int) < nt := by rw [HNT.out]; omega
          clear hbel hrep hst hsl hs hFs hsl2 hL1 hL2 hB hA1 hA hj
          by_cases hj0 : j = 0
          · have HQ := Lib.hid (fun (w : World) => flag_any true w)
            have hjq : ((j : Int) == 0) = true := beq_iff_eq.2 (by omega)
            rw [if_pos hj0] at HL2
            clear hj0
            go_wp2_with fail
            refine (HQ.out _).mono ?_
            rintro e w5 ⟨rfl, rfl⟩
            go_wp2_with fail
            refine (HP.out 5 L1 [40] _ HB.out.z HB.out.wr (by have := HSL.out; omega)).mono ?_
            rintro e w6 ⟨rfl, hw6, hb6⟩
            have HB6 := Lib.hid (HB.out.next HNB.out hw6 hb6)
            obtain ⟨b0, b1, b2, b3, b4, b5, b6, b7⟩ := has_oct HB6.out.has
            clear hw6 hb6 HQ c0 c1 c2 c3 c4 c5 c6 c7
            go_wp2_with fail
            refine (HI.out s _ F base R _ w6 ((cTst n).stable HREP.out (fun b hb _ => (HA.out.wr.below HA.out.z HB6.out.st).block b (HFL.out b hb)) HB6.out.st.size) HFS.out HFL.out HB6.out.z HB6.out.tab HB6.out.wr (by have := HSL.out; rw [List.length_append]; exact this)).mono ?_
            rintro e w7 ⟨rfl, hw7, hb7⟩
            have HA7 := Lib.hid (HA.out.next hne hw7 (HB6.out.st.trans hb7))
            clear hw7 hb7 b0 b1 b2 b3 b4 b5 b6 b7 HB6
            go_wp2_with fail
            go_roundw
            case rel => exact ⟨j + 1, by go_num, HLT.out, by rw [HL2.out]; exact HA7.out⟩
            case measure => have := HLT.out; simp [intOf]; omega
          · have HQ := Lib.hid (fun (w : World) => flag_any false w)
            have hjq : ((j : Int) == 0) = false := beq_eq_false_iff_ne.2 (by omega)
            rw [if_neg hj0] at HL2
            clear hj0
            go_wp2_with fail
            refine (HQ.out _).mono ?_
            rintro e w5 ⟨rfl, rfl⟩
            go_wp2_with fail
            refine (HP.out 5 L1 [44] _ HB.out.z HB.out.wr (by have := HSL.out; omega)).mono ?_
            rintro e w6 ⟨rfl, hw6, hb6⟩
            have HB6 := Lib.hid (HB.out.next HNB.out hw6 hb6)
            obtain ⟨b0, b1, b2, b3, b4, b5, b6, b7⟩ := has_oct HB6.out.has
            clear hw6 hb6 HQ c0 c1 c2 c3 c4 c5 c6 c7
            go_wp2_with fail
            refine (HI.out s _ F base R _ w6 ((cTst n).stable HREP.out (fun b hb _ => (HA.out.wr.below HA.out.z HB6.out.st).block b (HFL.out b hb)) HB6.out.st.size) HFS.out HFL.out HB6.out.z HB6.out.tab HB6.out.wr (by have := HSL.out; rw [List.length_append]; exact this)).mono ?_
            rintro e w7 ⟨rfl, hw7, hb7⟩
            have HA7 := Lib.hid (HA.out.next hne hw7 (HB6.out.st.trans hb7))
            clear hw7 hb7 b0 b1 b2 b3 b4 b5 b6 b7 HB6
            go_wp2_with fail
            go_roundw
            case rel => exact ⟨j + 1, by go_num, HLT.out, by rw [HL2.out]; exact HA7.out⟩
            case measure => have := HLT.out; simp [intOf]; omega
        · obtain rfl : j = ts.length := by omega
          have hjn : (ts.length : Int) = nt := by rw [HNT.out]
          have hl9 : (L ++ seqI 0 ((ts.take ts.length).map wT)).length ≤ 4000000 := by have := seq_len ts ts.length; have := HLEN.out; rw [List.length_append]; omega
          clear hA
          go_wp2_with fail
          refine (HP.out 5 _ [41] _ HA.out.z HA.out.wr (by omega)).mono ?_
          rintro e w6 ⟨rfl, hw6, hb6⟩
          have HW6 := Lib.hid hw6; have HB6 := Lib.hid (HA.out.st.trans hb6)
          clear hw6 hb6
          go_wp2_with fail
          go_returns
          exact ⟨rfl, by rw [HE.out]; exact HW6.out, HB6.out⟩
  · -- header
    subst hk
    have HE : Hid (LF = ((L ++ [G (wd matTab mt)]) ++ listT ns) ++ listT ks) := by unfold Hid; rw [HLE.out]; show L ++ G (wd matTab mt) :: (listT ns ++ listT ks) = _; simp
    have hlen : L.length + 1 + (listT ns).length + (listT ks).length ≤ 4000000 ∧ ns.length ≤ (listT ns).length ∧ ks.length ≤ (listT ks).length := by
      have h1 := HLL.out
      have h2 : (bodyT 6 mt p ns ks o lm (ts.map wT)).length = (listT ns ++ listT ks).length + 1 := rfl
      rw [h2, List.length_append] at h1
      exact ⟨by omega, listT_len ns, listT_len ks⟩
    have HLEN := Lib.hid hlen
    have tm := tab_at HA1.out.tab.m (k := mt) (by omega) (by show mt.toNat < 4; omega)
    clear e2 e3 e4 e5 e6 e8 H1 hlen
    go_wp2_with fail
    refine (HP.out 2 L _ w1 HA1.out.z HA1.out.wr (by have := HLEN.out; omega)).mono ?_
    rintro e w2 ⟨rfl, hw2, hb2⟩
    have HA2 := Lib.hid (HA1.out.next hne hw2 hb2)
    obtain ⟨u0, u1, u2, u3, u4, u5, u6, u7⟩ := has_oct HA2.out.has
    clear hw2 hb2 t0 t1 t2 t3 t4 t5 t6 t7 tm
    go_wp2_with fail
    refine (HLI.out _ ns _ w2 HA2.out.z (HNS.out.stable (fun b hb _ => (HA2.out.read HWR.out HZ.out).block b (HFL.out b hb)) (HA2.out.read HWR.out HZ.out).size) HA2.out.wr (by have := HLEN.out; simp; omega)).mono ?_
    rintro e w3 ⟨rfl, hw3, hb3⟩
    have HA3 := Lib.hid (HA2.out.next hne hw3 hb3)
    obtain ⟨v0, v1, v2, v3, v4, v5, v6, v7⟩ := has_oct HA3.out.has
    clear hw3 hb3 u0 u1 u2 u3 u4 u5 u6 u7
    go_wp2_with fail
    refine (HLI.out _ ks _ w3 HA3.out.z (HKS.out.stable (fun b hb _ => (HA3.out.read HWR.out HZ.out).block b (HFL.out b hb)) (HA3.out.read HWR.out HZ.out).size) HA3.out.wr (by have := HLEN.out; simp; omega)).mono ?_
    rintro e w4 ⟨rfl, hw4, hb4⟩
    have HA4 := Lib.hid (HA3.out.next hne hw4 hb4)
    clear hw4 hb4 v0 v1 v2 v3 v4 v5 v6 v7
    go_wp2_with fail
    go_returns
    exact ⟨rfl, by rw [HE.out]; exact HA4.out.wr, HA4.out.st⟩
  · -- address, envelope
    have hkk : k = 7 ∨ k = 8 := hk
    have HE : Hid (LF = (((L ++ [G (wd parTab p)]) ++ [G (wd matTab mt)]) ++ listT ns) ++ listT ks) := by
      unfold Hid; rw [HLE.out]
      have : bodyT k mt p ns ks o lm (ts.map wT) = G (wd parTab p) :: G (wd matTab mt) :: (listT ns ++ listT ks) := by unfold bodyT; rw [if_neg (by omega), if_neg (by omega), if_neg (by omega), if_pos hkk]
      rw [this]; simp
    have hlen : L.length + 2 + (listT ns).length + (listT ks).length ≤ 4000000 ∧ ns.length ≤ (listT ns).length ∧ ks.length ≤ (listT ks).length := by
      have h1 := HLL.out
      have : bodyT k mt p ns ks o lm (ts.map wT) = G (wd parTab p) :: G (wd matTab mt) :: (listT ns ++ listT ks) := by unfold bodyT; rw [if_neg (by omega), if_neg (by omega), if_neg (by omega), if_pos hkk]
      have h2 : (bodyT k mt p ns ks o lm (ts.map wT)).length = (listT ns ++ listT ks).length + 2 := by rw [this]; rfl
      rw [h2, List.length_append] at h1
      exact ⟨by omega, listT_len ns, listT_len ks⟩
    have HLEN := Lib.hid hlen
    have tm := tab_at HA1.out.tab.m (k := mt) (by omega) (by show mt.toNat < 4; omega)
    have tp := tab_at HA1.out.tab.p (k := p) (by omega) (by show p.toNat < 4; omega)
    clear e3 e4 e5 e6 e8 H1 hlen hkk
    rcases hk with hk | hk
    all_goals
      subst hk
      go_wp2_with fail
      refine (HP.out 2 L _ w1 HA1.out.z HA1.out.wr (by have := HLEN.out; omega)).mono ?_
      rintro e w2 ⟨rfl, hw2, hb2⟩
      have HA2 := Lib.hid (HA1.out.next hne hw2 hb2)
      obtain ⟨u0, u1, u2, u3, u4, u5, u6, u7⟩ := has_oct HA2.out.has
      have tn := tab_at HA2.out.tab.m (k := mt) (by omega) (by show mt.toNat < 4; omega)
      clear hw2 hb2 t0 t1 t2 t3 t4 t5 t6 t7 tm tp
      go_wp2_with fail
      refine (HP.out 2 _ _ w2 HA2.out.z HA2.out.wr (by have := HLEN.out; simp; omega)).mono ?_
      rintro e w5 ⟨rfl, hw5, hb5⟩
      have HA5 := Lib.hid (HA2.out.next hne hw5 hb5)
      obtain ⟨t0, t1, t2, t3, t4, t5, t6, t7⟩ := has_oct HA5.out.has
      clear hw5 hb5 u0 u1 u2 u3 u4 u5 u6 u7 tn
      go_wp2_with fail
      refine (HLI.out _ ns _ w5 HA5.out.z (HNS.out.stable (fun b hb _ => (HA5.out.read HWR.out HZ.out).block b (HFL.out b hb)) (HA5.out.read HWR.out HZ.out).size) HA5.out.wr (by have := HLEN.out; simp; omega)).mono ?_
      rintro e w3 ⟨rfl, hw3, hb3⟩
      have HA3 := Lib.hid (HA5.out.next hne hw3 hb3)
      obtain ⟨v0, v1, v2, v3, v4, v5, v6, v7⟩ := has_oct HA3.out.has
      clear hw3 hb3 t0 t1 t2 t3 t4 t5 t6 t7
      go_wp2_with fail
      refine (HLI.out _ ks _ w3 HA3.out.z (HKS.out.stable (fun b hb _ => (HA3.out.read HWR.out HZ.out).block b (HFL.out b hb)) (HA3.out.read HWR.out HZ.out).size) HA3.out.wr (by have := HLEN.out; simp; omega)).mono ?_
      rintro e w4 ⟨rfl, hw4, hb4⟩
      have HA4 := Lib.hid (HA3.out.next hne hw4 hb4)
      clear hw4 hb4 v0 v1 v2 v3 v4 v5 v6 v7
      go_wp2_with fail
      go_returns
      exact ⟨rfl, by rw [HE.out]; exact HA4.out.wr, HA4.out.st⟩
  · -- exists
    subst hk
    have HE : Hid (LF = L ++ listT ns) := HLE.out
    have hlen : L.length + (listT ns).length ≤ 4000000 ∧ ns.length ≤ (listT ns).length := ⟨HLL.out, listT_len ns⟩
    have HLEN := Lib.hid hlen
    clear e1 e2 e3 e4 e5 e6 e8 H1 hlen
    go_wp2_with fail
    refine (HLI.out _ ns _ w1 HA1.out.z (HNS.out.stable (fun b hb _ => (HA1.out.read HWR.out HZ.out).block b (HFL.out b hb)) (HA1.out.read HWR.out HZ.out).size) HA1.out.wr (by have := HLEN.out; omega)).mono ?_
    rintro e w3 ⟨rfl, hw3, hb3⟩
    have HA3 := Lib.hid (HA1.out.next hne hw3 hb3)
    clear hw3 hb3 t0 t1 t2 t3 t4 t5 t6 t7
    go_wp2_with fail
    go_returns
    exact ⟨rfl, by rw [HE.out]; exact HA3.out.wr, HA3.out.st⟩
  · -- size
    subst hk
    have HE : Hid (LF = (L ++ [G (if o = true then overW else underW)]) ++ [N lm]) := by unfold Hid; rw [HLE.out]; show L ++ [G _, N lm] = _; simp
    have hlen : L.length + 2 ≤ 4000000 := HLL.out
    have HLEN := Lib.hid hlen
    have HQ := Lib.hid (fun (w : World) => flag_any o w)
    have hRl := HA1.out.R_lt
    have t5a := fun oo => moved (t5) (ba (Below.refl w1.heap.size w1) (.cells #[.string ⟨#[117, 110, 100, 101, 114]⟩, .string ⟨#[111, 118, 101, 114]⟩] oo)) (Nat.le_refl _)
    have t5b := t5a 9
    clear t5a
    obtain ⟨L3, hL3⟩ : ∃ L3, L3 = L ++ [G (if o = true then overW else underW)] := ⟨_, rfl⟩
    rw [← hL3] at HE
    have HL3 := Lib.hid hL3
    clear e1 e2 e3 e4 e8 H1 hlen hL3
    cases o
    all_goals
      go_wp2_with fail
      refine (HQ.out _).mono ?_
      rintro e w2 ⟨rfl, rfl⟩
      go_wp2_with fail
      refine (HP.out 2 L _ _ (HA1.out.alloc _ hRl).z (HA1.out.alloc _ hRl).wr (by have := HLEN.out; omega)).mono ?_
      rintro e w3 ⟨rfl, hw3, hb3⟩
      have hA3 := (HA1.out.alloc (.cells #[.string ⟨#[117, 110, 100, 101, 114]⟩, .string ⟨#[111, 118, 101, 114]⟩] 9) hRl).next (l' := L3) hne (by rw [HL3.out]; exact hw3) hb3
      have HA3 := Lib.hid hA3
      clear hA3
      obtain ⟨-, -, -, -, -, -, v6, -⟩ := has_oct HA3.out.has
      clear hw3 hb3 t0 t1 t2 t3 t4 t5 t6 t7
      obtain ⟨v, g1, hR, hrow, g2⟩ := HA3.out.wr
      obtain ⟨Gv, cv, rfl⟩ := row_slice hrow
      obtain ⟨i0, hi, hz0, hz1, hz2⟩ := info_three info_tok
      have hb1 : Below w3.heap.size w3 (w3.drew.alloc (.cells #[.int .i64 3, .string ⟨#[]⟩, .int .i64 lm] 151)) := ba (Below.drew (Below.refl _ _)) _
      have HC : Hid (tcells (L3 ++ [N lm]) = tcells L3 ++ [.int .i64 3, .string ⟨#[]⟩, .int .i64 lm]) := tcells_snoc _ _
      have HI0 := Lib.hid hi; have HZ0 := Lib.hid hz0; have HZ1 := Lib.hid hz1; have HZ2 := Lib.hid hz2
      obtain ⟨c0, f0, hR3⟩ := has_one g1
      have d0 := moved c0 hb1 (Nat.le_refl _)
      have d6 := moved v6 hb1 (Nat.le_refl _)
      have e6 := moved v6 (ba (Below.refl w3.heap.size w3) (.cells #[.int .i64 3, .string ⟨#[]⟩, .int .i64 lm] 151)) (Nat.le_refl _)
      have e0 := moved c0 (ba (Below.refl w3.heap.size w3) (.cells #[.int .i64 3, .string ⟨#[]⟩, .int .i64 lm] 151)) (Nat.le_refl _)
      have HRW := Lib.hid (row_down hrow hb1)
      obtain ⟨n3, hn3⟩ : ∃ n3, n3 = L3.length := ⟨_, rfl⟩
      rw [← hn3] at g1 hrow HRW c0 d0 e0 g2
      have HN3 := Lib.hid hn3
      have HG1 := Lib.hid g1; have HROW := Lib.hid hrow; have HB1 := Lib.hid hb1; have HG2 := Lib.hid g2
      have hz3 : base ≤ w3.heap.size := HA3.out.z
      have hn3' : n3 ≤ 4000000 := by have := HLEN.out; rw [hn3, HL3.out]; simp; omega
      clear hi hz0 hz1 hz2 hb1 hn3 g1 hrow g2
      go_wp2_with fail
      go_region_law (first
        | (refine step_append_lies _ (by rfl) _ _ _ (by rfl) base 151 i0 _ 3 32 Tryz.underlying90 HI0.out HZ0.out HZ1.out HZ2.out rfl (by omega) (.slice Gv n3 cv) n3 (tcells L3) (by rfl) HRW.out
            ⟨w3.heap.size, 0, none⟩ 1 1 [.int .i64 3, .string ⟨#[]⟩, .int .i64 lm] (by rfl) (by rfl) (World.news_of_block (cs := #[.int .i64 3, .string ⟨#[]⟩, .int .i64 lm]) (t := 151) (fr := (0, 0)) (heap_alloc_new w3 _)) (by simp [Value.oneCell'])
            (by omega) (by unfold maxLen; omega) (by omega) (by simp; omega) (w3.heap.size + 1) (by simp) ?_
           intro g5 cap5 w5 hown5 hgrow5 hat5 hlt5
           have hkey := wr_put2 HB1.out hz3 HG1.out hR HROW.out HG2.out HN3.out HC.out hown5 hgrow5 hat5
           have HKEY := Lib.hid hkey.2
           obtain ⟨y0, z0, -⟩ := has_one hkey.1
           clear hkey))
      all_goals
        go_wp2_with fail
        go_returns
        exact ⟨rfl, by rw [HE.out]; exact HKEY.out.1, HA3.out.st.trans HKEY.out.2⟩
theorem wtT_all : ∀ n, WtT n
  | 0 => fun _ _ _ _ _ _ _ h _ _ _ _ _ _ => h.elim
  | n + 1 => wtT_succ n (wtT_all n)
end Go.Proofs.YtpfbkdbblpppdaaGreatDoor.Sc
