/- On the way. -/
import Derived.Test.YtmkppkjikifdlaaGreatDoorTScPut
import Derived.Test.YtmkppkjikifdlaaGreatDoorTScC
import Derived.Deep.RegionHeld3
import Derived.BigRegion
import Derived.Deep.DeepCutAuto
import Derived.Deep.CutBlock
import Derived.Deep.RegionLaw
set_option linter.unusedVariables false
set_option linter.unusedSimpArgs false
set_option maxHeartbeats 8000000
set_option maxRecDepth 20000
namespace Go.Proofs.YtmkppkjikifdlaaGreatDoor.Sc
open Go.RowKit
open Tk (Tok)
def TabAt (w : World) (g : Nat) (tab : List Str) : Prop := ∀ j s, tab[j]? = some s → w.cell? ⟨g, j, none⟩ = some (.string ⟨s.toArray⟩)
theorem TabAt.below {B : Nat} {w w' : World} {g : Nat} {tab : List Str} (h : TabAt w g tab) (hb : Below B w w') (hg : g < B) : TabAt w' g tab := fun j s hj => (hb.cell (p := ⟨g, j, none⟩) hg).trans (h j s hj)
structure Tabs (w : World) (B : Nat) : Prop where
 t : TabAt w 3 tstTab
 c : TabAt w 1 cmdTab
 m : TabAt w 5 matTab
 p : TabAt w 6 parTab
 low : 3 < B ∧ 1 < B ∧ 5 < B ∧ 6 < B
theorem Tabs.below {B : Nat} {w w' : World} (h : Tabs w B) (hb : Below B w w') : Tabs w' B := ⟨h.t.below hb h.low.1, h.c.below hb h.low.2.1, h.m.below hb h.low.2.2.1, h.p.below hb h.low.2.2.2, h.low⟩
theorem Tabs.up {B B' : Nat} {w : World} (h : Tabs w B) (hB : B ≤ B') : Tabs w B' := ⟨h.t, h.c, h.m, h.p, by have := h.low; omega⟩
theorem tab_at {w : World} {g : Nat} {tab : List Str} (h : TabAt w g tab) {k : Int} (_h0 : 0 ≤ k) (hk : k.toNat < tab.length) : w.cell? ⟨g, k.toNat, none⟩ = some (.string ⟨(wd tab k).toArray⟩) := h k.toNat _ (by unfold wd; rw [List.getD, List.getElem?_eq_getElem hk]; rfl)
theorem Tabs.down {B : Nat} {w w' : World} (h : Tabs w B) (hB : B ≤ w.heap.size) (hb : Below w.heap.size w w') : Tabs w' B := h.below (hb.mono hB)
def WtT (n : Nat) : Prop := ∀ (t : Tst) (vs : List Value) (F : Dom) (base R : Nat) (l : List Tok) (w : World), (cTst n).rep w F t vs → FormT t → (∀ b, F b → b < base) → base ≤ w.heap.size → Tabs w base → Wr w base R l → l.length + (wT t).length ≤ 4000000 →
    Calls Tryz.prog 161 #[.pointer (some ⟨R, 0, none⟩), .agg vs.toArray] w fun e w' => e = .returned (.tuple #[]) ∧ Wr w' base R (l ++ wT t) ∧ WStep R w w'
theorem wt_start {w : World} {base R : Nat} {l : List Tok} {vs : List Value} {t : TypeId} (hz : base ≤ w.heap.size) (ht : Tabs w base) (hw : Wr w base R l) :
    Has (w.alloc (.cells vs.toArray t)) w.heap.size vs ∧ Tabs (w.alloc (.cells vs.toArray t)) base ∧ Wr (w.alloc (.cells vs.toArray t)) base R l ∧ WStep R w (w.alloc (.cells vs.toArray t)) ∧ rowB (w.alloc (.cells vs.toArray t)) R ≠ some w.heap.size ∧ w.heap.size ≠ R ∧ base ≤ (w.alloc (.cells vs.toArray t)).heap.size := by
 have hb : Below w.heap.size w (w.alloc (.cells vs.toArray t)) := ba (Below.refl _ _) _
 have hs : WStep R w (w.alloc (.cells vs.toArray t)) := (WStep.refl R w).down hw.new.1 hb
 refine ⟨Has.alloc w vs t, ht.down hz hb, hw.down hb, hs, ?_, hw.new.2.1, Nat.le_trans hz hb.size⟩
 rw [rowB_of (hb.block R hw.new.1)]; exact hw.new.2.2
def seqI : Nat → List (List Tok) → List Tok
 | _, [] => []
 | i, x :: l => M (if i = 0 then 40 else 44) :: (x ++ seqI (i + 1) l)
theorem seqI_app : ∀ (a b : List (List Tok)) (i : Nat), seqI i (a ++ b) = seqI i a ++ seqI (i + a.length) b
 | [], b, i => rfl
 | s :: a, b, i => by
  show M _ :: (s ++ seqI (i + 1) (a ++ b)) = M _ :: (s ++ seqI (i + 1) a) ++ _
  rw [seqI_app a b (i + 1), show i + 1 + a.length = i + (s :: a).length by simp; omega]; simp
theorem seqI_succ : ∀ (l : List (List Tok)) (i : Nat), seqI (i + 1) l = l.flatMap fun y => M 44 :: y
 | [], _ => rfl
 | s :: l, i => by
  show M 44 :: (s ++ seqI (i + 1 + 1) l) = _
  rw [seqI_succ l (i + 1)]; simp
theorem seqT_items (l : List (List Tok)) : seqT l = seqI 0 l := by
 cases l with
 | nil => rfl
 | cons x l =>
  show M 40 :: x ++ l.flatMap (fun y => M 44 :: y) = M 40 :: (x ++ seqI 1 l)
  rw [seqI_succ]; simp
theorem seq_step (l : List Tst) (j : Nat) (h : j < l.length) : seqI 0 ((l.take (j + 1)).map wT) = seqI 0 ((l.take j).map wT) ++ [M (if j = 0 then 40 else 44)] ++ wT l[j] := by
 rw [List.take_succ_eq_append_getElem h, List.map_append, seqI_app, List.length_map, List.length_take, Nat.min_eq_left (by omega), Nat.zero_add, List.append_assoc]
 show _ ++ M _ :: (wT l[j] ++ []) = _
 rw [List.append_nil]; rfl
theorem seq_len (l : List Tst) (j : Nat) : (seqI 0 ((l.take j).map wT)).length ≤ (seqT (l.map wT)).length := by
 rw [seqT_items]
 have h := seqI_app ((l.take j).map wT) ((l.drop j).map wT) 0
 rw [← List.map_append, List.take_append_drop] at h
 rw [h, List.length_append]; omega
theorem has_oct {w : World} {b : Nat} {a0 a1 a2 a3 a4 a5 a6 a7 : Value} (h : Has w b [a0, a1, a2, a3, a4, a5, a6, a7]) : w.cell? ⟨b, 0, none⟩ = some a0 ∧ w.cell? ⟨b, 1, none⟩ = some a1 ∧ w.cell? ⟨b, 2, none⟩ = some a2 ∧ w.cell? ⟨b, 3, none⟩ = some a3 ∧ w.cell? ⟨b, 4, none⟩ = some a4 ∧ w.cell? ⟨b, 5, none⟩ = some a5 ∧ w.cell? ⟨b, 6, none⟩ = some a6 ∧ w.cell? ⟨b, 7, none⟩ = some a7 :=
 ⟨h.1 0 _ rfl, h.1 1 _ rfl, h.1 2 _ rfl, h.1 3 _ rfl, h.1 4 _ rfl, h.1 5 _ rfl, h.1 6 _ rfl, h.1 7 _ rfl⟩
structure At (w w1 : World) (base R H : Nat) (vs : List Value) (l : List Tok) : Prop where
 wr : Wr w1 base R l
 st : WStep R w w1
 has : Has w1 H vs
 off : rowB w1 R ≠ some H
 tab : Tabs w1 base
 z : base ≤ w1.heap.size
theorem At.next {w w1 w2 : World} {base R H : Nat} {vs : List Value} {l l' : List Tok} (h : At w w1 base R H vs l) (hne : H ≠ R) (hw : Wr w2 base R l') (hs : WStep R w1 w2) : At w w2 base R H vs l' :=
 ⟨hw, h.st.trans hs, hs.has h.has hne h.off, hs.off h.has.2.2 h.off, h.tab.below (h.wr.below h.z hs), Nat.le_trans h.z hs.size⟩
theorem At.alloc {w w1 : World} {base R H : Nat} {vs : List Value} {l : List Tok} (h : At w w1 base R H vs l) (o : Obj) (hR : R < w1.heap.size) : At w (w1.alloc o) base R H vs l :=
 have hb : Below w1.heap.size w1 (w1.alloc o) := ba (Below.refl _ _) _
 ⟨h.wr.down hb, h.st.trans ((WStep.refl R w1).down hR hb), h.has.down hb, by rw [rowB_of (hb.block R hR)]; exact h.off, h.tab.down h.z hb, Nat.le_trans h.z hb.size⟩
theorem At.R_lt {w w1 : World} {base R H : Nat} {vs : List Value} {l : List Tok} (h : At w w1 base R H vs l) : R < w1.heap.size := h.wr.new.1
theorem At.read {w w1 : World} {base R H : Nat} {vs : List Value} {l l0 : List Tok} (h : At w w1 base R H vs l) (h0 : Wr w base R l0) (hz : base ≤ w.heap.size) : Below base w w1 := h0.below hz h.st
theorem wr_put2 {w w1 w6 : World} {base R g cap n : Nat} {l : List Tok} {t : Tok} {v : Value} {vs : List Value} (hb1 : Below w.heap.size w w1) (hz : base ≤ w.heap.size) (h1 : Has w R [v]) (hR : base ≤ R) (hr : w.ownsRow base 147 3 v n (tcells l)) (h2 : v.ownBlock ≠ some R) (hn : n = l.length)
    (hc : tcells (l ++ [t]) = tcells l ++ vs) (hown : w6.ownsRow base 147 3 (.slice (some ⟨g, 0, none⟩) (n + 1) cap) (n + 1) (tcells l ++ vs)) (hgrow : w1.grownBy w6 v.ownBlock) (hat : v.ownBlock = some g ∨ g = w.heap.size + 1) :
    Has w6 R [v] ∧ Wr (w6.setCell ⟨R, 0, none⟩ (.slice (some ⟨g, 0, none⟩) (n + 1) cap)) base R (l ++ [t]) ∧ WStep R w (w6.setCell ⟨R, 0, none⟩ (.slice (some ⟨g, 0, none⟩) (n + 1) cap)) := by
 subst hn
 exact wr_put hb1 hz h1 hR hr h2 (by rw [hc]; exact hown) hgrow (by rcases hat with h | h; exact .inl h; exact .inr (by omega))
theorem wtT_succ (n : Nat) (IH : WtT n) : WtT (n + 1) := by
 intro t vs F base R l w h hF hFl hz htab hw hlen
 obtain ⟨m, Gn, cn, Gk, ck, Gt, ct, hm, rfl, hN, hK, hT⟩ := tst_open h
 obtain rfl : n = m := by omega
 have h1 := hF.one
 have hk12 := h1.kind
 have hFa := hF.all
 obtain ⟨hs1, hs2, hs3, hs4⟩ := wT_subs hF
 have hwt := wT_eq t
 obtain ⟨k, mt, p, ns, ks, o, lm, ts⟩ := t
 simp only [tstC] at *
 obtain ⟨W0, hW0⟩ : ∃ W0, W0 = w.alloc (.cells #[.int .i64 k, .int .i64 mt, .int .i64 p, .slice Gn ns.length cn, .slice Gk ks.length ck, .bool o, .int .i64 lm, .slice Gt ts.length ct] 158) := ⟨_, rfl⟩
 have hst := wt_start (t := 158) (vs := [.int .i64 k, .int .i64 mt, .int .i64 p, .slice Gn ns.length cn, .slice Gk ks.length ck, .bool o, .int .i64 lm, .slice Gt ts.length ct]) hz htab hw
 rw [show w.alloc (.cells [Value.int .i64 k, .int .i64 mt, .int .i64 p, .slice Gn ns.length cn, .slice Gk ks.length ck, .bool o, .int .i64 lm, .slice Gt ts.length ct].toArray 158) = W0 from hW0.symm] at hst
 have hA0 : At w W0 base R w.heap.size [.int .i64 k, .int .i64 mt, .int .i64 p, .slice Gn ns.length cn, .slice Gk ks.length ck, .bool o, .int .i64 lm, .slice Gt ts.length ct] l := ⟨hst.2.2.1, hst.2.2.2.1, hst.1, hst.2.2.2.2.1, hst.2.1, hst.2.2.2.2.2.2⟩
 obtain ⟨H, hH⟩ : ∃ H, H = w.heap.size := ⟨_, rfl⟩
 rw [← hH] at hA0
 have hne : H ≠ R := by rw [hH]; exact hw.new.2.1
 obtain ⟨t0, -⟩ := has_oct hA0.has
 have tt := tab_at hA0.tab.t (k := k) (by omega) (by show k.toNat < 11; omega)
 have HP := Lib.hid (fun (k : Int) (l : List Tok) (s : Str) (w : World) (hz : base ≤ w.heap.size) (h : Wr w base R l) (hl : l.length ≤ 10000000) => put_str base R l k s w hz h hl)
 have HLI := Lib.hid (fun (l : List Tok) (ns : List Str) (v : Value) (w : World) (hz : base ≤ w.heap.size) (hv : SAt cStr w F v ns) (h : Wr w base R l) (hl : l.length + 2 * ns.length ≤ 9000000) => list_any base R l ns v F w hz hFl hv h hl)
 have HI := Lib.hid IH; have HFA := Lib.hid hFa; have HFL := Lib.hid hFl; have HTS := Lib.hid hT; have HNS := Lib.hid hN; have HKS := Lib.hid hK
 have HH := Lib.hid hH.symm; have HW0 := Lib.hid hW0.symm; have H1 := Lib.hid h1; have HWT := Lib.hid hwt
 have HA0 := Lib.hid hA0; have HZ := Lib.hid hz; have HLN := Lib.hid hlen; have HWR := Lib.hid hw
 have HS4 := Lib.hid hs4; have HTAB := Lib.hid htab
 have hk1 := hk12.1; have hk2 := hk12.2
 obtain ⟨LF, hLF⟩ : ∃ LF, LF = l ++ wT ⟨k, mt, p, ns, ks, o, lm, ts⟩ := ⟨_, rfl⟩
 rw [← hLF]
 have HLF := Lib.hid hLF
 clear hLF h hF hFa hFl hz htab hw hlen hm hN hK hT h1 hwt hst hA0 hH hW0 IH hk12 hs4
 go_enter Tryz.func161, Tryz.ntmps161
 go_upto_region 1 with fail
 rw [HW0.out, HH.out]
 go_wp2_with fail
 refine (HP.out 1 l _ W0 HA0.out.z HA0.out.wr (by have := HLN.out; omega)).mono ?_
 rintro e w1 ⟨rfl, hw1, hb1⟩
 have hA1 := HA0.out.next hne hw1 hb1
 have HA1 := Lib.hid hA1
 obtain ⟨t0, t1, t2, t3, t4, t5, t6, t7⟩ := has_oct hA1.has
 clear hw1 hb1 hA1 HA0 tt HW0
 have hlen := HLN.out
 have hbt : (wT ⟨k, mt, p, ns, ks, o, lm, ts⟩).length = (bodyT k mt p ns ks o lm (ts.map wT)).length + 1 := by rw [HWT.out]; rfl
 rw [hbt] at hlen
 have HLE : Hid (l ++ wT ⟨k, mt, p, ns, ks, o, lm, ts⟩ = (l ++ [(⟨1, wd tstTab k, 0⟩ : Tok)]) ++ bodyT k mt p ns ks o lm (ts.map wT)) := by unfold Hid; rw [HWT.out]; simp [W]
 obtain ⟨L, hL⟩ : ∃ L, L = l ++ [(⟨1, wd tstTab k, 0⟩ : Tok)] := ⟨_, rfl⟩
 have hLl : L.length + (bodyT k mt p ns ks o lm (ts.map wT)).length ≤ 4000000 := by rw [hL, List.length_append]; show l.length + 1 + _ ≤ _; omega
 rw [← hL] at HA1 HLE; rw [← HLF.out] at HLE
 have HLL := Lib.hid hLl
 clear hlen hbt hL hLl HLN HWT
 rcases H1.out with ⟨hk | hk, e1, e2, e3, e4, e5, e6, e8⟩ | ⟨hk, e1, e2, e3, e4, e5, e6, e8⟩ | ⟨hk, e1, e2, e3, e4, e5, e6, e8⟩ | ⟨hk, ⟨hm1, hm3⟩, e2, e3, e4, e5, e6, e8⟩ | ⟨hk, ⟨hm1, hm3⟩, ⟨hp1, hp3⟩, e3, e4, e5, e6, e8⟩ | ⟨hk, e1, e2, e3, e4, e5, e6, e8⟩ | ⟨hk, e1, e2, e3, e4, ⟨hl1, hl3⟩, e8⟩
 ·-- true
  subst hk
  have HE : Hid (LF = L) := by unfold Hid; rw [HLE.out]; show L ++ [] = L; rw [List.append_nil]
  clear e1 e2 e3 e4 e5 e6 e8 H1
  go_wp2_with fail
  go_returns
  exact ⟨rfl, by rw [HE.out]; exact HA1.out.wr, HA1.out.st⟩
 ·-- false
  subst hk
  have HE : Hid (LF = L) := by unfold Hid; rw [HLE.out]; show L ++ [] = L; rw [List.append_nil]
  clear e1 e2 e3 e4 e5 e6 e8 H1
  go_wp2_with fail
  go_returns
  exact ⟨rfl, by rw [HE.out]; exact HA1.out.wr, HA1.out.st⟩
 ·-- not
  subst hk
  obtain ⟨s, hs⟩ := List.length_eq_one_iff.1 e8
  subst hs
  have HE : Hid (LF = L ++ wT s) := by
   unfold Hid; rw [HLE.out]
   have : bodyT 3 mt p ns ks o lm ([s].map wT) = wT s := by simp [bodyT]
   rw [this]
  have hbel := HA1.out.read HWR.out HZ.out
  obtain ⟨g, off, Ga, ca, Gb, cb, Gc, cc, rfl, hrep, c0, c1, c2, c3, c4, c5, c6, c7⟩ := tst_get HTS.out (fun b hb _ => hbel.block b (HFL.out b hb)) hbel.size 0 (by simp)
  simp only [List.getElem_cons_zero, Nat.zero_mul, Nat.add_zero] at hrep c0 c1 c2 c3 c4 c5 c6 c7
  have hbl : (bodyT 3 mt p ns ks o lm ([s].map wT)).length = (wT s).length := by
   have : bodyT 3 mt p ns ks o lm ([s].map wT) = wT s := by simp [bodyT]
   rw [this]
  have hlen := HLL.out
  rw [hbl] at hlen
  have HC := Lib.hid (HI.out s _ F base R L w1 hrep (HFA.out s (List.mem_singleton_self _)) HFL.out HA1.out.z HA1.out.tab HA1.out.wr hlen)
  have hq : ([s] : List Tst).length = 1 := rfl
  rw [hq] at t7 ⊢
  clear e1 e2 e3 e4 e5 e6 e8 H1 hbel hrep hbl hlen hq
  go_wp2_with fail
  refine HC.out.mono ?_
  rintro e w2 ⟨rfl, hw2, hb2⟩
  have HW2 := Lib.hid hw2; have HB2 := Lib.hid (HA1.out.st.trans hb2)
  clear hw2 hb2 HC
  go_wp2_with fail
  go_returns
  exact ⟨rfl, by rw [HE.out]; exact HW2.out, HB2.out⟩
 ·-- allof, anyof
  have hkk : k = 4 ∨ k = 5 := hk
  have hbody : bodyT k mt p ns ks o lm (ts.map wT) = seqT (ts.map wT) ++ [M 41] := by unfold bodyT; rw [if_neg (by omega), if_pos hkk]
  have HE : Hid (LF = (L ++ seqI 0 ((ts.take ts.length).map wT)) ++ [M 41]) := by
   unfold Hid; rw [HLE.out, hbody, List.take_length, seqT_items]; simp
  have hlen : L.length + (seqT (ts.map wT)).length + 1 ≤ 4000000 := by
   have h1 := HLL.out
   rw [hbody, List.length_append] at h1
   exact h1
  have HLEN := Lib.hid hlen
  obtain ⟨nt, hnt⟩ : ∃ nt, nt = ts.length := ⟨_, rfl⟩
  rw [← hnt] at t7 HA1 HTS ⊢
  have HNT := Lib.hid hnt
  have hts : ts.length ≤ 4000000 := by
   have := seqT_len (ts.map wT) (fun x hx => by obtain ⟨s, -, rfl⟩ := List.mem_map.1 hx; exact wT_pos' s)
   rw [List.length_map] at this; omega
  clear e1 e2 e3 e4 e5 e6 e8 H1 hlen hkk hbody hnt
  rcases hk with hk | hk
  all_goals
   subst hk
   go_wp2_with fail
   go_loopw [28] (fun v wr => ∃ j : Nat, v = .int .i64 j ∧ j ≤ ts.length ∧ At w wr base R H _ (L ++ seqI 0 ((ts.take j).map wT))) (fun v _ => ts.length - (intOf v).toNat)
   case atStart => exact ⟨0, rfl, Nat.zero_le _, by rw [List.take_zero]; show At w w1 base R H _ (L ++ []); rw [List.append_nil]; exact HA1.out⟩
   case round =>
    obtain ⟨j, rfl, hj, hA⟩ := hrel
    have HA := Lib.hid hA
    by_cases hlt : j < ts.length
    ·have hbel := HA.out.read HWR.out HZ.out
     obtain ⟨g, off, Ga, ca, Gb, cb, Gc, cc, rfl, hrep, c0, c1, c2, c3, c4, c5, c6, c7⟩ := tst_get HTS.out (fun b hb _ => hbel.block b (HFL.out b hb)) hbel.size j hlt
     have hst := seq_step ts j hlt
     have hsl := seq_len ts (j + 1)
     obtain ⟨s, hs⟩ : ∃ s, s = ts[j] := ⟨_, rfl⟩
     have hFs : FormT s := by rw [hs]; exact HFA.out _ (List.getElem_mem hlt)
     rw [← hs] at hrep c0 c1 c2 c3 c4 c5 c6 c7 hst
     have hsl2 : (L ++ seqI 0 ((ts.take j).map wT)).length + 1 + (wT s).length ≤ 4000000 := by
      have := HLEN.out; rw [hst] at hsl; simp only [List.length_append, List.length_singleton] at hsl ⊢; omega
     obtain ⟨L1, hL1⟩ : ∃ L1, L1 = L ++ seqI 0 ((ts.take j).map wT) := ⟨_, rfl⟩
     have hL2 : L ++ seqI 0 ((ts.take (j + 1)).map wT) = (L1 ++ [M (if j = 0 then 40 else 44)]) ++ wT s := by rw [hst, hL1]; simp
     rw [← hL1] at HA hsl2
     have hB := wt_start (t := 158) (vs := tstC s (.slice Ga s.names.length ca) (.slice Gb s.keys.length cb) (.slice Gc s.tests.length cc)) HA.out.z HA.out.tab HA.out.wr
     have hA1 : At wr (wr.alloc (.cells #[.int .i64 s.kind, .int .i64 s.mat, .int .i64 s.part, .slice Ga s.names.length ca, .slice Gb s.keys.length cb, .bool s.over, .int .i64 s.limit, .slice Gc s.tests.length cc] 158)) base R wr.heap.size [.int .i64 s.kind, .int .i64 s.mat, .int .i64 s.part, .slice Ga s.names.length ca, .slice Gb s.keys.length cb, .bool s.over, .int .i64 s.limit, .slice Gc s.tests.length cc] L1 := ⟨hB.2.2.1, hB.2.2.2.1, hB.1, hB.2.2.2.2.1, hB.2.1, hB.2.2.2.2.2.2⟩
     have HNB := Lib.hid hB.2.2.2.2.2.1
     have HB := Lib.hid (hA1.alloc (.cells #[.string ⟨#[44]⟩, .string ⟨#[40]⟩] 9) hA1.R_lt)
     have HREP := Lib.hid hrep; have HFS := Lib.hid hFs; have HSL := Lib.hid hsl2; have HL2 := Lib.hid hL2; have HLT := Lib.hid hlt
     have hjn : (j : Int) < nt := by rw [HNT.out]; omega
     clear hbel hrep hst hsl hs hFs hsl2 hL1 hL2 hB hA1 hA hj
     by_cases hj0 : j = 0
     ·have HQ := Lib.hid (fun (w : World) => flag_any true w)
      have hjq : ((j : Int) == 0) = true := beq_iff_eq.2 (by omega)
      rw [if_pos hj0] at HL2
      clear hj0
      go_wp2_with fail
      refine (HQ.out _).mono ?_
      rintro e w5 ⟨rfl, rfl⟩
      go_wp2_with fail
      refine (HP.out 5 L1 [40] _ HB.out.z HB.out.wr (by have := HSL.out; omega)).mono ?_
      rintro e w6 ⟨rfl, hw6, hb6⟩
      have HB6 := Lib.hid (HB.out.next HNB.out hw6 hb6)
      obtain ⟨b0, b1, b2, b3, b4, b5, b6, b7⟩ := has_oct HB6.out.has
      clear hw6 hb6 HQ c0 c1 c2 c3 c4 c5 c6 c7
      go_wp2_with fail
      refine (HI.out s _ F base R _ w6 ((cTst n).stable HREP.out (fun b hb _ => (HA.out.wr.below HA.out.z HB6.out.st).block b (HFL.out b hb)) HB6.out.st.size) HFS.out HFL.out HB6.out.z HB6.out.tab HB6.out.wr (by have := HSL.out; rw [List.length_append]; exact this)).mono ?_
      rintro e w7 ⟨rfl, hw7, hb7⟩
      have HA7 := Lib.hid (HA.out.next hne hw7 (HB6.out.st.trans hb7))
      clear hw7 hb7 b0 b1 b2 b3 b4 b5 b6 b7 HB6
      go_wp2_with fail
      go_roundw
      case rel => exact ⟨j + 1, by go_num, HLT.out, by rw [HL2.out]; exact HA7.out⟩
      case measure => have := HLT.out; simp [intOf]; omega
     ·have HQ := Lib.hid (fun (w : World) => flag_any false w)
      have hjq : ((j : Int) == 0) = false := beq_eq_false_iff_ne.2 (by omega)
      rw [if_neg hj0] at HL2
      clear hj0
      go_wp2_with fail
      refine (HQ.out _).mono ?_
      rintro e w5 ⟨rfl, rfl⟩
      go_wp2_with fail
      refine (HP.out 5 L1 [44] _ HB.out.z HB.out.wr (by have := HSL.out; omega)).mono ?_
      rintro e w6 ⟨rfl, hw6, hb6⟩
      have HB6 := Lib.hid (HB.out.next HNB.out hw6 hb6)
      obtain ⟨b0, b1, b2, b3, b4, b5, b6, b7⟩ := has_oct HB6.out.has
      clear hw6 hb6 HQ c0 c1 c2 c3 c4 c5 c6 c7
      go_wp2_with fail
      refine (HI.out s _ F base R _ w6 ((cTst n).stable HREP.out (fun b hb _ => (HA.out.wr.below HA.out.z HB6.out.st).block b (HFL.out b hb)) HB6.out.st.size) HFS.out HFL.out HB6.out.z HB6.out.tab HB6.out.wr (by have := HSL.out; rw [List.length_append]; exact this)).mono ?_
      rintro e w7 ⟨rfl, hw7, hb7⟩
      have HA7 := Lib.hid (HA.out.next hne hw7 (HB6.out.st.trans hb7))
      clear hw7 hb7 b0 b1 b2 b3 b4 b5 b6 b7 HB6
      go_wp2_with fail
      go_roundw
      case rel => exact ⟨j + 1, by go_num, HLT.out, by rw [HL2.out]; exact HA7.out⟩
      case measure => have := HLT.out; simp [intOf]; omega
    ·obtain rfl : j = ts.length := by omega
     have hjn : (ts.length : Int) = nt := by rw [HNT.out]
     have hl9 : (L ++ seqI 0 ((ts.take ts.length).map wT)).length ≤ 4000000 := by have := seq_len ts ts.length; have := HLEN.out; rw [List.length_append]; omega
     clear hA
     go_wp2_with fail
     refine (HP.out 5 _ [41] _ HA.out.z HA.out.wr (by omega)).mono ?_
     rintro e w6 ⟨rfl, hw6, hb6⟩
     have HW6 := Lib.hid hw6; have HB6 := Lib.hid (HA.out.st.trans hb6)
     clear hw6 hb6
     go_wp2_with fail
     go_returns
     exact ⟨rfl, by rw [HE.out]; exact HW6.out, HB6.out⟩
 ·-- header
  subst hk
  have HE : Hid (LF = ((L ++ [G (wd matTab mt)]) ++ listT ns) ++ listT ks) := by unfold Hid; rw [HLE.out]; show L ++ G (wd matTab mt) :: (listT ns ++ listT ks) = _; simp
  have hlen : L.length + 1 + (listT ns).length + (listT ks).length ≤ 4000000 ∧ ns.length ≤ (listT ns).length ∧ ks.length ≤ (listT ks).length := by
   have h1 := HLL.out
   have h2 : (bodyT 6 mt p ns ks o lm (ts.map wT)).length = (listT ns ++ listT ks).length + 1 := rfl
   rw [h2, List.length_append] at h1
   exact ⟨by omega, listT_len ns, listT_len ks⟩
  have HLEN := Lib.hid hlen
  have tm := tab_at HA1.out.tab.m (k := mt) (by omega) (by show mt.toNat < 4; omega)
  clear e2 e3 e4 e5 e6 e8 H1 hlen
  go_wp2_with fail
  refine (HP.out 2 L _ w1 HA1.out.z HA1.out.wr (by have := HLEN.out; omega)).mono ?_
  rintro e w2 ⟨rfl, hw2, hb2⟩
  have HA2 := Lib.hid (HA1.out.next hne hw2 hb2)
  obtain ⟨u0, u1, u2, u3, u4, u5, u6, u7⟩ := has_oct HA2.out.has
  clear hw2 hb2 t0 t1 t2 t3 t4 t5 t6 t7 tm
  go_wp2_with fail
  refine (HLI.out _ ns _ w2 HA2.out.z (HNS.out.stable (fun b hb _ => (HA2.out.read HWR.out HZ.out).block b (HFL.out b hb)) (HA2.out.read HWR.out HZ.out).size) HA2.out.wr (by have := HLEN.out; simp; omega)).mono ?_
  rintro e w3 ⟨rfl, hw3, hb3⟩
  have HA3 := Lib.hid (HA2.out.next hne hw3 hb3)
  obtain ⟨v0, v1, v2, v3, v4, v5, v6, v7⟩ := has_oct HA3.out.has
  clear hw3 hb3 u0 u1 u2 u3 u4 u5 u6 u7
  go_wp2_with fail
  refine (HLI.out _ ks _ w3 HA3.out.z (HKS.out.stable (fun b hb _ => (HA3.out.read HWR.out HZ.out).block b (HFL.out b hb)) (HA3.out.read HWR.out HZ.out).size) HA3.out.wr (by have := HLEN.out; simp; omega)).mono ?_
  rintro e w4 ⟨rfl, hw4, hb4⟩
  have HA4 := Lib.hid (HA3.out.next hne hw4 hb4)
  clear hw4 hb4 v0 v1 v2 v3 v4 v5 v6 v7
  go_wp2_with fail
  go_returns
  exact ⟨rfl, by rw [HE.out]; exact HA4.out.wr, HA4.out.st⟩
 ·-- address, envelope
  have hkk : k = 7 ∨ k = 8 := hk
  have HE : Hid (LF = (((L ++ [G (wd parTab p)]) ++ [G (wd matTab mt)]) ++ listT ns) ++ listT ks) := by
   unfold Hid; rw [HLE.out]
   have : bodyT k mt p ns ks o lm (ts.map wT) = G (wd parTab p) :: G (wd matTab mt) :: (listT ns ++ listT ks) := by unfold bodyT; rw [if_neg (by omega), if_neg (by omega), if_neg (by omega), if_pos hkk]
   rw [this]; simp
  have hlen : L.length + 2 + (listT ns).length + (listT ks).length ≤ 4000000 ∧ ns.length ≤ (listT ns).length ∧ ks.length ≤ (listT ks).length := by
   have h1 := HLL.out
   have : bodyT k mt p ns ks o lm (ts.map wT) = G (wd parTab p) :: G (wd matTab mt) :: (listT ns ++ listT ks) := by unfold bodyT; rw [if_neg (by omega), if_neg (by omega), if_neg (by omega), if_pos hkk]
   have h2 : (bodyT k mt p ns ks o lm (ts.map wT)).length = (listT ns ++ listT ks).length + 2 := by rw [this]; rfl
   rw [h2, List.length_append] at h1
   exact ⟨by omega, listT_len ns, listT_len ks⟩
  have HLEN := Lib.hid hlen
  have tm := tab_at HA1.out.tab.m (k := mt) (by omega) (by show mt.toNat < 4; omega)
  have tp := tab_at HA1.out.tab.p (k := p) (by omega) (by show p.toNat < 4; omega)
  clear e3 e4 e5 e6 e8 H1 hlen hkk
  rcases hk with hk | hk
  all_goals
   subst hk
   go_wp2_with fail
   refine (HP.out 2 L _ w1 HA1.out.z HA1.out.wr (by have := HLEN.out; omega)).mono ?_
   rintro e w2 ⟨rfl, hw2, hb2⟩
   have HA2 := Lib.hid (HA1.out.next hne hw2 hb2)
   obtain ⟨u0, u1, u2, u3, u4, u5, u6, u7⟩ := has_oct HA2.out.has
   have tn := tab_at HA2.out.tab.m (k := mt) (by omega) (by show mt.toNat < 4; omega)
   clear hw2 hb2 t0 t1 t2 t3 t4 t5 t6 t7 tm tp
   go_wp2_with fail
   refine (HP.out 2 _ _ w2 HA2.out.z HA2.out.wr (by have := HLEN.out; simp; omega)).mono ?_
   rintro e w5 ⟨rfl, hw5, hb5⟩
   have HA5 := Lib.hid (HA2.out.next hne hw5 hb5)
   obtain ⟨t0, t1, t2, t3, t4, t5, t6, t7⟩ := has_oct HA5.out.has
   clear hw5 hb5 u0 u1 u2 u3 u4 u5 u6 u7 tn
   go_wp2_with fail
   refine (HLI.out _ ns _ w5 HA5.out.z (HNS.out.stable (fun b hb _ => (HA5.out.read HWR.out HZ.out).block b (HFL.out b hb)) (HA5.out.read HWR.out HZ.out).size) HA5.out.wr (by have := HLEN.out; simp; omega)).mono ?_
   rintro e w3 ⟨rfl, hw3, hb3⟩
   have HA3 := Lib.hid (HA5.out.next hne hw3 hb3)
   obtain ⟨v0, v1, v2, v3, v4, v5, v6, v7⟩ := has_oct HA3.out.has
   clear hw3 hb3 t0 t1 t2 t3 t4 t5 t6 t7
   go_wp2_with fail
   refine (HLI.out _ ks _ w3 HA3.out.z (HKS.out.stable (fun b hb _ => (HA3.out.read HWR.out HZ.out).block b (HFL.out b hb)) (HA3.out.read HWR.out HZ.out).size) HA3.out.wr (by have := HLEN.out; simp; omega)).mono ?_
   rintro e w4 ⟨rfl, hw4, hb4⟩
   have HA4 := Lib.hid (HA3.out.next hne hw4 hb4)
   clear hw4 hb4 v0 v1 v2 v3 v4 v5 v6 v7
   go_wp2_with fail
   go_returns
   exact ⟨rfl, by rw [HE.out]; exact HA4.out.wr, HA4.out.st⟩
 ·-- exists
  subst hk
  have HE : Hid (LF = L ++ listT ns) := HLE.out
  have hlen : L.length + (listT ns).length ≤ 4000000 ∧ ns.length ≤ (listT ns).length := ⟨HLL.out, listT_len ns⟩
  have HLEN := Lib.hid hlen
  clear e1 e2 e3 e4 e5 e6 e8 H1 hlen
  go_wp2_with fail
  refine (HLI.out _ ns _ w1 HA1.out.z (HNS.out.stable (fun b hb _ => (HA1.out.read HWR.out HZ.out).block b (HFL.out b hb)) (HA1.out.read HWR.out HZ.out).size) HA1.out.wr (by have := HLEN.out; omega)).mono ?_
  rintro e w3 ⟨rfl, hw3, hb3⟩
  have HA3 := Lib.hid (HA1.out.next hne hw3 hb3)
  clear hw3 hb3 t0 t1 t2 t3 t4 t5 t6 t7
  go_wp2_with fail
  go_returns
  exact ⟨rfl, by rw [HE.out]; exact HA3.out.wr, HA3.out.st⟩
 ·-- size
  subst hk
  have HE : Hid (LF = (L ++ [G (if o = true then overW else underW)]) ++ [N lm]) := by unfold Hid; rw [HLE.out]; show L ++ [G _, N lm] = _; simp
  have hlen : L.length + 2 ≤ 4000000 := HLL.out
  have HLEN := Lib.hid hlen
  have HQ := Lib.hid (fun (w : World) => flag_any o w)
  have hRl := HA1.out.R_lt
  have t5a := fun oo => moved (t5) (ba (Below.refl w1.heap.size w1) (.cells #[.string ⟨#[117, 110, 100, 101, 114]⟩, .string ⟨#[111, 118, 101, 114]⟩] oo)) (Nat.le_refl _)
  have t5b := t5a 9
  clear t5a
  obtain ⟨L3, hL3⟩ : ∃ L3, L3 = L ++ [G (if o = true then overW else underW)] := ⟨_, rfl⟩
  rw [← hL3] at HE
  have HL3 := Lib.hid hL3
  clear e1 e2 e3 e4 e8 H1 hlen hL3
  cases o
  all_goals
   go_wp2_with fail
   refine (HQ.out _).mono ?_
   rintro e w2 ⟨rfl, rfl⟩
   go_wp2_with fail
   refine (HP.out 2 L _ _ (HA1.out.alloc _ hRl).z (HA1.out.alloc _ hRl).wr (by have := HLEN.out; omega)).mono ?_
   rintro e w3 ⟨rfl, hw3, hb3⟩
   have hA3 := (HA1.out.alloc (.cells #[.string ⟨#[117, 110, 100, 101, 114]⟩, .string ⟨#[111, 118, 101, 114]⟩] 9) hRl).next (l' := L3) hne (by rw [HL3.out]; exact hw3) hb3
   have HA3 := Lib.hid hA3
   clear hA3
   obtain ⟨-, -, -, -, -, -, v6, -⟩ := has_oct HA3.out.has
   clear hw3 hb3 t0 t1 t2 t3 t4 t5 t6 t7
   obtain ⟨v, g1, hR, hrow, g2⟩ := HA3.out.wr
   obtain ⟨Gv, cv, rfl⟩ := row_slice hrow
   obtain ⟨i0, hi, hz0, hz1, hz2⟩ := info_three info_tok
   have hb1 : Below w3.heap.size w3 (w3.drew.alloc (.cells #[.int .i64 3, .string ⟨#[]⟩, .int .i64 lm] 147)) := ba (Below.drew (Below.refl _ _)) _
   have HC : Hid (tcells (L3 ++ [N lm]) = tcells L3 ++ [.int .i64 3, .string ⟨#[]⟩, .int .i64 lm]) := tcells_snoc _ _
   have HI0 := Lib.hid hi; have HZ0 := Lib.hid hz0; have HZ1 := Lib.hid hz1; have HZ2 := Lib.hid hz2
   obtain ⟨c0, f0, hR3⟩ := has_one g1
   have d0 := moved c0 hb1 (Nat.le_refl _)
   have d6 := moved v6 hb1 (Nat.le_refl _)
   have e6 := moved v6 (ba (Below.refl w3.heap.size w3) (.cells #[.int .i64 3, .string ⟨#[]⟩, .int .i64 lm] 147)) (Nat.le_refl _)
   have e0 := moved c0 (ba (Below.refl w3.heap.size w3) (.cells #[.int .i64 3, .string ⟨#[]⟩, .int .i64 lm] 147)) (Nat.le_refl _)
   have HRW := Lib.hid (row_down hrow hb1)
   obtain ⟨n3, hn3⟩ : ∃ n3, n3 = L3.length := ⟨_, rfl⟩
   rw [← hn3] at g1 hrow HRW c0 d0 e0 g2
   have HN3 := Lib.hid hn3
   have HG1 := Lib.hid g1; have HROW := Lib.hid hrow; have HB1 := Lib.hid hb1; have HG2 := Lib.hid g2
   have hz3 : base ≤ w3.heap.size := HA3.out.z
   have hn3' : n3 ≤ 4000000 := by have := HLEN.out; rw [hn3, HL3.out]; simp; omega
   clear hi hz0 hz1 hz2 hb1 hn3 g1 hrow g2
   go_wp2_with fail
   go_region_law (first
    | (refine step_append_lies _ (by rfl) _ _ _ (by rfl) base 147 i0 _ 3 32 Tryz.underlying112 HI0.out HZ0.out HZ1.out HZ2.out rfl (by omega) (.slice Gv n3 cv) n3 (tcells L3) (by rfl) HRW.out
        ⟨w3.heap.size, 0, none⟩ 1 1 [.int .i64 3, .string ⟨#[]⟩, .int .i64 lm] (by rfl) (by rfl) (World.news_of_block (cs := #[.int .i64 3, .string ⟨#[]⟩, .int .i64 lm]) (t := 147) (fr := (0, 0)) (heap_alloc_new w3 _)) (by simp [Value.oneCell'])
        (by omega) (by unfold maxLen; omega) (by omega) (by simp; omega) (w3.heap.size + 1) (by simp) ?_
       intro g5 cap5 w5 hown5 hgrow5 hat5 hlt5
       have hkey := wr_put2 HB1.out hz3 HG1.out hR HROW.out HG2.out HN3.out HC.out hown5 hgrow5 hat5
       have HKEY := Lib.hid hkey.2
       obtain ⟨y0, z0, -⟩ := has_one hkey.1
       clear hkey))
   all_goals
    go_wp2_with fail
    go_returns
    exact ⟨rfl, by rw [HE.out]; exact HKEY.out.1, HA3.out.st.trans HKEY.out.2⟩
theorem wtT_all : ∀ n, WtT n
 | 0 => fun _ _ _ _ _ _ _ h _ _ _ _ _ _ => h.elim
 | n + 1 => wtT_succ n (wtT_all n)
def WtC (n : Nat) : Prop := ∀ (c : Cmd) (vs : List Value) (F : Dom) (base R : Nat) (l : List Tok) (w : World), (cCmd n).rep w F c vs → FormC c → (∀ b, F b → b < base) → base ≤ w.heap.size → Tabs w base → Wr w base R l → l.length + (wC c).length ≤ 4000000 →
    Calls Tryz.prog 114 #[.pointer (some ⟨R, 0, none⟩), .agg vs.toArray] w fun e w' => e = .returned (.tuple #[]) ∧ Wr w' base R (l ++ wC c) ∧ WStep R w w'
def WtB (n : Nat) : Prop := ∀ (c : Cmd) (vs : List Value) (F : Dom) (base R : Nat) (l : List Tok) (w : World), (cCmd n).rep w F c vs → FormC c → c.kind = 2 → (∀ b, F b → b < base) → base ≤ w.heap.size → Tabs w base → Wr w base R l → l.length + (wBr c).length ≤ 4000000 →
    Calls Tryz.prog 139 #[.pointer (some ⟨R, 0, none⟩), .agg vs.toArray] w fun e w' => e = .returned (.tuple #[]) ∧ Wr w' base R (l ++ wBr c) ∧ WStep R w w'
def WtK (n : Nat) : Prop := ∀ (cs : List Cmd) (v : Value) (F : Dom) (base R : Nat) (l : List Tok) (w : World), SAt (cCmd n) w F v cs → (∀ c ∈ cs, FormC c) → (∀ b, F b → b < base) → base ≤ w.heap.size → Tabs w base → Wr w base R l → l.length + (cs.flatMap wC).length + 2 ≤ 4000000 →
    Calls Tryz.prog 162 #[.pointer (some ⟨R, 0, none⟩), v] w fun e w' => e = .returned (.tuple #[]) ∧ Wr w' base R (l ++ blkT (cs.flatMap wC)) ∧ WStep R w w'
structure On (w w1 : World) (base R : Nat) (l : List Tok) : Prop where
 wr : Wr w1 base R l
 st : WStep R w w1
 tab : Tabs w1 base
 z : base ≤ w1.heap.size
theorem On.next {w w1 w2 : World} {base R : Nat} {l l' : List Tok} (h : On w w1 base R l) (hw : Wr w2 base R l') (hs : WStep R w1 w2) : On w w2 base R l' :=
 ⟨hw, h.st.trans hs, h.tab.below (h.wr.below h.z hs), Nat.le_trans h.z hs.size⟩
theorem On.alloc {w w1 : World} {base R : Nat} {l : List Tok} (h : On w w1 base R l) (o : Obj) : On w (w1.alloc o) base R l :=
 have hb : Below w1.heap.size w1 (w1.alloc o) := ba (Below.refl _ _) _
 ⟨h.wr.down hb, h.st.trans ((WStep.refl R w1).down h.wr.new.1 hb), h.tab.down h.z hb, Nat.le_trans h.z hb.size⟩
theorem flat_take_le (cs : List Cmd) (j : Nat) : ((cs.take j).flatMap wC).length ≤ (cs.flatMap wC).length := by
 have h : cs.flatMap wC = (cs.take j).flatMap wC ++ (cs.drop j).flatMap wC := by rw [← List.flatMap_append, List.take_append_drop]
 rw [h, List.length_append]; omega
theorem flat_step (cs : List Cmd) (j : Nat) (h : j < cs.length) : (cs.take (j + 1)).flatMap wC = (cs.take j).flatMap wC ++ wC cs[j] := by
 rw [List.take_succ_eq_append_getElem h, List.flatMap_append]; simp
theorem wtK_of (n : Nat) (IC : WtC n) : WtK n := by
 intro cs v F base R l w hv hF hFl hz htab hw hlen
 obtain ⟨G, cap, rfl, -⟩ := hv.form
 have HP := Lib.hid (fun (k : Int) (l : List Tok) (s : Str) (w : World) (hz : base ≤ w.heap.size) (h : Wr w base R l) (hl : l.length ≤ 10000000) => put_str base R l k s w hz h hl)
 have HI := Lib.hid IC; have HF := Lib.hid hF; have HFL := Lib.hid hFl; have HV := Lib.hid hv
 have HO := Lib.hid (⟨hw, WStep.refl R w, htab, hz⟩ : On w w base R l)
 have HLN := Lib.hid hlen; have HWR := Lib.hid hw; have HZ := Lib.hid hz
 have hcl : cs.length ≤ 4000000 := by have := (flatC_len cs).1; omega
 obtain ⟨nt, hnt⟩ : ∃ nt, nt = cs.length := ⟨_, rfl⟩
 rw [← hnt] at HV ⊢
 have HNT := Lib.hid hnt
 clear IC hF hFl hv hw htab hz hlen hnt
 go_enter Tryz.func162, Tryz.ntmps162
 go_wp2_with fail
 refine (HP.out 5 l [123] w HZ.out HWR.out (by have := HLN.out; omega)).mono ?_
 rintro e w1 ⟨rfl, hw1, hb1⟩
 have HO1 := Lib.hid (HO.out.next hw1 hb1)
 clear hw1 hb1
 go_wp2_with fail
 go_loopw [10] (fun v wr => ∃ j : Nat, v = .int .i64 j ∧ j ≤ cs.length ∧ On w wr base R (l ++ M 123 :: (cs.take j).flatMap wC)) (fun v _ => cs.length - (intOf v).toNat)
 case atStart => exact ⟨0, rfl, Nat.zero_le _, HO1.out⟩
 case round =>
  obtain ⟨j, rfl, hj, hO⟩ := hrel
  have HOj := Lib.hid hO
  by_cases hlt : j < cs.length
  ·have hbel := HWR.out.below HZ.out HOj.out.st
   obtain ⟨g, off, Gx, cx, Gn, cn, Gk, ck, Gs, cs', Gh, ch, Ge, ce, rfl, hrep, c0, c1, ⟨c2, c3, c4, c5, c6, c7, c8, c9⟩, c10, c11⟩ := cmd_get HV.out (fun b hb _ => hbel.block b (HFL.out b hb)) hbel.size j hlt
   have hst := flat_step cs j hlt
   have hle := flat_take_le cs (j + 1)
   obtain ⟨c, hc⟩ : ∃ c, c = cs[j] := ⟨_, rfl⟩
   have hFc : FormC c := by rw [hc]; exact HF.out _ (List.getElem_mem hlt)
   rw [← hc] at hrep c0 c1 c2 c3 c4 c5 c6 c7 c8 c9 c10 c11 hst
   have hL2 : l ++ M 123 :: (cs.take (j + 1)).flatMap wC = (l ++ M 123 :: (cs.take j).flatMap wC) ++ wC c := by rw [hst]; simp
   have hlen : (l ++ M 123 :: (cs.take j).flatMap wC).length + (wC c).length ≤ 4000000 := by
    have := HLN.out; rw [hst] at hle; simp only [List.length_append, List.length_cons] at hle ⊢; omega
   have hb2 : Below wr.heap.size wr (wr.alloc (.cells (cmdC c (.slice Gx c.texts.length cx) (tstC c.test (.slice Gn c.test.names.length cn) (.slice Gk c.test.keys.length ck) (.slice Gs c.test.tests.length cs')) (.slice Gh c.thn.length ch) (.slice Ge c.els.length ce)).toArray 160)) := ba (Below.refl _ _) _
   have hO2 := HOj.out.alloc (.cells (cmdC c (.slice Gx c.texts.length cx) (tstC c.test (.slice Gn c.test.names.length cn) (.slice Gk c.test.keys.length ck) (.slice Gs c.test.tests.length cs')) (.slice Gh c.thn.length ch) (.slice Ge c.els.length ce)).toArray 160)
   have HC := Lib.hid (HI.out c _ F base R _ _ ((cCmd n).stable hrep (Same.of_below hb2) hb2.size) hFc HFL.out hO2.z hO2.tab hO2.wr hlen)
   have HO2 := Lib.hid hO2; have HL2 := Lib.hid hL2; have HLT := Lib.hid hlt
   have hjn : (j : Int) < nt := by rw [HNT.out]; omega
   clear hbel hrep hst hle hc hFc hL2 hlen hb2 hO2 hO hj
   go_wp2_with fail
   refine HC.out.mono ?_
   rintro e w5 ⟨rfl, hw5, hb5⟩
   have HO5 := Lib.hid (HO2.out.next hw5 hb5)
   clear hw5 hb5 HC HO2 c0 c1 c2 c3 c4 c5 c6 c7 c8 c9 c10 c11
   go_wp2_with fail
   go_roundw
   case rel => exact ⟨j + 1, by go_num, HLT.out, by rw [HL2.out]; exact HO5.out⟩
   case measure => have := HLT.out; simp [intOf]; omega
  ·obtain rfl : j = cs.length := by omega
   have hE : l ++ blkT (cs.flatMap wC) = (l ++ M 123 :: (cs.take cs.length).flatMap wC) ++ [M 125] := by rw [List.take_length]; unfold blkT; simp
   have hlen : (l ++ M 123 :: (cs.take cs.length).flatMap wC).length ≤ 4000000 := by
    have := HLN.out; rw [List.take_length, List.length_append, List.length_cons]; omega
   have HE := Lib.hid hE
   have hjn : (cs.length : Int) = nt := by rw [HNT.out]
   clear hE hO
   go_wp2_with fail
   refine (HP.out 5 _ [125] _ HOj.out.z HOj.out.wr (by omega)).mono ?_
   rintro e w6 ⟨rfl, hw6, hb6⟩
   have HO6 := Lib.hid (HOj.out.next hw6 hb6)
   clear hw6 hb6
   go_wp2_with fail
   go_returns
   exact ⟨rfl, by rw [HE.out]; exact HO6.out.wr, HO6.out.st⟩
theorem elseT_br {c : Cmd} (h : c.kind = 2) : elseT [c] ([c].flatMap wC) ([c].map wBr) = W elsifW :: wBr c := by
 unfold elseT; rw [if_pos (by simp [isElsif, h])]; simp
theorem elseT_bl {el : List Cmd} (h : isElsif el = false) (hne : el ≠ []) : elseT el (el.flatMap wC) (el.map wBr) = W elseW :: blkT (el.flatMap wC) := by
 unfold elseT; rw [if_neg (by rw [h]; simp), if_neg hne]
theorem blkT_len (x : List Tok) : (blkT x).length = x.length + 2 := by unfold blkT; rw [List.length_cons, List.length_append]; rfl
theorem wtB_succ (n : Nat) (IK : WtK n) (IB : WtB n) : WtB (n + 1) := by
 intro c vs F base R l w h hF h2 hFl hz htab hw hlen
 obtain ⟨m, Gx, cx, Gn, cn, Gk, ck, Gt, ct, Gh, ch, Ge, ce, hm, rfl, -, hT, hH, hE⟩ := cmd_open h
 obtain rfl : n = m := by omega
 have hwb := wBr_eq c
 obtain ⟨hx, hf⟩ := (FormC.iff c).1 hF
 rcases hf with ⟨-, fT, fH, fE⟩ | ⟨h, -⟩
 ·obtain ⟨k, tx, t, th, el⟩ := c
  simp only [cmdC, tstC, List.cons_append, List.nil_append] at *
  subst h2
  obtain ⟨vs, hvs⟩ : ∃ vs : List Value, vs = [.int .i64 2, .slice Gx tx.length cx, .int .i64 t.kind, .int .i64 t.mat, .int .i64 t.part, .slice Gn t.names.length cn, .slice Gk t.keys.length ck, .bool t.over, .int .i64 t.limit, .slice Gt t.tests.length ct, .slice Gh th.length ch, .slice Ge el.length ce] := ⟨_, rfl⟩
  have hst := wt_start (t := 160) (vs := vs) hz htab hw
  have hA0 : At w (w.alloc (.cells vs.toArray 160)) base R w.heap.size vs l := ⟨hst.2.2.1, hst.2.2.2.1, hst.1, hst.2.2.2.2.1, hst.2.1, hst.2.2.2.2.2.2⟩
  have hb0 : Below w.heap.size w (w.alloc (.cells vs.toArray 160)) := ba (Below.refl _ _) _
  have hne : w.heap.size ≠ R := hw.new.2.1
  have hlen' := hlen
  rw [hwb, List.length_append, List.length_append, blkT_len] at hlen'
  have H1 := Lib.hid (wtT_all (n + 1) t _ F base R l (w.alloc (.cells vs.toArray 160)) ((cTst (n + 1)).stable hT (Same.of_below hb0) hb0.size) fT hFl hA0.z hA0.tab hA0.wr (by omega))
  have HIK := Lib.hid (fun (cs : List Cmd) (v : Value) (l : List Tok) (w : World) (h : SAt (cCmd n) w F v cs) (hf : ∀ c ∈ cs, FormC c) (hz : base ≤ w.heap.size) (ht : Tabs w base) (hw : Wr w base R l) (hl : l.length + (cs.flatMap wC).length + 2 ≤ 4000000) => IK cs v F base R l w h hf hFl hz ht hw hl)
  have HIB := Lib.hid (fun (c : Cmd) (vs : List Value) (l : List Tok) (w : World) (h : (cCmd n).rep w F c vs) (hf : FormC c) (hk : c.kind = 2) (hz : base ≤ w.heap.size) (ht : Tabs w base) (hw : Wr w base R l) (hl : l.length + (wBr c).length ≤ 4000000) => IB c vs F base R l w h hf hk hFl hz ht hw hl)
  have HP := Lib.hid (fun (k : Int) (l : List Tok) (s : Str) (w : World) (hz : base ≤ w.heap.size) (h : Wr w base R l) (hl : l.length ≤ 10000000) => put_str base R l k s w hz h hl)
  obtain ⟨LF, hLF⟩ : ∃ LF, LF = l ++ wBr ⟨2, tx, t, th, el⟩ := ⟨_, rfl⟩
  rw [← hLF]
  have HLF : Hid (LF = ((l ++ wT t) ++ blkT (th.flatMap wC)) ++ elseT el (el.flatMap wC) (el.map wBr)) := by unfold Hid; rw [hLF, hwb]; simp
  have hA0v := hA0
  rw [hvs] at hA0v H1
  have HA0 := Lib.hid hA0v
  have HLN := Lib.hid hlen'
  have HHS := Lib.hid hH; have HES := Lib.hid hE; have HFH := Lib.hid fH; have HFE := Lib.hid fE; have HFL := Lib.hid hFl; have HWR := Lib.hid hw; have HZ := Lib.hid hz
  have hE0 : el = [] ∨ el ≠ [] := by cases el with
   | nil => exact .inl rfl
   | cons a b => exact .inr (by simp)
  obtain ⟨ne, hnn⟩ : ∃ ne, ne = el.length := ⟨_, rfl⟩
  rw [← hnn] at HA0 H1 HES ⊢
  have HNE := Lib.hid hnn
  obtain ⟨H, hHH⟩ : ∃ H, H = w.heap.size := ⟨_, rfl⟩
  rw [← hHH] at HA0 hne
  have HHH := Lib.hid hHH.symm
  clear IK IB hvs hst hA0 hb0 hlen hlen' hT hH hE hLF hwb hA0v h hF hFl hz htab hw hx fT fH fE hm hnn hHH
  go_enter Tryz.func139, Tryz.ntmps139
  go_wp2_with fail
  refine H1.out.mono ?_
  rintro e w1 ⟨rfl, hw1, hb1⟩
  have HA1 := Lib.hid (HA0.out.next hne hw1 hb1)
  obtain ⟨-, -, -, c10, c11⟩ := has_twelve HA1.out.has
  clear hw1 hb1 H1 HA0
  rw [HHH.out]
  go_wp2_with fail
  have hbel1 := HWR.out.below HZ.out HA1.out.st
  refine (HIK.out th _ _ w1 (HHS.out.stable (fun b hb _ => hbel1.block b (HFL.out b hb)) hbel1.size) HFH.out HA1.out.z HA1.out.tab HA1.out.wr (by have := HLN.out; rw [List.length_append]; omega)).mono ?_
  rintro e w2 ⟨rfl, hw2, hb2⟩
  have HA2 := Lib.hid (HA1.out.next hne hw2 hb2)
  obtain ⟨-, -, -, -, d11⟩ := has_twelve HA2.out.has
  have HBE := Lib.hid (HWR.out.below HZ.out HA2.out.st)
  clear hw2 hb2 c10 c11 hbel1 HA1 HHS HFH
  rcases els_cases el with ⟨c0, rfl, hk2, he⟩ | ⟨he, hcs⟩
  ·have HE := Lib.hid (elseT_br hk2)
   obtain ⟨g, off, Gx', cx', Gn', cn', Gk', ck', Gs', cs', Gh', ch', Ge', ce', rfl, hrep, e0, e1, ⟨e2, e3, e4, e5, e6, e7, e8, e9⟩, e10, e11⟩ := cmd_get HES.out (fun b hb _ => HBE.out.block b (HFL.out b hb)) HBE.out.size 0 (by simp)
   simp only [List.getElem_cons_zero, Nat.zero_mul, Nat.add_zero] at hrep e0 e1 e2 e3 e4 e5 e6 e7 e8 e9 e10 e11
   have q1 : ((ne : Int) == 1) = true := by rw [HNE.out]; rfl
   have q2 : 0 < ne := by rw [HNE.out]; simp
   have hk : ((c0.kind : Int) == 2) = true := beq_iff_eq.2 hk2
   have HREP := Lib.hid hrep; have HK2 := Lib.hid hk2
   have hlen2 : ((l ++ wT t) ++ blkT (th.flatMap wC)).length + 1 + (wBr c0).length ≤ 4000000 := by
    have := HLN.out; rw [HE.out] at this; simp only [List.length_append, blkT_len, List.length_cons] at this ⊢; omega
   have HL2 := Lib.hid hlen2
   clear he hrep hk2 hlen2 hE0
   go_wp2_with fail
   refine (HP.out 1 _ elsifW w2 HA2.out.z HA2.out.wr (by have := HL2.out; omega)).mono ?_
   rintro e w3 ⟨rfl, hw3, hb3⟩
   have HA3 := Lib.hid (HA2.out.next hne hw3 hb3)
   obtain ⟨-, -, -, -, f11⟩ := has_twelve HA3.out.has
   have hb23 := HA2.out.wr.below HA2.out.z hb3
   have HB23 := Lib.hid hb23
   have hgb : g < base := by
    obtain ⟨g', off', vs', hG, hFg, -⟩ := HES.out.get 0 (by simp)
    cases hG; exact HFL.out _ hFg
   have mv : ∀ (o : Nat) (v : Value), w2.cell? ⟨g, o, none⟩ = some v → w3.cell? ⟨g, o, none⟩ = some v := fun o v h => (HB23.out.cell (p := ⟨g, o, none⟩) hgb).trans h
   have y0 := mv _ _ e0; have y1 := mv _ _ e1; have y2 := mv _ _ e2; have y3 := mv _ _ e3; have y4 := mv _ _ e4; have y5 := mv _ _ e5; have y6 := mv _ _ e6; have y7 := mv _ _ e7; have y8 := mv _ _ e8; have y9 := mv _ _ e9; have y10 := mv _ _ e10; have y11 := mv _ _ e11
   clear hw3 hb3 d11 hb23 mv e0 e1 e2 e3 e4 e5 e6 e7 e8 e9 e10 e11
   go_wp2_with fail
   refine (HIB.out c0 _ _ w3 ((cCmd n).stable HREP.out (fun b hb _ => HB23.out.block b (HFL.out b hb)) HB23.out.size) (HFE.out _ (List.mem_singleton_self _)) HK2.out HA3.out.z HA3.out.tab HA3.out.wr (by have := HL2.out; rw [List.length_append]; exact this)).mono ?_
   rintro e w4 ⟨rfl, hw4, hb4⟩
   have HA4 := Lib.hid (HA3.out.next hne hw4 hb4)
   clear hw4 hb4
   go_wp2_with fail
   go_returns
   exact ⟨rfl, by rw [HLF.out, HE.out]; have := HA4.out.wr; rw [List.append_assoc _ [_]] at this; exact this, HA4.out.st⟩
  ·rcases hE0 with rfl | hne0
   ·have q1 : ((ne : Int) == 1) = false := by rw [HNE.out]; rfl
    have q2 : (ne : Int) = 0 := by rw [HNE.out]; rfl
    obtain rfl : ne = 0 := by omega
    clear he hcs q2
    go_wp2_with fail
    go_returns
    exact ⟨rfl, by rw [HLF.out]; have := HA2.out.wr; show Wr w2 base R (_ ++ []); rw [List.append_nil]; exact this, HA2.out.st⟩
   ·have HE := Lib.hid (elseT_bl he hne0)
    have hlen2 : ((l ++ wT t) ++ blkT (th.flatMap wC)).length + 1 + (el.flatMap wC).length + 2 ≤ 4000000 := by
     have := HLN.out; rw [HE.out] at this; simp only [List.length_append, blkT_len, List.length_cons] at this ⊢; omega
    have HL2 := Lib.hid hlen2
    have q3 : 0 < ne := by rw [HNE.out]; exact List.length_pos_iff.2 hne0
    have key : ((ne : Int) == 1) = false ∨ (((ne : Int) == 1) = true ∧ ∃ g off, Ge = some ⟨g, off, none⟩ ∧ ∃ kk : Int, w2.cell? ⟨g, off, none⟩ = some (.int .i64 kk) ∧ (kk == 2) = false) := by
     rcases hcs with ⟨c0, rfl, hk2⟩ | hcs
     ·obtain ⟨g, off, Gx', cx', Gn', cn', Gk', ck', Gs', cs', Gh', ch', Ge', ce', rfl, hrep, e0, -⟩ := cmd_get HES.out (fun b hb _ => HBE.out.block b (HFL.out b hb)) HBE.out.size 0 (by simp)
      simp only [List.getElem_cons_zero, Nat.zero_mul, Nat.add_zero] at e0
      exact .inr ⟨by rw [HNE.out]; rfl, g, off, rfl, _, e0, beq_eq_false_iff_ne.2 hk2⟩
     ·exact .inl (beq_eq_false_iff_ne.2 (by rw [HNE.out]; omega))
    clear he hcs hne0 hlen2
    rcases key with q1 | ⟨q1, g, off, rfl, kk, e0, q2⟩
    all_goals
     go_wp2_with fail
     refine (HP.out 1 _ elseW w2 HA2.out.z HA2.out.wr (by have := HL2.out; omega)).mono ?_
     rintro e w3 ⟨rfl, hw3, hb3⟩
     have HA3 := Lib.hid (HA2.out.next hne hw3 hb3)
     obtain ⟨-, -, -, -, f11⟩ := has_twelve HA3.out.has
     have HB3 := Lib.hid (HWR.out.below HZ.out HA3.out.st)
     clear hw3 hb3 d11
     go_wp2_with fail
     refine (HIK.out el _ _ w3 (HES.out.stable (fun b hb _ => HB3.out.block b (HFL.out b hb)) HB3.out.size) HFE.out HA3.out.z HA3.out.tab HA3.out.wr (by have := HL2.out; rw [List.length_append]; exact this)).mono ?_
     rintro e w4 ⟨rfl, hw4, hb4⟩
     have HA4 := Lib.hid (HA3.out.next hne hw4 hb4)
     clear hw4 hb4
     go_wp2_with fail
     go_returns
     exact ⟨rfl, by rw [HLF.out, HE.out]; have := HA4.out.wr; rw [List.append_assoc _ [_]] at this; exact this, HA4.out.st⟩
 ·exact absurd h2 h
theorem wtC_succ (n : Nat) (IB : WtB (n + 1)) : WtC (n + 1) := by
 intro c vs F base R l w h hF hFl hz htab hw hlen
 obtain ⟨m, Gx, cx, Gn, cn, Gk, ck, Gt, ct, Gh, ch, Ge, ce, hm, rfl, hX, -⟩ := cmd_open h
 have hk12 := hF.kind
 obtain ⟨hx, hf⟩ := (FormC.iff c).1 hF
 have hif : c.kind = 2 → wC c = W (wd cmdTab 2) :: wBr c := fun e => wC_if e
 have hel : c.kind ≠ 2 → wC c = W (wd cmdTab c.kind) :: ((if c.texts = [] then [] else listT c.texts) ++ [M 59]) := fun e => wC_else e
 have hsub := (wC_subs hF).1
 have IB' := fun l w h hk hz ht hw hl => IB c (cmdC c (.slice Gx c.texts.length cx) (tstC c.test (.slice Gn c.test.names.length cn) (.slice Gk c.test.keys.length ck) (.slice Gt c.test.tests.length ct)) (.slice Gh c.thn.length ch) (.slice Ge c.els.length ce)) F base R l w h hF hk hFl hz ht hw hl
 have hrepA := fun (wr : World) (hs : Same F w wr) (hz : w.heap.size ≤ wr.heap.size) => (cCmd (n + 1)).stable h hs hz
 obtain ⟨k, tx, t, th, el⟩ := c
 simp only [cmdC, tstC, List.cons_append, List.nil_append] at *
 obtain ⟨vs, hvs⟩ : ∃ vs : List Value, vs = [.int .i64 k, .slice Gx tx.length cx, .int .i64 t.kind, .int .i64 t.mat, .int .i64 t.part, .slice Gn t.names.length cn, .slice Gk t.keys.length ck, .bool t.over, .int .i64 t.limit, .slice Gt t.tests.length ct, .slice Gh th.length ch, .slice Ge el.length ce] := ⟨_, rfl⟩
 have hst := wt_start (t := 160) (vs := vs) hz htab hw
 have hA0 : At w (w.alloc (.cells vs.toArray 160)) base R w.heap.size vs l := ⟨hst.2.2.1, hst.2.2.2.1, hst.1, hst.2.2.2.2.1, hst.2.1, hst.2.2.2.2.2.2⟩
 have hne : w.heap.size ≠ R := hw.new.2.1
 have HP := Lib.hid (fun (k : Int) (l : List Tok) (s : Str) (w : World) (hz : base ≤ w.heap.size) (h : Wr w base R l) (hl : l.length ≤ 10000000) => put_str base R l k s w hz h hl)
 have HLI := Lib.hid (fun (l : List Tok) (ns : List Str) (v : Value) (w : World) (hz : base ≤ w.heap.size) (hv : SAt cStr w F v ns) (h : Wr w base R l) (hl : l.length + 2 * ns.length ≤ 9000000) => list_any base R l ns v F w hz hFl hv h hl)
 obtain ⟨LF, hLF⟩ : ∃ LF, LF = l ++ wC ⟨k, tx, t, th, el⟩ := ⟨_, rfl⟩
 rw [← hLF]
 have tt := tab_at hA0.tab.c (k := k) (by omega) (by show k.toNat < 11; omega)
 rw [hvs] at hA0 tt
 obtain ⟨W0, hW0⟩ : ∃ W0, W0 = w.alloc (.cells [Value.int .i64 k, .slice Gx tx.length cx, .int .i64 t.kind, .int .i64 t.mat, .int .i64 t.part, .slice Gn t.names.length cn, .slice Gk t.keys.length ck, .bool t.over, .int .i64 t.limit, .slice Gt t.tests.length ct, .slice Gh th.length ch, .slice Ge el.length ce].toArray 160) := ⟨_, rfl⟩
 rw [← hW0] at hA0 tt
 obtain ⟨H, hHH⟩ : ∃ H, H = w.heap.size := ⟨_, rfl⟩
 rw [← hHH] at hA0 hne
 obtain ⟨t0, -⟩ := has_twelve hA0.has
 have HA0 := Lib.hid hA0; have HLN := Lib.hid hlen; have HXS := Lib.hid hX; have HFL := Lib.hid hFl; have HWR := Lib.hid hw; have HZ := Lib.hid hz
 have HHH := Lib.hid hHH.symm; have HW0 := Lib.hid hW0.symm; have HIF := Lib.hid hif; have HEL := Lib.hid hel; have HLF := Lib.hid hLF; have HX := Lib.hid hx
 have HIB := Lib.hid IB'; have HRA := Lib.hid hrepA; have HSUB := Lib.hid hsub
 have hk1 := hk12.1; have hk2 := hk12.2
 clear IB hst hvs hA0 hlen hX hFl hw hz htab hHH hW0 hif hel hLF h hF hf hm hx IB' hrepA hk12 hsub
 go_enter Tryz.func114, Tryz.ntmps114
 go_upto_region 1 with fail
 rw [show w.alloc (.cells #[Value.int .i64 k, .slice Gx tx.length cx, .int .i64 t.kind, .int .i64 t.mat, .int .i64 t.part, .slice Gn t.names.length cn, .slice Gk t.keys.length ck, .bool t.over, .int .i64 t.limit, .slice Gt t.tests.length ct, .slice Gh th.length ch, .slice Ge el.length ce] 160) = W0 from HW0.out, HHH.out]
 go_wp2_with fail
 refine (HP.out 1 l _ W0 HA0.out.z HA0.out.wr (by have := HLN.out; omega)).mono ?_
 rintro e w1 ⟨rfl, hw1, hb1⟩
 have HA1 := Lib.hid (HA0.out.next hne hw1 hb1)
 obtain ⟨c0, c1, ⟨c2, c3, c4, c5, c6, c7, c8, c9⟩, c10, c11⟩ := has_twelve HA1.out.has
 have HBE := Lib.hid (HWR.out.below HZ.out HA1.out.st)
 clear hw1 hb1 HA0 tt t0
 by_cases h2 : k = 2
 ·have hwl := HIF.out h2
  have hlen2 : (l ++ [W (wd cmdTab k)]).length + (wBr ⟨k, tx, t, th, el⟩).length ≤ 4000000 := by have := HLN.out; rw [hwl] at this; simp only [List.length_append, List.length_cons, List.length_nil] at this ⊢; omega
  have HC := Lib.hid (HIB.out _ w1 (HRA.out w1 (fun b hb _ => HBE.out.block b (HFL.out b hb)) HBE.out.size) h2 HA1.out.z HA1.out.tab HA1.out.wr (by exact hlen2))
  have hE : LF = (l ++ [W (wd cmdTab k)]) ++ wBr ⟨k, tx, t, th, el⟩ := by rw [HLF.out, hwl, h2]; simp
  have HE := Lib.hid hE
  have q : ((k : Int) == 2) = true := beq_iff_eq.2 h2
  clear h2 hE hlen2 hwl
  go_wp2_with fail
  refine HC.out.mono ?_
  rintro e w4 ⟨rfl, hw4, hb4⟩
  have HA4 := Lib.hid (HA1.out.next hne hw4 hb4)
  clear hw4 hb4 HC
  go_wp2_with fail
  go_returns
  exact ⟨rfl, by rw [HE.out]; exact HA4.out.wr, HA4.out.st⟩
 ·have hwl := HEL.out h2
  have q : ((k : Int) == 2) = false := beq_eq_false_iff_ne.2 h2
  have hlt : (listT tx).length ≤ 4000000 ∨ tx = [] := by
   by_cases e : tx = []
   ·exact .inr e
   ·left; have := HLN.out; rw [hwl, if_neg e] at this; simp only [List.length_append, List.length_cons] at this; omega
  have hE : LF = (l ++ [W (wd cmdTab k)]) ++ ((if tx = [] then [] else listT tx) ++ [M 59]) := by rw [HLF.out, hwl]; simp
  have hln : (l ++ [W (wd cmdTab k)]).length + (if tx = [] then [] else listT tx : List Tok).length + 1 ≤ 4000000 := by
   have := HLN.out; rw [hwl] at this; simp only [List.length_append, List.length_cons, List.length_nil] at this ⊢; omega
  have HE := Lib.hid hE; have HLN2 := Lib.hid hln
  clear hE hln hlt hwl h2
  by_cases h0 : tx = []
  ·subst h0
   have hq0 : ([] : List Str).length = 0 := rfl
   rw [hq0] at c1 ⊢
   clear hq0
   go_wp2_with fail
   refine (HP.out 5 _ [59] w1 HA1.out.z HA1.out.wr (by have := HLN2.out; simp only [List.length_append, List.length_cons, List.length_nil] at this ⊢; omega)).mono ?_
   rintro e w4 ⟨rfl, hw4, hb4⟩
   have HA4 := Lib.hid (HA1.out.next hne hw4 hb4)
   clear hw4 hb4
   go_wp2_with fail
   go_returns
   exact ⟨rfl, by rw [HE.out]; exact HA4.out.wr, HA4.out.st⟩
  ·have hp : 0 < tx.length := List.length_pos_iff.2 h0
   rw [if_neg h0] at HE HLN2
   clear h0
   have hll := Lib.hid (listT_len tx)
   go_wp2_with fail
   refine (HLI.out _ tx _ w1 HA1.out.z (HXS.out.stable (fun b hb _ => HBE.out.block b (HFL.out b hb)) HBE.out.size) HA1.out.wr (by have h1 := HLN2.out; have h2 := hll.out; simp only [List.length_append, List.length_cons, List.length_nil] at h1 ⊢; omega)).mono ?_
   rintro e w3 ⟨rfl, hw3, hb3⟩
   have HA3 := Lib.hid (HA1.out.next hne hw3 hb3)
   clear hw3 hb3 c0 c1 c2 c3 c4 c5 c6 c7 c8 c9 c10 c11
   go_wp2_with fail
   refine (HP.out 5 _ [59] w3 HA3.out.z HA3.out.wr (by have := HLN2.out; simp only [List.length_append, List.length_cons, List.length_nil] at this ⊢; omega)).mono ?_
   rintro e w4 ⟨rfl, hw4, hb4⟩
   have HA4 := Lib.hid (HA3.out.next hne hw4 hb4)
   clear hw4 hb4
   go_wp2_with fail
   go_returns
   exact ⟨rfl, by rw [HE.out]; have := HA4.out.wr; rw [List.append_assoc _ (listT tx)] at this; exact this, HA4.out.st⟩
theorem wt_both : ∀ n, WtC n ∧ WtB n
 | 0 => ⟨fun _ _ _ _ _ _ _ h _ _ _ _ _ _ => h.elim, fun _ _ _ _ _ _ _ h _ _ _ _ _ _ _ => h.elim⟩
 | n + 1 =>
  have h := wt_both n
  have hb := wtB_succ n (wtK_of n h.1) h.2
  ⟨wtC_succ n hb, hb⟩
theorem wtC_all (n : Nat) : WtC n := (wt_both n).1
theorem wr_new (w w1 : World) (t : TypeId) (hb : Below w.heap.size w w1) : Wr (w1.alloc (.cells #[.slice none 0 0] t)) w.heap.size w1.heap.size [] :=
 ⟨.slice none 0 0, Has.alloc w1 [.slice none 0 0] t, hb.size, World.ownsRow_nil _ _ _ _, by intro e; cases e⟩
theorem wr_len {w : World} {base R : Nat} {l : List Tok} (h : Wr w base R l) : ∃ G c, w.cell? ⟨R, 0, none⟩ = some (.slice G l.length c) ∧ w.ownsRow base 147 3 (.slice G l.length c) l.length (tcells l) := by
 obtain ⟨v, h1, h2, h3, h4⟩ := h
 obtain ⟨G, c, rfl⟩ := row_slice h3
 exact ⟨G, c, h1.1 0 _ rfl, h3⟩
def CheckPost (r : Int) (w : World) (e : Ending) (w' : World) : Prop := e = .returned (.int .i64 r) ∧ Below w.heap.size w w'
theorem check_any (n : Nat) (cs : List Cmd) (v : Value) (F : Dom) (w : World) (hv : SAt (cCmd n) w F v cs) (hF : ∀ c ∈ cs, FormC c) (hFl : ∀ b, F b → b < w.heap.size) (htab : Tabs w w.heap.size) (hlen : (cs.flatMap wC).length ≤ 1000000) :
    Calls Tryz.prog 76 #[v] w (CheckPost (checkS cs) w) := by
 obtain ⟨G, cap, rfl, -⟩ := hv.form
 have hA := chkA_all n cs 0 _ F w hv hF (by omega) hlen
 obtain ⟨f, hf⟩ : ∃ f, f = cs.all (fitC 0) := ⟨_, rfl⟩
 have hr : checkS cs = if f = true then (if 400 < (cs.flatMap wC).length then 5 else 0) else 1 := by rw [hf]; rfl
 rw [← hf] at hA
 obtain ⟨r, hrr⟩ : ∃ r, r = checkS cs := ⟨_, rfl⟩
 rw [← hrr]
 have HR : Hid (r = if f = true then (if 400 < (cs.flatMap wC).length then 5 else 0) else 1) := by rw [hrr]; exact hr
 have hcl : cs.length ≤ 1000000 := by have := (flatC_len cs).1; omega
 obtain ⟨nt, hnt⟩ : ∃ nt, nt = cs.length := ⟨_, rfl⟩
 rw [← hnt] at hv hA ⊢
 have HI := Lib.hid (fun (c : Cmd) (vs : List Value) (R : Nat) (l : List Tok) (wx : World) (h : (cCmd n).rep wx F c vs) (hf : FormC c) (hz : w.heap.size ≤ wx.heap.size) (ht : Tabs wx w.heap.size) (hw : Wr wx w.heap.size R l) (hl : l.length + (wC c).length ≤ 4000000) => wtC_all n c vs F w.heap.size R l wx h hf hFl hz ht hw hl)
 have HNT := Lib.hid hnt; have HA := Lib.hid hA; have HF := Lib.hid hF; have HFL := Lib.hid hFl; have HV := Lib.hid hv; have HT := Lib.hid htab; have HLN := Lib.hid hlen
 clear hA hf hr hrr hF hFl hv htab hlen hnt
 go_enter Tryz.func76, Tryz.ntmps76
 go_wp2_with fail
 refine HA.out.mono ?_
 rintro e w1 ⟨rfl, hb1⟩
 have HB1 := Lib.hid hb1
 clear hb1 HA
 cases f
 ·obtain rfl : r = 1 := HR.out
  go_wp2_with fail
  go_ret
  exact ⟨rfl, HB1.out⟩
 ·have HB2 := Lib.hid (ba HB1.out (.cells #[.slice none 0 0] 207))
  have HO := Lib.hid (⟨wr_new w w1 207 HB1.out, WStep.refl _ _, HT.out.down (Nat.le_refl _) HB2.out, HB2.out.size⟩ : On (w1.alloc (.cells #[.slice none 0 0] 207)) (w1.alloc (.cells #[.slice none 0 0] 207)) w.heap.size w1.heap.size [])
  obtain ⟨R, hR⟩ : ∃ R, R = w1.heap.size := ⟨_, rfl⟩
  obtain ⟨W0, hW0⟩ : ∃ W0, W0 = w1.alloc (.cells #[.slice none 0 0] 207) := ⟨_, rfl⟩
  rw [← hW0] at HB2
  rw [← hR] at HO
  rw [← hW0] at HO
  have HRE := Lib.hid hR.symm; have HWE := Lib.hid hW0.symm
  clear hR hW0
  go_upto_region 5 with fail
  rw [HWE.out, HRE.out]
  clear HWE HRE
  go_wp2_with fail
  go_loopw [16] (fun v wr => ∃ j : Nat, v = .int .i64 j ∧ j ≤ cs.length ∧ On W0 wr w.heap.size R ((cs.take j).flatMap wC)) (fun v _ => cs.length - (intOf v).toNat)
  case atStart => exact ⟨0, rfl, Nat.zero_le _, HO.out⟩
  case round =>
   obtain ⟨j, rfl, hj, hO⟩ := hrel
   have HOj := Lib.hid hO
   have HBJ := Lib.hid (HB2.out.trans (HO.out.wr.below HO.out.z hO.st))
   by_cases hlt : j < cs.length
   ·obtain ⟨g, off, Gx, cx, Gn, cn, Gk, ck, Gs, cs', Gh, ch, Ge, ce, rfl, hrep, c0, c1, ⟨c2, c3, c4, c5, c6, c7, c8, c9⟩, c10, c11⟩ := cmd_get HV.out (fun b hb _ => HBJ.out.block b (HFL.out b hb)) HBJ.out.size j hlt
    have hst := flat_step cs j hlt
    have hle := flat_take_le cs (j + 1)
    obtain ⟨c, hc⟩ : ∃ c, c = cs[j] := ⟨_, rfl⟩
    have hFc : FormC c := by rw [hc]; exact HF.out _ (List.getElem_mem hlt)
    rw [← hc] at hrep c0 c1 c2 c3 c4 c5 c6 c7 c8 c9 c10 c11 hst
    have hlen : ((cs.take j).flatMap wC).length + (wC c).length ≤ 4000000 := by
     have := HLN.out; rw [hst] at hle; simp only [List.length_append] at hle; omega
    have hb2 : Below wr.heap.size wr (wr.alloc (.cells (cmdC c (.slice Gx c.texts.length cx) (tstC c.test (.slice Gn c.test.names.length cn) (.slice Gk c.test.keys.length ck) (.slice Gs c.test.tests.length cs')) (.slice Gh c.thn.length ch) (.slice Ge c.els.length ce)).toArray 160)) := ba (Below.refl _ _) _
    have hO2 := HOj.out.alloc (.cells (cmdC c (.slice Gx c.texts.length cx) (tstC c.test (.slice Gn c.test.names.length cn) (.slice Gk c.test.keys.length ck) (.slice Gs c.test.tests.length cs')) (.slice Gh c.thn.length ch) (.slice Ge c.els.length ce)).toArray 160)
    have HC := Lib.hid (HI.out c _ R _ _ ((cCmd n).stable hrep (Same.of_below hb2) hb2.size) hFc hO2.z hO2.tab hO2.wr hlen)
    have HO2 := Lib.hid hO2; have HL2 := Lib.hid hst; have HLT := Lib.hid hlt
    have hjn : (j : Int) < nt := by rw [HNT.out]; omega
    clear hrep hst hle hc hFc hlen hb2 hO2 hO hj
    go_wp2_with fail
    refine HC.out.mono ?_
    rintro e w5 ⟨rfl, hw5, hb5⟩
    have HO5 := Lib.hid (HO2.out.next hw5 hb5)
    clear hw5 hb5 HC HO2 c0 c1 c2 c3 c4 c5 c6 c7 c8 c9 c10 c11
    go_wp2_with fail
    go_roundw
    case rel => exact ⟨j + 1, by go_num, HLT.out, by rw [HL2.out]; exact HO5.out⟩
    case measure => have := HLT.out; simp [intOf]; omega
   ·obtain rfl : j = cs.length := by omega
    have hjn : (cs.length : Int) = nt := by rw [HNT.out]
    obtain ⟨Gr, cr, z0, -⟩ := wr_len hO.wr
    rw [List.take_length] at z0
    have hr2 : r = if 400 < (cs.flatMap wC).length then 5 else 0 := HR.out
    obtain ⟨N, hN⟩ : ∃ N, N = (cs.flatMap wC).length := ⟨_, rfl⟩
    rw [← hN] at z0 hr2
    clear hO hN
    by_cases h4 : 400 < N
    ·rw [if_pos h4] at hr2
     subst hr2
     have q : (400 : Int) < N := by omega
     clear h4
     go_wp2_with fail
     go_ret
     exact ⟨rfl, HBJ.out⟩
    ·rw [if_neg h4] at hr2
     subst hr2
     have q : (N : Int) ≤ 400 := by omega
     clear h4
     go_wp2_with fail
     go_ret
     exact ⟨rfl, HBJ.out⟩
end Go.Proofs.YtmkppkjikifdlaaGreatDoor.Sc
