/-
  DERIVED. 'Letter' of postroomkeep: the walk.
-/
import Derived.Test.YtdhepaeephmhiaaDoorLtrPlain
import Derived.Test.YtdhepaeephmhiaaDoorHas
import Derived.Deep.RegionHeld3
import Derived.Deep.DeepCutAuto
import Derived.BigRegion
namespace Go.Proofs.YtdhepaeephmhiaaDoor
open Go.RowKit

theorem mvd {B : Nat} {w w' : World} {b o : Nat} {v : Value} (h : w.cell? ⟨b, o, none⟩ = some v) (hb : Below B w.drew w') (hB : w.drew.heap.size ≤ B) : w'.cell? ⟨b, o, none⟩ = some v := moved (w := w.drew) h hb hB
theorem cal {w : World} {a : Addr} {v : Value} (o : Obj) (h : w.cell? a = some v) : (w.alloc o).cell? a = some v := (World.cell?_alloc_lt _ _ _ (World.block_lt_of_cell? w a h)).trans h
theorem bgr {B : Nat} {w wr w1 : World} {b : Nat} (hb : Below B w wr) (g : wr.grownBy w1 (some b)) (hB : B ≤ wr.heap.size) (hR : B ≤ b) : Below B w w1 :=
  ⟨g.os.trans hb.os, g.tape.trans hb.tape, g.output.trans hb.output, Nat.le_trans hb.size g.size, fun k hk => (g.block k (Nat.lt_of_lt_of_le hk hB) (by intro e; have := Option.some.inj e; omega)).trans (hb.block k hk)⟩
theorem picked_nat (n : Nat) (w : World) (h : n ≤ 1000000) : Calls Tryd.prog 7 #[.int .i64 n, .int .i64 5] w fun e w' => e = .returned (.int .i64 ((n % 5 : Nat) : Int)) ∧ w = w' := by
  have h1 := picked_any n 5 w (by omega) (by omega) (by omega) (by omega)
  have h2 : pick n 5 = n % 5 := by unfold pick; rw [if_neg (by omega)]; omega
  rw [h2] at h1; exact h1
/-- behind the first region: the message's variable -/
def MsgNew (fs : List Fld) (bd : ByteArray) (B0 : Nat) (W0 : World) (p : Value) (wx : World) : Prop :=
  ∃ M V, p = .pointer (some ⟨M, 0, none⟩) ∧ Pair wx M V (.string bd) ∧ wx.ownsRow B0 92 2 V fs.length (fcells fs) ∧ V.ownBlock ≠ some M ∧ W0.heap.size ≤ M ∧ Below W0.heap.size W0 wx
def letNames : List Value := [.string ⟨#[83, 117, 98, 106, 101, 99, 116]⟩, .string ⟨#[116, 111]⟩, .string ⟨#[70, 114, 111, 109]⟩, .string ⟨#[99, 99]⟩, .string ⟨#[88]⟩]
theorem letNames_at (n : Nat) : letNames[n % 5]? = some (.string ⟨(letN n).toArray⟩) := by
  have h : n % 5 < 5 := Nat.mod_lt _ (by decide)
  unfold letN
  match n % 5, h with
  | 0, _ => rfl
  | 1, _ => rfl
  | 2, _ => rfl
  | 3, _ => rfl
  | 4, _ => rfl
/-- what is in P's block and R's block -/
def PR (w : World) (P R : Nat) (a0 a1 a2 b0 b1 b2 : ByteArray) (v : Value) (bo : ByteArray) : Prop :=
  Has w P [.string a0, .string a1, .string a2, .string b0, .string b1, .string b2, v, .string bo] ∧ Has w R [.string ⟨#[]⟩, .string ⟨#[]⟩, .string ⟨#[]⟩, .string ⟨#[]⟩, .string ⟨#[]⟩]
theorem PR.down {w w' : World} {P R : Nat} {a0 a1 a2 b0 b1 b2 bo : ByteArray} {v : Value} (h : PR w P R a0 a1 a2 b0 b1 b2 v bo) (hb : Below w.heap.size w w') : PR w' P R a0 a1 a2 b0 b1 b2 v bo := ⟨h.1.down hb, h.2.down hb⟩
theorem Has.five {w : World} {b : Nat} {a0 a1 a2 a3 a4 : Value} (h : Has w b [a0, a1, a2, a3, a4]) : (w.cell? ⟨b, 0, none⟩ = some a0 ∧ w.cell? ⟨b, 1, none⟩ = some a1 ∧ w.cell? ⟨b, 2, none⟩ = some a2 ∧ w.cell? ⟨b, 3, none⟩ = some a3 ∧ w.cell? ⟨b, 4, none⟩ = some a4) ∧ (w.frozen? ⟨b, 0, none⟩ = false ∧ w.frozen? ⟨b, 1, none⟩ = false ∧ w.frozen? ⟨b, 2, none⟩ = false ∧ w.frozen? ⟨b, 3, none⟩ = false ∧ w.frozen? ⟨b, 4, none⟩ = false) :=
  ⟨⟨h.1 0 _ rfl, h.1 1 _ rfl, h.1 2 _ rfl, h.1 3 _ rfl, h.1 4 _ rfl⟩, ⟨h.2.1 0 (by simp), h.2.1 1 (by simp), h.2.1 2 (by simp), h.2.1 3 (by simp), h.2.1 4 (by simp)⟩⟩
theorem Has.eight {w : World} {b : Nat} {a0 a1 a2 a3 a4 a5 a6 a7 : Value} (h : Has w b [a0, a1, a2, a3, a4, a5, a6, a7]) : w.cell? ⟨b, 0, none⟩ = some a0 ∧ w.cell? ⟨b, 1, none⟩ = some a1 ∧ w.cell? ⟨b, 2, none⟩ = some a2 ∧ w.cell? ⟨b, 3, none⟩ = some a3 ∧ w.cell? ⟨b, 4, none⟩ = some a4 ∧ w.cell? ⟨b, 5, none⟩ = some a5 ∧ w.cell? ⟨b, 6, none⟩ = some a6 ∧ w.cell? ⟨b, 7, none⟩ = some a7 :=
  ⟨h.1 0 _ rfl, h.1 1 _ rfl, h.1 2 _ rfl, h.1 3 _ rfl, h.1 4 _ rfl, h.1 5 _ rfl, h.1 6 _ rfl, h.1 7 _ rfl⟩

theorem strRows_down {w w' : World} {a : Option Addr} {len k : Nat} {x : Nat → Nat → ByteArray} (h : StrRows w a len k x) (hb : Below w.heap.size w w') : StrRows w' a len k x := by
  intro i hi
  obtain ⟨b, off, ha, hlt, hc⟩ := h i hi
  exact ⟨b, off, ha, Nat.lt_of_lt_of_le hlt hb.size, fun j hj => ⟨moved (hc j hj).1 hb (Nat.le_refl _), (hc j hj).2⟩⟩
theorem msg_new {fs : List Fld} {bd : ByteArray} {W0 wa w4 : World} {v : Value} {t : TypeId} (hw : W0.heap.size ≤ wa.heap.size) (hb : Below W0.heap.size W0 w4) (hr : w4.ownsRow wa.heap.size 92 2 v fs.length (fcells fs)) :
    MsgNew fs bd W0.heap.size W0 (.pointer (some ⟨w4.heap.size, 0, none⟩)) (w4.alloc (.cells #[v, .string bd] t)) :=
  ⟨w4.heap.size, v, rfl, Pair.alloc _ _ _ _, row_down (row_base hw hr) (ba (Below.refl _ _) _), fun e => by have := (World.ownsRow.lt hr _ e).2; omega, hb.size, ba hb _⟩
theorem msg_at {fs : List Fld} {bd : ByteArray} {W0 wa w4 : World} {v x y : Value} {M : Nat} (hw : W0.heap.size ≤ M) (hM : M < wa.heap.size) (hp : Pair w4 M x y) (hb : Below W0.heap.size W0 w4) (hr : w4.ownsRow wa.heap.size 92 2 v fs.length (fcells fs)) :
    MsgNew fs bd W0.heap.size W0 (.pointer (some ⟨M, 0, none⟩)) ((w4.setCell ⟨M, 0, none⟩ v).setCell ⟨M, 1, none⟩ (.string bd)) := by
  have hne : v.ownBlock ≠ some M := fun e => by have := (World.ownsRow.lt hr _ e).1; omega
  have hgr : w4.grownBy ((w4.setCell ⟨M, 0, none⟩ v).setCell ⟨M, 1, none⟩ (.string bd)) (some M) := Go.Lib.grownBy_setB (Go.Lib.grownBy_setB (World.grownBy.refl w4 (some M)) 0 _) 1 _
  exact ⟨M, v, rfl, hp.set _ _, World.ownsRow.kept (row_base (by omega) hr) hgr (.inr hne), hne, hw, bgr hb hgr hb.size hw⟩
theorem row_slice {w : World} {B : Nat} {t : TypeId} {k n : Nat} {v : Value} {L : List Value} (h : w.ownsRow B t k v n L) : ∃ Gv cv, v = .slice Gv n cv := by
  rcases h.2 with ⟨h1, h2⟩ | ⟨g, cap, _, h1, _⟩
  · exact ⟨none, 0, by rw [h1, h2]⟩
  · exact ⟨_, _, h1⟩
theorem ltr_step {W0 wr : World} {M g cap n k : Nat} {bd : Value} {cs : List Value} {u : Value} {o : Obj} (hgM : g ≠ M) (hg0 : W0.heap.size ≤ g) (hp : Pair wr M (.slice (some ⟨g, 0, none⟩) n cap) bd) (hr : wr.ownsRow W0.heap.size 92 2 (.slice (some ⟨g, 0, none⟩) n cap) n cs) (hb : Below W0.heap.size W0 wr) :
    Pair ((wr.setCell ⟨g, k, none⟩ u).alloc o).drew M (.slice (some ⟨g, 0, none⟩) n cap) bd ∧ ((wr.setCell ⟨g, k, none⟩ u).alloc o).drew.ownsRow W0.heap.size 92 2 (.slice (some ⟨g, 0, none⟩) n cap) n (cs.set k u) ∧ Below W0.heap.size W0 ((wr.setCell ⟨g, k, none⟩ u).alloc o).drew := by
  have hd : Below (wr.setCell ⟨g, k, none⟩ u).heap.size (wr.setCell ⟨g, k, none⟩ u) ((wr.setCell ⟨g, k, none⟩ u).alloc o).drew := Below.drew (ba (Below.refl _ _) _)
  refine ⟨?_, row_down (hr.stored k u).1 hd, bt (hb.setCell hg0 u) hd⟩
  have h := hp.else0 (i := k) (fun e => hgM e.symm) u
  exact h.below hd h.2.2.2.2
theorem letter_end {R : Nat} {x0 x1 x2 x3 x4 : ByteArray} {a : Act} {W w : World} (ht : a.tmps.getD 2 undef = .pointer (some ⟨R, 0, none⟩)) (h3 : a.tmps.getD 3 undef = .bool true) (hd : a.defers = []) (h : Has W R [.string x0, .string x1, .string x2, .string x3, .string x4]) (hb : Below w.heap.size w W) :
    bodyPost Tryd.prog Tryd.f13 (fun e w' => e = .returned (.tuple #[.agg #[.string x0, .string x1, .string x2, .string x3, .string x4], .bool true]) ∧ Below w.heap.size w w') .ret a W := by
  obtain ⟨⟨c0, c1, c2, c3, c4⟩, -⟩ := h.five
  refine bodyPost_ret (v := .tuple #[.agg #[.string x0, .string x1, .string x2, .string x3, .string x4], .bool true]) ?_ hd ⟨rfl, hb⟩
  have ht' : a.tmps[2]?.getD undef = .pointer (some ⟨R, 0, none⟩) := by simpa using ht
  have h3' : a.tmps[3]?.getD undef = .bool true := by simpa using h3
  simp [results, Tryd.results13, go_sem, ht', h3', c0, c1, c2, c3, c4]
theorem mk_arr (b : ByteArray) : (⟨b.data.toList.toArray⟩ : ByteArray) = b := Lib.mk_data b

set_option maxHeartbeats 8000000 in
set_option maxRecDepth 20000 in
theorem letter_any (a0 a1 a2 b0 b1 b2 : ByteArray) (G : Option Addr) (n c : Nat) (x : Nat → Nat → ByteArray) (bo : ByteArray) (m : Int) (w : World) (h0 : a0.size ≤ maxLen) (h1 : a1.size ≤ maxLen) (k0 : b0.size ≤ maxLen) (k1 : b1.size ≤ maxLen) (hx : StrRows w G n 2 x ∧ n ≤ maxLen) (hbo : bo.size ≤ maxLen) (hm : w.cell? ⟨0, 0, none⟩ = some (.int .i64 m)) :
    Calls Tryd.prog 13 #[.agg #[.string a0, .string a1, .string a2, .string b0, .string b1, .string b2, .slice G n c, .string bo]] w fun e w' => e = .returned (.tuple #[.agg #[.string (addrL a0.data.toList), .string (addrD a1.data.toList), .string (addrL b0.data.toList), .string (addrD b1.data.toList), .string ⟨(ltrT x n bo.data.toList).toArray⟩], .bool true]) ∧ Below w.heap.size w w' := by
  obtain ⟨hx, hn⟩ := hx
  have hA := ba (ba (Below.refl w.heap.size w) (.cells #[.string a0, .string a1, .string a2, .string b0, .string b1, .string b2, .slice G n c, .string bo] 42)) (.cells #[.string ⟨#[]⟩, .string ⟨#[]⟩, .string ⟨#[]⟩, .string ⟨#[]⟩, .string ⟨#[]⟩] 55)
  have hP : PR ((w.alloc (.cells #[.string a0, .string a1, .string a2, .string b0, .string b1, .string b2, .slice G n c, .string bo] 42)).alloc (.cells #[.string ⟨#[]⟩, .string ⟨#[]⟩, .string ⟨#[]⟩, .string ⟨#[]⟩, .string ⟨#[]⟩] 55)) w.heap.size (w.heap.size + 1) a0 a1 a2 b0 b1 b2 (.slice G n c) bo := by
    have g1 := Has.alloc w [.string a0, .string a1, .string a2, .string b0, .string b1, .string b2, .slice G n c, .string bo] 42
    have g2 := Has.alloc (w.alloc (.cells #[.string a0, .string a1, .string a2, .string b0, .string b1, .string b2, .slice G n c, .string bo] 42)) [.string ⟨#[]⟩, .string ⟨#[]⟩, .string ⟨#[]⟩, .string ⟨#[]⟩, .string ⟨#[]⟩] 55
    rw [World.size_alloc] at g2
    exact ⟨g1.down (ba (Below.refl _ _) _), g2⟩
  have HX := Lib.hid hx
  have HP := Lib.hid hP; have HA := Lib.hid hA
  have HM := Lib.hid (moved hm hA (Nat.le_refl _))
  obtain ⟨BD, hBD⟩ : ∃ BD : ByteArray, BD = ⟨(bo.data.toList.take 100).toArray⟩ := ⟨_, rfl⟩
  have hBl : BD.data.toList = bo.data.toList.take 100 := by rw [hBD]
  have hBt : BD.data.toList.take 200 = BD.data.toList := by rw [hBl, List.take_take]; rfl
  have hBs : BD.size ≤ 100 := take_size bo BD 100 hBD
  have HCUT : Hid (∀ w : World, Calls Tryd.prog 28 #[.string bo, .int .i64 100] w fun e w' => e = .returned (.string BD) ∧ w = w') := by
    intro w; rw [hBD]; exact clip_any bo 100 w (Nat.le_trans hbo (by decide)) (by decide) (by decide)
  have HMSG : Hid (∀ w' : World, Below w.heap.size w w' → Calls Tryd.prog 27 #[.slice G n c, .string BD] w' fun e w'' => (∃ v, e = .returned (.agg #[v, .string BD]) ∧ w''.ownsRow w'.heap.size 92 2 v (msgL x (min n 6)).length (fcells (msgL x (min n 6)))) ∧ Below w'.heap.size w' w'') := by
    intro w' hb
    have h := message_any G n c x BD w' (strRows_down hx hb) hn (Nat.le_trans hBs (by decide))
    rw [hBt, mk_arr] at h
    rw [msgL_len]; exact h
  have HT : Hid (ltrT x n bo.data.toList = showL (ltrFs x n) BD.data.toList) := by unfold Hid ltrT; rw [hBl]
  have hfv := msg_val x (min n 6)
  have hgd := ltrFs_good x n; have hfl := ltrFs_len x n; have hfz := ltrFs_size x n; have htl := ltrT_len x n bo.data.toList
  have HFS : Hid (ltrFs x n = ltrJ (msgL x (min n 6)) (msgL x (min n 6)).length) := by
    unfold Hid ltrFs ltrJ
    rw [List.take_length, List.drop_length, List.append_nil]
  obtain ⟨fs, hfs⟩ : ∃ fs, fs = msgL x (min n 6) := ⟨_, rfl⟩
  have hfs6 : fs.length ≤ 6 := by rw [hfs, msgL_len]; omega
  rw [← hfs] at HMSG hfv HFS
  have HFV := Lib.hid hfv; have HGD := Lib.hid hgd; have HFL := Lib.hid hfl; have HFZ := Lib.hid hfz; have HTL := Lib.hid htl
  unfold maxLen at h0 h1 k0 k1 hn hbo
  have HAD : Hid (∀ (a d v : ByteArray) (w : World), a.size ≤ 9223372036854775807 → d.size ≤ 9223372036854775807 → Calls Tryd.prog 11 #[.agg #[.string a, .string d, .string v]] w fun e w' => e = .returned (.agg #[.string (addrL a.data.toList), .string (addrD d.data.toList)]) ∧ Below w.heap.size w w') := fun a d v w h h' => address_any a d v w (by omega) (by omega)
  clear hA hP hBD hBl hBt hx hm hfv hgd hfl hfz htl hfs
  obtain ⟨W0, hW0⟩ : ∃ W0, W0 = ((w.alloc (.cells #[.string a0, .string a1, .string a2, .string b0, .string b1, .string b2, .slice G n c, .string bo] 42)).alloc (.cells #[.string ⟨#[]⟩, .string ⟨#[]⟩, .string ⟨#[]⟩, .string ⟨#[]⟩, .string ⟨#[]⟩] 55)) := ⟨_, rfl⟩
  rw [← hW0] at HP HA HM
  have HW0 := Lib.hid hW0.symm
  clear hW0
  go_enter Tryd.func13, Tryd.ntmps13
  go_upto_region 1 with fail
  rw [HW0.out]
  obtain ⟨P, hP⟩ : ∃ P, P = w.heap.size := ⟨_, rfl⟩
  obtain ⟨R, hR⟩ : ∃ R, R = w.heap.size + 1 := ⟨_, rfl⟩
  rw [← hR, ← hP] at HP ⊢
  have o1 : P < R := by omega
  have o2 : w.heap.size ≤ P := by omega
  have o3 : R < W0.heap.size := HP.out.2.2.2
  clear hP hR HW0
  obtain ⟨-, -, -, -, -, -, p6, p7⟩ := HP.out.1.eight
  have HWa : Hid (Below W0.heap.size W0 W0.drew) := Below.drew (Below.refl _ _)
  have HWb : Hid (Below W0.heap.size W0 (W0.alloc (.cells #[.slice none 0 0, .string ⟨#[]⟩] 88)).drew) := Below.drew (ba (Below.refl _ _) _)
  have HZ : Hid (Pair (W0.alloc (.cells #[.slice none 0 0, .string ⟨#[]⟩] 88)).drew W0.heap.size (.slice none 0 0) (.string ⟨#[]⟩)) := (Pair.alloc W0 _ _ _).below (B := (W0.alloc (.cells #[.slice none 0 0, .string ⟨#[]⟩] 88)).heap.size) (Below.drew (Below.refl _ _)) (by rw [World.size_alloc]; omega)
  have n1 : W0.heap.size ≠ P := by omega
  have p6a := cal (.cells #[.slice none 0 0, .string ⟨#[]⟩] 88) p6; have p7a := cal (.cells #[.slice none 0 0, .string ⟨#[]⟩] 88) p7
  go_cut [4] (MsgNew fs BD W0.heap.size W0)
  case first =>
    go_region_with (first
      | (go_at_call 28; refine (HCUT.out _).mono ?_; rintro e w' ⟨rfl, rfl⟩)
      | (go_at_call 27; refine (HMSG.out _ (by first | exact bt HA.out HWa.out | exact bt HA.out HWb.out)).mono ?_; intro e w4 hp; obtain ⟨⟨v, rfl, hown⟩, hb4⟩ := hp; obtain ⟨Gv, cv, hvv⟩ := row_slice hown; subst hvv; first | (with_reducible have hbA : Below W0.drew.heap.size W0.drew w4 := hb4) | ((with_reducible have hbB : Below (W0.alloc (.cells #[.slice none 0 0, .string ⟨#[]⟩] 88)).drew.heap.size (W0.alloc (.cells #[.slice none 0 0, .string ⟨#[]⟩] 88)).drew w4 := hb4); have kk := HZ.out.below hb4 (by simp); obtain ⟨z0, z1, zf0, zf1, -⟩ := kk)))
    all_goals
      go_wp2_with fail
      go_meet
      case rel => first
        | (have _t := hbA; exact msg_new HWa.out.size (bt HWa.out hb4) hown)
        | (have _t := hbB; exact msg_at (Nat.le_refl _) (by simp) ⟨z0, z1, zf0, zf1, by have := hb4.size; simp at this; omega⟩ (bt HWb.out hb4) hown)
  case rest =>
    obtain ⟨M, V, rfl, hpr, hrow, hvm, hM0, hb1⟩ := hcut
    have HP0 := HP; have HM0 := HM
    have o4 : M ≠ P ∧ M ≠ R := by omega
    obtain ⟨o4, o5⟩ := o4
    have HRow := Lib.hid hrow; have HPair := Lib.hid hpr; have HB1 := Lib.hid hb1; have HVM := Lib.hid hvm
    have o6 : W0.heap.size ≤ wc.heap.size := hb1.size
    clear hb1 hpr hrow hvm p6 p7 p6a p7a HWa HWb HZ HP HM n1 HCUT HMSG
    go_wp2_with fail
    go_loopw [5] (fun i wr => ∃ j : Nat, j ≤ fs.length ∧ i = .int .i64 j ∧ Pair wr M V (.string BD) ∧ wr.ownsRow W0.heap.size 92 2 V fs.length (fcells (ltrJ fs j)) ∧ Below W0.heap.size W0 wr) (fun i _ => fs.length - (intOf i).toNat)
    case atStart => exact ⟨0, Nat.zero_le _, rfl, HPair.out, HRow.out, HB1.out⟩
    case round =>
      obtain ⟨j, hj, rfl, hpr, hrow, hb⟩ := hrel
      by_cases hlt : j < fs.length
      · obtain ⟨g, cap, rfl, hg0, hg⟩ := World.ownsRow.form hrow (by omega)
        have hgM : g ≠ M := fun e => HVM.out (by rw [e]; rfl)
        obtain ⟨f, hf⟩ : ∃ f, f = fs[j] := ⟨_, rfl⟩
        have hf2 : f.2.length ≤ 40 := by rw [hf]; exact HFV.out _ (List.getElem_mem hlt)
        have hLj := ltrJ_at hlt
        have hLn := ltrJ_next hlt
        rw [← hf] at hLj hLn
        obtain ⟨L, hL⟩ : ∃ L, L = ltrJ fs j := ⟨_, rfl⟩
        rw [← hL] at hLj hLn hrow
        have hc0 := (hrow.cellAt (j * 2) (by omega)).trans (fcells_at L j f hLj).1
        have hc1 := (hrow.cellAt (j * 2 + 1) (by omega)).trans (fcells_at L j f hLj).2
        have hfr0 := hrow.frozenAt (j * 2); have hfr1 := hrow.frozenAt (j * 2 + 1)
        have hLN := fcells_name j L f (letN f.2.length) hLj
        have hLj2 : (L.set j (letN f.2.length, f.2))[j]? = some (letN f.2.length, f.2) := by
          have : j < L.length := by rw [hL, ltrJ_len]; exact hlt
          rw [List.getElem?_set_self this]
        have hLV := fcells_val j (L.set j (letN f.2.length, f.2)) (letN f.2.length, f.2) annL hLj2
        rw [List.set_set] at hLV
        have gA := letNames_at f.2.length
        obtain ⟨B, hB⟩ : ∃ B : ByteArray, B = ⟨f.2.toArray⟩ := ⟨_, rfl⟩
        have hBn : B.size = f.2.length := by rw [hB]; rfl
        rw [← hB] at hc1
        obtain ⟨NM, hNM⟩ : ∃ NM : ByteArray, NM = ⟨(letN f.2.length).toArray⟩ := ⟨_, rfl⟩
        rw [← hNM] at gA hLN
        obtain ⟨k5, hk5⟩ : ∃ k5, k5 = f.2.length % 5 := ⟨_, rfl⟩
        have hk5' : k5 < 5 := by rw [hk5]; exact Nat.mod_lt _ (by decide)
        rw [← hk5] at gA
        have HPK : Hid (∀ w, Calls Tryd.prog 7 #[.int .i64 B.size, .int .i64 5] w fun e w' => e = .returned (.int .i64 k5) ∧ w = w') := by
          intro w; rw [hk5, ← hBn]; exact picked_nat B.size w (by omega)
        have HLJ2 := Lib.hid hLj2; have HBE := Lib.hid hB
        have HLN := Lib.hid hLN; have HLV := Lib.hid hLV; have HLX := Lib.hid hLn; have HBN := Lib.hid hBn; have HK5 := Lib.hid hk5; have HNM := Lib.hid hNM; have HL := Lib.hid hL; have HF := Lib.hid hf
        have hBs40 : B.size ≤ 40 := by omega
        have HROW := Lib.hid hrow; have HB := Lib.hid hb; have HPA := Lib.hid hpr
        obtain ⟨q0, q1, -, -, hMw⟩ := hpr
        have dj : decide ((j : Int) < (fs.length : Int)) = true := decide_eq_true (by omega)
        clear hrow hb hf hLj hLn hL hLN hLj2 hLV hB hBn hNM hk5 HRow HPair HB1
        go_upto_region 5 with fail
        clear dj
        have i1 : (0 : Int) ≤ j := by omega
        have i2 : (j : Int) < fs.length := by omega
        have n1 : wr.heap.size ≠ g := by omega
        have n2 : wr.heap.size ≠ M := by omega
        have i3 : (0 : Int) ≤ k5 := by omega
        have i4 : (k5 : Int) < 5 := by omega
        have gA3 : (wr.alloc (.cells #[.string ⟨#[83, 117, 98, 106, 101, 99, 116]⟩, .string ⟨#[116, 111]⟩, .string ⟨#[70, 114, 111, 109]⟩, .string ⟨#[99, 99]⟩, .string ⟨#[88]⟩] 9)).cell? ⟨wr.heap.size, k5, none⟩ = some (.string NM) := (Has.alloc wr letNames 9).1 k5 _ gA
        have q0a := cal (.cells #[.string ⟨#[83, 117, 98, 106, 101, 99, 116]⟩, .string ⟨#[116, 111]⟩, .string ⟨#[70, 114, 111, 109]⟩, .string ⟨#[99, 99]⟩, .string ⟨#[88]⟩] 9) q0; have hc1a := cal (.cells #[.string ⟨#[83, 117, 98, 106, 101, 99, 116]⟩, .string ⟨#[116, 111]⟩, .string ⟨#[70, 114, 111, 109]⟩, .string ⟨#[99, 99]⟩, .string ⟨#[88]⟩] 9) hc1; have hc0a := cal (.cells #[.string ⟨#[83, 117, 98, 106, 101, 99, 116]⟩, .string ⟨#[116, 111]⟩, .string ⟨#[70, 114, 111, 109]⟩, .string ⟨#[99, 99]⟩, .string ⟨#[88]⟩] 9) hc0
        clear gA hk5'
        go_cut [5] (fun i wx => i = .int .i64 j ∧ Pair wx M (.slice (some ⟨g, 0, none⟩) fs.length cap) (.string BD) ∧ wx.ownsRow W0.heap.size 92 2 (.slice (some ⟨g, 0, none⟩) fs.length cap) fs.length (fcells (L.set j (letN f.2.length, f.2))) ∧ Below W0.heap.size W0 wx)
        case first =>
          go_region_with ((go_at_call 7; refine (HPK.out _).mono ?_; rintro e w' ⟨rfl, rfl⟩))
          all_goals
            go_wp2_with fail
            go_meet
            case rel => exact ⟨rfl, by rw [HLN.out]; exact ltr_step hgM hg0 HPA.out HROW.out HB.out⟩
        case rest =>
          obtain ⟨rfl, hpr2, hrow2, hb2⟩ := hcut
          have r0 := (hrow2.cellAt (j * 2) (by omega)).trans (fcells_at _ j _ HLJ2.out).1
          have r1 := (hrow2.cellAt (j * 2 + 1) (by omega)).trans (fcells_at _ j _ HLJ2.out).2
          have s0 := hrow2.frozenAt (j * 2); have s1 := hrow2.frozenAt (j * 2 + 1)
          have HPR2 := Lib.hid hpr2
          obtain ⟨t0, t1, tf0, tf1, -⟩ := hpr2
          have HROW2 := Lib.hid hrow2; have HB2 := Lib.hid hb2
          have hBe : (⟨f.2.toArray⟩ : ByteArray) = B := HBE.out.symm
          simp only [hBe] at r1
          clear hrow2 hb2 HPA HROW HB hBe q0 q1 hc0 hc1 hfr0 hfr1 gA3 q0a hc1a hc0a HLN HPK
          by_cases hk1 : f.2.length % 5 = 1
          · have hN : letN f.2.length = [116, 111] := by unfold letN; rw [hk1]; rfl
            simp only [hN] at r0
            by_cases hodd : f.2.length % 2 = 1
            · have hF : Hid (letF f = (letN f.2.length, annL)) := by unfold Hid letF; rw [if_pos ⟨hk1, hodd⟩]
              have qo : ((B.size : Int) % 2 == 1) = true := beq_iff_eq.2 (by have := HBN.out; omega)
              clear hk1 hN hodd
              go_wp2_with fail
              go_roundw
              case rel => exact ⟨j + 1, by omega, by go_num, HPR2.out.else0 (fun e => hgM e.symm) _, by rw [← HLX.out, hF.out, HLV.out]; exact (HROW2.out.stored (j * 2 + 1) _).1, HB2.out.setCell hg0 _⟩
              case measure => simp [intOf]; omega
            · have hF : Hid (letF f = (letN f.2.length, f.2)) := by unfold Hid letF; rw [if_neg (fun h => hodd h.2)]
              have qo : ((B.size : Int) % 2 == 1) = false := beq_eq_false_iff_ne.2 (by have := HBN.out; omega)
              clear hk1 hN hodd
              go_wp2_with fail
              go_roundw
              case rel => exact ⟨j + 1, by omega, by go_num, HPR2.out, by rw [← HLX.out, hF.out]; exact HROW2.out, HB2.out⟩
              case measure => simp [intOf]; omega
          · have hF : Hid (letF f = (letN f.2.length, f.2)) := by unfold Hid letF; rw [if_neg (fun h => hk1 h.1)]
            have qn : (letN f.2.length = [116, 111]) = False := eq_false (by unfold letN; have : f.2.length % 5 < 5 := Nat.mod_lt _ (by decide); intro e; split at e <;> first | (simp at e; done) | (rename_i h; exact hk1 h))
            clear hk1
            go_wp2_with fail
            go_roundw
            case rel => exact ⟨j + 1, by omega, by go_num, HPR2.out, by rw [← HLX.out, hF.out]; exact HROW2.out, HB2.out⟩
            case measure => simp [intOf]; omega
      · obtain rfl : j = fs.length := by omega
        obtain ⟨Gv, cv, hV⟩ := row_slice hrow
        subst hV
        obtain ⟨t0, t1, -, -, -⟩ := id hpr
        have hFA : FldsAt wr (.slice Gv fs.length cv) (ltrFs x n) := by rw [HFS.out]; exact FldsAt.of_row (by rw [ltrJ_len]; exact hrow)
        have hsh := show_walk (ltrFs x n) (.slice Gv fs.length cv) BD ⟨(ltrT x n bo.data.toList).toArray⟩ m wr (by rw [HT.out]) hFA HGD.out (by rw [HFL.out]; omega) (by have := HFZ.out; omega) (moved HM0.out hb (Nat.le_refl _))
        have HSH := Lib.hid hsh
        have HP3 := Lib.hid (HP0.out.down hb); have HB3 := Lib.hid (bt HA.out hb)
        clear HRow HPair HB1 hsh hFA hrow hpr hb HM0 HP0
        go_wp2_with fail
        refine HSH.out.mono ?_
        rintro e w3 ⟨rfl, hb3⟩
        have HP4 := Lib.hid (HP3.out.down hb3); have HB4 := Lib.hid (bt HB3.out hb3)
        clear hb3 HSH HP3 HB3
        obtain ⟨p0, p1, p2, p3, p4, p5, -, -⟩ := HP4.out.1.eight
        obtain ⟨⟨r0, r1, r2, r3, r4⟩, ⟨g0, g1, g2, g3, g4⟩⟩ := HP4.out.2.five
        have htl := HTL.out
        have hTs : ((⟨(ltrT x n bo.data.toList).toArray⟩ : ByteArray).size : Int) ≥ 2 := by show ((List.toArray _).size : Int) ≥ 2; rw [List.size_toArray]; omega
        obtain ⟨TX, hTX⟩ : ∃ TX : ByteArray, TX = ⟨(ltrT x n bo.data.toList).toArray⟩ := ⟨_, rfl⟩
        rw [← hTX] at hTs ⊢
        have HTX := Lib.hid hTX
        have nPR : R ≠ P := by omega
        have nRP : P ≠ R := by omega
        clear hTX htl
        go_wp2_with fail
        go_region_held3 (fun w' => w'.cell? ⟨P, 0, none⟩ = some (.string a0) ∧ w'.cell? ⟨P, 1, none⟩ = some (.string a1) ∧ w'.cell? ⟨P, 2, none⟩ = some (.string a2) ∧ w'.cell? ⟨P, 3, none⟩ = some (.string b0) ∧ w'.cell? ⟨P, 4, none⟩ = some (.string b1) ∧ w'.cell? ⟨P, 5, none⟩ = some (.string b2)) (first | with_reducible exact ⟨p0, p1, p2, p3, p4, p5⟩ | with_reducible exact ⟨e_0, e_1, e_2, e_3, e_4, e_5⟩ | with_reducible exact ⟨f_0, f_1, f_2, f_3, f_4, f_5⟩ | go_keep) (first
          | (go_at_call 11; refine (HAD.out _ _ _ _ (by assumption) (by assumption)).mono ?_; rintro e w4 ⟨rfl, hb4⟩; first | ((with_reducible have hbA : Below w3.drew.heap.size w3.drew w4 := hb4); have e_0 := mvd p0 hb4 (Nat.le_refl _); have e_1 := mvd p1 hb4 (Nat.le_refl _); have e_2 := mvd p2 hb4 (Nat.le_refl _); have e_3 := mvd p3 hb4 (Nat.le_refl _); have e_4 := mvd p4 hb4 (Nat.le_refl _); have e_5 := mvd p5 hb4 (Nat.le_refl _); have kR := (HP4.out.2.down (Below.drew (Below.refl _ _))).down hb4) | (have f_0 := moved e_0 hb4 (Nat.le_refl _); have f_1 := moved e_1 hb4 (Nat.le_refl _); have f_2 := moved e_2 hb4 (Nat.le_refl _); have f_3 := moved e_3 hb4 (Nat.le_refl _); have f_4 := moved e_4 hb4 (Nat.le_refl _); have f_5 := moved e_5 hb4 (Nat.le_refl _); have hbB := hb4; have kR2 := kR.down hb4; obtain ⟨⟨z0, z1, z2, z3, z4⟩, ⟨y0, y1, y2, y3, y4⟩⟩ := (id kR2).five)))
        all_goals
          go_wp2_with fail
          rw [← HTX.out]
          refine letter_end rfl rfl rfl (((((kR2.set' (i := 0) _ (by simp)).set' (i := 1) _ (by simp)).set' (i := 2) _ (by simp)).set' (i := 3) _ (by simp)).set' (i := 4) _ (by simp)) ?_
          have hR0 : w.heap.size ≤ R := by omega
          have hbC := bt (bt (Below.drew HB4.out) hbA) hbB
          exact ((((hbC.setCell hR0 _).setCell hR0 _).setCell hR0 _).setCell hR0 _).setCell hR0 _
end Go.Proofs.YtdhepaeephmhiaaDoor
