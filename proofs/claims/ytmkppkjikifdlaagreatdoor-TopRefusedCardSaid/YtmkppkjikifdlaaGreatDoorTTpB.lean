/- On the way. -/
import Derived.Test.YtmkppkjikifdlaaGreatDoorTTopP
import Derived.Test.YtmkppkjikifdlaaGreatDoorTTpA
import Derived.Test.YtmkppkjikifdlaaGreatDoorTTkLaid
set_option linter.unusedVariables false
set_option linter.unusedSimpArgs false
set_option maxHeartbeats 8000000
set_option maxRecDepth 20000
namespace Go.Proofs.YtmkppkjikifdlaaGreatDoor.Tp
open Go.RowKit
open Sc (Str)
theorem row_else' {w : World} {base e size n b : Nat} {v : Value} {l : List Value} (h : w.ownsRow base e size v n l) (hb : b < base) (i : Nat) (u : Value) : (w.setCell ⟨b, i, none⟩ u).ownsRow base e size v n l :=
 h.kept (Go.Lib.grownBy_setB (World.grownBy.refl w (some b)) i u) (by
  cases hv : v.ownBlock with
  | none => exact .inl rfl
  | some k => exact .inr (by intro e; have := (h.lt k hv).1; have := Option.some.inj e; omega))
theorem other_cell {E i j : Nat} (h : i ≠ j) : (⟨E, i, none⟩ : Addr) ≠ ⟨E, j, none⟩ := by
 intro e
 injection e with _ e2
 exact h e2
structure Kn (w wr : World) (E j k : Nat) (ns : List Str) (vs : List Value) (v1 v2 : Value) : Prop where
 c1 : wr.cell? ⟨E, 1, none⟩ = some v1
 c2 : wr.cell? ⟨E, 2, none⟩ = some v2
 f1 : wr.frozen? ⟨E, 1, none⟩ = false
 f2 : wr.frozen? ⟨E, 2, none⟩ = false
 r1 : wr.ownsRow (E + 1) 9 1 v1 j (ns.flatMap Sc.strC)
 r2 : wr.ownsRow (E + 1) 90 1 v2 k vs
 ap : ∀ b, v1.ownBlock = some b → v2.ownBlock ≠ some b
 bw : Below w.heap.size w wr
 lo : w.heap.size ≤ E
 hi : E < wr.heap.size
theorem Kn.down {w wr w' : World} {E j k : Nat} {ns : List Str} {vs : List Value} {v1 v2 : Value} (h : Kn w wr E j k ns vs v1 v2) (hb : Below wr.heap.size wr w') : Kn w w' E j k ns vs v1 v2 :=
 have hE := hb.block E h.hi
 ⟨(World.cell?_of_block (w := wr) (a := ⟨E, 1, none⟩) hE).trans h.c1, (World.cell?_of_block (w := wr) (a := ⟨E, 2, none⟩) hE).trans h.c2, (World.frozen?_of_block (w := wr) (a := ⟨E, 1, none⟩) hE).trans h.f1, (World.frozen?_of_block (w := wr) (a := ⟨E, 2, none⟩) hE).trans h.f2,
  row_down h.r1 hb, row_down h.r2 hb, h.ap, bt h.bw hb, h.lo, Nat.lt_of_lt_of_le h.hi hb.size⟩
theorem Kn.first {w wA w6 : World} {E j k g cap : Nat} {ns : List Str} {n : Str} {vs : List Value} {v1 v2 : Value} (h : Kn w wA E j k ns vs v1 v2)
    (hown : w6.ownsRow (E + 1) 9 1 (.slice (some ⟨g, 0, none⟩) (j + 1) cap) (j + 1) (ns.flatMap Sc.strC ++ [.string ⟨n.toArray⟩])) (hg : wA.grownBy w6 v1.ownBlock) (hat : v1.ownBlock = some g ∨ g = wA.heap.size) :
    Kn w (w6.setCell ⟨E, 1, none⟩ (.slice (some ⟨g, 0, none⟩) (j + 1) cap)) E (j + 1) k (ns ++ [n]) vs (.slice (some ⟨g, 0, none⟩) (j + 1) cap) v2 := by
 have hE : w6.heap[E]? = wA.heap[E]? := hg.block E h.hi (row_apart h.r1 (Nat.lt_succ_self E))
 have hz := hg.size
 have e1 : (ns ++ [n]).flatMap Sc.strC = ns.flatMap Sc.strC ++ [.string ⟨n.toArray⟩] := by rw [List.flatMap_append]; rfl
 refine ⟨World.cell?_setCell_same _ _ _ ((World.cell?_of_block (w := wA) (a := ⟨E, 1, none⟩) hE).trans h.c1), (World.cell?_setCell_other _ _ _ _ (other_cell (by decide))).trans ((World.cell?_of_block (w := wA) (a := ⟨E, 2, none⟩) hE).trans h.c2),
  (World.frozen?_setCell ..).trans ((World.frozen?_of_block (w := wA) (a := ⟨E, 1, none⟩) hE).trans h.f1), (World.frozen?_setCell ..).trans ((World.frozen?_of_block (w := wA) (a := ⟨E, 2, none⟩) hE).trans h.f2),
  row_else' (by rw [e1]; exact hown) (Nat.lt_succ_self E) _ _, row_else' (h.r2.kept hg ?_) (Nat.lt_succ_self E) _ _, fun b e e2 => ?_, (below_row h.bw (Nat.le_refl _) h.r1 (by have := h.lo; omega) hg).setCell h.lo _, h.lo, ?_⟩
 ·cases hv : v2.ownBlock with
  | none => exact .inl rfl
  | some b => exact .inr (fun e => h.ap b e.symm hv)
 ·obtain rfl : g = b := Option.some.inj e
  rcases hat with h1 | h1
  ·exact h.ap g h1 e2
  ·have := (h.r2.lt g e2).2; omega
 ·have : (w6.setCell ⟨E, 1, none⟩ (.slice (some ⟨g, 0, none⟩) (j + 1) cap)).heap.size = w6.heap.size := by simp [World.setCell]
  rw [this]; have := h.hi; omega
theorem Kn.second {w wA w6 : World} {E j k g cap : Nat} {ns : List Str} {n : Value} {vs : List Value} {v1 v2 : Value} (h : Kn w wA E j k ns vs v1 v2)
    (hown : w6.ownsRow (E + 1) 90 1 (.slice (some ⟨g, 0, none⟩) (k + 1) cap) (k + 1) (vs ++ [n])) (hg : wA.grownBy w6 v2.ownBlock) (hat : v2.ownBlock = some g ∨ g = wA.heap.size) :
    Kn w (w6.setCell ⟨E, 2, none⟩ (.slice (some ⟨g, 0, none⟩) (k + 1) cap)) E j (k + 1) ns (vs ++ [n]) v1 (.slice (some ⟨g, 0, none⟩) (k + 1) cap) := by
 have hE : w6.heap[E]? = wA.heap[E]? := hg.block E h.hi (row_apart h.r2 (Nat.lt_succ_self E))
 have hz := hg.size
 refine ⟨(World.cell?_setCell_other _ _ _ _ (other_cell (by decide))).trans ((World.cell?_of_block (w := wA) (a := ⟨E, 1, none⟩) hE).trans h.c1), World.cell?_setCell_same _ _ _ ((World.cell?_of_block (w := wA) (a := ⟨E, 2, none⟩) hE).trans h.c2),
  (World.frozen?_setCell ..).trans ((World.frozen?_of_block (w := wA) (a := ⟨E, 1, none⟩) hE).trans h.f1), (World.frozen?_setCell ..).trans ((World.frozen?_of_block (w := wA) (a := ⟨E, 2, none⟩) hE).trans h.f2),
  row_else' (h.r1.kept hg ?_) (Nat.lt_succ_self E) _ _, row_else' hown (Nat.lt_succ_self E) _ _, fun b e e2 => ?_, (below_row h.bw (Nat.le_refl _) h.r2 (by have := h.lo; omega) hg).setCell h.lo _, h.lo, ?_⟩
 ·cases hv : v1.ownBlock with
  | none => exact .inl rfl
  | some b => exact .inr (fun e => h.ap b hv e.symm)
 ·obtain rfl : g = b := Option.some.inj e2
  rcases hat with h1 | h1
  ·exact h.ap g e h1
  ·have := (h.r1.lt g e).2; omega
 ·have : (w6.setCell ⟨E, 2, none⟩ (.slice (some ⟨g, 0, none⟩) (k + 1) cap)).heap.size = w6.heap.size := by simp [World.setCell]
  rw [this]; have := h.hi; omega
theorem contains_none (x : ByteArray) (w : World) : Calls Tryz.prog 30 #[.slice none 0 0, .string x] w fun e w' => e = .returned (.bool false) ∧ w = w' := by
 have HI : Hid (Calls Tryz.prog 43 #[.slice none 0 0, .string x] w fun e w' => e = .returned (.int .i64 (-1)) ∧ w = w') := by
  go_enter Tryz.func43, Tryz.ntmps43
  go_wp2_with fail
  go_loop [8] (fun i => i = .int .i64 0) (fun _ => 0)
  case atStart => exact rfl
  case round =>
   obtain rfl := hrel
   go_wp2_with fail
   go_ret
   exact ⟨rfl, rfl⟩
 go_enter Tryz.func30, Tryz.ntmps30
 go_wp2_with fail
 refine HI.out.mono ?_
 rintro e w1 ⟨rfl, rfl⟩
 go_wp2_with fail
 go_ret
 exact ⟨rfl, rfl⟩
theorem Kn.has {w wr : World} {E j k : Nat} {ns : List Str} {vs : List Value} {v1 v2 : Value} (h : Kn w wr E j k ns vs v1 v2) (hj : ns.length = j) (h3 : j ≤ 1000) (x : Str) :
    Calls Tryz.prog 30 #[v1, .string ⟨x.toArray⟩] wr fun e w' => e = .returned (.bool (ns.contains x)) ∧ wr = w' := by
 subst hj
 have hs : SAt Sc.cStr wr (fun _ => True) v1 ns := SAt.of_row (f := Sc.strC) (hf := fun _ => rfl) h.r1 (fun _ _ => trivial)
 rcases h.r1.2 with ⟨e1, e2⟩ | ⟨g, cap, cur, e1, -⟩
 ·have : ns = [] := List.eq_nil_of_length_eq_zero e2
  subst this
  rw [e1]
  exact (contains_none _ wr).mono fun e w' h => ⟨by rw [h.1]; rfl, h.2⟩
 ·rw [e1] at hs ⊢
  exact Sc.contains_table g cap ns x wr h3 (fun i hi => by
   obtain ⟨g', off, vs', hG, -, -, hrep, hc⟩ := hs.get i hi
   cases hG
   obtain rfl : vs' = Sc.strC ns[i] := hrep
   have := hc 0 _ rfl
   rw [show Sc.cStr.size = 1 from rfl] at this
   simpa using this)
end Go.Proofs.YtmkppkjikifdlaaGreatDoor.Tp
namespace Go.Proofs.YtmkppkjikifdlaaGreatDoor.Tp
open Go.RowKit
open Sc (RW Str)
def cUs : Cod Us := Cod.flat 2 usC (fun _ => rfl)
theorem infoStr : (Tryz.prog.info? 9).map (fun i => (i.zero, i.size, i.bytes)) = some (some (.string ⟨#[]⟩), 1, 16) := by kernel_rfl
theorem infoCmds : (Tryz.prog.info? 90).map (fun i => (i.zero, i.size, i.bytes)) = some (some (.slice none 0 0), 1, 24) := by kernel_rfl
theorem drop_cons {us : List Us} {j : Nat} (h : j < us.length) : us.drop j = us[j] :: us.drop (j + 1) := List.drop_eq_getElem_cons h
theorem take_loc {us : List Us} {j : Nat} (h : j < us.length) : (us.take (j + 1)).map Us.loc = (us.take j).map Us.loc ++ [us[j].loc] := by rw [List.take_succ_eq_append_getElem h, List.map_append]; rfl
theorem open_bad (us : List Us) (G : Option Addr) (cap : Nat) (F : Dom) (m : Int) (te : TypeId) (pe : Value) (w : World) (hv : SAt cUs w F (.slice G us.length cap) us) (hu : ∀ u ∈ us, ReadOk u.scr ∧ u.loc.length ≤ 100) (hE : openE us ≠ 0)
    (hW : RW w m) (hev : w.cell? ⟨10, 0, none⟩ = some (.iface te pe)) :
    Calls Tryz.prog 19 #[.slice G us.length cap] w fun e w' => e = .returned (.tuple #[.pointer none, .int .i64 (openE us)]) ∧ Below w.heap.size w w' := by
 by_cases hl : us.length < 1 ∨ 3 < us.length
 ·have hE1 : openE us = 1 := by unfold openE; rw [if_pos hl]
  rw [hE1]
  clear hv hu hE hE1 hW hev
  rcases hl with hl | hl
  ·obtain rfl : us = [] := List.eq_nil_of_length_eq_zero (by omega)
   go_enter Tryz.func19, Tryz.ntmps19
   go_wp2_with fail
   go_ret2
   exact ⟨rfl, Below.refl _ _⟩
  ·have q1 : decide ((us.length : Int) < 1) = false := decide_eq_false (by omega)
   have q2 : decide ((3 : Int) < (us.length : Int)) = true := decide_eq_true (by omega)
   have q3 : decide (3 < us.length) = true := decide_eq_true hl
   have q4 : decide (us.length < 1) = false := decide_eq_false (by omega)
   go_enter Tryz.func19, Tryz.ntmps19
   go_wp2_with fail
   go_ret2
   exact ⟨rfl, Below.refl _ _⟩
 ·have hE2 : openE us = goE [] us := by unfold openE; rw [if_neg hl]
  rw [hE2] at hE ⊢
  have q1 : decide ((us.length : Int) < 1) = false := decide_eq_false (by omega)
  have q2 : decide ((3 : Int) < (us.length : Int)) = false := decide_eq_false (by omega)
  have q3 : decide (3 < us.length) = false := decide_eq_false (by omega)
  have q4 : decide (us.length < 1) = false := decide_eq_false (by omega)
  have hn3 : us.length ≤ 3 := by omega
  have HRW : Hid (∀ w', Below w.heap.size w w' → RW w' m) := fun w' hb => hW.down hb
  have HEV : Hid (∀ w', Below w.heap.size w w' → w'.cell? ⟨10, 0, none⟩ = some (.iface te pe)) := fun w' hb => moved hev hb (Nat.le_refl _)
  have HV := Lib.hid hv; have HU := Lib.hid hu; have HE := Lib.hid hE
  obtain ⟨i0, hi, hz0, hz1, hz2⟩ := info_parts infoStr
  have HI0 := Lib.hid hi; have HZ0 := Lib.hid hz0; have HZ1 := Lib.hid hz1; have HZ2 := Lib.hid hz2
  clear hi hz0 hz1 hz2
  obtain ⟨i1, hi, hz0, hz1, hz2⟩ := info_parts infoCmds
  have HI1 := Lib.hid hi; have HY0 := Lib.hid hz0; have HY1 := Lib.hid hz1; have HY2 := Lib.hid hz2
  clear hi hz0 hz1 hz2 hv hu hE hE2 hW hev hl
  go_enter Tryz.func19, Tryz.ntmps19
  go_upto_region 4 with fail
  have HK0 : Hid (∀ c : List Value, c[1]? = some (.slice none 0 0) → c[2]? = some (.slice none 0 0) → Kn w (w.alloc (.cells c.toArray 81)) (w.heap.size) 0 0 [] [] (.slice none 0 0) (.slice none 0 0)) := fun c h1 h2 => by
   have hh := Has.alloc w c 81
   have l1 : 1 < c.length := by
    by_cases h : 1 < c.length
    ·exact h
    ·rw [List.getElem?_eq_none (by omega)] at h1; cases h1
   have l2 : 2 < c.length := by
    by_cases h : 2 < c.length
    ·exact h
    ·rw [List.getElem?_eq_none (by omega)] at h2; cases h2
   exact ⟨hh.1 1 _ h1, hh.1 2 _ h2, hh.2.1 1 l1, hh.2.1 2 l2, World.ownsRow_nil _ _ _ _, World.ownsRow_nil _ _ _ _, (fun b e => by cases e), ba (Below.refl _ _) _, Nat.le_refl _, hh.2.2⟩
  go_wp2_with fail
  go_loopw [21] (fun i wr => ∃ (j : Nat) (vs : List Value) (v1 v2 : Value), j ≤ us.length ∧ i = .int .i64 j ∧ Kn w wr (w.heap.size) j j ((us.take j).map Us.loc) vs v1 v2 ∧ goE ((us.take j).map Us.loc) (us.drop j) = goE [] us) (fun i _ => us.length - (intOf i).toNat)
  case atStart => exact ⟨0, [], _, _, Nat.zero_le _, rfl, HK0.out _ rfl rfl, rfl⟩
  case round =>
   obtain ⟨j, vs, v1, v2, hj, rfl, hKn, hgo⟩ := hrel
   obtain ⟨G1, c1, rfl⟩ := row_slice' hKn.r1
   obtain ⟨G2, c2, rfl⟩ := row_slice' hKn.r2
   by_cases hlt : j < us.length
   rotate_left
   ·obtain rfl : j = us.length := by omega
    rw [List.drop_length] at hgo
    exact absurd hgo.symm HE.out
   rw [drop_cons hlt] at hgo
   obtain ⟨hrd, hlen⟩ := HU.out us[j] (List.getElem_mem hlt)
   have htk := take_loc hlt
   obtain ⟨g, off, vs', rfl, -, hgw, hrep, hc⟩ := (HV.out.down hKn.bw).get j hlt
   obtain rfl : vs' = usC us[j] := hrep
   have x0 : wr.cell? ⟨g, off + j * 2, none⟩ = some (.string ⟨us[j].loc.toArray⟩) := hc 0 _ rfl
   have x1 : wr.cell? ⟨g, off + j * 2 + 1, none⟩ = some (.string ⟨us[j].scr.toArray⟩) := hc 1 _ rfl
   obtain ⟨u, hue⟩ : ∃ u, u = us[j] := ⟨_, rfl⟩
   rw [← hue] at hgo hrd hlen htk x0 x1
   obtain ⟨ns, hns⟩ : ∃ ns, ns = (us.take j).map Us.loc := ⟨_, rfl⟩
   rw [← hns] at hKn hgo htk
   have hnl : ns.length = j := by rw [hns, List.length_map, List.length_take]; omega
   obtain ⟨U, hUe⟩ : ∃ U, U = wr.heap.size := ⟨_, rfl⟩
   have hUA : Has (wr.alloc (.cells #[.string ⟨u.loc.toArray⟩, .string ⟨u.scr.toArray⟩] 47)) U [.string ⟨u.loc.toArray⟩, .string ⟨u.scr.toArray⟩] := by rw [hUe]; exact Has.alloc wr _ _
   have hUn : some U ≠ (Value.slice G1 j c1).ownBlock := fun e => by have := (hKn.r1.lt U e.symm).2; omega
   have hUE : (w.heap.size) ≠ U := by have := hKn.hi; omega
   have hba := ba (Below.refl wr.heap.size wr) (.cells #[.string ⟨u.loc.toArray⟩, .string ⟨u.scr.toArray⟩] 47)
   obtain ⟨wA, hwA⟩ : ∃ W, W = wr.alloc (.cells #[.string ⟨u.loc.toArray⟩, .string ⟨u.scr.toArray⟩] 47) := ⟨_, rfl⟩
   rw [← hwA] at hUA hba
   have HKA := Lib.hid (hKn.down hba)
   have HUA := Lib.hid hUA; have HWA := Lib.hid hwA; have HUEQ := Lib.hid hUe
   have HCK := Lib.hid (check_any ⟨u.loc.toArray⟩ ⟨#[120]⟩ m wA (by show (List.toArray _).size ≤ _; rw [List.size_toArray]; omega) (by decide) (HRW.out _ HKA.out.bw).max)
   have HGO := Lib.hid hgo; have HRD := Lib.hid hrd; have HNS := Lib.hid hns; have HTK := Lib.hid htk
   clear hKn hUA hba hwA hUe hgo hrd hns htk hue hc
   go_upto_region 7 with fail
   rw [← HWA.out, ← HUEQ.out]
   clear HWA HUEQ x0 x1
   obtain ⟨y0, y1, -, -⟩ := HUA.out.two
   go_wp2_with fail
   refine HCK.out.mono ?_
   rintro e w2 ⟨rfl, hb2⟩
   have HK2 := Lib.hid (HKA.out.down hb2); have HU2 := Lib.hid (HUA.out.down hb2)
   have hck : (⟨u.loc.toArray⟩ : ByteArray).data.toList = u.loc := rfl
   have hcx : (⟨#[120]⟩ : ByteArray).data.toList = [120] := rfl
   try rw [hck, hcx]
   obtain ⟨z, hz⟩ : ∃ z : Nat, z = chk u.loc [120] := ⟨_, rfl⟩
   rw [← hz]
   clear hb2 HCK HKA HUA y0 y1 hck hcx
   by_cases hz0 : z = 0
   rotate_left
   ·have hres := goE_form (known := ns) (l := us.drop (j + 1)) (by rw [← hz]; exact hz0 : chk u.loc [120] ≠ 0)
    have HRS := Lib.hid (HGO.out.symm.trans hres)
    have p1 : ((z : Int) != 0) = true := by simpa using hz0
    have p2 : ((z : Int) == 0) = false := by simpa using hz0
    have p3 : decide ((z : Int) = 0) = false := decide_eq_false (by omega)
    clear hres hz
    go_wp2_with fail
    go_ret2
    exact ⟨by rw [HRS.out]; rfl, HK2.out.bw⟩
   subst hz0
   have hc0 : chk u.loc [120] = 0 := hz.symm
   have HC0 := Lib.hid hc0
   clear hz hc0
   obtain ⟨q, hq⟩ : ∃ q, q = ns.contains u.loc := ⟨_, rfl⟩
   have HHS : Hid (∀ V, Below w2.heap.size w2 V → Calls Tryz.prog 30 #[.slice G1 j c1, .string ⟨u.loc.toArray⟩] V fun e w' => e = .returned (.bool q) ∧ V = w') := fun V hb => by rw [hq]; exact (HK2.out.down hb).has hnl (by omega) u.loc
   have HQ := Lib.hid hq
   clear hq
   go_upto_region 9 with fail
   refine wp_region_noPanic ?_
   have hd := Below.drew (Below.refl w2.heap.size w2)
   refine wp_region_held_drew (S := fun V => Below w2.heap.size w2 V) (by kernel_rfl) hd (fun hHeld => ?_)
   refine hTo (B := w2) (fun V => Below w2.heap.size w2 V) hd (fun V h => h) (fun V0 hR hHeld => ?_)
   clear hR hd
   refine tkP 0 (gB rfl) ?_
   refine tkP 1 (gB rfl) ?_
   refine tkP 2 (gB rfl) ?_
   refine tkH 3 (v := ?_) (gB rfl) ?_ ?_
   rotate_left 1
   ·intro w' hSw; have y0 := (HK2.out.down hSw).c1; (go_simp) <;> with_reducible rfl
   refine tkP 4 (gB rfl) ?_
   refine tkH 5 (v := ?_) (gB rfl) ?_ ?_
   rotate_left 1
   ·intro w' hSw; obtain ⟨y0, y1, -, -⟩ := (HU2.out.down hSw).two; (go_simp) <;> with_reducible rfl
   refine rdH [6] ?_
   refine AllReadyH.cons (gB rfl) (fun K hK => ?_) ?_
   ·go_simp
    go_at_call 30
    refine (HHS.out _ hHeld).mono ?_
    rintro e w' ⟨rfl, rfl⟩
    try (go_wp2_with fail)
    refine hK.out _ _ (hHeld) (fun hHeld => ?_)
    clear hK K
    try simp only [Act.put, List.setIfInBounds_toArray, List.set_cons_zero, List.set_cons_succ]
    refine wpAnyH_done (by kernel_rfl) ?_ _
    refine NoPanic.normal ?_
    cases q with
    | true =>
     have hm : u.loc ∈ ns := List.contains_iff_mem.1 HQ.out.symm
     have HRS := Lib.hid (HGO.out.symm.trans (goE_twice HC0.out hm))
     have HB := Lib.hid (bt HK2.out.bw hHeld)
     clear hm hHeld
     go_wp2_with fail
     go_ret2
     exact ⟨by rw [HRS.out]; rfl, HB.out⟩
    | false =>
     have hm : u.loc ∉ ns := fun h => by have h1 := List.contains_iff_mem.2 h; have h2 := HQ.out; rw [h1] at h2; cases h2
     have HNM := Lib.hid hm
     have HK3 := Lib.hid (HK2.out.down hHeld); have HU3 := Lib.hid (HU2.out.down hHeld)
     obtain ⟨y0, y1, -, -⟩ := HU3.out.two
     have HRR := Lib.hid (Sc.read_any ⟨u.scr.toArray⟩ m te pe V0 (by show (List.toArray _).size ≤ _; rw [List.size_toArray]; have := HRD.out.1; omega) (HRW.out _ HK3.out.bw) (HEV.out _ HK3.out.bw) HRD.out.2.1 HRD.out.2.2)
     clear hm hHeld HK2 HU2 HHS HQ
     go_wp2_with fail
     refine HRR.out.mono ?_
     rintro e w4 ⟨⟨v4, rfl, hs4⟩, hb4⟩
     have HS4 := Lib.hid hs4
     clear hs4
     have hrl : (⟨u.scr.toArray⟩ : ByteArray).data.toList = u.scr := rfl
     try rw [hrl]
     have HK4 := Lib.hid (HK3.out.down hb4); have HU4 := Lib.hid (HU3.out.down hb4)
     obtain ⟨r, hr⟩ : ∃ r, r = Sc.readE (Tk.cutL u.scr) := ⟨_, rfl⟩
     rw [← hr]
     clear hb4 HRR HK3 HU3 y0 y1 hrl
     by_cases hr0 : r = 0
     rotate_left
     ·have hres := goE_read (known := ns) (l := us.drop (j + 1)) HC0.out HNM.out (by rw [← hr]; exact hr0 : Sc.readE (Tk.cutL u.scr) ≠ 0)
      have HRS := Lib.hid (HGO.out.symm.trans hres)
      have p1 : (r != 0) = true := by simpa using hr0
      have p2 : (r == 0) = false := by simpa using hr0
      have p3 : decide (r = 0) = false := decide_eq_false hr0
      rw [← hr] at HRS
      clear hres hr
      go_wp2_with fail
      go_ret2
      exact ⟨by rw [HRS.out]; rfl, HK4.out.bw⟩
     subst hr0
     obtain ⟨G4, c4, rfl, -⟩ := (HS4.out (show Sc.readE (Tk.cutL (⟨u.scr.toArray⟩ : ByteArray).data.toList) = 0 from hr.symm)).form
     clear HS4
     generalize (Sc.wholeS (Tk.cutL (⟨u.scr.toArray⟩ : ByteArray).data.toList).1).1.length = n4
     have HNX := Lib.hid ((goE_next (known := ns) (l := us.drop (j + 1)) HC0.out HNM.out hr.symm).symm.trans HGO.out)
     clear hr
     go_upto_region 14 with fail
     refine wp_region_noPanic ?_
     have hd := Below.drew (Below.refl w4.heap.size w4)
     refine wp_region_held_drew (S := fun V => Has V U [.string ⟨u.loc.toArray⟩, .string ⟨u.scr.toArray⟩]) (by kernel_rfl) (HU4.out.down hd) (fun hHeld => ?_)
     refine heldTo (fun V => Has V U [.string ⟨u.loc.toArray⟩, .string ⟨u.scr.toArray⟩] ∧ Kn w V (w.heap.size) j j ns vs (.slice G1 j c1) (.slice G2 j c2)) (fun V => Has V U [.string ⟨u.loc.toArray⟩, .string ⟨u.scr.toArray⟩]) ⟨HU4.out.down hd, HK4.out.down hd⟩ (fun V h => h.1) (fun _ h => h) (fun V0 hR hHeld => ?_)
     obtain ⟨-, hKn⟩ := hR
     clear hd
     refine tkP 0 (gB rfl) ?_
     refine tkP 1 (gB rfl) ?_
     refine tkP 2 (gB rfl) ?_
     refine tkP 3 (gB rfl) ?_
     refine tkP 5 (gB rfl) ?_
     refine tkH 6 (v := ?_) (gB rfl) ?_ ?_
     rotate_left 1
     ·intro w' hSw; obtain ⟨y0, y1, -, -⟩ := hSw.two; (go_simp) <;> with_reducible rfl
     refine rdH [4, 7] ?_
     refine AllReadyH.cons (gB rfl) (fun K hK => ?_) ?_
     ·have y0 := hKn.c1
      go_simp
      refine hK.out _ _ (hHeld) (fun hHeld => ?_)
      clear hK K
      try simp only [Act.put, List.setIfInBounds_toArray, List.set_cons_zero, List.set_cons_succ]
      refine rdH [7] ?_
      refine AllReadyH.cons (gB rfl) (fun K hK => ?_) ?_
      ·go_simp
       refine hK.out _ _ (hHeld.down (ba (Below.refl _ _) _)) (fun hHeld => ?_)
       clear hK K
       try simp only [Act.put, List.setIfInBounds_toArray, List.set_cons_zero, List.set_cons_succ]
       refine heldTo (fun V => Has V U [.string ⟨u.loc.toArray⟩, .string ⟨u.scr.toArray⟩] ∧ Kn w V (w.heap.size) j j ns vs (.slice G1 j c1) (.slice G2 j c2) ∧ Has V V0.heap.size [.string ⟨u.loc.toArray⟩]) (fun V => Has V U [.string ⟨u.loc.toArray⟩, .string ⟨u.scr.toArray⟩]) ⟨hHeld, hKn.down (ba (Below.refl _ _) _), Has.alloc V0 _ _⟩ (fun V h => h.1) (fun _ h => h) (fun V9 hR hHeld => ?_)
       obtain ⟨-, hKn', hA⟩ := hR
       clear hKn
       have hKn := hKn'
       clear hKn'
       generalize V0.heap.size = A at hA ⊢
       refine rdH [8] ?_
       refine AllReadyH.cons (gB rfl) (fun K hK => ?_) ?_
       ·have HKA := Lib.hid hKn; have HUA := Lib.hid hHeld
        have HNW : Hid (∀ j v, ([.string ⟨u.loc.toArray⟩] : List Value)[j]? = some v → V9.cell? (Addr.add ⟨A, 0, none⟩ j) = some v) := fun j v hv => by rw [Addr.add_lit, Nat.zero_add]; exact hA.1 j v hv
        have HTV : Hid ((w.heap.size) + 1 ≤ V9.heap.size) := hKn.hi
        refine step_append_lies _ (by rfl) _ _ _ (by rfl) ((w.heap.size) + 1) 9 i0 _ 1 16 Tryz.underlying52 HI0.out HZ0.out HZ1.out HZ2.out rfl (by omega) (.slice G1 j c1) j (ns.flatMap Sc.strC) (by rfl) HKA.out.r1 ⟨A, 0, none⟩ 1 1 [.string ⟨u.loc.toArray⟩] (by rfl) (by rfl) HNW.out (by simp [Value.oneCell']) (by omega) (by unfold maxLen; omega) (by omega) HTV.out V9.heap.size rfl ?_
        intro g6 cap6 w6 hown6 hgrow6 hat6 hlt6
        have hEB : w6.heap[(w.heap.size)]? = V9.heap[(w.heap.size)]? := hgrow6.block (w.heap.size) HKA.out.hi (row_apart HKA.out.r1 (Nat.lt_succ_self (w.heap.size)))
        have z1 := (World.cell?_of_block (w := V9) (a := ⟨(w.heap.size), 1, none⟩) hEB).trans HKA.out.c1
        have z2 := (World.frozen?_of_block (w := V9) (a := ⟨(w.heap.size), 1, none⟩) hEB).trans HKA.out.f1
        have hU6 := HUA.out.kept hgrow6 hUn
        have HKF := Lib.hid (HKA.out.first hown6 hgrow6 hat6)
        refine hK.out _ _ (hU6) (fun hHeld => ?_)
        clear hK K
        refine tkP 9 (gB rfl) ?_
        refine tkP 10 (gB rfl) ?_
        refine rdH [11] ?_
        refine AllReadyH.cons (gB rfl) (fun K hK => ?_) ?_
        ·go_simp
         refine hK.out _ _ (hU6.else' hUE.symm _) (fun hHeld => ?_)
         clear hK K
         try simp only [Act.put, List.setIfInBounds_toArray, List.set_cons_zero, List.set_cons_succ]
         refine wpAnyH_done (by kernel_rfl) ?_ _
         refine NoPanic.normal ?_
         obtain ⟨w7, hw7⟩ : ∃ W, W = w6.setCell ⟨(w.heap.size), 1, none⟩ (.slice (some ⟨g6, 0, none⟩) (j + 1) cap6) := ⟨_, rfl⟩
         rw [← hw7] at HKF ⊢
         have y2 := HKF.out.c2
         have hb7 := ba (Below.refl w7.heap.size w7) (.cells #[.slice G4 n4 c4] 90)
         have HKB := Lib.hid (HKF.out.down hb7)
         have h7E : (w.heap.size) + 1 ≤ w7.heap.size := HKF.out.hi
         clear hw7 hb7 hown6 hgrow6 hat6 hlt6 hEB z1 z2 hU6 HKA HUA HNW HTV hHeld hKn hA
         go_wp2_with (at_builtin; refine wpList_append_lies _ (by rfl) _ _ _ (by rfl) ((w.heap.size) + 1) 90 i1 _ 1 24 Tryz.underlying67 HI1.out HY0.out HY1.out HY2.out rfl (by omega) (.slice G2 j c2) j vs (by rfl) HKB.out.r2 ⟨w7.heap.size, 0, none⟩ 1 1 [.slice G4 n4 c4] (by rfl) (by rfl) (news_of w7 [.slice G4 n4 c4] _) (by simp [Value.oneCell']) (by omega) (by unfold maxLen; omega) (by omega) (by simp; omega) (w7.heap.size + 1) (by simp) ?_)
         intro g8 cap8 w8 hown8 hgrow8 hat8 hlt8
         have hEB := hgrow8.block (w.heap.size) HKB.out.hi (row_apart HKB.out.r2 (Nat.lt_succ_self (w.heap.size)))
         have z1 := (World.cell?_of_block (w := w7.alloc (.cells #[.slice G4 n4 c4] 90)) (a := ⟨(w.heap.size), 2, none⟩) hEB).trans HKB.out.c2
         have z2 := (World.frozen?_of_block (w := w7.alloc (.cells #[.slice G4 n4 c4] 90)) (a := ⟨(w.heap.size), 2, none⟩) hEB).trans HKB.out.f2
         have HKG := Lib.hid (HKB.out.second hown8 hgrow8 (by rw [World.size_alloc]; exact hat8))
         clear hown8 hgrow8 hat8 hlt8 hEB HKB HKF y2
         go_wp2_with fail
         go_roundw
         case rel => exact ⟨j + 1, _, _, _, by omega, by go_num, by rw [HTK.out]; exact HKG.out, by rw [HTK.out]; exact HNX.out⟩
         case measure => simp [intOf]; omega
        exact .nil
       exact .nil
      exact .nil
     refine AllReadyH.cons (gB rfl) (fun K hK => ?_) ?_
     ·go_simp
      refine hK.out _ _ (hHeld.down (ba (Below.refl _ _) _)) (fun hHeld => ?_)
      clear hK K
      try simp only [Act.put, List.setIfInBounds_toArray, List.set_cons_zero, List.set_cons_succ]
      refine heldTo (fun V => Has V U [.string ⟨u.loc.toArray⟩, .string ⟨u.scr.toArray⟩] ∧ Kn w V (w.heap.size) j j ns vs (.slice G1 j c1) (.slice G2 j c2) ∧ Has V V0.heap.size [.string ⟨u.loc.toArray⟩]) (fun V => Has V U [.string ⟨u.loc.toArray⟩, .string ⟨u.scr.toArray⟩]) ⟨hHeld, hKn.down (ba (Below.refl _ _) _), Has.alloc V0 _ _⟩ (fun V h => h.1) (fun _ h => h) (fun V9 hR hHeld => ?_)
      obtain ⟨-, hKn', hA⟩ := hR
      clear hKn
      have hKn := hKn'
      clear hKn'
      generalize V0.heap.size = A at hA ⊢
      refine rdH [4] ?_
      refine AllReadyH.cons (gB rfl) (fun K hK => ?_) ?_
      ·have y0 := hKn.c1
       go_simp
       refine hK.out _ _ (hHeld) (fun hHeld => ?_)
       clear hK K
       try simp only [Act.put, List.setIfInBounds_toArray, List.set_cons_zero, List.set_cons_succ]
       refine rdH [8] ?_
       refine AllReadyH.cons (gB rfl) (fun K hK => ?_) ?_
       ·have HKA := Lib.hid hKn; have HUA := Lib.hid hHeld
        have HNW : Hid (∀ j v, ([.string ⟨u.loc.toArray⟩] : List Value)[j]? = some v → V9.cell? (Addr.add ⟨A, 0, none⟩ j) = some v) := fun j v hv => by rw [Addr.add_lit, Nat.zero_add]; exact hA.1 j v hv
        have HTV : Hid ((w.heap.size) + 1 ≤ V9.heap.size) := hKn.hi
        refine step_append_lies _ (by rfl) _ _ _ (by rfl) ((w.heap.size) + 1) 9 i0 _ 1 16 Tryz.underlying52 HI0.out HZ0.out HZ1.out HZ2.out rfl (by omega) (.slice G1 j c1) j (ns.flatMap Sc.strC) (by rfl) HKA.out.r1 ⟨A, 0, none⟩ 1 1 [.string ⟨u.loc.toArray⟩] (by rfl) (by rfl) HNW.out (by simp [Value.oneCell']) (by omega) (by unfold maxLen; omega) (by omega) HTV.out V9.heap.size rfl ?_
        intro g6 cap6 w6 hown6 hgrow6 hat6 hlt6
        have hEB : w6.heap[(w.heap.size)]? = V9.heap[(w.heap.size)]? := hgrow6.block (w.heap.size) HKA.out.hi (row_apart HKA.out.r1 (Nat.lt_succ_self (w.heap.size)))
        have z1 := (World.cell?_of_block (w := V9) (a := ⟨(w.heap.size), 1, none⟩) hEB).trans HKA.out.c1
        have z2 := (World.frozen?_of_block (w := V9) (a := ⟨(w.heap.size), 1, none⟩) hEB).trans HKA.out.f1
        have hU6 := HUA.out.kept hgrow6 hUn
        have HKF := Lib.hid (HKA.out.first hown6 hgrow6 hat6)
        refine hK.out _ _ (hU6) (fun hHeld => ?_)
        clear hK K
        refine tkP 9 (gB rfl) ?_
        refine tkP 10 (gB rfl) ?_
        refine rdH [11] ?_
        refine AllReadyH.cons (gB rfl) (fun K hK => ?_) ?_
        ·go_simp
         refine hK.out _ _ (hU6.else' hUE.symm _) (fun hHeld => ?_)
         clear hK K
         try simp only [Act.put, List.setIfInBounds_toArray, List.set_cons_zero, List.set_cons_succ]
         refine wpAnyH_done (by kernel_rfl) ?_ _
         refine NoPanic.normal ?_
         obtain ⟨w7, hw7⟩ : ∃ W, W = w6.setCell ⟨(w.heap.size), 1, none⟩ (.slice (some ⟨g6, 0, none⟩) (j + 1) cap6) := ⟨_, rfl⟩
         rw [← hw7] at HKF ⊢
         have y2 := HKF.out.c2
         have hb7 := ba (Below.refl w7.heap.size w7) (.cells #[.slice G4 n4 c4] 90)
         have HKB := Lib.hid (HKF.out.down hb7)
         have h7E : (w.heap.size) + 1 ≤ w7.heap.size := HKF.out.hi
         clear hw7 hb7 hown6 hgrow6 hat6 hlt6 hEB z1 z2 hU6 HKA HUA HNW HTV hHeld hKn hA
         go_wp2_with (at_builtin; refine wpList_append_lies _ (by rfl) _ _ _ (by rfl) ((w.heap.size) + 1) 90 i1 _ 1 24 Tryz.underlying67 HI1.out HY0.out HY1.out HY2.out rfl (by omega) (.slice G2 j c2) j vs (by rfl) HKB.out.r2 ⟨w7.heap.size, 0, none⟩ 1 1 [.slice G4 n4 c4] (by rfl) (by rfl) (news_of w7 [.slice G4 n4 c4] _) (by simp [Value.oneCell']) (by omega) (by unfold maxLen; omega) (by omega) (by simp; omega) (w7.heap.size + 1) (by simp) ?_)
         intro g8 cap8 w8 hown8 hgrow8 hat8 hlt8
         have hEB := hgrow8.block (w.heap.size) HKB.out.hi (row_apart HKB.out.r2 (Nat.lt_succ_self (w.heap.size)))
         have z1 := (World.cell?_of_block (w := w7.alloc (.cells #[.slice G4 n4 c4] 90)) (a := ⟨(w.heap.size), 2, none⟩) hEB).trans HKB.out.c2
         have z2 := (World.frozen?_of_block (w := w7.alloc (.cells #[.slice G4 n4 c4] 90)) (a := ⟨(w.heap.size), 2, none⟩) hEB).trans HKB.out.f2
         have HKG := Lib.hid (HKB.out.second hown8 hgrow8 (by rw [World.size_alloc]; exact hat8))
         clear hown8 hgrow8 hat8 hlt8 hEB HKB HKF y2
         go_wp2_with fail
         go_roundw
         case rel => exact ⟨j + 1, _, _, _, by omega, by go_num, by rw [HTK.out]; exact HKG.out, by rw [HTK.out]; exact HNX.out⟩
         case measure => simp [intOf]; omega
        exact .nil
       exact .nil
      exact .nil
     exact .nil
   exact .nil
def outZ : List Value := [.bool false, .slice none 0 0, .slice none 0 0, .slice none 0 0, .int .i64 0]
theorem run_bad (us : List Us) (G G2 : Option Addr) (cap n2 c2 : Nat) (F : Dom) (m : Int) (te : TypeId) (pe : Value) (w : World) (hv : SAt cUs w F (.slice G us.length cap) us) (hu : ∀ u ∈ us, ReadOk u.scr ∧ u.loc.length ≤ 100) (hE : openE us ≠ 0)
    (hW : RW w m) (hev : w.cell? ⟨10, 0, none⟩ = some (.iface te pe)) :
    Calls Tryz.prog 13 #[.slice G us.length cap, .slice G2 n2 c2] w fun e w' => e = .returned (.tuple #[.agg outZ.toArray, .int .i64 (openE us)]) ∧ Below w.heap.size w w' := by
 have hb := ba (Below.refl w.heap.size w) (.cells outZ.toArray 37)
 have hh := Has.alloc w outZ 37
 have HO := Lib.hid (open_bad us G cap F m te pe _ (hv.down hb) hu hE (hW.down hb) (moved hev hb (Nat.le_refl _)))
 obtain ⟨z, hz⟩ : ∃ z, z = openE us := ⟨_, rfl⟩
 rw [← hz] at hE HO ⊢
 have p1 : (z != 0) = true := by simpa using hE
 have p2 : (z == 0) = false := by simpa using hE
 have p3 : decide (z = 0) = false := decide_eq_false hE
 have HB := Lib.hid hb; have HH := Lib.hid hh
 unfold outZ at HH HO HB ⊢
 clear hb hh hv hu hE hW hev hz
 go_enter Tryz.func13, Tryz.ntmps13
 go_wp2_with fail
 refine HO.out.mono ?_
 rintro e w2 ⟨rfl, hb2⟩
 have hH := HH.out.down hb2
 have y0 := hH.1 0 _ rfl; have y1 := hH.1 1 _ rfl; have y2 := hH.1 2 _ rfl; have y3 := hH.1 3 _ rfl; have y4 := hH.1 4 _ rfl
 have g0 := hH.2.1 0 (by simp); have g1 := hH.2.1 1 (by simp); have g2 := hH.2.1 2 (by simp); have g3 := hH.2.1 3 (by simp); have g4 := hH.2.1 4 (by simp)
 have HHH := Lib.hid (((((hH.set' (.bool false) (i := 0) (by simp)).set' (.slice none 0 0) (i := 1) (by simp)).set' (.slice none 0 0) (i := 2) (by simp)).set' (.slice none 0 0) (i := 3) (by simp)).set' (.int .i64 0) (i := 4) (by simp))
 have HB2 := Lib.hid (bt HB.out hb2)
 clear hH hb2 HO HB HH
 go_wp2_with fail
 refine bodyPost_ret (v := .tuple #[.agg #[.bool false, .slice none 0 0, .slice none 0 0, .slice none 0 0, .int .i64 0], .int .i64 z]) ?_ rfl ⟨rfl, ((((HB2.out.setCell (Nat.le_refl _) _).setCell (Nat.le_refl _) _).setCell (Nat.le_refl _) _).setCell (Nat.le_refl _) _).setCell (Nat.le_refl _) _⟩
 have k0 := HHH.out.1 0 _ rfl; have k1 := HHH.out.1 1 _ rfl; have k2 := HHH.out.1 2 _ rfl; have k3 := HHH.out.1 3 _ rfl; have k4 := HHH.out.1 4 _ rfl
 simp [results, Tryz.results13, go_sem, k0, k1, k2, k3, k4]
theorem three_sat {w : World} {B : Nat} {u0 u1 u2 : Us} (h : Has w B [.string ⟨u0.loc.toArray⟩, .string ⟨u0.scr.toArray⟩, .string ⟨u1.loc.toArray⟩, .string ⟨u1.scr.toArray⟩, .string ⟨u2.loc.toArray⟩, .string ⟨u2.scr.toArray⟩]) : SAt cUs w (fun _ => True) (.slice (some ⟨B, 0, none⟩) 3 3) [u0, u1, u2] := by
 refine ⟨_, 3, rfl, Nat.le_refl _, fun i x hi => ?_⟩
 have hi3 : i < 3 := (List.getElem?_eq_some_iff.1 hi).1
 rcases three_of hi3 with rfl | rfl | rfl
 ·obtain rfl := Option.some.inj hi
  exact ⟨B, 0, rfl, trivial, h.2.2, usC u0, rfl, fun j v hj => by
   match j, hj with
   | 0, hj => cases hj; exact h.1 0 _ rfl
   | 1, hj => cases hj; exact h.1 1 _ rfl
   | _ + 2, hj => simp [usC] at hj⟩
 ·obtain rfl := Option.some.inj hi
  exact ⟨B, 0, rfl, trivial, h.2.2, usC u1, rfl, fun j v hj => by
   match j, hj with
   | 0, hj => cases hj; exact h.1 2 _ rfl
   | 1, hj => cases hj; exact h.1 3 _ rfl
   | _ + 2, hj => simp [usC] at hj⟩
 ·obtain rfl := Option.some.inj hi
  exact ⟨B, 0, rfl, trivial, h.2.2, usC u2, rfl, fun j v hj => by
   match j, hj with
   | 0, hj => cases hj; exact h.1 4 _ rfl
   | 1, hj => cases hj; exact h.1 5 _ rfl
   | _ + 2, hj => simp [usC] at hj⟩
theorem infoUser : (Tryz.prog.info? 47).map (fun i => (i.zero, i.size, i.bytes)) = some (some (.agg #[.string ⟨#[]⟩, .string ⟨#[]⟩]), 2, 32) := by kernel_rfl
theorem caseE_ne (i : Nat) : caseE i ≠ 0 := by
 unfold caseE
 repeat' split
 all_goals decide
theorem six_of {p : Nat} (h : p < 6) : p = 0 ∨ p = 1 ∨ p = 2 ∨ p = 3 ∨ p = 4 ∨ p = 5 := by omega
theorem topRefused_walk (a : Option Addr) (cap : Nat) (cs : List Raw) (n : Int) (mx : Int) (w : World) (hv : RawsAt w a cs) (hn : cs.length ≤ 9223372036854775807) (hw : Int64 n) (hT : Sc.Tabs w w.heap.size) (hX : Sc.ExtAt w ∧ 0 < w.heap.size) (hN : NamesAt w ∧ 4 < w.heap.size)
    (hev : ∃ te pe, w.cell? ⟨10, 0, none⟩ = some (.iface te pe)) (hmx : w.cell? ⟨2, 0, none⟩ = some (.int .i64 mx)) :
    Calls Tryz.prog 4 #[.slice a cs.length cap, .int .i64 n] w fun e w' => e = .returned (.bool true) ∧ Below w.heap.size w w' := by
 obtain ⟨te, pe, hev⟩ := hev
 have hW : RW w mx := ⟨hT, hX, hN, hmx⟩
 have HRW : Hid (∀ w', Below w.heap.size w w' → RW w' mx) := fun w' hb => hW.down hb
 have HEV : Hid (∀ w', Below w.heap.size w w' → w'.cell? ⟨10, 0, none⟩ = some (.iface te pe)) := fun w' hb => moved hev hb (Nat.le_refl _)
 have HAC : Hid (∀ w', Below w.heap.size w w' → Calls Tryz.prog 14 #[.slice a cs.length cap, .int .i64 10] w' fun e w'' => (∃ G n c, e = .returned (.slice G n c)) ∧ Below w'.heap.size w' w'') := fun w' hb => acts_any cs a cap 10 w' (hv.down hb) hn (by omega)
 have HUS := Lib.hid (users_any w)
 have HPK : Hid (∀ w, Calls Tryz.prog 8 #[.int .i64 n, .int .i64 6] w fun e w' => e = .returned (.int .i64 (pick n (6 : Nat))) ∧ w = w') := fun w => Picked_any n 6 w hw (by omega) (by omega)
 have hk := six_of (pick_lt n 6 (by omega))
 have HRUN : Hid (∀ (i : Nat) (z : Int) (w' : World) (G G2 : Option Addr) (cp n2 c2 : Nat), i < 6 → z = caseE i → SAt cUs w' (fun _ => True) (.slice G (caseU i).length cp) (caseU i) → Below w.heap.size w w' → Calls Tryz.prog 13 #[.slice G (caseU i).length cp, .slice G2 n2 c2] w' fun e w'' => e = .returned (.tuple #[.agg outZ.toArray, .int .i64 z]) ∧ Below w'.heap.size w' w'') := fun i z w' G G2 cp n2 c2 hi hz hs hb => by
  have hc := case_open i hi
  have h := run_bad (caseU i) G G2 cp n2 c2 (fun _ => True) mx te pe w' hs (case_read i) (by rw [hc]; exact caseE_ne i) (HRW.out _ hb) (HEV.out _ hb)
  rw [hc, ← hz] at h
  exact h
 generalize pick n (6 : Nat) = p at HPK hk
 unfold outZ at HRUN
 clear hW hT hX hN hmx hev hv hw
 go_enter Tryz.func4, Tryz.ntmps4
 go_wp2_with fail
 refine HUS.out.mono ?_
 rintro e w1 ⟨rfl, hH, hO1, hb1⟩
 have HH : Hid (Has w1 w.heap.size [.string ⟨annL.toArray⟩, .string ⟨([] : Str).toArray⟩, .string ⟨bobL.toArray⟩, .string ⟨bobT.toArray⟩, .string ⟨catL.toArray⟩, .string ⟨catT.toArray⟩]) := hH
 have HO1 := Lib.hid hO1; have HB1 := Lib.hid hb1
 clear hH hb1 hO1 HUS
 rcases hk with rfl | rfl | rfl | rfl | rfl | rfl
 ·go_wp2_with fail
  refine (HPK.out _).mono ?_
  rintro e w2 ⟨rfl, rfl⟩
  go_wp2_with fail
  refine (HAC.out _ HB1.out).mono ?_
  rintro e w3 ⟨⟨G2, n2, c2, rfl⟩, hb3⟩
  have HR := Lib.hid (HRUN.out 0 1 w3 none G2 0 n2 c2 (by omega) rfl (SAt.nil _ _ _) (bt HB1.out hb3))
  have HB3 := Lib.hid (bt HB1.out hb3)
  clear hb3 HRUN HAC
  go_wp2_with fail
  refine HR.out.mono ?_
  rintro e w4 ⟨rfl, hb4⟩
  have HB4 := Lib.hid (bt HB3.out hb4)
  clear hb4 HR
  go_wp2_with fail
  go_ret
  exact ⟨rfl, ba HB4.out _⟩
 ·obtain ⟨i0, hi, hz0, hz1, hz2⟩ := info_parts infoUser
  have HI := Lib.hid hi; have HZ0 := Lib.hid hz0; have HZ1 := Lib.hid hz1; have HZ2 := Lib.hid hz2
  have hsz : w.heap.size ≤ w1.heap.size := HB1.out.size
  clear hi hz0 hz1 hz2
  go_wp2_with fail
  refine (HPK.out _).mono ?_
  rintro e w2 ⟨rfl, rfl⟩
  go_wp2_with (at_builtin; refine wpList_append_lies _ (by rfl) _ _ _ (by rfl) w.heap.size 47 i0 _ 2 32 Tryz.underlying43 HI.out HZ0.out HZ1.out HZ2.out rfl (by omega) (.slice (some ⟨w.heap.size, 0, none⟩) 3 3) 3 (users0.flatMap usC) (by rfl) (HO1.out.alloc _) ⟨w1.heap.size, 0, none⟩ 1 1 [.string ⟨#[100, 97, 110]⟩, .string ⟨#[]⟩] (by rfl) (by rfl) (news_of w1 [.string ⟨#[100, 97, 110]⟩, .string ⟨#[]⟩] _) (by simp [Value.oneCell']) (by omega) (by unfold maxLen; omega) (by omega) (by simp; omega) (w1.heap.size + 1) (by simp) ?_)
  intro g5 cap5 w5 hown5 hgrow5 hat5 hlt5
  have hba := ba (Below.refl w1.heap.size w1) (.cells #[.string ⟨#[100, 97, 110]⟩, .string ⟨#[]⟩] 47)
  have hb5 : Below w.heap.size w w5 := below_row (bt HB1.out hba) (Nat.le_refl _) (row_down HO1.out hba) (Nat.le_refl _) hgrow5
  have hs5 : SAt cUs w5 (fun _ => True) (.slice (some ⟨g5, 0, none⟩) (caseU 1).length cap5) (caseU 1) := SAt.of_row (f := usC) (hf := fun _ => rfl) (show w5.ownsRow w.heap.size 47 2 (.slice (some ⟨g5, 0, none⟩) (caseU 1).length cap5) (caseU 1).length ((caseU 1).flatMap usC) from hown5) (fun _ _ => trivial)
  have HS5 := Lib.hid hs5; have HB5 := Lib.hid hb5
  clear hown5 hgrow5 hat5 hlt5 hba hb5 hs5
  go_wp2_with fail
  refine (HAC.out _ HB5.out).mono ?_
  rintro e w3 ⟨⟨G2, n2, c2, rfl⟩, hb3⟩
  have HR := Lib.hid (HRUN.out 1 1 w3 (some ⟨g5, 0, none⟩) G2 cap5 n2 c2 (by omega) rfl (HS5.out.down hb3) (bt HB5.out hb3))
  have HB3 := Lib.hid (bt HB5.out hb3)
  clear hb3 HRUN HAC HS5
  go_wp2_with fail
  refine HR.out.mono ?_
  rintro e w4 ⟨rfl, hb4⟩
  have HB4 := Lib.hid (bt HB3.out hb4)
  clear hb4 HR
  go_wp2_with fail
  go_ret
  exact ⟨rfl, ba HB4.out _⟩
 ·have hS := HH.out.set' (.string ⟨(annL).toArray⟩) (i := 2) (by simp)
  have cc := HH.out.1 2 _ rfl; have ff := HH.out.2.1 2 (by simp)
  have HSS := Lib.hid (three_sat (u0 := ⟨annL, []⟩) (u1 := ⟨annL, bobT⟩) (u2 := ⟨catL, catT⟩) hS)
  have HBS : Hid (Below w.heap.size w (w1.setCell ⟨w.heap.size, 2, none⟩ (.string ⟨(annL).toArray⟩))) := HB1.out.setCell (Nat.le_refl _) _
  clear hS HO1
  go_wp2_with fail
  refine (HPK.out _).mono ?_
  rintro e w2 ⟨rfl, rfl⟩
  go_wp2_with fail
  refine (HAC.out _ HBS.out).mono ?_
  rintro e w3 ⟨⟨G2, n2, c2, rfl⟩, hb3⟩
  have HR := Lib.hid (HRUN.out 2 10 w3 (some ⟨w.heap.size, 0, none⟩) G2 3 n2 c2 (by omega) rfl (HSS.out.down hb3) (bt HBS.out hb3))
  have HB3 := Lib.hid (bt HBS.out hb3)
  clear hb3 HRUN HAC cc ff HSS HBS
  go_wp2_with fail
  refine HR.out.mono ?_
  rintro e w4 ⟨rfl, hb4⟩
  have HB4 := Lib.hid (bt HB3.out hb4)
  clear hb4 HR
  go_wp2_with fail
  go_ret
  exact ⟨rfl, ba HB4.out _⟩
 ·have hS := HH.out.set' (.string ⟨([97, 32, 98] : Str).toArray⟩) (i := 4) (by simp)
  have cc := HH.out.1 4 _ rfl; have ff := HH.out.2.1 4 (by simp)
  have HSS := Lib.hid (three_sat (u0 := ⟨annL, []⟩) (u1 := ⟨bobL, bobT⟩) (u2 := ⟨[97, 32, 98], catT⟩) hS)
  have HBS : Hid (Below w.heap.size w (w1.setCell ⟨w.heap.size, 4, none⟩ (.string ⟨([97, 32, 98] : Str).toArray⟩))) := HB1.out.setCell (Nat.le_refl _) _
  clear hS HO1
  go_wp2_with fail
  refine (HPK.out _).mono ?_
  rintro e w2 ⟨rfl, rfl⟩
  go_wp2_with fail
  refine (HAC.out _ HBS.out).mono ?_
  rintro e w3 ⟨⟨G2, n2, c2, rfl⟩, hb3⟩
  have HR := Lib.hid (HRUN.out 3 3 w3 (some ⟨w.heap.size, 0, none⟩) G2 3 n2 c2 (by omega) rfl (HSS.out.down hb3) (bt HBS.out hb3))
  have HB3 := Lib.hid (bt HBS.out hb3)
  clear hb3 HRUN HAC cc ff HSS HBS
  go_wp2_with fail
  refine HR.out.mono ?_
  rintro e w4 ⟨rfl, hb4⟩
  have HB4 := Lib.hid (bt HB3.out hb4)
  clear hb4 HR
  go_wp2_with fail
  go_ret
  exact ⟨rfl, ba HB4.out _⟩
 ·have hS := HH.out.set' (.string ⟨(filT).toArray⟩) (i := 1) (by simp)
  have cc := HH.out.1 1 _ rfl; have ff := HH.out.2.1 1 (by simp)
  have HSS := Lib.hid (three_sat (u0 := ⟨annL, filT⟩) (u1 := ⟨bobL, bobT⟩) (u2 := ⟨catL, catT⟩) hS)
  have HBS : Hid (Below w.heap.size w (w1.setCell ⟨w.heap.size, 1, none⟩ (.string ⟨(filT).toArray⟩))) := HB1.out.setCell (Nat.le_refl _) _
  clear hS HO1
  go_wp2_with fail
  refine (HPK.out _).mono ?_
  rintro e w2 ⟨rfl, rfl⟩
  go_wp2_with fail
  refine (HAC.out _ HBS.out).mono ?_
  rintro e w3 ⟨⟨G2, n2, c2, rfl⟩, hb3⟩
  have HR := Lib.hid (HRUN.out 4 8 w3 (some ⟨w.heap.size, 0, none⟩) G2 3 n2 c2 (by omega) rfl (HSS.out.down hb3) (bt HBS.out hb3))
  have HB3 := Lib.hid (bt HBS.out hb3)
  clear hb3 HRUN HAC cc ff HSS HBS
  go_wp2_with fail
  refine HR.out.mono ?_
  rintro e w4 ⟨rfl, hb4⟩
  have HB4 := Lib.hid (bt HB3.out hb4)
  clear hb4 HR
  go_wp2_with fail
  go_ret
  exact ⟨rfl, ba HB4.out _⟩
 ·have hS := HH.out.set' (.string ⟨(keepT).toArray⟩) (i := 1) (by simp)
  have cc := HH.out.1 1 _ rfl; have ff := HH.out.2.1 1 (by simp)
  have HSS := Lib.hid (three_sat (u0 := ⟨annL, keepT⟩) (u1 := ⟨bobL, bobT⟩) (u2 := ⟨catL, catT⟩) hS)
  have HBS : Hid (Below w.heap.size w (w1.setCell ⟨w.heap.size, 1, none⟩ (.string ⟨(keepT).toArray⟩))) := HB1.out.setCell (Nat.le_refl _) _
  clear hS HO1
  go_wp2_with fail
  refine (HPK.out _).mono ?_
  rintro e w2 ⟨rfl, rfl⟩
  go_wp2_with fail
  refine (HAC.out _ HBS.out).mono ?_
  rintro e w3 ⟨⟨G2, n2, c2, rfl⟩, hb3⟩
  have HR := Lib.hid (HRUN.out 5 4 w3 (some ⟨w.heap.size, 0, none⟩) G2 3 n2 c2 (by omega) rfl (HSS.out.down hb3) (bt HBS.out hb3))
  have HB3 := Lib.hid (bt HBS.out hb3)
  clear hb3 HRUN HAC cc ff HSS HBS
  go_wp2_with fail
  refine HR.out.mono ?_
  rintro e w4 ⟨rfl, hb4⟩
  have HB4 := Lib.hid (bt HB3.out hb4)
  clear hb4 HR
  go_wp2_with fail
  go_ret
  exact ⟨rfl, ba HB4.out _⟩
end Go.Proofs.YtmkppkjikifdlaaGreatDoor.Tp
