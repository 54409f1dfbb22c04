/- On the way. -/
import Derived.Test.YtjfclekmhfgkmaaGreatDoorRScStkMem
import Derived.Test.YtjfclekmhfgkmaaGreatDoorRScPut
import Derived.Deep.DeepCutAuto
import Derived.Deep.CutBlock
import Derived.Deep.RegionLaw
import Derived.Deep.RegionHeld3
import Derived.BigRegion
set_option linter.unusedVariables false
set_option linter.unusedSimpArgs false
set_option maxHeartbeats 8000000
set_option maxRecDepth 20000
namespace Go.Proofs.YtjfclekmhfgkmaaGreatDoor.Sc
open Go.RowKit
open Tk (Tok)
def TestPost (t : Tst) (n : Nat) (w : World) (e : Ending) (w' : World) : Prop := ∃ vs : List Value, e = .returned (.agg vs.toArray) ∧ (cTst n).rep w' (fun b => w.heap.size ≤ b) t vs ∧ Below w.heap.size w w'
theorem has_six {w : World} {b : Nat} {a0 a1 a2 a3 a4 a5 : Value} (h : Has w b [a0, a1, a2, a3, a4, a5]) :
    w.cell? ⟨b, 0, none⟩ = some a0 ∧ w.cell? ⟨b, 1, none⟩ = some a1 ∧ w.cell? ⟨b, 2, none⟩ = some a2 ∧ w.cell? ⟨b, 3, none⟩ = some a3 ∧ w.cell? ⟨b, 4, none⟩ = some a4 ∧ w.cell? ⟨b, 5, none⟩ = some a5 :=
 ⟨h.1 0 _ rfl, h.1 1 _ rfl, h.1 2 _ rfl, h.1 3 _ rfl, h.1 4 _ rfl, h.1 5 _ rfl⟩
theorem has_oct' {w : World} {b : Nat} {a0 a1 a2 a3 a4 a5 a6 a7 : Value} (h : Has w b [a0, a1, a2, a3, a4, a5, a6, a7]) : w.cell? ⟨b, 0, none⟩ = some a0 ∧ w.cell? ⟨b, 1, none⟩ = some a1 ∧ w.cell? ⟨b, 2, none⟩ = some a2 ∧ w.cell? ⟨b, 3, none⟩ = some a3 ∧ w.cell? ⟨b, 4, none⟩ = some a4 ∧ w.cell? ⟨b, 5, none⟩ = some a5 ∧ w.cell? ⟨b, 6, none⟩ = some a6 ∧ w.cell? ⟨b, 7, none⟩ = some a7 :=
 ⟨h.1 0 _ rfl, h.1 1 _ rfl, h.1 2 _ rfl, h.1 3 _ rfl, h.1 4 _ rfl, h.1 5 _ rfl, h.1 6 _ rfl, h.1 7 _ rfl⟩
theorem test_end {R : Nat} {t : Tst} {n : Nat} {a0 a1 a2 a3 a4 a5 a6 a7 : Value} {a : Act} {W w : World} (ht : a.tmps.getD 4 undef = .pointer (some ⟨R, 0, none⟩)) (hd : a.defers = []) (h : Has W R [a0, a1, a2, a3, a4, a5, a6, a7]) (hr : (cTst n).rep W (fun b => w.heap.size ≤ b) t [a0, a1, a2, a3, a4, a5, a6, a7]) (hb : Below w.heap.size w W) :
    bodyPost Tryz.prog Tryz.f44 (TestPost t n w) .ret a W := by
 obtain ⟨c0, c1, c2, c3, c4, c5, c6, c7⟩ := has_oct' h
 refine bodyPost_ret (v := .agg #[a0, a1, a2, a3, a4, a5, a6, a7]) ?_ hd ⟨_, rfl, hr, hb⟩
 have ht' : a.tmps[4]?.getD undef = .pointer (some ⟨R, 0, none⟩) := by simpa using ht
 simp [results, Tryz.results44, go_sem, ht', c0, c1, c2, c3, c4, c5, c6, c7]
theorem zero_rep (n : Nat) (w : World) (F : Dom) (k : Int) : (cTst (n + 1)).rep w F (zeroT k) [.int .i64 k, .int .i64 0, .int .i64 0, .slice none 0 0, .slice none 0 0, .bool false, .int .i64 0, .slice none 0 0] :=
 ⟨_, _, _, rfl, SAt.nil _ _ _, SAt.nil _ _ _, SAt.nil _ _ _⟩
theorem has_mid (w : World) (xs rs ts : List Value) (t1 t2 t3 : TypeId) : Has (((w.alloc (.cells xs.toArray t1)).alloc (.cells rs.toArray t2)).alloc (.cells ts.toArray t3)) (w.heap.size + 1) rs ∧ Below w.heap.size w (((w.alloc (.cells xs.toArray t1)).alloc (.cells rs.toArray t2)).alloc (.cells ts.toArray t3)) := by
 have h := Has.alloc (w.alloc (.cells xs.toArray t1)) rs t2
 rw [World.size_alloc] at h
 exact ⟨h.down (ba (Below.refl _ _) _), ba (ba (ba (Below.refl _ _) _) _) _⟩
theorem test_zero (k : Int) (x : Stk) (v : Value) (d : Int) (w : World) (hb : Bd x) (hk : k = 1 ∨ k = 2) (h : (kindS x = k) ∨ (k = 1 ∧ d = 3 ∧ 3 ≤ kindS x ∧ kindS x ≤ 5)) (hd : 1 ≤ d ∧ d ≤ 3) :
    Calls Tryz.prog 44 #[.agg (stkC x v).toArray, .int .i64 d] w (TestPost (zeroT k) 4 w) := by
 have HPK : Hid (∀ w, Calls Tryz.prog 43 #[.int .i64 x.kind, .int .i64 10] w fun e w' => e = .returned (.int .i64 (pick x.kind 10)) ∧ w = w') := fun w => picked_any x.kind 10 w hb.k.1 hb.k.2 (by omega) (by omega)
 have hp := pick_lt_int x.kind 10 (by omega)
 unfold kindS at h
 obtain ⟨p, hpp⟩ : ∃ p, p = pick x.kind 10 := ⟨_, rfl⟩
 rw [← hpp] at HPK hp h
 obtain ⟨xk, xa, xb, xs, xt, xsub⟩ := x
 simp only [stkC] at *
 have key : (p = 0 ∧ k = 1) ∨ (p = 1 ∧ k = 2) ∨ (p = 2 ∧ k = 1 ∧ d = 3) ∨ (p = 3 ∧ k = 1 ∧ d = 3) ∨ (p = 4 ∧ k = 1 ∧ d = 3) := by omega
 clear hpp hp hk h hb
 obtain ⟨hd1, hd3⟩ := hd
 rcases key with ⟨rfl, rfl⟩ | ⟨rfl, rfl⟩ | ⟨rfl, rfl, rfl⟩ | ⟨rfl, rfl, rfl⟩ | ⟨rfl, rfl, rfl⟩
 all_goals
  go_enter Tryz.func44, Tryz.ntmps44
  go_upto_region 2 with (go_at_call 43; refine (HPK.out _).mono ?_; rintro e w' ⟨rfl, rfl⟩)
  go_wp2_with fail
 all_goals
  exact test_end rfl rfl (has_mid w _ _ _ _ _ _).1 (zero_rep 3 _ _ _) (has_mid w _ _ _ _ _ _).2
theorem wp_at {P : Program} {c : Code} {Q : Exit → Act → World → Prop} {a : Act} {W : World} (R : World → Prop) (hR : R W) (h : ∀ W, R W → c.wp P Q a W) : c.wp P Q a W := h W hR
def res8 : List Value := [.int .i64 0, .int .i64 0, .int .i64 0, .slice none 0 0, .slice none 0 0, .bool false, .int .i64 0, .slice none 0 0]
structure TB (w wx : World) (S : Nat) (xs ts : List Value) : Prop where
 stick : Has wx S xs
 res : Has wx (S + 1) res8
 tst : Has wx (S + 1 + 1) ts
 bel : Below w.heap.size w wx
theorem TB.down {w wx wy : World} {S : Nat} {xs ts : List Value} (h : TB w wx S xs ts) (hb : Below wx.heap.size wx wy) : TB w wy S xs ts := ⟨h.stick.down hb, h.res.down hb, h.tst.down hb, bt h.bel hb⟩
theorem TB.put {w wx : World} {S i : Nat} {xs ts : List Value} (h : TB w wx S xs ts) (u : Value) (hi : i < ts.length) (hS : w.heap.size ≤ S) : TB w (wx.setCell ⟨S + 1 + 1, i, none⟩ u) S xs (ts.set i u) :=
 ⟨h.stick.else' (by omega) u, h.res.else' (by omega) u, h.tst.set' u hi, h.bel.setCell (by show w.heap.size ≤ S + 1 + 1; omega) u⟩
theorem tb_start (w : World) (xs ts : List Value) (t1 t2 t3 : TypeId) : TB w (((w.alloc (.cells xs.toArray t1)).alloc (.cells res8.toArray t2)).alloc (.cells ts.toArray t3)) w.heap.size xs ts := by
 have h1 := Has.alloc w xs t1
 have h2 := Has.alloc (w.alloc (.cells xs.toArray t1)) res8 t2
 have h3 := Has.alloc ((w.alloc (.cells xs.toArray t1)).alloc (.cells res8.toArray t2)) ts t3
 rw [World.size_alloc] at h2
 rw [World.size_alloc, World.size_alloc] at h3
 have b1 : Below (w.alloc (.cells xs.toArray t1)).heap.size (w.alloc (.cells xs.toArray t1)) ((w.alloc (.cells xs.toArray t1)).alloc (.cells res8.toArray t2)) := ba (Below.refl _ _) _
 have b2 : Below ((w.alloc (.cells xs.toArray t1)).alloc (.cells res8.toArray t2)).heap.size ((w.alloc (.cells xs.toArray t1)).alloc (.cells res8.toArray t2)) (((w.alloc (.cells xs.toArray t1)).alloc (.cells res8.toArray t2)).alloc (.cells ts.toArray t3)) := ba (Below.refl _ _) _
 exact ⟨(h1.down b1).down b2, h2.down b2, h3, ba (ba (ba (Below.refl _ _) _) _) _⟩
theorem extract_take (s : ByteArray) (n : Nat) : s.extract 0 n = ⟨(s.data.toList.take n).toArray⟩ := by
 rw [Lib.extract_eq]; simp
theorem clip_any (s : ByteArray) (m : Int) (w : World) (_hs : s.size ≤ 9223372036854775807) (h0 : 0 ≤ m) (h1 : m ≤ 9223372036854775807) :
    Calls Tryz.prog 72 #[.string s, .int .i64 m] w fun e w' => e = .returned (.string ⟨(s.data.toList.take m.toNat).toArray⟩) ∧ w = w' := by
 obtain ⟨n, rfl⟩ := Int.eq_ofNat_of_zero_le h0
 rw [Int.toNat_natCast]
 have H : Hid (s.extract 0 (min (s.size : Int) (n : Int)).toNat = ⟨(s.data.toList.take n).toArray⟩) := by
  unfold Hid
  rw [extract_take]
  by_cases h : n < s.size
  ·rw [show (min (s.size : Int) (n : Int)).toNat = n by omega]
  ·rw [show (min (s.size : Int) (n : Int)).toNat = s.size by omega, List.take_of_length_le (by simp), List.take_of_length_le (by simp; omega)]
 go_enter Tryz.func72, Tryz.ntmps72
 go_wp2
 go_ret
 exact ⟨congrArg (fun b => Ending.returned (Value.string b)) H.out, rfl⟩
theorem short_any (s : Str) (w : World) (hs : s.length ≤ 9223372036854775807) : Calls Tryz.prog 45 #[.string ⟨s.toArray⟩] w fun e w' => e = .returned (.string ⟨(s.take 12).toArray⟩) ∧ w = w' := by
 have HC : Hid (∀ w, Calls Tryz.prog 72 #[.string ⟨s.toArray⟩, .int .i64 12] w fun e w' => e = .returned (.string ⟨(s.take 12).toArray⟩) ∧ w = w') := fun w => clip_any ⟨s.toArray⟩ 12 w (by show s.toArray.size ≤ _; rw [List.size_toArray]; exact hs) (by decide) (by decide)
 go_enter Tryz.func45, Tryz.ntmps45
 go_wp2_with (go_at_call 72; refine (HC.out _).mono ?_; rintro e w' ⟨rfl, rfl⟩)
 go_ret
 exact ⟨rfl, rfl⟩
end Go.Proofs.YtjfclekmhfgkmaaGreatDoor.Sc
