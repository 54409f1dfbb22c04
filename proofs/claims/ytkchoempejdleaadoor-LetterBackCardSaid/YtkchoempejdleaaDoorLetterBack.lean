/-
  DERIVED. LetterBack: the walk.
-/
import Derived.Test.YtkchoempejdleaaDoorLetShow
namespace Go.Proofs.YtkchoempejdleaaDoor
open Go.RowKit

set_option maxHeartbeats 4000000 in
set_option maxRecDepth 20000 in
theorem letterBackWalk (a : Option Addr) (len cap : Nat) (x : Nat → Nat → ByteArray) (body : ByteArray) (m : Int) (w : World) (hx : StrRows w a len 2 x) (hlen : len ≤ maxLen) (hbody : body.size ≤ maxLen) (hm : w.cell? ⟨0, 0, none⟩ = some (.int .i64 m)) :
    Calls Tryd.prog 9 #[.slice a len cap, .string body] w fun e w' => e = .returned (.bool true) ∧ Below w.heap.size w w' := by
  obtain ⟨BD, hBD⟩ : ∃ BD : ByteArray, BD = ⟨(body.data.toList.take 200).toArray⟩ := ⟨_, rfl⟩
  have hMs := message_walk a len cap x body BD w hBD hx hlen hbody
  have hBs := take_size body BD 200 hBD
  have hg := msg_good x (min len 6)
  have hl6 : (msgL x (min len 6)).length ≤ 6 := by rw [msgL_len]; omega
  have hsz0 := msg_size x (min len 6)
  obtain ⟨fs, hfs⟩ : ∃ fs, fs = msgL x (min len 6) := ⟨_, rfl⟩
  rw [← hfs] at hMs hg hl6 hsz0
  have hsz : (showF fs).length + 2 + BD.size ≤ 2000 := by omega
  obtain ⟨RES, hRES⟩ : ∃ RES : ByteArray, RES = ⟨(showL fs BD.data.toList).toArray⟩ := ⟨_, rfl⟩
  have hRs : 2 ≤ RES.size ∧ RES.size ≤ 2000 := by
    have h1 : RES.size = (showL fs BD.data.toList).length := by rw [hRES]; show (List.toArray _).size = _; exact List.size_toArray
    rw [h1, showL_len]
    have : BD.data.toList.length = BD.size := by simp
    omega
  obtain ⟨hR1, hR2⟩ := hRs
  have HS : Hid (∀ v w, FldsAt w v fs → w.cell? ⟨0, 0, none⟩ = some (.int .i64 m) → Calls Tryd.prog 23 #[.agg #[v, .string BD]] w fun e w' => e = .returned (.tuple #[.string RES, .int .i64 0]) ∧ Below w.heap.size w w') := fun v w h1 h2 => show_walk fs v BD RES m w hRES h1 hg (by omega) hsz h2
  have HC : Hid (∀ v w, FldsAt w v fs → w.cell? ⟨0, 0, none⟩ = some (.int .i64 m) → Calls Tryd.prog 25 #[.agg #[v, .string BD]] w fun e w' => e = .returned (.int .i64 0) ∧ Below w.heap.size w w') := fun v w h1 h2 => mcheck_walk fs v BD m w h1 hg (by omega) hsz h2
  have HP : Hid (∀ w, w.cell? ⟨0, 0, none⟩ = some (.int .i64 m) → Calls Tryd.prog 22 #[.string RES] w fun e w' => (∃ v, e = .returned (.tuple #[.agg #[v, .string BD], .int .i64 0, .int .i64 0]) ∧ FldsAt w' v fs) ∧ Below w.heap.size w w') := fun w h => parse_walk RES BD fs m w hR2 (parse_back RES BD fs hRES hg (by omega)) h
  have HE : Hid (∀ v1 v2 w, FldsAt w v1 fs → FldsAt w v2 fs → Calls Tryd.prog 24 #[.agg #[v1, .string BD], .agg #[v2, .string BD]] w fun e w' => e = .returned (.bool true) ∧ Below w.heap.size w w') := fun v1 v2 w h1 h2 => same_any fs v1 v2 BD w h1 h2 (by omega)
  have hM := Lib.hid hm
  have HMs := Lib.hid hMs
  clear hm hMs hBD hRES hg hfs hsz hsz0 hx
  go_enter Tryd.func9, Tryd.ntmps9
  go_wp2_with fail
  refine HMs.out.mono ?_
  rintro e w1 ⟨⟨v, rfl, hv⟩, hw1⟩
  have p0 := alloc_cell w1 #[v, .string BD] 45 0 v rfl
  have p1 := alloc_cell w1 #[v, .string BD] 45 1 _ rfl
  have ha := ba (Below.refl _ w1) (.cells #[v, .string BD] 45)
  have hv1 := hv.down ha
  have hw1' := bt hw1 ha
  obtain ⟨G, c, hvv, _⟩ := hv
  subst hvv
  go_wp2_with fail
  refine (HS.out _ _ hv1 (moved hM.out hw1' (Nat.le_refl _))).mono ?_
  rintro e w2 ⟨rfl, hb2⟩
  have hv2 := hv1.down hb2
  have q0 := moved p0 hb2 (Nat.le_refl _)
  have q1 := moved p1 hb2 (Nat.le_refl _)
  have hw2 := bt hw1' hb2
  clear p0 p1 ha hv1
  go_wp2_with fail
  refine (HP.out _ (moved hM.out hw2 (Nat.le_refl _))).mono ?_
  rintro e w3 ⟨⟨u, rfl, hu⟩, hb3⟩
  have hv3 := hv2.down hb3
  have r0 := moved q0 hb3 (Nat.le_refl _)
  have r1 := moved q1 hb3 (Nat.le_refl _)
  have hw3 := bt hw2 hb3
  have t0 := alloc_cell w3 #[u, .string BD] 45 0 u rfl
  have t1 := alloc_cell w3 #[u, .string BD] 45 1 _ rfl
  have ha := ba (Below.refl _ w3) (.cells #[u, .string BD] 45)
  have hu3 := hu.down ha
  have hv3' := hv3.down ha
  have s0 := moved r0 ha (Nat.le_refl _)
  have s1 := moved r1 ha (Nat.le_refl _)
  have hw4 := bt hw3 ha
  obtain ⟨G2, c2, huu, _⟩ := hu
  subst huu
  clear q0 q1 r0 r1 hv2 hv3 ha
  go_wp2_with fail
  refine (HE.out _ _ _ hv3' hu3).mono ?_
  rintro e w5 ⟨rfl, hb5⟩
  have z0 := moved s0 hb5 (Nat.le_refl _)
  have z1 := moved s1 hb5 (Nat.le_refl _)
  have hv5 := hv3'.down hb5
  have hw5 := bt hw4 hb5
  clear s0 s1 t0 t1 hv3' hu3
  go_wp2_with fail
  refine (HC.out _ _ hv5 (moved hM.out hw5 (Nat.le_refl _))).mono ?_
  rintro e w6 ⟨rfl, hb6⟩
  have hw6 := bt hw5 hb6
  go_wp2_with fail
  go_ret
  exact ⟨congrArg (fun b => Ending.returned (Value.bool b)) (decide_eq_true (by omega)), hw6⟩
end Go.Proofs.YtkchoempejdleaaDoor
