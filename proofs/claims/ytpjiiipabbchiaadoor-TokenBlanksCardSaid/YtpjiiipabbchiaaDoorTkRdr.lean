/-
  DERIVED. The cutter of token: where it stands; letter, digit, next, span: the walks.
-/
import Derived.Test.YtpjiiipabbchiaaDoorHas
import Derived.Test.YtpjiiipabbchiaaDoorPair
import Derived.Test.YtpjiiipabbchiaaDoorTokPlain
import Derived.Lib.BufferOwn
import Derived.Lib.HexFns2
import Derived.Deep.QuietTactic
import Derived.BigQuiet
import Derived.Handy
namespace Go.Proofs.YtpjiiipabbchiaaDoor.Tk
open Go.RowKit

/-- 'the cutter in block b reads s, and stands at n' -/
def Rdr (w : World) (b : Nat) (s : ByteArray) (n : Nat) : Prop :=
  w.cell? ⟨b, 0, none⟩ = some (.string s) ∧ w.cell? ⟨b, 1, none⟩ = some (.int .i64 (n : Int)) ∧ w.frozen? ⟨b, 1, none⟩ = false ∧ b < w.heap.size
/-- 'what is left is l' -/
def Rest (s : ByteArray) (n : Nat) (l : List UInt8) : Prop := n + l.length = s.size ∧ s.data.toList.drop n = l
def RdrL (w : World) (b : Nat) (s : ByteArray) (l : List UInt8) : Prop := ∃ n, Rest s n l ∧ Rdr w b s n
theorem Rest.start (s : ByteArray) : Rest s 0 s.data.toList := ⟨by simp, rfl⟩
theorem Rest.nil {s : ByteArray} {n : Nat} (h : Rest s n []) : n = s.size := by have := h.1; simpa using this
theorem Rest.drop {s : ByteArray} {n : Nat} {l : List UInt8} (h : Rest s n l) (k : Nat) (hk : k ≤ l.length) : Rest s (n + k) (l.drop k) := by
  refine ⟨by have := h.1; rw [List.length_drop]; omega, ?_⟩
  rw [← h.2, List.drop_drop]
theorem Rest.cons {s : ByteArray} {n : Nat} {c : UInt8} {r : List UInt8} (h : Rest s n (c :: r)) : ∃ hlt : n < s.size, s[n] = c ∧ Rest s (n + 1) r := by
  have h1 := h.1
  simp only [List.length_cons] at h1
  have hlt : n < s.size := by omega
  have h2 := h.2
  have hl : n < s.data.toList.length := by simpa using hlt
  rw [List.drop_eq_getElem_cons hl] at h2
  obtain ⟨e1, e2⟩ := List.cons.inj h2
  exact ⟨hlt, e1, by omega, e2⟩
theorem Rest.le {s : ByteArray} {n : Nat} {l : List UInt8} (h : Rest s n l) : n ≤ s.size := by have := h.1; omega
theorem Rdr.set {w : World} {b n : Nat} {s : ByteArray} (h : Rdr w b s n) (n' : Nat) : Rdr (w.setCell ⟨b, 1, none⟩ (.int .i64 (n' : Int))) b s n' :=
  ⟨(World.cell?_setCell_other _ _ _ _ (by simp)).trans h.1, World.cell?_setCell_same _ _ _ h.2.1, (World.frozen?_setCell ..).trans h.2.2.1, by have := h.2.2.2; simpa [World.setCell] using this⟩
theorem Rdr.step {w : World} {b n : Nat} {s : ByteArray} (h : Rdr w b s n) : Rdr (w.setCell ⟨b, 1, none⟩ (.int .i64 ((n : Int) + 1))) b s (n + 1) := h.set (n + 1)
theorem Rdr.drew {w : World} {b n : Nat} {s : ByteArray} (h : Rdr w b s n) : Rdr w.drew b s n := ⟨h.1, h.2.1, h.2.2.1, h.2.2.2⟩
theorem Rdr.drewN {w : World} {b n : Nat} {s : ByteArray} (h : Rdr w b s n) (k : Nat) : Rdr (w.drewN k) b s n := ⟨h.1, h.2.1, h.2.2.1, h.2.2.2⟩
theorem Rdr.below {w w' : World} {b n : Nat} {s : ByteArray} (h : Rdr w b s n) (hb : Below w.heap.size w w') : Rdr w' b s n :=
  ⟨moved h.1 hb (Nat.le_refl _), moved h.2.1 hb (Nat.le_refl _), (hb.frozen (p := ⟨b, 1, none⟩) h.2.2.2).trans h.2.2.1, Nat.lt_of_lt_of_le h.2.2.2 hb.size⟩
theorem RdrL.below {w w' : World} {b : Nat} {s : ByteArray} {l : List UInt8} (h : RdrL w b s l) (hb : Below w.heap.size w w') : RdrL w' b s l := by
  obtain ⟨n, h1, h2⟩ := h; exact ⟨n, h1, h2.below hb⟩
theorem below_drewN (w : World) (k : Nat) : Below w.heap.size w (w.drewN k) := ⟨rfl, rfl, rfl, Nat.le_refl _, fun _ _ => rfl⟩
/-- where the cutter stands, by its cell -/
def posAt (w : World) (b : Nat) : Nat := match w.cell? ⟨b, 1, none⟩ with
  | some (.int _ n) => n.toNat
  | _ => 0
theorem Rdr.pos {w : World} {b n : Nat} {s : ByteArray} (h : Rdr w b s n) : posAt w b = n := by unfold posAt; rw [h.2.1]; rfl
/-- the next byte; 0: there is none -/
def nextL : List UInt8 → UInt8
  | [] => 0
  | c :: _ => c

theorem u8_le (a c : UInt8) : decide (a ≤ c) = decide ((a.toNat : Int) ≤ (c.toNat : Int)) := by
  rw [decide_eq_decide, UInt8.le_iff_toNat_le]; omega
theorem u8_eq (c a : UInt8) : (c == a) = ((c.toNat : Int) == (a.toNat : Int)) := by
  rw [Bool.eq_iff_iff, beq_iff_eq, beq_iff_eq]
  constructor
  · rintro rfl; rfl
  · intro h; exact UInt8.toNat_inj.1 (by omega)
theorem letter_any (c : UInt8) (w : World) : Calls Tryd.prog 25 #[.int .u8 (c.toNat : Int)] w fun e w' => e = .returned (.bool (isLet c)) ∧ w = w' := by
  have H : Hid (isLet c = ((decide ((97 : Int) ≤ (c.toNat : Int)) && decide ((c.toNat : Int) ≤ 122)) || (decide ((65 : Int) ≤ (c.toNat : Int)) && decide ((c.toNat : Int) ≤ 90)) || ((c.toNat : Int) == 95))) := by
    unfold Hid isLet
    rw [u8_le, u8_le, u8_le, u8_le, u8_eq]
    rfl
  rw [H.out]
  have hb : (c.toNat : Int) < 256 := by have := c.toNat_lt; omega
  generalize (c.toNat : Int) = x at *
  clear H
  go_enter Tryd.func25, Tryd.ntmps25
  go_wp2
  all_goals
    go_ret
    refine ⟨congrArg (fun b => Ending.returned (Value.bool b)) ?_, rfl⟩
    refine Bool.eq_iff_iff.2 ?_
    first | omega | (simp <;> omega) | simp
theorem digit_any (c : UInt8) (w : World) : Calls Tryd.prog 37 #[.int .u8 (c.toNat : Int)] w fun e w' => e = .returned (.bool (isDig c)) ∧ w = w' := by
  have H : Hid (isDig c = (decide ((48 : Int) ≤ (c.toNat : Int)) && decide ((c.toNat : Int) ≤ 57))) := by
    unfold Hid isDig
    rw [u8_le, u8_le]
    rfl
  rw [H.out]
  have hb : (c.toNat : Int) < 256 := by have := c.toNat_lt; omega
  generalize (c.toNat : Int) = x at *
  clear H
  go_enter Tryd.func37, Tryd.ntmps37
  go_wp2
  all_goals
    go_ret
    refine ⟨congrArg (fun b => Ending.returned (Value.bool b)) ?_, rfl⟩
    refine Bool.eq_iff_iff.2 ?_
    first | omega | (simp <;> omega) | simp
theorem wordB_any (c : UInt8) (w : World) : Calls Tryd.prog 41 #[.int .u8 (c.toNat : Int)] w fun e w' => e = .returned (.bool (isWd c)) ∧ w = w' := by
  cases hl : isLet c with
  | true =>
    have H1 : Hid (∀ w, Calls Tryd.prog 25 #[.int .u8 (c.toNat : Int)] w fun e w' => e = .returned (.bool true) ∧ w = w') := fun w => hl ▸ letter_any c w
    have H : Hid (isWd c = true) := by unfold Hid isWd; rw [hl]; rfl
    clear hl
    go_enter Tryd.func41, Tryd.ntmps41
    go_wp2_with (go_at_call 25; refine (H1.out _).mono ?_; rintro e w' ⟨rfl, rfl⟩)
    go_ret
    exact ⟨by rw [H.out]; rfl, rfl⟩
  | false =>
    have H1 : Hid (∀ w, Calls Tryd.prog 25 #[.int .u8 (c.toNat : Int)] w fun e w' => e = .returned (.bool false) ∧ w = w') := fun w => hl ▸ letter_any c w
    have H2 := Lib.hid (digit_any c)
    have H : Hid (isWd c = isDig c) := by unfold Hid isWd; rw [hl]; rfl
    rw [H.out]
    clear hl H
    generalize isDig c = d at H2 ⊢
    go_enter Tryd.func41, Tryd.ntmps41
    go_wp2_with (first | (go_at_call 25; refine (H1.out _).mono ?_; rintro e w' ⟨rfl, rfl⟩) | (go_at_call 37; refine (H2.out _).mono ?_; rintro e w' ⟨rfl, rfl⟩))
    go_ret
    exact ⟨rfl, rfl⟩
theorem wsB_any (c : UInt8) (w : World) : Calls Tryd.prog 33 #[.int .u8 (c.toNat : Int)] w fun e w' => e = .returned (.bool (isWs c)) ∧ w = w' := by
  have H : Hid (isWs c = (((c.toNat : Int) == 32) || ((c.toNat : Int) == 9) || ((c.toNat : Int) == 13) || ((c.toNat : Int) == 10))) := by
    unfold Hid isWs
    rw [u8_eq, u8_eq, u8_eq, u8_eq]
    rfl
  rw [H.out]
  generalize (c.toNat : Int) = x at *
  clear H
  go_enter Tryd.func33, Tryd.ntmps33
  go_wp2
  all_goals
    go_ret
    refine ⟨congrArg (fun b => Ending.returned (Value.bool b)) ?_, rfl⟩
    refine Bool.eq_iff_iff.2 ?_
    first | omega | (simp <;> omega) | simp
theorem nlB_any (c : UInt8) (w : World) : Calls Tryd.prog 34 #[.int .u8 (c.toNat : Int)] w fun e w' => e = .returned (.bool (noNl c)) ∧ w = w' := by
  have H : Hid (noNl c = ((c.toNat : Int) != 10)) := by
    unfold Hid noNl
    rw [bne, u8_eq]
    rfl
  rw [H.out]
  generalize (c.toNat : Int) = x at *
  clear H
  go_enter Tryd.func34, Tryd.ntmps34
  go_wp2
  all_goals
    go_ret
    refine ⟨congrArg (fun b => Ending.returned (Value.bool b)) ?_, rfl⟩
    refine Bool.eq_iff_iff.2 ?_
    first | omega | (simp <;> omega) | simp

set_option maxHeartbeats 1000000 in
theorem next_any (b n : Nat) (s : ByteArray) (l : List UInt8) (w : World) (_hs : s.size ≤ 100000) (hr : Rest s n l) (h : Rdr w b s n) :
    Calls Tryd.prog 26 #[.pointer (some ⟨b, 0, none⟩)] w fun e w' => e = .returned (.int .u8 ((nextL l).toNat : Int)) ∧ ∃ k, w' = w.drewN k := by
  obtain ⟨c0, c1, f1, hb⟩ := h
  cases l with
  | nil =>
    obtain rfl := hr.nil
    clear hr
    go_enter Tryd.func26, Tryd.ntmps26
    go_wp2
    go_quiet (fail)
    go_wp2
    go_ret
    exact ⟨rfl, _, rfl⟩
  | cons c r =>
    obtain ⟨hlt, hc, _⟩ := hr.cons
    have HC := Lib.hid hc
    have h1 : decide ((s.size : Int) ≤ (n : Int)) = false := decide_eq_false (by omega)
    clear hr hc
    go_enter Tryd.func26, Tryd.ntmps26
    go_wp2
    go_quiet (fail)
    go_wp2
    go_quiet (fail)
    go_wp2
    go_ret
    exact ⟨by rw [← HC.out]; rfl, _, World.drewN_drewN _ _ _⟩
end Go.Proofs.YtpjiiipabbchiaaDoor.Tk
