/-
  DERIVED. Merged of: TkRdr, TkSpan, TkSkip, TkText, TkNum, TkOne, TkCut.
-/
import Derived.Test.YtlgbmnmoobpkkaaDoorHas
import Derived.Test.YtlgbmnmoobpkkaaDoorPair
import Derived.Test.YtlgbmnmoobpkkaaDoorTokPlain
import Derived.Lib.BufferOwn
import Derived.Lib.HexFns2
import Derived.Deep.QuietTactic
import Derived.BigQuiet
import Derived.Handy
import Derived.Test.YtlgbmnmoobpkkaaDoorTkShelf
import Derived.IntWalk
import Derived.Deep.Cut
import Derived.Deep.RegionHeld3
import Derived.Deep.AppendLies
import Derived.Lib.AtoiAllCases
import Derived.Test.YtlgbmnmoobpkkaaDoorTokLaws
import Derived.Test.YtlgbmnmoobpkkaaDoorTokMore
import Derived.Test.YtlgbmnmoobpkkaaDoorCod
namespace Go.Proofs.YtlgbmnmoobpkkaaDoor.Tk
open Go.RowKit

/-- 'the cutter in block b reads s, and stands at n' -/
def Rdr (w : World) (b : Nat) (s : ByteArray) (n : Nat) : Prop :=
  w.cell? ⟨b, 0, none⟩ = some (.string s) ∧ w.cell? ⟨b, 1, none⟩ = some (.int .i64 (n : Int)) ∧ w.frozen? ⟨b, 1, none⟩ = false ∧ b < w.heap.size
/-- 'what is left is l' -/
def Rest (s : ByteArray) (n : Nat) (l : List UInt8) : Prop := n + l.length = s.size ∧ s.data.toList.drop n = l
def RdrL (w : World) (b : Nat) (s : ByteArray) (l : List UInt8) : Prop := ∃ n, Rest s n l ∧ Rdr w b s n
theorem Rest.start (s : ByteArray) : Rest s 0 s.data.toList := ⟨by simp, rfl⟩
theorem Rest.nil {s : ByteArray} {n : Nat} (h : Rest s n []) : n = s.size := by have := h.1; simpa using this
theorem Rest.drop {s : ByteArray} {n : Nat} {l : List UInt8} (h : Rest s n l) (k : Nat) (hk : k ≤ l.length) : Rest s (n + k) (l.drop k) := by
  refine ⟨by have := h.1; rw [List.length_drop]; omega, ?_⟩
  rw [← h.2, List.drop_drop]
theorem Rest.cons {s : ByteArray} {n : Nat} {c : UInt8} {r : List UInt8} (h : Rest s n (c :: r)) : ∃ hlt : n < s.size, s[n] = c ∧ Rest s (n + 1) r := by
  have h1 := h.1
  simp only [List.length_cons] at h1
  have hlt : n < s.size := by omega
  have h2 := h.2
  have hl : n < s.data.toList.length := by simpa using hlt
  rw [List.drop_eq_getElem_cons hl] at h2
  obtain ⟨e1, e2⟩ := List.cons.inj h2
  exact ⟨hlt, e1, by omega, e2⟩
theorem Rest.le {s : ByteArray} {n : Nat} {l : List UInt8} (h : Rest s n l) : n ≤ s.size := by have := h.1; omega
theorem Rdr.set {w : World} {b n : Nat} {s : ByteArray} (h : Rdr w b s n) (n' : Nat) : Rdr (w.setCell ⟨b, 1, none⟩ (.int .i64 (n' : Int))) b s n' :=
  ⟨(World.cell?_setCell_other _ _ _ _ (by simp)).trans h.1, World.cell?_setCell_same _ _ _ h.2.1, (World.frozen?_setCell ..).trans h.2.2.1, by have := h.2.2.2; simpa [World.setCell] using this⟩
theorem Rdr.step {w : World} {b n : Nat} {s : ByteArray} (h : Rdr w b s n) : Rdr (w.setCell ⟨b, 1, none⟩ (.int .i64 ((n : Int) + 1))) b s (n + 1) := h.set (n + 1)
theorem Rdr.drew {w : World} {b n : Nat} {s : ByteArray} (h : Rdr w b s n) : Rdr w.drew b s n := ⟨h.1, h.2.1, h.2.2.1, h.2.2.2⟩
theorem Rdr.drewN {w : World} {b n : Nat} {s : ByteArray} (h : Rdr w b s n) (k : Nat) : Rdr (w.drewN k) b s n := ⟨h.1, h.2.1, h.2.2.1, h.2.2.2⟩
theorem Rdr.below {w w' : World} {b n : Nat} {s : ByteArray} (h : Rdr w b s n) (hb : Below w.heap.size w w') : Rdr w' b s n :=
  ⟨moved h.1 hb (Nat.le_refl _), moved h.2.1 hb (Nat.le_refl _), (hb.frozen (p := ⟨b, 1, none⟩) h.2.2.2).trans h.2.2.1, Nat.lt_of_lt_of_le h.2.2.2 hb.size⟩
theorem RdrL.below {w w' : World} {b : Nat} {s : ByteArray} {l : List UInt8} (h : RdrL w b s l) (hb : Below w.heap.size w w') : RdrL w' b s l := by
  obtain ⟨n, h1, h2⟩ := h; exact ⟨n, h1, h2.below hb⟩
theorem below_drewN (w : World) (k : Nat) : Below w.heap.size w (w.drewN k) := ⟨rfl, rfl, rfl, Nat.le_refl _, fun _ _ => rfl⟩
/-- where the cutter stands, by its cell -/
def posAt (w : World) (b : Nat) : Nat := match w.cell? ⟨b, 1, none⟩ with
  | some (.int _ n) => n.toNat
  | _ => 0
theorem Rdr.pos {w : World} {b n : Nat} {s : ByteArray} (h : Rdr w b s n) : posAt w b = n := by unfold posAt; rw [h.2.1]; rfl
/-- the next byte; 0: there is none -/
def nextL : List UInt8 → UInt8
  | [] => 0
  | c :: _ => c

theorem u8_le (a c : UInt8) : decide (a ≤ c) = decide ((a.toNat : Int) ≤ (c.toNat : Int)) := by
  rw [decide_eq_decide, UInt8.le_iff_toNat_le]; omega
theorem u8_eq (c a : UInt8) : (c == a) = ((c.toNat : Int) == (a.toNat : Int)) := by
  rw [Bool.eq_iff_iff, beq_iff_eq, beq_iff_eq]
  constructor
  · rintro rfl; rfl
  · intro h; exact UInt8.toNat_inj.1 (by omega)
theorem letter_any (c : UInt8) (w : World) : Calls Tryd.prog 29 #[.int .u8 (c.toNat : Int)] w fun e w' => e = .returned (.bool (isLet c)) ∧ w = w' := by
  have H : Hid (isLet c = ((decide ((97 : Int) ≤ (c.toNat : Int)) && decide ((c.toNat : Int) ≤ 122)) || (decide ((65 : Int) ≤ (c.toNat : Int)) && decide ((c.toNat : Int) ≤ 90)) || ((c.toNat : Int) == 95))) := by
    unfold Hid isLet
    rw [u8_le, u8_le, u8_le, u8_le, u8_eq]
    rfl
  rw [H.out]
  have hb : (c.toNat : Int) < 256 := by have := c.toNat_lt; omega
  generalize (c.toNat : Int) = x at *
  clear H
  go_enter Tryd.func29, Tryd.ntmps29
  go_wp2
  all_goals
    go_ret
    refine ⟨congrArg (fun b => Ending.returned (Value.bool b)) ?_, rfl⟩
    refine Bool.eq_iff_iff.2 ?_
    first | omega | (simp <;> omega) | simp
theorem digit_any (c : UInt8) (w : World) : Calls Tryd.prog 45 #[.int .u8 (c.toNat : Int)] w fun e w' => e = .returned (.bool (isDig c)) ∧ w = w' := by
  have H : Hid (isDig c = (decide ((48 : Int) ≤ (c.toNat : Int)) && decide ((c.toNat : Int) ≤ 57))) := by
    unfold Hid isDig
    rw [u8_le, u8_le]
    rfl
  rw [H.out]
  have hb : (c.toNat : Int) < 256 := by have := c.toNat_lt; omega
  generalize (c.toNat : Int) = x at *
  clear H
  go_enter Tryd.func45, Tryd.ntmps45
  go_wp2
  all_goals
    go_ret
    refine ⟨congrArg (fun b => Ending.returned (Value.bool b)) ?_, rfl⟩
    refine Bool.eq_iff_iff.2 ?_
    first | omega | (simp <;> omega) | simp
theorem wordB_any (c : UInt8) (w : World) : Calls Tryd.prog 54 #[.int .u8 (c.toNat : Int)] w fun e w' => e = .returned (.bool (isWd c)) ∧ w = w' := by
  cases hl : isLet c with
  | true =>
    have H1 : Hid (∀ w, Calls Tryd.prog 29 #[.int .u8 (c.toNat : Int)] w fun e w' => e = .returned (.bool true) ∧ w = w') := fun w => hl ▸ letter_any c w
    have H : Hid (isWd c = true) := by unfold Hid isWd; rw [hl]; rfl
    clear hl
    go_enter Tryd.func54, Tryd.ntmps54
    go_wp2_with (go_at_call 29; refine (H1.out _).mono ?_; rintro e w' ⟨rfl, rfl⟩)
    go_ret
    exact ⟨by rw [H.out]; rfl, rfl⟩
  | false =>
    have H1 : Hid (∀ w, Calls Tryd.prog 29 #[.int .u8 (c.toNat : Int)] w fun e w' => e = .returned (.bool false) ∧ w = w') := fun w => hl ▸ letter_any c w
    have H2 := Lib.hid (digit_any c)
    have H : Hid (isWd c = isDig c) := by unfold Hid isWd; rw [hl]; rfl
    rw [H.out]
    clear hl H
    generalize isDig c = d at H2 ⊢
    go_enter Tryd.func54, Tryd.ntmps54
    go_wp2_with (first | (go_at_call 29; refine (H1.out _).mono ?_; rintro e w' ⟨rfl, rfl⟩) | (go_at_call 45; refine (H2.out _).mono ?_; rintro e w' ⟨rfl, rfl⟩))
    go_ret
    exact ⟨rfl, rfl⟩
theorem wsB_any (c : UInt8) (w : World) : Calls Tryd.prog 41 #[.int .u8 (c.toNat : Int)] w fun e w' => e = .returned (.bool (isWs c)) ∧ w = w' := by
  have H : Hid (isWs c = (((c.toNat : Int) == 32) || ((c.toNat : Int) == 9) || ((c.toNat : Int) == 13) || ((c.toNat : Int) == 10))) := by
    unfold Hid isWs
    rw [u8_eq, u8_eq, u8_eq, u8_eq]
    rfl
  rw [H.out]
  generalize (c.toNat : Int) = x at *
  clear H
  go_enter Tryd.func41, Tryd.ntmps41
  go_wp2
  all_goals
    go_ret
    refine ⟨congrArg (fun b => Ending.returned (Value.bool b)) ?_, rfl⟩
    refine Bool.eq_iff_iff.2 ?_
    first | omega | (simp <;> omega) | simp
theorem nlB_any (c : UInt8) (w : World) : Calls Tryd.prog 42 #[.int .u8 (c.toNat : Int)] w fun e w' => e = .returned (.bool (noNl c)) ∧ w = w' := by
  have H : Hid (noNl c = ((c.toNat : Int) != 10)) := by
    unfold Hid noNl
    rw [bne, u8_eq]
    rfl
  rw [H.out]
  generalize (c.toNat : Int) = x at *
  clear H
  go_enter Tryd.func42, Tryd.ntmps42
  go_wp2
  all_goals
    go_ret
    refine ⟨congrArg (fun b => Ending.returned (Value.bool b)) ?_, rfl⟩
    refine Bool.eq_iff_iff.2 ?_
    first | omega | (simp <;> omega) | simp

set_option maxHeartbeats 1000000 in
theorem next_any (b n : Nat) (s : ByteArray) (l : List UInt8) (w : World) (_hs : s.size ≤ 100000) (hr : Rest s n l) (h : Rdr w b s n) :
    Calls Tryd.prog 30 #[.pointer (some ⟨b, 0, none⟩)] w fun e w' => e = .returned (.int .u8 ((nextL l).toNat : Int)) ∧ ∃ k, w' = w.drewN k := by
  obtain ⟨c0, c1, f1, hb⟩ := h
  cases l with
  | nil =>
    obtain rfl := hr.nil
    clear hr
    go_enter Tryd.func30, Tryd.ntmps30
    go_wp2
    go_quiet (fail)
    go_wp2
    go_ret
    exact ⟨rfl, _, rfl⟩
  | cons c r =>
    obtain ⟨hlt, hc, _⟩ := hr.cons
    have HC := Lib.hid hc
    have h1 : decide ((s.size : Int) ≤ (n : Int)) = false := decide_eq_false (by omega)
    clear hr hc
    go_enter Tryd.func30, Tryd.ntmps30
    go_wp2
    go_quiet (fail)
    go_wp2
    go_quiet (fail)
    go_wp2
    go_ret
    exact ⟨by rw [← HC.out]; rfl, _, World.drewN_drewN _ _ _⟩
end Go.Proofs.YtlgbmnmoobpkkaaDoor.Tk
namespace Go.Proofs.YtlgbmnmoobpkkaaDoor.Tk
open Go.RowKit

theorem span_split (p : UInt8 → Bool) (l : List UInt8) : l.takeWhile p ++ l.dropWhile p = l := List.takeWhile_append_dropWhile
theorem span_slice {s : ByteArray} {n n' : Nat} {l : List UInt8} {p : UInt8 → Bool} (h : Rest s n l) (h' : Rest s n' (l.dropWhile p)) : s.extract n n' = ⟨(l.takeWhile p).toArray⟩ := by
  have hb := span_split p l
  have hl : (l.takeWhile p).length + (l.dropWhile p).length = l.length := by rw [← List.length_append, hb]
  have h1 := h.1; have h2 := h'.1
  rw [Go.Lib.extract_eq, h.2, show n' - n = (l.takeWhile p).length by omega]
  have : l.take (l.takeWhile p).length = l.takeWhile p := by
    have e : (l.takeWhile p ++ l.dropWhile p).take (l.takeWhile p).length = l.takeWhile p := List.take_left
    rw [hb] at e; exact e
  rw [this]
theorem span_le {s : ByteArray} {n n' : Nat} {l : List UInt8} {p : UInt8 → Bool} (h : Rest s n l) (h' : Rest s n' (l.dropWhile p)) : n ≤ n' := by
  have hb := span_split p l
  have hl : (l.takeWhile p).length + (l.dropWhile p).length = l.length := by rw [← List.length_append, hb]
  have h1 := h.1; have h2 := h'.1
  omega
theorem drop_yes {p : UInt8 → Bool} {c : UInt8} (r : List UInt8) (h : p c = true) : (c :: r).dropWhile p = r.dropWhile p := by rw [List.dropWhile_cons, if_pos h]
theorem drop_no {p : UInt8 → Bool} {c : UInt8} (r : List UInt8) (h : p c = false) : (c :: r).dropWhile p = c :: r := by rw [List.dropWhile_cons, if_neg (by rw [h]; exact Bool.false_ne_true)]

set_option maxHeartbeats 4000000 in
set_option maxRecDepth 20000 in
theorem span_word (b : Nat) (s : ByteArray) (l : List UInt8) (w : World) (hs : s.size ≤ 100000) (h : RdrL w b s l) :
    Calls Tryd.prog 40 #[.pointer (some ⟨b, 0, none⟩), .func (.func 54) #[] #[]] w fun e w' => e = .returned (.string ⟨(l.takeWhile isWd).toArray⟩) ∧ RdrL w' b s (l.dropWhile isWd) ∧ w.grownBy w' (some b) := by
  obtain ⟨n0, hr0, hrd0⟩ := h
  have HR0 := Lib.hid hr0
  have hn0 := hr0.le
  have hrd0' := hrd0
  obtain ⟨c0, c1, f1, hb⟩ := hrd0'
  clear hr0
  go_enter Tryd.func40, Tryd.ntmps40
  go_wp2_with fail
  go_loopw [10] (fun _ wr => ∃ l', RdrL wr b s l' ∧ Hid (l'.dropWhile isWd = l.dropWhile isWd) ∧ w.grownBy wr (some b)) (fun _ wr => s.size - posAt wr b)
  case atStart => exact ⟨l, ⟨n0, HR0.out, hrd0⟩, rfl, World.grownBy.refl _ _⟩
  case round =>
    clear c0 c1 f1 hb
    obtain ⟨l', ⟨n, hr, hrd⟩, hsk, hg⟩ := hrel
    have hpos := Lib.hid hrd.pos
    have hrd' := hrd
    obtain ⟨c0, c1, f1, hb⟩ := hrd'
    cases l' with
    | nil =>
      obtain rfl := hr.nil
      have hr9 : Rest s s.size (l.dropWhile isWd) := by rw [← hsk.out]; exact hr
      have hx := Lib.hid (span_slice HR0.out hr9)
      have h1 : decide ((s.size : Int) < (s.size : Int)) = false := decide_eq_false (by omega)
      clear hr
      have HR9 := Lib.hid hr9; clear hr9
      go_wp2
      go_quiet (fail)
      go_wp2
      go_quiet (fail)
      go_wp2
      go_ret
      exact ⟨congrArg (fun b => Ending.returned (Value.string b)) hx.out, ⟨s.size, HR9.out, (hrd.drewN _).drewN _⟩, Go.Lib.grownBy_below hg (bt (below_drewN _ _) (below_drewN _ _))⟩
    | cons c r =>
      obtain ⟨hlt, hc, hr1⟩ := hr.cons
      have HR := Lib.hid hr; have HR1 := Lib.hid hr1
      have h1 : decide ((n : Int) < (s.size : Int)) = true := decide_eq_true (by omega)
      clear hr hr1
      cases hat : isWd c with
      | true =>
        have HA : Hid (∀ w, Calls Tryd.prog 54 #[.int .u8 (s[n].toNat : Int)] w fun e w' => e = .returned (.bool true) ∧ w' = w) := by
          intro w; rw [hc]
          refine (wordB_any c w).mono ?_
          rintro e w' ⟨rfl, rfl⟩
          exact ⟨by rw [hat], rfl⟩
        have hsk' : Hid (r.dropWhile isWd = l.dropWhile isWd) := by unfold Hid; rw [← hsk.out, drop_yes _ hat]
        clear hsk hc hat
        go_wp2
        go_quiet ((go_at_call 54; exact Calls.quiet_of_same (HA.out _)))
        go_wp2
        go_roundw
        case rel => exact ⟨r, ⟨n + 1, HR1.out, (hrd.drewN _).step⟩, hsk', Go.Lib.grownBy_setB (Go.Lib.grownBy_below hg (below_drewN _ _)) 1 _⟩
        case measure =>
          rw [(hrd.drewN _).step.pos, hpos.out]
          omega
      | false =>
        have HA : Hid (∀ w, Calls Tryd.prog 54 #[.int .u8 (s[n].toNat : Int)] w fun e w' => e = .returned (.bool false) ∧ w' = w) := by
          intro w; rw [hc]
          refine (wordB_any c w).mono ?_
          rintro e w' ⟨rfl, rfl⟩
          exact ⟨by rw [hat], rfl⟩
        have hsk' : Hid (c :: r = l.dropWhile isWd) := by unfold Hid; rw [← hsk.out, drop_no _ hat]
        have hr9 : Rest s n (l.dropWhile isWd) := by rw [← hsk'.out]; exact HR.out
        have hx := Lib.hid (span_slice HR0.out hr9)
        have hle := span_le HR0.out hr9
        have HR9 := Lib.hid hr9
        clear hsk hc hat hr9
        go_wp2
        go_quiet ((go_at_call 54; exact Calls.quiet_of_same (HA.out _)))
        go_wp2
        go_quiet (fail)
        go_wp2
        go_ret
        exact ⟨congrArg (fun b => Ending.returned (Value.string b)) hx.out, ⟨n, HR9.out, (hrd.drewN _).drewN _⟩, Go.Lib.grownBy_below hg (bt (below_drewN _ _) (below_drewN _ _))⟩

set_option maxHeartbeats 4000000 in
set_option maxRecDepth 20000 in
theorem span_ws (b : Nat) (s : ByteArray) (l : List UInt8) (w : World) (hs : s.size ≤ 100000) (h : RdrL w b s l) :
    Calls Tryd.prog 40 #[.pointer (some ⟨b, 0, none⟩), .func (.func 41) #[] #[]] w fun e w' => e = .returned (.string ⟨(l.takeWhile isWs).toArray⟩) ∧ RdrL w' b s (l.dropWhile isWs) ∧ w.grownBy w' (some b) := by
  obtain ⟨n0, hr0, hrd0⟩ := h
  have HR0 := Lib.hid hr0
  have hn0 := hr0.le
  have hrd0' := hrd0
  obtain ⟨c0, c1, f1, hb⟩ := hrd0'
  clear hr0
  go_enter Tryd.func40, Tryd.ntmps40
  go_wp2_with fail
  go_loopw [10] (fun _ wr => ∃ l', RdrL wr b s l' ∧ Hid (l'.dropWhile isWs = l.dropWhile isWs) ∧ w.grownBy wr (some b)) (fun _ wr => s.size - posAt wr b)
  case atStart => exact ⟨l, ⟨n0, HR0.out, hrd0⟩, rfl, World.grownBy.refl _ _⟩
  case round =>
    clear c0 c1 f1 hb
    obtain ⟨l', ⟨n, hr, hrd⟩, hsk, hg⟩ := hrel
    have hpos := Lib.hid hrd.pos
    have hrd' := hrd
    obtain ⟨c0, c1, f1, hb⟩ := hrd'
    cases l' with
    | nil =>
      obtain rfl := hr.nil
      have hr9 : Rest s s.size (l.dropWhile isWs) := by rw [← hsk.out]; exact hr
      have hx := Lib.hid (span_slice HR0.out hr9)
      have h1 : decide ((s.size : Int) < (s.size : Int)) = false := decide_eq_false (by omega)
      clear hr
      have HR9 := Lib.hid hr9; clear hr9
      go_wp2
      go_quiet (fail)
      go_wp2
      go_quiet (fail)
      go_wp2
      go_ret
      exact ⟨congrArg (fun b => Ending.returned (Value.string b)) hx.out, ⟨s.size, HR9.out, (hrd.drewN _).drewN _⟩, Go.Lib.grownBy_below hg (bt (below_drewN _ _) (below_drewN _ _))⟩
    | cons c r =>
      obtain ⟨hlt, hc, hr1⟩ := hr.cons
      have HR := Lib.hid hr; have HR1 := Lib.hid hr1
      have h1 : decide ((n : Int) < (s.size : Int)) = true := decide_eq_true (by omega)
      clear hr hr1
      cases hat : isWs c with
      | true =>
        have HA : Hid (∀ w, Calls Tryd.prog 41 #[.int .u8 (s[n].toNat : Int)] w fun e w' => e = .returned (.bool true) ∧ w' = w) := by
          intro w; rw [hc]
          refine (wsB_any c w).mono ?_
          rintro e w' ⟨rfl, rfl⟩
          exact ⟨by rw [hat], rfl⟩
        have hsk' : Hid (r.dropWhile isWs = l.dropWhile isWs) := by unfold Hid; rw [← hsk.out, drop_yes _ hat]
        clear hsk hc hat
        go_wp2
        go_quiet ((go_at_call 41; exact Calls.quiet_of_same (HA.out _)))
        go_wp2
        go_roundw
        case rel => exact ⟨r, ⟨n + 1, HR1.out, (hrd.drewN _).step⟩, hsk', Go.Lib.grownBy_setB (Go.Lib.grownBy_below hg (below_drewN _ _)) 1 _⟩
        case measure =>
          rw [(hrd.drewN _).step.pos, hpos.out]
          omega
      | false =>
        have HA : Hid (∀ w, Calls Tryd.prog 41 #[.int .u8 (s[n].toNat : Int)] w fun e w' => e = .returned (.bool false) ∧ w' = w) := by
          intro w; rw [hc]
          refine (wsB_any c w).mono ?_
          rintro e w' ⟨rfl, rfl⟩
          exact ⟨by rw [hat], rfl⟩
        have hsk' : Hid (c :: r = l.dropWhile isWs) := by unfold Hid; rw [← hsk.out, drop_no _ hat]
        have hr9 : Rest s n (l.dropWhile isWs) := by rw [← hsk'.out]; exact HR.out
        have hx := Lib.hid (span_slice HR0.out hr9)
        have hle := span_le HR0.out hr9
        have HR9 := Lib.hid hr9
        clear hsk hc hat hr9
        go_wp2
        go_quiet ((go_at_call 41; exact Calls.quiet_of_same (HA.out _)))
        go_wp2
        go_quiet (fail)
        go_wp2
        go_ret
        exact ⟨congrArg (fun b => Ending.returned (Value.string b)) hx.out, ⟨n, HR9.out, (hrd.drewN _).drewN _⟩, Go.Lib.grownBy_below hg (bt (below_drewN _ _) (below_drewN _ _))⟩

set_option maxHeartbeats 4000000 in
set_option maxRecDepth 20000 in
theorem span_nl (b : Nat) (s : ByteArray) (l : List UInt8) (w : World) (hs : s.size ≤ 100000) (h : RdrL w b s l) :
    Calls Tryd.prog 40 #[.pointer (some ⟨b, 0, none⟩), .func (.func 42) #[] #[]] w fun e w' => e = .returned (.string ⟨(l.takeWhile noNl).toArray⟩) ∧ RdrL w' b s (l.dropWhile noNl) ∧ w.grownBy w' (some b) := by
  obtain ⟨n0, hr0, hrd0⟩ := h
  have HR0 := Lib.hid hr0
  have hn0 := hr0.le
  have hrd0' := hrd0
  obtain ⟨c0, c1, f1, hb⟩ := hrd0'
  clear hr0
  go_enter Tryd.func40, Tryd.ntmps40
  go_wp2_with fail
  go_loopw [10] (fun _ wr => ∃ l', RdrL wr b s l' ∧ Hid (l'.dropWhile noNl = l.dropWhile noNl) ∧ w.grownBy wr (some b)) (fun _ wr => s.size - posAt wr b)
  case atStart => exact ⟨l, ⟨n0, HR0.out, hrd0⟩, rfl, World.grownBy.refl _ _⟩
  case round =>
    clear c0 c1 f1 hb
    obtain ⟨l', ⟨n, hr, hrd⟩, hsk, hg⟩ := hrel
    have hpos := Lib.hid hrd.pos
    have hrd' := hrd
    obtain ⟨c0, c1, f1, hb⟩ := hrd'
    cases l' with
    | nil =>
      obtain rfl := hr.nil
      have hr9 : Rest s s.size (l.dropWhile noNl) := by rw [← hsk.out]; exact hr
      have hx := Lib.hid (span_slice HR0.out hr9)
      have h1 : decide ((s.size : Int) < (s.size : Int)) = false := decide_eq_false (by omega)
      clear hr
      have HR9 := Lib.hid hr9; clear hr9
      go_wp2
      go_quiet (fail)
      go_wp2
      go_quiet (fail)
      go_wp2
      go_ret
      exact ⟨congrArg (fun b => Ending.returned (Value.string b)) hx.out, ⟨s.size, HR9.out, (hrd.drewN _).drewN _⟩, Go.Lib.grownBy_below hg (bt (below_drewN _ _) (below_drewN _ _))⟩
    | cons c r =>
      obtain ⟨hlt, hc, hr1⟩ := hr.cons
      have HR := Lib.hid hr; have HR1 := Lib.hid hr1
      have h1 : decide ((n : Int) < (s.size : Int)) = true := decide_eq_true (by omega)
      clear hr hr1
      cases hat : noNl c with
      | true =>
        have HA : Hid (∀ w, Calls Tryd.prog 42 #[.int .u8 (s[n].toNat : Int)] w fun e w' => e = .returned (.bool true) ∧ w' = w) := by
          intro w; rw [hc]
          refine (nlB_any c w).mono ?_
          rintro e w' ⟨rfl, rfl⟩
          exact ⟨by rw [hat], rfl⟩
        have hsk' : Hid (r.dropWhile noNl = l.dropWhile noNl) := by unfold Hid; rw [← hsk.out, drop_yes _ hat]
        clear hsk hc hat
        go_wp2
        go_quiet ((go_at_call 42; exact Calls.quiet_of_same (HA.out _)))
        go_wp2
        go_roundw
        case rel => exact ⟨r, ⟨n + 1, HR1.out, (hrd.drewN _).step⟩, hsk', Go.Lib.grownBy_setB (Go.Lib.grownBy_below hg (below_drewN _ _)) 1 _⟩
        case measure =>
          rw [(hrd.drewN _).step.pos, hpos.out]
          omega
      | false =>
        have HA : Hid (∀ w, Calls Tryd.prog 42 #[.int .u8 (s[n].toNat : Int)] w fun e w' => e = .returned (.bool false) ∧ w' = w) := by
          intro w; rw [hc]
          refine (nlB_any c w).mono ?_
          rintro e w' ⟨rfl, rfl⟩
          exact ⟨by rw [hat], rfl⟩
        have hsk' : Hid (c :: r = l.dropWhile noNl) := by unfold Hid; rw [← hsk.out, drop_no _ hat]
        have hr9 : Rest s n (l.dropWhile noNl) := by rw [← hsk'.out]; exact HR.out
        have hx := Lib.hid (span_slice HR0.out hr9)
        have hle := span_le HR0.out hr9
        have HR9 := Lib.hid hr9
        clear hsk hc hat hr9
        go_wp2
        go_quiet ((go_at_call 42; exact Calls.quiet_of_same (HA.out _)))
        go_wp2
        go_quiet (fail)
        go_wp2
        go_ret
        exact ⟨congrArg (fun b => Ending.returned (Value.string b)) hx.out, ⟨n, HR9.out, (hrd.drewN _).drewN _⟩, Go.Lib.grownBy_below hg (bt (below_drewN _ _) (below_drewN _ _))⟩

set_option maxHeartbeats 4000000 in
set_option maxRecDepth 20000 in
theorem span_digit (b : Nat) (s : ByteArray) (l : List UInt8) (w : World) (hs : s.size ≤ 100000) (h : RdrL w b s l) :
    Calls Tryd.prog 40 #[.pointer (some ⟨b, 0, none⟩), .func (.func 45) #[] #[]] w fun e w' => e = .returned (.string ⟨(l.takeWhile isDig).toArray⟩) ∧ RdrL w' b s (l.dropWhile isDig) ∧ w.grownBy w' (some b) := by
  obtain ⟨n0, hr0, hrd0⟩ := h
  have HR0 := Lib.hid hr0
  have hn0 := hr0.le
  have hrd0' := hrd0
  obtain ⟨c0, c1, f1, hb⟩ := hrd0'
  clear hr0
  go_enter Tryd.func40, Tryd.ntmps40
  go_wp2_with fail
  go_loopw [10] (fun _ wr => ∃ l', RdrL wr b s l' ∧ Hid (l'.dropWhile isDig = l.dropWhile isDig) ∧ w.grownBy wr (some b)) (fun _ wr => s.size - posAt wr b)
  case atStart => exact ⟨l, ⟨n0, HR0.out, hrd0⟩, rfl, World.grownBy.refl _ _⟩
  case round =>
    clear c0 c1 f1 hb
    obtain ⟨l', ⟨n, hr, hrd⟩, hsk, hg⟩ := hrel
    have hpos := Lib.hid hrd.pos
    have hrd' := hrd
    obtain ⟨c0, c1, f1, hb⟩ := hrd'
    cases l' with
    | nil =>
      obtain rfl := hr.nil
      have hr9 : Rest s s.size (l.dropWhile isDig) := by rw [← hsk.out]; exact hr
      have hx := Lib.hid (span_slice HR0.out hr9)
      have h1 : decide ((s.size : Int) < (s.size : Int)) = false := decide_eq_false (by omega)
      clear hr
      have HR9 := Lib.hid hr9; clear hr9
      go_wp2
      go_quiet (fail)
      go_wp2
      go_quiet (fail)
      go_wp2
      go_ret
      exact ⟨congrArg (fun b => Ending.returned (Value.string b)) hx.out, ⟨s.size, HR9.out, (hrd.drewN _).drewN _⟩, Go.Lib.grownBy_below hg (bt (below_drewN _ _) (below_drewN _ _))⟩
    | cons c r =>
      obtain ⟨hlt, hc, hr1⟩ := hr.cons
      have HR := Lib.hid hr; have HR1 := Lib.hid hr1
      have h1 : decide ((n : Int) < (s.size : Int)) = true := decide_eq_true (by omega)
      clear hr hr1
      cases hat : isDig c with
      | true =>
        have HA : Hid (∀ w, Calls Tryd.prog 45 #[.int .u8 (s[n].toNat : Int)] w fun e w' => e = .returned (.bool true) ∧ w' = w) := by
          intro w; rw [hc]
          refine (digit_any c w).mono ?_
          rintro e w' ⟨rfl, rfl⟩
          exact ⟨by rw [hat], rfl⟩
        have hsk' : Hid (r.dropWhile isDig = l.dropWhile isDig) := by unfold Hid; rw [← hsk.out, drop_yes _ hat]
        clear hsk hc hat
        go_wp2
        go_quiet ((go_at_call 45; exact Calls.quiet_of_same (HA.out _)))
        go_wp2
        go_roundw
        case rel => exact ⟨r, ⟨n + 1, HR1.out, (hrd.drewN _).step⟩, hsk', Go.Lib.grownBy_setB (Go.Lib.grownBy_below hg (below_drewN _ _)) 1 _⟩
        case measure =>
          rw [(hrd.drewN _).step.pos, hpos.out]
          omega
      | false =>
        have HA : Hid (∀ w, Calls Tryd.prog 45 #[.int .u8 (s[n].toNat : Int)] w fun e w' => e = .returned (.bool false) ∧ w' = w) := by
          intro w; rw [hc]
          refine (digit_any c w).mono ?_
          rintro e w' ⟨rfl, rfl⟩
          exact ⟨by rw [hat], rfl⟩
        have hsk' : Hid (c :: r = l.dropWhile isDig) := by unfold Hid; rw [← hsk.out, drop_no _ hat]
        have hr9 : Rest s n (l.dropWhile isDig) := by rw [← hsk'.out]; exact HR.out
        have hx := Lib.hid (span_slice HR0.out hr9)
        have hle := span_le HR0.out hr9
        have HR9 := Lib.hid hr9
        clear hsk hc hat hr9
        go_wp2
        go_quiet ((go_at_call 45; exact Calls.quiet_of_same (HA.out _)))
        go_wp2
        go_quiet (fail)
        go_wp2
        go_ret
        exact ⟨congrArg (fun b => Ending.returned (Value.string b)) hx.out, ⟨n, HR9.out, (hrd.drewN _).drewN _⟩, Go.Lib.grownBy_below hg (bt (below_drewN _ _) (below_drewN _ _))⟩
end Go.Proofs.YtlgbmnmoobpkkaaDoor.Tk
namespace Go.Proofs.YtlgbmnmoobpkkaaDoor.Tk
open Go.RowKit

theorem RdrL.len {w : World} {b : Nat} {s : ByteArray} {l : List UInt8} (h : RdrL w b s l) : s.size - posAt w b = l.length := by
  obtain ⟨n, h1, h2⟩ := h
  rw [h2.pos]; have := h1.1; omega
theorem RdrL.lt {w : World} {b : Nat} {s : ByteArray} {l : List UInt8} (h : RdrL w b s l) : b < w.heap.size := by
  obtain ⟨n, h1, h2⟩ := h; exact h2.2.2.2
/-- the word that stands next -/
theorem word_at (b : Nat) (s : ByteArray) (l : List UInt8) (w : World) (hs : s.size ≤ 100000) (h : RdrL w b s l) :
    Calls Tryd.prog 31 #[.pointer (some ⟨b, 0, none⟩)] w fun e w' => e = .returned (.string ⟨(l.takeWhile isWd).toArray⟩) ∧ RdrL w' b s (l.dropWhile isWd) ∧ w.grownBy w' (some b) := by
  have H := Lib.hid (span_word b s l w hs h)
  clear h
  go_enter Tryd.func31, Tryd.ntmps31
  go_wp2_with fail
  refine H.out.mono ?_
  rintro e w' ⟨rfl, h1, h2⟩
  go_wp2
  go_ret
  exact ⟨rfl, h1, h2⟩
theorem ext_rest {s : ByteArray} {n : Nat} {l : List UInt8} (h : Rest s n l) : (s.extract n s.size).data.toList = l := by
  rw [Go.Lib.extract_eq, h.2, List.take_of_length_le (by have := h.1; omega)]
theorem pre_opens (r : List UInt8) : Go.Lib.hasPrefix r [47, 42] = opens r := by
  unfold Go.Lib.hasPrefix opens
  match r with
  | [] => rfl
  | [a] => simp [List.isPrefixOf]
  | a :: c :: t =>
    by_cases h1 : a = 47
    · subst h1
      by_cases h2 : c = 42
      · subst h2; simp
      · have : (decide (42 = c)) = false := decide_eq_false (fun e => h2 e.symm)
        simp only [List.isPrefixOf]
        split
        · rename_i h; simp at h; exact absurd h.1 h2
        · simp; intro e; exact absurd e.symm h2
    · simp only [List.isPrefixOf]
      split
      · rename_i h; simp at h; exact absurd h.1 h1
      · simp; intro e; exact absurd e.symm h1
theorem endC_index : ∀ l : List UInt8, match endC l with
    | none => Go.Lib.index l [42, 47] = -1
    | some t => ∃ i : Nat, Go.Lib.index l [42, 47] = (i : Int) ∧ t = l.drop (i + 2) ∧ i + 2 ≤ l.length
  | [] => rfl
  | c :: l => by
    have ih := endC_index l
    rw [endC]
    by_cases h : c = 42 ∧ l.head? = some 47
    · rw [if_pos h]
      obtain ⟨rfl, h2⟩ := h
      cases l with
      | nil => cases h2
      | cons d t =>
        obtain rfl : d = 47 := by simpa using h2
        exact ⟨0, by unfold Go.Lib.index; rw [if_pos (by simp)]; rfl, rfl, by simp⟩
    · rw [if_neg h]
      have hp : List.isPrefixOf [42, 47] (c :: l) = false := by
        rw [Bool.eq_false_iff]
        intro e
        cases l with
        | nil => simp at e
        | cons d t =>
          simp only [List.isPrefixOf, Bool.and_eq_true, beq_iff_eq, and_true] at e
          exact h ⟨e.1.symm, by rw [e.2]; rfl⟩
      cases he : endC l with
      | none =>
        rw [he] at ih
        show Go.Lib.index (c :: l) [42, 47] = -1
        unfold Go.Lib.index
        rw [hp, ih]; rfl
      | some t =>
        rw [he] at ih
        obtain ⟨i, h1, h2, h3⟩ := ih
        refine ⟨i + 1, ?_, by rw [h2]; rfl, by rw [List.length_cons]; omega⟩
        unfold Go.Lib.index
        rw [hp, h1]
        have : ((i : Int) == -1) = false := beq_eq_false_iff_ne.2 (by omega)
        rw [this]
        simp

theorem by_set4 {w : World} {b n n' i : Nat} {s : ByteArray} (h : Rdr w b s n) (e : n' = n + 2 + (i + 2) := by rfl) : Rdr (w.setCell ⟨b, 1, none⟩ (.int .i64 ((n : Int) + ((i : Int) + 4)))) b s n' := by
  have := h.set n'
  rwa [show ((n' : Nat) : Int) = (n : Int) + ((i : Int) + 4) by omega] at this
theorem quiet_add_same {P : Program} {f : FuncId} {args : Array Value} {w : World} {a n : Nat} {v : Value}
    (h : Calls P f args (w.drewN (a + n)) fun e w' => e = .returned v ∧ w' = w.drewN (a + n)) :
    Calls P f args (w.drewN (a + n)) fun e w'' => e = .returned v ∧ ∃ m, w'' = w.drewN (a + m) :=
  h.mono fun _ _ ⟨he, hm⟩ => ⟨he, n, hm⟩
theorem cell_else' {w w' : World} {b c o : Nat} {v : Value} (g : w.grownBy w' (some b)) (h : w.cell? ⟨c, o, none⟩ = some v) (hc : c < b) : w'.cell? ⟨c, o, none⟩ = some v :=
  (World.cell?_of_block (w := w) (a := ⟨c, o, none⟩) (g.block c (World.block_lt_of_cell? _ _ h) (by intro e; have := Option.some.inj e; omega))).trans h

set_option maxHeartbeats 8000000 in
set_option maxRecDepth 20000 in
theorem skip_any (b : Nat) (s : ByteArray) (l : List UInt8) (m : Int) (w : World) (hs : s.size ≤ 100000) (h : RdrL w b s l) (hb0 : 4 < b) (hm : w.cell? ⟨4, 0, none⟩ = some (.int .i64 m)) :
    Calls Tryd.prog 23 #[.pointer (some ⟨b, 0, none⟩)] w fun e w' => e = .returned (.bool (skipL l).1) ∧ RdrL w' b s (skipL l).2 ∧ w.grownBy w' (some b) := by
  have HM := Lib.hid hm; have HR := Lib.hid h
  clear hm h
  go_enter Tryd.func23, Tryd.ntmps23
  go_wp2_with fail
  go_loopw [4] (fun _ wr => ∃ l', RdrL wr b s l' ∧ Hid (skipL l' = skipL l) ∧ w.grownBy wr (some b)) (fun _ wr => s.size - posAt wr b)
  case atStart => exact ⟨l, HR.out, rfl, World.grownBy.refl _ _⟩
  case round =>
    obtain ⟨l', hrd, hsk, hg⟩ := hrel
    have hmeas := Lib.hid hrd.len
    have HS := Lib.hid (span_ws b s l' wr hs hrd)
    have HG := Lib.hid hg
    clear hrd hg
    go_wp2_with fail
    refine HS.out.mono ?_
    rintro e w1 ⟨rfl, hrd1, hg1⟩
    have HG1 := Lib.hid (Go.Lib.grownBy_trans HG.out hg1)
    clear HS hg1 HG
    have hdl := drop_le isWs l'
    obtain ⟨r, hr⟩ : ∃ r, r = l'.dropWhile isWs := ⟨_, rfl⟩
    rw [← hr] at hrd1 hdl
    have HRr := Lib.hid hr
    clear hr
    obtain ⟨n, hre, hrr⟩ := hrd1
    have HN := Lib.hid (fun (w' : World) (h' : Rdr w' b s n) => next_any b n s r w' hs hre h')
    have HRD := Lib.hid hrr; have HRE := Lib.hid hre
    clear hrr hre
    go_wp2_with fail
    refine (HN.out _ HRD.out).mono ?_
    rintro e w2 ⟨rfl, hkk⟩
    clear HN
    have HRD2 : Hid (Rdr w2 b s n) := by obtain ⟨kk, rfl⟩ := hkk; exact HRD.out.drewN kk
    have HG2 : Hid (w.grownBy w2 (some b)) := by obtain ⟨kk, rfl⟩ := hkk; exact Go.Lib.grownBy_below HG1.out (below_drewN w1 kk)
    clear hkk
    have hnn := HRE.out.le
    by_cases hh : hdOf (· == 35) r = true
    · have q : (((nextL r).toNat : Int) == 35) = true := by
        cases r with
        | nil => cases hh
        | cons c t =>
          have : c = 35 := by simpa [hdOf] using hh
          rw [this]; rfl
      have HSK : Hid (skipL (r.dropWhile noNl) = skipL l) := by
        unfold Hid
        rw [← hsk.out, HRr.out]
        exact (skip_hash (by rw [← HRr.out]; exact hh)).symm
      have hlt := hash_lt hh
      have HSN := Lib.hid (span_nl b s r w2 hs ⟨n, HRE.out, HRD2.out⟩)
      have HHH := Lib.hid hh
      clear hh hsk
      go_wp2_with fail
      refine HSN.out.mono ?_
      rintro e w3 ⟨rfl, hrd3, hg3⟩
      have HG3 := Lib.hid (Go.Lib.grownBy_trans HG2.out hg3)
      have HRD3 := Lib.hid hrd3
      clear hrd3 hg3 HSN
      go_wp2_with fail
      go_roundw
      case rel => exact ⟨r.dropWhile noNl, HRD3.out, HSK, HG3.out⟩
      case measure =>
        have h1 := HRD3.out.len
        have h2 := hmeas.out
        omega
    · have hh' : hdOf (· == 35) r = false := by simpa using hh
      have q : (((nextL r).toNat : Int) == 35) = false := by
        cases r with
        | nil => rfl
        | cons c t =>
          have : c ≠ 35 := by simpa [hdOf] using hh'
          exact beq_eq_false_iff_ne.2 (fun e => this (UInt8.toNat_inj.1 (by
            have e' : (c.toNat : Int) = 35 := e
            show c.toNat = 35
            omega)))
      have HHH := Lib.hid hh'
      have hpx : (s.extract n s.size).data.toList = r := ext_rest HRE.out
      have HPF : Hid (∀ w, Calls Tryd.prog 43 #[.string (s.extract n s.size), .string ⟨#[47, 42]⟩] w fun e w' => e = .returned (.bool (opens r)) ∧ w' = w) := by
        intro w
        have := Tryd.strings_HasPrefix (s.extract n s.size) ⟨#[47, 42]⟩ w
        rw [hpx] at this
        rw [← pre_opens]; exact this
      clear hh hh' hpx
      obtain ⟨c0, c1, f1, hbl⟩ := HRD2.out
      have i1 : (0 : Int) ≤ n := by omega
      have i2 : (n : Int) ≤ s.size := by omega
      by_cases ho : opens r = true
      · rw [ho] at HPF
        have hei := endC_index (r.drop 2)
        have HO := Lib.hid ho
        have hrl : 2 ≤ r.length := by
          have ho2 := HO.out
          unfold opens at ho2
          split at ho2
          · simp
          · cases ho2
        have hre2 := HRE.out.drop 2 hrl
        have hpx2 : (s.extract (n + 2) s.size).data.toList = r.drop 2 := ext_rest hre2
        have hn2 := hre2.le
        have hw2 : IntKind.i64.wrap ((n : Int) + 2) = (n : Int) + 2 := IntWalk.i64_in _ (by omega)
        have ht2 : ((n : Int) + 2).toNat = n + 2 := by omega
        have i3 : (0 : Int) ≤ (n : Int) + 2 := by omega
        have i4 : (n : Int) + 2 ≤ s.size := by omega
        have HM2 := Lib.hid (cell_else' HG2.out HM.out hb0)
        have hxs : (s.extract (n + 2) s.size).size < 4294967281 := by rw [ByteArray.size_extract]; omega
        cases he : endC (r.drop 2) with
        | none =>
          rw [he] at hei
          have HIX : Hid (∀ w, w.cell? ⟨4, 0, none⟩ = some (.int .i64 m) → Calls Tryd.prog 44 #[.string (s.extract (n + 2) s.size), .string ⟨#[42, 47]⟩] w fun e w' => e = .returned (.int .i64 (-1)) ∧ w' = w) := by
            intro w hm
            have := Tryd.strings_Index (s.extract (n + 2) s.size) ⟨#[42, 47]⟩ m w hxs hm
            rw [hpx2] at this
            rw [← hei]; exact this
          have HFIN : Hid (skipL l = (false, r)) := by
            unfold Hid
            rw [← hsk.out, HRr.out]
            exact skip_torn (by rw [← HRr.out]; exact HHH.out) (by rw [← HRr.out]; exact HO.out) (by rw [← HRr.out]; exact he)
          clear he hei ho hpx2 hre2 hsk hxs
          go_wp2_with fail
          go_quiet ((go_at_call 43; exact Calls.quiet_of_same (HPF.out _)))
          go_wp2_with fail
          go_quiet ((go_at_call 44; exact quiet_add_same (HIX.out _ HM2.out)))
          go_wp2_with fail
          go_ret
          rw [HFIN.out]
          first
            | exact ⟨rfl, ⟨n, HRE.out, HRD2.out.drewN _⟩, Go.Lib.grownBy_below HG2.out (below_drewN _ _)⟩
            | exact ⟨rfl, ⟨n, HRE.out, (HRD2.out.drewN _).drewN _⟩, Go.Lib.grownBy_below HG2.out (bt (below_drewN _ _) (below_drewN _ _))⟩
        | some t =>
          rw [he] at hei
          obtain ⟨i, hi1, hi2, hi3⟩ := hei
          rw [List.length_drop] at hi3
          have hre4 := hre2.drop (i + 2) (by rw [List.length_drop]; omega)
          rw [← hi2] at hre4
          have hrb := HRE.out.1
          have HIX : Hid (∀ w, w.cell? ⟨4, 0, none⟩ = some (.int .i64 m) → Calls Tryd.prog 44 #[.string (s.extract (n + 2) s.size), .string ⟨#[42, 47]⟩] w fun e w' => e = .returned (.int .i64 i) ∧ w' = w) := by
            intro w hm
            have := Tryd.strings_Index (s.extract (n + 2) s.size) ⟨#[42, 47]⟩ m w hxs hm
            rw [hpx2] at this
            rw [← hi1]; exact this
          have HSK : Hid (skipL t = skipL l) := by
            unfold Hid
            rw [← hsk.out]
            exact (skip_open (by rw [← HRr.out]; exact HHH.out) (by rw [← HRr.out]; exact HO.out) (by rw [← HRr.out]; exact he)).symm
          have HRE4 := Lib.hid hre4
          have htl : t.length + 4 ≤ r.length := by have := hre4.1; omega
          have dni : decide ((i : Int) < 0) = false := decide_eq_false (by omega)
          have hib : (i : Int) ≤ 100000 := by omega
          clear he ho hpx2 hre2 hsk hxs hi1 hi2 hre4 hrb
          go_wp2_with fail
          go_quiet ((go_at_call 43; exact Calls.quiet_of_same (HPF.out _)))
          go_wp2_with fail
          go_quiet ((go_at_call 44; exact quiet_add_same (HIX.out _ HM2.out)))
          go_wp2_with fail
          go_roundw
          case rel => exact ⟨t, ⟨n + 2 + (i + 2), HRE4.out, by first | exact by_set4 (HRD2.out.drewN _) | exact by_set4 ((HRD2.out.drewN _).drewN _)⟩, HSK, by first | exact Go.Lib.grownBy_setB (Go.Lib.grownBy_below HG2.out (below_drewN _ _)) 1 _ | exact Go.Lib.grownBy_setB (Go.Lib.grownBy_below HG2.out (bt (below_drewN _ _) (below_drewN _ _))) 1 _⟩
          case measure =>
            have h2 := hmeas.out
            have h1 := HRE4.out.1
            first
              | rw [(by_set4 (n' := n + 2 + (i + 2)) (HRD2.out.drewN _)).pos]
              | rw [(by_set4 (n' := n + 2 + (i + 2)) ((HRD2.out.drewN _).drewN _)).pos]
            omega
      · have ho' : opens r = false := by simpa using ho
        rw [ho'] at HPF
        have HFIN : Hid (skipL l = (true, r)) := by
          unfold Hid
          rw [← hsk.out, HRr.out]
          exact skip_end (by rw [← HRr.out]; exact HHH.out) (by rw [← HRr.out]; exact ho')
        clear ho ho' hsk
        go_wp2_with fail
        go_quiet ((go_at_call 43; exact Calls.quiet_of_same (HPF.out _)))
        go_wp2_with fail
        go_ret
        rw [HFIN.out]
        exact ⟨rfl, ⟨n, HRE.out, HRD2.out.drewN _⟩, Go.Lib.grownBy_below HG2.out (below_drewN _ _)⟩
end Go.Proofs.YtlgbmnmoobpkkaaDoor.Tk
namespace Go.Proofs.YtlgbmnmoobpkkaaDoor.Tk
open Go.RowKit

theorem infoB8 : (Tryd.prog.info? 5).map (fun i => (i.zero, i.size, i.bytes)) = some (some (.int .u8 0), 1, 1) := by kernel_rfl
theorem textL_cons {c : UInt8} (t : List UInt8) (h1 : c ≠ 34) (h2 : c ≠ 92) : textL (c :: t) = (textL t).map (fun p => (c :: p.1, p.2)) := by
  cases t with
  | nil => show (if c = 34 then _ else none) = none; rw [if_neg h1]
  | cons d t => rw [textL, if_neg h1, if_neg h2]
theorem textL_quote (t : List UInt8) : textL (34 :: t) = some ([], t) := by
  cases t with
  | nil => rfl
  | cons d t => rw [textL, if_pos rfl]
theorem textL_esc (d : UInt8) (t : List UInt8) : textL (92 :: d :: t) = (textL t).map (fun p => (d :: p.1, p.2)) := by rw [textL, if_neg (by decide), if_pos rfl]
theorem map_acc (acc : List UInt8) (c : UInt8) (o : Option (List UInt8 × List UInt8)) : (o.map (fun p => (c :: p.1, p.2))).map (fun p => (acc ++ p.1, p.2)) = o.map (fun p => ((acc ++ [c]) ++ p.1, p.2)) := by
  cases o with
  | none => rfl
  | some p => simp
theorem text_put {w W Wd w1 : World} {b n : Nat} {s : ByteArray} {v v' : Value} {L : List UInt8} {d : UInt8} (hb : b < w.heap.size) (hg : w.grownBy W (some b)) (hrd : Rdr W b s n) (hown : OwnB W w.heap.size 5 v L) (hd : Below W.heap.size W Wd) (hgrow : Wd.grownBy w1 v.ownBlock)
    (hown' : w1.ownsRow w.heap.size 5 1 v' (L.length + 1) (bcells L ++ [.int .u8 (d.toNat : Int)])) : Rdr w1 b s n ∧ OwnB w1 w.heap.size 5 v' (L ++ [d]) ∧ w.grownBy w1 (some b) := by
  have hne : ∀ k, k < w.heap.size → some k ≠ v.ownBlock := fun k hk e => by have := (World.ownsRow.lt hown k e.symm).1; omega
  have hszd : W.heap.size ≤ Wd.heap.size := hd.size
  have hbW : b < Wd.heap.size := Nat.lt_of_lt_of_le hrd.2.2.2 hszd
  have hblk : w1.heap[b]? = W.heap[b]? := (hgrow.block b hbW (hne b hb)).trans (hd.block b hrd.2.2.2)
  refine ⟨⟨(World.cell?_of_block (w := W) (a := ⟨b, 0, none⟩) hblk).trans hrd.1, (World.cell?_of_block (w := W) (a := ⟨b, 1, none⟩) hblk).trans hrd.2.1, (World.frozen?_of_block (w := W) (a := ⟨b, 1, none⟩) hblk).trans hrd.2.2.1, Nat.lt_of_lt_of_le hbW hgrow.size⟩, ?_, ?_⟩
  · unfold OwnB
    rw [bcells_append, List.length_append]
    exact hown'
  · have hsz : w.heap.size ≤ W.heap.size := hg.size
    exact ⟨hgrow.os.trans (hd.os.trans hg.os), hgrow.tape.trans (hd.tape.trans hg.tape), hgrow.output.trans (hd.output.trans hg.output), Nat.le_trans hsz (Nat.le_trans hszd hgrow.size), fun k hk hn => (hgrow.block k (by omega) (hne k hk)).trans ((hd.block k (by omega)).trans (hg.block k hk hn))⟩
theorem row_ne {w : World} {base e size n b : Nat} {v : Value} {l : List Value} (h : w.ownsRow base e size v n l) (hb : b < base) : v.ownBlock = none ∨ v.ownBlock ≠ some b := by
  cases hv : v.ownBlock with
  | none => exact .inl rfl
  | some k => exact .inr (fun e => by have := (World.ownsRow.lt h k hv).1; have := Option.some.inj e; omega)
/-- what 'text' answers -/
def TextPost (b : Nat) (s : ByteArray) (l : List UInt8) (w : World) (e : Ending) (w' : World) : Prop :=
  (match textL l with
    | none => e = .returned (.tuple #[.string ⟨#[]⟩, .bool false])
    | some p => e = .returned (.tuple #[.string ⟨p.1.toArray⟩, .bool true]) ∧ RdrL w' b s p.2) ∧ w.grownBy w' (some b)
theorem TextPost.none' {b : Nat} {s : ByteArray} {l : List UInt8} {w w' : World} (h : textL l = none) (g : w.grownBy w' (some b)) : TextPost b s l w (.returned (.tuple #[.string ⟨#[]⟩, .bool false])) w' := by
  unfold TextPost; rw [h]; exact ⟨rfl, g⟩
theorem TextPost.some' {b : Nat} {s : ByteArray} {l x r : List UInt8} {w w' : World} (h : textL l = some (x, r)) (hr : RdrL w' b s r) (g : w.grownBy w' (some b)) : TextPost b s l w (.returned (.tuple #[.string ⟨x.toArray⟩, .bool true])) w' := by
  unfold TextPost; rw [h]; exact ⟨⟨rfl, hr⟩, g⟩

set_option maxHeartbeats 8000000 in
set_option maxRecDepth 20000 in
theorem text_any (b : Nat) (s : ByteArray) (q : UInt8) (l : List UInt8) (w : World) (hs : s.size ≤ 100000) (h : RdrL w b s (q :: l)) :
    Calls Tryd.prog 47 #[.pointer (some ⟨b, 0, none⟩)] w (TextPost b s l w) := by
  obtain ⟨n0, hr0, hrd0⟩ := h
  obtain ⟨hlt0, -, hr1⟩ := hr0.cons
  have HR1 := Lib.hid hr1; have HRD0 := Lib.hid hrd0
  obtain ⟨c0, c1, f1, hb⟩ := hrd0
  obtain ⟨i0, hi, hz0, hz1, hz2⟩ := info_parts infoB8
  have HI := Lib.hid hi; have HZ0 := Lib.hid hz0; have HZ1 := Lib.hid hz1; have HZ2 := Lib.hid hz2
  clear hr0 hr1 hi hz0 hz1 hz2
  go_enter Tryd.func47, Tryd.ntmps47
  go_wp2_with fail
  go_loopw [4] (fun v wr => ∃ (l' acc : List UInt8), RdrL wr b s l' ∧ OwnB wr w.heap.size 5 v acc ∧ acc.length + l'.length ≤ s.size ∧ Hid (textL l = (textL l').map (fun p => (acc ++ p.1, p.2))) ∧ w.grownBy wr (some b)) (fun _ wr => s.size - posAt wr b)
  case atStart => exact ⟨l, [], ⟨n0 + 1, HR1.out, HRD0.out.step⟩, World.ownsRow_nil _ _ _ _, by have := HR1.out.1; simp only [List.length_nil]; omega, by unfold Hid; cases textL l <;> rfl, Go.Lib.grownBy_setB (World.grownBy.refl _ _) 1 _⟩
  case round =>
    clear c0 c1 f1
    obtain ⟨l', acc, hrl, hown, hal, heq, hg⟩ := hrel
    have hmeas := Lib.hid hrl.len
    obtain ⟨n, hre, hrd⟩ := hrl
    have HRD := Lib.hid hrd; have HOWN := Lib.hid hown; have HG := Lib.hid hg
    obtain ⟨c0, c1, f1, hbw⟩ := hrd
    cases l' with
    | nil =>
      obtain rfl := hre.nil
      have HFIN : Hid (textL l = none) := by unfold Hid; rw [heq.out]; rfl
      have h1 : decide ((s.size : Int) < (s.size : Int)) = false := decide_eq_false (by omega)
      clear hown hg hre heq
      go_wp2_with fail
      go_quiet (fail)
      go_wp2_with fail
      go_ret2
      exact TextPost.none' HFIN.out (Go.Lib.grownBy_below HG.out (below_drewN _ _))
    | cons c t =>
      obtain ⟨hlt, hc, hre1⟩ := hre.cons
      have HRE := Lib.hid hre; have HRE1 := Lib.hid hre1; have HC := Lib.hid hc
      have h1 : decide ((n : Int) < (s.size : Int)) = true := decide_eq_true (by omega)
      have i1 : (0 : Int) ≤ n := by omega
      have i2 : (n : Int) < s.size := by omega
      clear hown hg hre hre1 hc
      by_cases h34 : c = 34
      · have e1 : ((s[n].toNat : Int) == 34) = true := by rw [HC.out, h34]; rfl
        have HFIN : Hid (textL l = some (acc, t)) := by unfold Hid; rw [heq.out, h34, textL_quote]; simp
        clear heq h34
        go_wp2_with fail
        go_quiet (fail)
        obtain ⟨W1, hW1⟩ : ∃ W1, W1 = wr.drewN nq := ⟨_, rfl⟩
        rw [← hW1]
        have hbW1 : Below wr.heap.size wr W1 := by rw [hW1]; exact below_drewN _ _
        clear hW1 nq
        have hrd1 := HRD.out.below hbW1
        clear c0 c1 f1 hbw
        obtain ⟨c0, c1, f1, hbw⟩ := hrd1
        go_wp2_with fail
        go_quiet (fail)
        obtain ⟨W2, hW2⟩ : ∃ W2, W2 = W1.drewN nq := ⟨_, rfl⟩
        rw [← hW2]
        have hbW2 : Below W1.heap.size W1 W2 := by rw [hW2]; exact below_drewN _ _
        clear hW2 nq
        have hbW := bt hbW1 hbW2
        have hrd2 := HRD.out.below hbW
        have HOWN2 := Lib.hid (row_down HOWN.out hbW); have HG2 := Lib.hid (Go.Lib.grownBy_below HG.out hbW)
        have HRD2 := Lib.hid hrd2
        clear c0 c1 f1 hbw hbW1 hbW2 hbW
        obtain ⟨c0, c1, f1, hbw⟩ := hrd2
        go_upto_region 8 with fail
        have hown3 := (World.ownsRow.kept HOWN2.out (Go.Lib.grownBy_setB (World.grownBy.refl W2 (some b)) 1 (.int .i64 ((n : Int) + 1))) (row_ne HOWN2.out hb))
        have hcv := run_str_own hown3 Tryd.underlying93 Tryd.underlying5 Tryd.underlying9
        have HCV := Lib.hid hcv
        have HRD3 := Lib.hid HRD2.out.step
        clear hown3
        go_wp2_with fail
        go_ret2
        exact TextPost.some' HFIN.out ⟨n + 1, HRE1.out, HRD3.out⟩ (Go.Lib.grownBy_setB HG2.out 1 _)
      · have e1 : ((s[n].toNat : Int) == 34) = false := by
          rw [HC.out]
          exact beq_eq_false_iff_ne.2 (fun e => h34 (UInt8.toNat_inj.1 (Int.ofNat_inj.1 e)))
        by_cases h92 : c = 92
        · have e2 : ((s[n].toNat : Int) == 92) = true := by rw [HC.out, h92]; rfl
          cases t with
          | nil =>
            have hn1 := HRE1.out.nil
            have HFIN : Hid (textL l = none) := by unfold Hid; rw [heq.out, h92]; rfl
            have e3 : (((n : Int) + 1) == (s.size : Int)) = true := beq_iff_eq.2 (by omega)
            clear heq h34 h92 hn1
            go_wp2_with fail
            go_quiet (fail)
            obtain ⟨W1, hW1⟩ : ∃ W1, W1 = wr.drewN nq := ⟨_, rfl⟩
            rw [← hW1]
            have hbW1 : Below wr.heap.size wr W1 := by rw [hW1]; exact below_drewN _ _
            clear hW1 nq
            have hrd1 := HRD.out.below hbW1
            clear c0 c1 f1 hbw
            obtain ⟨c0, c1, f1, hbw⟩ := hrd1
            go_wp2_with fail
            go_quiet (fail)
            obtain ⟨W2, hW2⟩ : ∃ W2, W2 = W1.drewN nq := ⟨_, rfl⟩
            rw [← hW2]
            have hbW2 : Below W1.heap.size W1 W2 := by rw [hW2]; exact below_drewN _ _
            clear hW2 nq
            have hbW := bt hbW1 hbW2
            have hrd2 := HRD.out.below hbW
            have HOWN2 := Lib.hid (row_down HOWN.out hbW); have HG2 := Lib.hid (Go.Lib.grownBy_below HG.out hbW)
            have HRD2 := Lib.hid hrd2
            clear c0 c1 f1 hbw hbW1 hbW2 hbW
            obtain ⟨c0, c1, f1, hbw⟩ := hrd2
            go_wp2_with fail
            go_quiet (fail)
            go_wp2_with fail
            go_ret2
            exact TextPost.none' HFIN.out (Go.Lib.grownBy_below (Go.Lib.grownBy_setB HG2.out 1 _) (below_drewN _ _))
          | cons d t =>
            obtain ⟨hlt1, hc1, hre2⟩ := HRE1.out.cons
            have HRE2 := Lib.hid hre2
            have HEQ : Hid (textL l = (textL t).map (fun p => ((acc ++ [s[n + 1]]) ++ p.1, p.2))) := by unfold Hid; rw [heq.out, h92, hc1, textL_esc, map_acc]
            have HTL : Hid (t.length + 1 = (d :: t).length) := rfl
            simp only [List.length_cons] at hal
            clear heq h34 h92 hre2 hc1
            go_wp2_with fail
            go_quiet (fail)
            obtain ⟨W1, hW1⟩ : ∃ W1, W1 = wr.drewN nq := ⟨_, rfl⟩
            rw [← hW1]
            have hbW1 : Below wr.heap.size wr W1 := by rw [hW1]; exact below_drewN _ _
            clear hW1 nq
            have hrd1 := HRD.out.below hbW1
            clear c0 c1 f1 hbw
            obtain ⟨c0, c1, f1, hbw⟩ := hrd1
            go_wp2_with fail
            go_quiet (fail)
            obtain ⟨W2, hW2⟩ : ∃ W2, W2 = W1.drewN nq := ⟨_, rfl⟩
            rw [← hW2]
            have hbW2 : Below W1.heap.size W1 W2 := by rw [hW2]; exact below_drewN _ _
            clear hW2 nq
            have hbW := bt hbW1 hbW2
            have hrd2 := HRD.out.below hbW
            have HOWN2 := Lib.hid (row_down HOWN.out hbW); have HG2 := Lib.hid (Go.Lib.grownBy_below HG.out hbW)
            have HRD2 := Lib.hid hrd2
            clear c0 c1 f1 hbw hbW1 hbW2 hbW
            obtain ⟨c0, c1, f1, hbw⟩ := hrd2
            go_upto_region 11 with fail
            have hgs := Go.Lib.grownBy_setB (World.grownBy.refl W2 (some b)) 1 (.int .i64 ((n : Int) + 1))
            have hrd3 := HRD2.out.step
            have hown3 : OwnB (W2.setCell ⟨b, 1, none⟩ (.int .i64 ((n : Int) + 1))) w.heap.size 5 u4 acc := World.ownsRow.kept HOWN2.out hgs (row_ne HOWN2.out hb)
            have hg3 := Go.Lib.grownBy_setB HG2.out 1 (.int .i64 ((n : Int) + 1))
            obtain ⟨W3, hW3⟩ : ∃ W3, W3 = W2.setCell ⟨b, 1, none⟩ (.int .i64 ((n : Int) + 1)) := ⟨_, rfl⟩
            rw [← hW3] at hrd3 hown3 hg3 ⊢
            have HRD3 := Lib.hid hrd3; have HOWN3 := Lib.hid hown3; have HG3 := Lib.hid hg3
            clear hgs hown3 hg3 hW3 c0 c1 f1 hbw
            obtain ⟨c0, c1, f1, hbw⟩ := hrd3
            have c1' : W3.cell? ⟨b, 1, none⟩ = some (.int .i64 ((n : Int) + 1)) := c1
            have hne3 : (((n : Int) + 1) == (s.size : Int)) = false := beq_eq_false_iff_ne.2 (by omega)
            clear c1
            go_quiet (fail)
            obtain ⟨W4, hW4⟩ : ∃ W4, W4 = W3.drewN nq := ⟨_, rfl⟩
            rw [← hW4]
            have hbW4 : Below W3.heap.size W3 W4 := by rw [hW4]; exact below_drewN _ _
            clear hW4 nq
            have hrd4 := HRD3.out.below hbW4
            have HRD4 := Lib.hid hrd4; have HOWN4 := Lib.hid (row_down HOWN3.out hbW4); have HG4 := Lib.hid (Go.Lib.grownBy_below HG3.out hbW4)
            clear c0 c1' f1 hbw hbW4
            obtain ⟨c0, c1, f1, hbw⟩ := hrd4
            have c1' : W4.cell? ⟨b, 1, none⟩ = some (.int .i64 ((n : Int) + 1)) := c1
            clear c1
            have c1 := c1'
            clear c1'
            have i3 : (0 : Int) ≤ (n : Int) + 1 := by omega
            have i4 : (n : Int) + 1 < s.size := by omega
            have i5 : ((n : Int) + 1).toNat = n + 1 := by omega
            go_upto_region 13 with fail
            have hszd : w.heap.size ≤ W4.heap.size := HG4.out.size
            have hal2 : acc.length ≤ 100000 := by omega
            have hdr : Below W4.heap.size W4 (W4.alloc (.cells #[.int .u8 (s[n + 1].toNat : Int)] 5)).drew := Below.drew (ba (Below.refl _ _) _)
            have hownd : World.ownsRow (W4.alloc (.cells #[.int .u8 (s[n + 1].toNat : Int)] 5)).drew w.heap.size 5 1 u4 acc.length (bcells acc) := row_down HOWN4.out hdr
            have HDR := Lib.hid hdr; have HOD := Lib.hid hownd
            have nb : W4.heap.size ≠ b := World.new_ne W4 ⟨b, 0, none⟩ c0
            clear hdr hownd
            go_region_held3 (fun w' => w'.cell? ⟨b, 0, none⟩ = some (.string s) ∧ w'.cell? ⟨b, 1, none⟩ = some (.int .i64 ((n : Int) + 1))) (first | with_reducible exact ⟨c0, c1⟩ | exact ⟨hrd5.1, hrd5.2.1⟩ | go_keep) ((refine step_append_lies _ (by rfl) _ _ _ (by rfl) w.heap.size 5 i0 (.int .u8 0) 1 1 Tryd.underlying93 HI.out HZ0.out HZ1.out HZ2.out rfl (by omega) u4 acc.length (bcells acc) (by rfl) HOD.out ⟨W4.heap.size, 0, none⟩ 1 1 [.int .u8 (s[n + 1].toNat : Int)] (by rfl) (by rfl) (fun j u h => cell_one_new _ _ _ j u h) (by simp [Value.oneCell']) (by omega) (by unfold maxLen; omega) (by omega) (by simp; omega) (W4.heap.size + 1) (by simp) ?_; intro g cap w1 hown' hgrow _ _; obtain ⟨hrd5, hown5, hg5⟩ := text_put hb HG4.out HRD4.out HOWN4.out HDR.out hgrow hown'))
            all_goals
              have HRD5 := Lib.hid hrd5; have HOWN5 := Lib.hid hown5; have HG5 := Lib.hid hg5
              clear hown' hgrow hown5 hg5 c0 c1 f1 hbw
              obtain ⟨c0, c1, f1, hbw⟩ := hrd5
              go_wp2_with fail
              go_roundw
              case rel => exact ⟨t, acc ++ [s[n + 1]], ⟨n + 1 + 1, HRE2.out, HRD5.out.step⟩, World.ownsRow.kept HOWN5.out (Go.Lib.grownBy_setB (World.grownBy.refl w1 (some b)) 1 _) (row_ne HOWN5.out hb), by rw [List.length_append, List.length_singleton]; omega, HEQ.out, Go.Lib.grownBy_setB HG5.out 1 _⟩
              case measure =>
                have h2 := hmeas.out
                have h4 := HRD5.out.step.pos
                have h3 := HRE1.out.1
                simp only [List.length_cons] at h2
                try simp only [List.length_cons] at h3
                refine Nat.lt_of_le_of_lt (Nat.le_of_eq (congrArg (s.size - ·) h4)) ?_
                omega
        · have e2 : ((s[n].toNat : Int) == 92) = false := by
            rw [HC.out]
            exact beq_eq_false_iff_ne.2 (fun e => h92 (UInt8.toNat_inj.1 (Int.ofNat_inj.1 e)))
          have HEQ : Hid (textL l = (textL t).map (fun p => ((acc ++ [s[n]]) ++ p.1, p.2))) := by unfold Hid; rw [heq.out, HC.out, textL_cons t h34 h92, map_acc]
          simp only [List.length_cons] at hal
          clear heq h34 h92
          go_wp2_with fail
          go_quiet (fail)
          obtain ⟨W1, hW1⟩ : ∃ W1, W1 = wr.drewN nq := ⟨_, rfl⟩
          rw [← hW1]
          have hbW1 : Below wr.heap.size wr W1 := by rw [hW1]; exact below_drewN _ _
          clear hW1 nq
          have hrd1 := HRD.out.below hbW1
          clear c0 c1 f1 hbw
          obtain ⟨c0, c1, f1, hbw⟩ := hrd1
          go_wp2_with fail
          go_quiet (fail)
          obtain ⟨W2, hW2⟩ : ∃ W2, W2 = W1.drewN nq := ⟨_, rfl⟩
          rw [← hW2]
          have hbW2 : Below W1.heap.size W1 W2 := by rw [hW2]; exact below_drewN _ _
          clear hW2 nq
          have hbW := bt hbW1 hbW2
          have hrd2 := HRD.out.below hbW
          have HOWN2 := Lib.hid (row_down HOWN.out hbW); have HG2 := Lib.hid (Go.Lib.grownBy_below HG.out hbW)
          have HRD2 := Lib.hid hrd2
          clear c0 c1 f1 hbw hbW1 hbW2 hbW
          obtain ⟨c0, c1, f1, hbw⟩ := hrd2
          go_upto_region 13 with fail
          have hszd : w.heap.size ≤ W2.heap.size := HG2.out.size
          have hal2 : acc.length ≤ 100000 := by omega
          have hdr : Below W2.heap.size W2 (W2.alloc (.cells #[.int .u8 (s[n].toNat : Int)] 5)).drew := Below.drew (ba (Below.refl _ _) _)
          have hownd : World.ownsRow (W2.alloc (.cells #[.int .u8 (s[n].toNat : Int)] 5)).drew w.heap.size 5 1 u4 acc.length (bcells acc) := row_down HOWN2.out hdr
          have HDR := Lib.hid hdr; have HOD := Lib.hid hownd
          have nb : W2.heap.size ≠ b := World.new_ne W2 ⟨b, 0, none⟩ c0
          clear hdr hownd
          go_region_held3 (fun w' => w'.cell? ⟨b, 0, none⟩ = some (.string s) ∧ w'.cell? ⟨b, 1, none⟩ = some (.int .i64 (n : Int))) (first | with_reducible exact ⟨c0, c1⟩ | exact ⟨hrd5.1, hrd5.2.1⟩ | go_keep) ((refine step_append_lies _ (by rfl) _ _ _ (by rfl) w.heap.size 5 i0 (.int .u8 0) 1 1 Tryd.underlying93 HI.out HZ0.out HZ1.out HZ2.out rfl (by omega) u4 acc.length (bcells acc) (by rfl) HOD.out ⟨W2.heap.size, 0, none⟩ 1 1 [.int .u8 (s[n].toNat : Int)] (by rfl) (by rfl) (fun j u h => cell_one_new _ _ _ j u h) (by simp [Value.oneCell']) (by omega) (by unfold maxLen; omega) (by omega) (by simp; omega) (W2.heap.size + 1) (by simp) ?_; intro g cap w1 hown' hgrow _ _; obtain ⟨hrd5, hown5, hg5⟩ := text_put hb HG2.out HRD2.out HOWN2.out HDR.out hgrow hown'))
          all_goals
            have HRD5 := Lib.hid hrd5; have HOWN5 := Lib.hid hown5; have HG5 := Lib.hid hg5
            clear hown' hgrow hown5 hg5 c0 c1 f1 hbw
            obtain ⟨c0, c1, f1, hbw⟩ := hrd5
            go_wp2_with fail
            go_roundw
            case rel => exact ⟨t, acc ++ [s[n]], ⟨n + 1, HRE1.out, HRD5.out.step⟩, World.ownsRow.kept HOWN5.out (Go.Lib.grownBy_setB (World.grownBy.refl w1 (some b)) 1 _) (row_ne HOWN5.out hb), by rw [List.length_append, List.length_singleton]; omega, HEQ.out, Go.Lib.grownBy_setB HG5.out 1 _⟩
            case measure =>
              have h2 := hmeas.out
              have h4 := HRD5.out.step.pos
              have h3 := HRE1.out.1
              simp only [List.length_cons] at h2
              refine Nat.lt_of_le_of_lt (Nat.le_of_eq (congrArg (s.size - ·) h4)) ?_
              omega
end Go.Proofs.YtlgbmnmoobpkkaaDoor.Tk
namespace Go.Proofs.YtlgbmnmoobpkkaaDoor.Tk
open Go.RowKit

def valF (a : Nat) (l : List UInt8) : Nat := l.foldl (fun a c => a * 10 + (c.toNat - 48)) a
theorem valF_ge : ∀ (l : List UInt8) (a : Nat), a ≤ valF a l
  | [], a => Nat.le_refl _
  | c :: l, a => Nat.le_trans (by omega) (valF_ge l (a * 10 + (c.toNat - 48)))
theorem dig_range {c : UInt8} (h : isDig c = true) : 48 ≤ c.toNat ∧ c.toNat ≤ 57 := by
  unfold isDig at h
  simp only [Bool.and_eq_true, decide_eq_true_eq, UInt8.le_iff_toNat_le] at h
  exact h
theorem parse_dig : ∀ (l : List UInt8) (a : Nat), l.all isDig = true → (Go.Lib.parseUint10 a l = .ok (valF a l) ∧ (l ≠ [] → valF a l < 18446744073709551616)) ∨ (Go.Lib.parseUint10 a l = .range ∧ 18446744073709551616 ≤ valF a l)
  | [], a, _ => .inl ⟨rfl, fun h => absurd rfl h⟩
  | c :: l, a, h => by
    simp only [List.all_cons, Bool.and_eq_true] at h
    obtain ⟨d1, d2⟩ := dig_range h.1
    have hv : valF a (c :: l) = valF (a * 10 + (c.toNat - 48)) l := rfl
    have hge := valF_ge l (a * 10 + (c.toNat - 48))
    unfold Go.Lib.parseUint10
    rw [if_pos ⟨d1, d2⟩, hv]
    by_cases h1 : 1844674407370955162 ≤ a
    · rw [if_pos h1]; exact .inr ⟨rfl, by omega⟩
    · rw [if_neg h1]
      by_cases h2 : 18446744073709551616 ≤ a * 10 + (c.toNat - 48)
      · rw [if_pos h2]; exact .inr ⟨rfl, by omega⟩
      · rw [if_neg h2]
        rcases parse_dig l (a * 10 + (c.toNat - 48)) h.2 with ⟨i1, i2⟩ | ⟨i1, i2⟩
        · refine .inl ⟨i1, fun _ => ?_⟩
          by_cases hl : l = []
          · subst hl; show a * 10 + (c.toNat - 48) < _; omega
          · exact i2 hl
        · exact .inr ⟨i1, i2⟩
theorem atoi_dig {l : List UInt8} (h : l.all isDig = true) (hne : l ≠ []) : (Go.Lib.atoiAll l = .ok (valL l : Int) ∧ valL l < 9223372036854775808) ∨ (Go.Lib.atoiAll l = .range ∧ 9223372036854775808 ≤ valL l) := by
  cases l with
  | nil => exact absurd rfl hne
  | cons c r =>
    have hd : isDig c = true := by
      simp only [List.all_cons, Bool.and_eq_true] at h; exact h.1
    obtain ⟨d1, d2⟩ := dig_range hd
    have hm : Go.Lib.parseMag (c :: r) = Go.Lib.parseUint10 0 (c :: r) := by unfold Go.Lib.parseMag; rw [if_neg (List.cons_ne_nil _ _)]
    have hv : valF 0 (c :: r) = valL (c :: r) := rfl
    unfold Go.Lib.atoiAll
    simp only
    rw [if_neg (by omega), hm]
    rcases parse_dig (c :: r) 0 h with ⟨i1, i2⟩ | ⟨i1, i2⟩
    · rw [i1, hv]
      simp only
      by_cases h9 : 9223372036854775808 ≤ valL (c :: r)
      · rw [if_pos ⟨by omega, h9⟩]; exact .inr ⟨rfl, h9⟩
      · rw [if_neg (fun e => h9 e.2), if_neg (fun e => by omega), if_neg (by omega)]; exact .inl ⟨rfl, by omega⟩
    · rw [i1]
      exact .inr ⟨rfl, by omega⟩
/-- what 'number' answers -/
def NumPost (b : Nat) (s : ByteArray) (l : List UInt8) (w : World) (e : Ending) (w' : World) : Prop :=
  (match numL l with
    | .error z => e = .returned (.tuple #[.int .i64 0, .int .i64 z])
    | .ok p => e = .returned (.tuple #[.int .i64 p.1.num, .int .i64 0]) ∧ RdrL w' b s p.2) ∧ w.grownBy w' (some b)
theorem NumPost.err {b : Nat} {s : ByteArray} {l : List UInt8} {w w' : World} {z : Int} (h : numL l = .error z) (g : w.grownBy w' (some b)) : NumPost b s l w (.returned (.tuple #[.int .i64 0, .int .i64 z])) w' := by
  unfold NumPost; rw [h]; exact ⟨rfl, g⟩
theorem NumPost.ok {b : Nat} {s : ByteArray} {l r : List UInt8} {w w' : World} {t : Tok} {z : Int} (h : numL l = .ok (t, r)) (hz : z = t.num) (hr : RdrL w' b s r) (g : w.grownBy w' (some b)) : NumPost b s l w (.returned (.tuple #[.int .i64 z, .int .i64 0])) w' := by
  unfold NumPost; rw [h]; exact ⟨⟨by rw [hz], hr⟩, g⟩
theorem hd_next (l : List UInt8) : hdOf isWd l = (isLet (nextL l) || isDig (nextL l)) := by
  cases l with
  | nil => decide
  | cons c t => rfl

theorem nx_ne (r : List UInt8) (k : UInt8) (h : ∀ t, r ≠ k :: t) (hk : k ≠ 0) : (((nextL r).toNat : Int) == (k.toNat : Int)) = false := by
  refine beq_eq_false_iff_ne.2 (fun e => ?_)
  have e' : nextL r = k := UInt8.toNat_inj.1 (Int.ofNat_inj.1 e)
  cases r with
  | nil => exact hk e'.symm
  | cons c t => exact h t (by rw [← e']; rfl)
/-- the cells of a variable that lies below the cutter's block -/
def ErrAt (w : World) (ev : Value) : Prop := w.cell? ⟨6, 0, none⟩ = some ev
set_option maxHeartbeats 8000000 in
set_option maxRecDepth 20000 in
theorem number_any (b : Nat) (s : ByteArray) (c : UInt8) (l : List UInt8) (te : TypeId) (pe : Value) (w : World) (hs : s.size ≤ 100000) (h : RdrL w b s (c :: l)) (hc : isDig c = true) (hb0 : 6 < b) (hev : w.cell? ⟨6, 0, none⟩ = some (.iface te pe)) :
    Calls Tryd.prog 46 #[.pointer (some ⟨b, 0, none⟩)] w (NumPost b s (c :: l) w) := by
  have HS := Lib.hid (span_digit b s (c :: l) w hs h)
  have hne : (c :: l).takeWhile isDig ≠ [] := by rw [List.takeWhile_cons, if_pos hc]; exact List.cons_ne_nil _ _
  have hall : ((c :: l).takeWhile isDig).all isDig = true := List.all_takeWhile
  have hat := atoi_dig hall hne
  have hnum : numL (c :: l) = if hdOf isWd (shiftL ((c :: l).dropWhile isDig)).2 then .error 3
    else if 2147483647 >>> (shiftL ((c :: l).dropWhile isDig)).1 < valL ((c :: l).takeWhile isDig) then .error 6
    else .ok (⟨3, [], ((valL ((c :: l).takeWhile isDig) <<< (shiftL ((c :: l).dropWhile isDig)).1 : Nat) : Int)⟩, (shiftL ((c :: l).dropWhile isDig)).2) := rfl
  have hdl : ((c :: l).takeWhile isDig).length ≤ 100000 := by
    have h1 := span_split isDig (c :: l)
    have h2 : ((c :: l).takeWhile isDig).length + ((c :: l).dropWhile isDig).length = (c :: l).length := by rw [← List.length_append, h1]
    obtain ⟨n, hre, -⟩ := h
    have := hre.1
    omega
  obtain ⟨D, hD⟩ : ∃ D, D = (c :: l).takeWhile isDig := ⟨_, rfl⟩
  obtain ⟨r, hr⟩ : ∃ r, r = (c :: l).dropWhile isDig := ⟨_, rfl⟩
  rw [← hD] at hat hdl
  rw [← hD, ← hr] at HS hnum
  have HNUM := Lib.hid hnum; have HEV := Lib.hid hev
  obtain ⟨V, hV⟩ : ∃ V, V = valL D := ⟨_, rfl⟩
  rw [← hV] at hat HNUM
  have hds : (⟨D.toArray⟩ : ByteArray).size ≤ 100000 := hdl
  have hdd : (⟨D.toArray⟩ : ByteArray).data.toList = D := rfl
  have hAT : ∀ w, w.cell? ⟨6, 0, none⟩ = some (.iface te pe) → Calls Tryd.prog 64 #[.string ⟨D.toArray⟩] w fun e w' => (∃ z y, e = .returned (.tuple #[.int .i64 z, y]) ∧ (V < 9223372036854775808 → z = V ∧ y = .nilIface) ∧ (9223372036854775808 ≤ V → ∃ N, y = .iface 124 (.pointer (some ⟨N, 0, none⟩)))) ∧ Below w.heap.size w w' := by
    intro w hw
    rcases hat with ⟨a1, a2⟩ | ⟨a1, a2⟩
    · refine (Tryd.strconv_Atoi_ok ⟨D.toArray⟩ (by omega) (V : Int) (by rw [hdd]; exact a1) w).mono ?_
      rintro e w' ⟨rfl, hw'⟩
      refine ⟨⟨_, _, rfl, fun _ => ⟨rfl, rfl⟩, fun h => by omega⟩, ?_⟩
      rcases hw' with rfl | ⟨t, rfl⟩
      · exact Below.refl _ _
      · exact Lib.bytesWorld_below _ _ _
    · refine (Tryd.strconv_Atoi_range ⟨D.toArray⟩ (by omega) (by rw [hdd]; exact a1) _ w hw (.inr ⟨te, pe, rfl⟩)).mono ?_
      rintro e w' ⟨N, rfl, -, -, hb⟩
      exact ⟨⟨_, _, rfl, fun h => by omega, fun _ => ⟨N, rfl⟩⟩, hb⟩
  have HAT := Lib.hid hAT
  clear hat hall hne hnum hev hD hr hV hAT hdd h
  go_enter Tryd.func46, Tryd.ntmps46
  go_wp2_with fail
  refine HS.out.mono ?_
  rintro e w1 ⟨rfl, hrd1, hg1⟩
  have HG1 := Lib.hid hg1
  have HEV1 := Lib.hid (cell_else' hg1 HEV.out hb0)
  have HRD1 := Lib.hid hrd1
  clear hg1 hrd1 HS HEV
  go_wp2_with fail
  refine (HAT.out _ HEV1.out).mono ?_
  rintro e w2 ⟨⟨z, y, rfl, hz1, hz2⟩, hb2⟩
  have HZ1 := Lib.hid hz1; have HZ2 := Lib.hid hz2
  have HRD2 := Lib.hid (HRD1.out.below hb2); have HG2 := Lib.hid (Go.Lib.grownBy_below HG1.out hb2)
  clear hb2 hz1 hz2 HRD1 HG1 HEV1 HAT
  obtain ⟨n, hre, hrr⟩ := HRD2.out
  have HRE := Lib.hid hre; have HRR := Lib.hid hrr
  have HN := Lib.hid (fun (w' : World) (h' : Rdr w' b s n) => next_any b n s r w' hs hre h')
  clear hre hrr
  go_wp2_with fail
  refine (HN.out _ HRR.out).mono ?_
  rintro e w3 ⟨rfl, hkk⟩
  have hb3 : Below w2.heap.size w2 w3 := by obtain ⟨k, rfl⟩ := hkk; exact below_drewN _ _
  have HRR3 := Lib.hid (HRR.out.below hb3); have HG3 := Lib.hid (Go.Lib.grownBy_below HG2.out hb3)
  clear hkk hb3 HN HRD2 HRR HG2
  have HN := HZ1
  by_cases hK : ∃ t, r = 75 :: t ∨ r = 107 :: t
  ·
    obtain ⟨t, rfl | rfl⟩ := hK
    · have HSH : Hid (shiftL (75 :: t) = (10, t)) := rfl
      obtain ⟨hlt, -, hre1⟩ := HRE.out.cons
      have HRE1 := Lib.hid hre1
      have HNX := Lib.hid (fun (w' : World) (h' : Rdr w' b s (n + 1)) => next_any b (n + 1) s t w' hs HRE1.out h')
      have g1 : (((nextL (75 :: t)).toNat : Int) == 75) = true := rfl
      have HRRX := Lib.hid HRR3.out.step
      have HGX := Lib.hid (Go.Lib.grownBy_setB HG3.out 1 (.int .i64 ((n : Int) + 1)))
      obtain ⟨c0, c1, f1, hbw⟩ := HRR3.out
      go_upto_region 13 with fail
      clear c0 c1 f1 hbw hre1 g1
      obtain ⟨W4, hW4⟩ : ∃ W4, W4 = w3.setCell ⟨b, 1, none⟩ (.int .i64 ((n : Int) + 1)) := ⟨_, rfl⟩
      rw [← hW4] at HRRX HGX ⊢
      clear hW4
      cases hl : isLet (nextL t) with
      | true =>
        have HL := Lib.hid (fun w => hl ▸ letter_any (nextL t) w)
        have HFIN : Hid (numL (c :: l) = .error 3) := by unfold Hid; rw [HNUM.out, HSH.out, if_pos (by rw [hd_next, hl]; rfl)]
        clear hl
        go_wp2_with fail
        refine (HNX.out _ HRRX.out).mono ?_
        rintro e w5 ⟨rfl, hkk⟩
        have hb5 : Below W4.heap.size W4 w5 := by obtain ⟨k, rfl⟩ := hkk; exact below_drewN _ _
        have HG5 := Lib.hid (Go.Lib.grownBy_below HGX.out hb5)
        clear hkk hb5
        go_wp2_with fail
        refine (HL.out _).mono ?_
        rintro e w6 ⟨rfl, rfl⟩
        go_wp2_with fail
        go_ret2
        exact NumPost.err HFIN.out HG5.out
      | false =>
        have HL := Lib.hid (fun w => hl ▸ letter_any (nextL t) w)
        cases hd : isDig (nextL t) with
        | true =>
          have HD := Lib.hid (fun w => hd ▸ digit_any (nextL t) w)
          have HFIN : Hid (numL (c :: l) = .error 3) := by unfold Hid; rw [HNUM.out, HSH.out, if_pos (by rw [hd_next, hl, hd]; rfl)]
          clear hl hd
          go_wp2_with fail
          refine (HNX.out _ HRRX.out).mono ?_
          rintro e w5 ⟨rfl, hkk⟩
          have hb5 : Below W4.heap.size W4 w5 := by obtain ⟨k, rfl⟩ := hkk; exact below_drewN _ _
          have HRR5 := Lib.hid (HRRX.out.below hb5)
          have HG5 := Lib.hid (Go.Lib.grownBy_below HGX.out hb5)
          clear hkk hb5
          go_wp2_with fail
          refine (HL.out _).mono ?_
          rintro e w6 ⟨rfl, rfl⟩
          go_wp2_with fail
          refine (HNX.out _ HRR5.out).mono ?_
          rintro e w7 ⟨rfl, hkk⟩
          have hb7 : Below w5.heap.size w5 w7 := by obtain ⟨k, rfl⟩ := hkk; exact below_drewN _ _
          have HG7 := Lib.hid (Go.Lib.grownBy_below HG5.out hb7)
          clear hkk hb7
          go_wp2_with fail
          refine (HD.out _).mono ?_
          rintro e w8 ⟨rfl, rfl⟩
          go_wp2_with fail
          go_ret2
          exact NumPost.err HFIN.out HG7.out
        | false =>
          have HD := Lib.hid (fun w => hd ▸ digit_any (nextL t) w)
          have HNE : Hid (¬ hdOf isWd t = true) := by unfold Hid; rw [hd_next, hl, hd]; simp
          clear hl hd
          go_wp2_with fail
          refine (HNX.out _ HRRX.out).mono ?_
          rintro e w5 ⟨rfl, hkk⟩
          have hb5 : Below W4.heap.size W4 w5 := by obtain ⟨k, rfl⟩ := hkk; exact below_drewN _ _
          have HRR5 := Lib.hid (HRRX.out.below hb5)
          have HG5 := Lib.hid (Go.Lib.grownBy_below HGX.out hb5)
          clear hkk hb5
          go_wp2_with fail
          refine (HL.out _).mono ?_
          rintro e w6 ⟨rfl, rfl⟩
          go_wp2_with fail
          refine (HNX.out _ HRR5.out).mono ?_
          rintro e w7 ⟨rfl, hkk⟩
          have hb7 : Below w5.heap.size w5 w7 := by obtain ⟨k, rfl⟩ := hkk; exact below_drewN _ _
          have HRR7 := Lib.hid (HRR5.out.below hb7)
          have HG7 := Lib.hid (Go.Lib.grownBy_below HG5.out hb7)
          clear hkk hb7
          go_wp2_with fail
          refine (HD.out _).mono ?_
          rintro e w8 ⟨rfl, rfl⟩
          by_cases hbig : 9223372036854775808 ≤ V
          · obtain ⟨N, hN⟩ := HZ2.out hbig
            have HFIN : Hid (numL (c :: l) = .error 6) := by unfold Hid; rw [HNUM.out, HSH.out, if_neg HNE.out, if_pos (by show 2147483647 >>> 10 < V; have : (2147483647 : Nat) >>> 10 ≤ 2147483647 := Nat.shiftRight_le _ _; omega)]
            subst hN
            clear HZ1 HZ2 HN
            go_wp2_with fail
            go_ret2
            exact NumPost.err HFIN.out HG7.out
          · obtain ⟨hz, hy⟩ := HZ1.out (by omega)
            subst hz; subst hy
            have hVb : V < 9223372036854775808 := by omega
            by_cases hov : 2147483647 >>> 10 < V
            · have HFIN : Hid (numL (c :: l) = .error 6) := by unfold Hid; rw [HNUM.out, HSH.out, if_neg HNE.out, if_pos hov]
              have hov' : 2097151 < V := hov
              clear HZ1 HZ2 HN hbig hov
              go_wp2_with fail
              go_ret2
              exact NumPost.err HFIN.out HG7.out
            · have HFIN : Hid (numL (c :: l) = .ok (⟨3, [], ((V <<< 10 : Nat) : Int)⟩, t)) := by unfold Hid; rw [HNUM.out, HSH.out, if_neg HNE.out, if_neg hov]
              have hov' : V ≤ 2097151 := Nat.le_of_not_lt hov
              clear HZ1 HZ2 HN hbig hov
              go_wp2_with fail
              go_ret2
              exact NumPost.ok HFIN.out (by simp [Nat.shiftLeft_eq]) ⟨n + 1, HRE1.out, HRR7.out⟩ HG7.out
    · have HSH : Hid (shiftL (107 :: t) = (10, t)) := rfl
      obtain ⟨hlt, -, hre1⟩ := HRE.out.cons
      have HRE1 := Lib.hid hre1
      have HNX := Lib.hid (fun (w' : World) (h' : Rdr w' b s (n + 1)) => next_any b (n + 1) s t w' hs HRE1.out h')
      have g1 : (((nextL (107 :: t)).toNat : Int) == 75) = false := rfl
      have g2 : (((nextL (107 :: t)).toNat : Int) == 107) = true := rfl
      have HRRX := Lib.hid HRR3.out.step
      have HGX := Lib.hid (Go.Lib.grownBy_setB HG3.out 1 (.int .i64 ((n : Int) + 1)))
      obtain ⟨c0, c1, f1, hbw⟩ := HRR3.out
      go_upto_region 13 with fail
      clear c0 c1 f1 hbw hre1 g1 g2
      obtain ⟨W4, hW4⟩ : ∃ W4, W4 = w3.setCell ⟨b, 1, none⟩ (.int .i64 ((n : Int) + 1)) := ⟨_, rfl⟩
      rw [← hW4] at HRRX HGX ⊢
      clear hW4
      cases hl : isLet (nextL t) with
      | true =>
        have HL := Lib.hid (fun w => hl ▸ letter_any (nextL t) w)
        have HFIN : Hid (numL (c :: l) = .error 3) := by unfold Hid; rw [HNUM.out, HSH.out, if_pos (by rw [hd_next, hl]; rfl)]
        clear hl
        go_wp2_with fail
        refine (HNX.out _ HRRX.out).mono ?_
        rintro e w5 ⟨rfl, hkk⟩
        have hb5 : Below W4.heap.size W4 w5 := by obtain ⟨k, rfl⟩ := hkk; exact below_drewN _ _
        have HG5 := Lib.hid (Go.Lib.grownBy_below HGX.out hb5)
        clear hkk hb5
        go_wp2_with fail
        refine (HL.out _).mono ?_
        rintro e w6 ⟨rfl, rfl⟩
        go_wp2_with fail
        go_ret2
        exact NumPost.err HFIN.out HG5.out
      | false =>
        have HL := Lib.hid (fun w => hl ▸ letter_any (nextL t) w)
        cases hd : isDig (nextL t) with
        | true =>
          have HD := Lib.hid (fun w => hd ▸ digit_any (nextL t) w)
          have HFIN : Hid (numL (c :: l) = .error 3) := by unfold Hid; rw [HNUM.out, HSH.out, if_pos (by rw [hd_next, hl, hd]; rfl)]
          clear hl hd
          go_wp2_with fail
          refine (HNX.out _ HRRX.out).mono ?_
          rintro e w5 ⟨rfl, hkk⟩
          have hb5 : Below W4.heap.size W4 w5 := by obtain ⟨k, rfl⟩ := hkk; exact below_drewN _ _
          have HRR5 := Lib.hid (HRRX.out.below hb5)
          have HG5 := Lib.hid (Go.Lib.grownBy_below HGX.out hb5)
          clear hkk hb5
          go_wp2_with fail
          refine (HL.out _).mono ?_
          rintro e w6 ⟨rfl, rfl⟩
          go_wp2_with fail
          refine (HNX.out _ HRR5.out).mono ?_
          rintro e w7 ⟨rfl, hkk⟩
          have hb7 : Below w5.heap.size w5 w7 := by obtain ⟨k, rfl⟩ := hkk; exact below_drewN _ _
          have HG7 := Lib.hid (Go.Lib.grownBy_below HG5.out hb7)
          clear hkk hb7
          go_wp2_with fail
          refine (HD.out _).mono ?_
          rintro e w8 ⟨rfl, rfl⟩
          go_wp2_with fail
          go_ret2
          exact NumPost.err HFIN.out HG7.out
        | false =>
          have HD := Lib.hid (fun w => hd ▸ digit_any (nextL t) w)
          have HNE : Hid (¬ hdOf isWd t = true) := by unfold Hid; rw [hd_next, hl, hd]; simp
          clear hl hd
          go_wp2_with fail
          refine (HNX.out _ HRRX.out).mono ?_
          rintro e w5 ⟨rfl, hkk⟩
          have hb5 : Below W4.heap.size W4 w5 := by obtain ⟨k, rfl⟩ := hkk; exact below_drewN _ _
          have HRR5 := Lib.hid (HRRX.out.below hb5)
          have HG5 := Lib.hid (Go.Lib.grownBy_below HGX.out hb5)
          clear hkk hb5
          go_wp2_with fail
          refine (HL.out _).mono ?_
          rintro e w6 ⟨rfl, rfl⟩
          go_wp2_with fail
          refine (HNX.out _ HRR5.out).mono ?_
          rintro e w7 ⟨rfl, hkk⟩
          have hb7 : Below w5.heap.size w5 w7 := by obtain ⟨k, rfl⟩ := hkk; exact below_drewN _ _
          have HRR7 := Lib.hid (HRR5.out.below hb7)
          have HG7 := Lib.hid (Go.Lib.grownBy_below HG5.out hb7)
          clear hkk hb7
          go_wp2_with fail
          refine (HD.out _).mono ?_
          rintro e w8 ⟨rfl, rfl⟩
          by_cases hbig : 9223372036854775808 ≤ V
          · obtain ⟨N, hN⟩ := HZ2.out hbig
            have HFIN : Hid (numL (c :: l) = .error 6) := by unfold Hid; rw [HNUM.out, HSH.out, if_neg HNE.out, if_pos (by show 2147483647 >>> 10 < V; have : (2147483647 : Nat) >>> 10 ≤ 2147483647 := Nat.shiftRight_le _ _; omega)]
            subst hN
            clear HZ1 HZ2 HN
            go_wp2_with fail
            go_ret2
            exact NumPost.err HFIN.out HG7.out
          · obtain ⟨hz, hy⟩ := HZ1.out (by omega)
            subst hz; subst hy
            have hVb : V < 9223372036854775808 := by omega
            by_cases hov : 2147483647 >>> 10 < V
            · have HFIN : Hid (numL (c :: l) = .error 6) := by unfold Hid; rw [HNUM.out, HSH.out, if_neg HNE.out, if_pos hov]
              have hov' : 2097151 < V := hov
              clear HZ1 HZ2 HN hbig hov
              go_wp2_with fail
              go_ret2
              exact NumPost.err HFIN.out HG7.out
            · have HFIN : Hid (numL (c :: l) = .ok (⟨3, [], ((V <<< 10 : Nat) : Int)⟩, t)) := by unfold Hid; rw [HNUM.out, HSH.out, if_neg HNE.out, if_neg hov]
              have hov' : V ≤ 2097151 := Nat.le_of_not_lt hov
              clear HZ1 HZ2 HN hbig hov
              go_wp2_with fail
              go_ret2
              exact NumPost.ok HFIN.out (by simp [Nat.shiftLeft_eq]) ⟨n + 1, HRE1.out, HRR7.out⟩ HG7.out
  · by_cases hM : ∃ t, r = 77 :: t ∨ r = 109 :: t
    ·
      obtain ⟨t, rfl | rfl⟩ := hM
      · have HSH : Hid (shiftL (77 :: t) = (20, t)) := rfl
        obtain ⟨hlt, -, hre1⟩ := HRE.out.cons
        have HRE1 := Lib.hid hre1
        have HNX := Lib.hid (fun (w' : World) (h' : Rdr w' b s (n + 1)) => next_any b (n + 1) s t w' hs HRE1.out h')
        have g1 : (((nextL (77 :: t)).toNat : Int) == 75) = false := rfl
        have g2 : (((nextL (77 :: t)).toNat : Int) == 107) = false := rfl
        have g3 : (((nextL (77 :: t)).toNat : Int) == 77) = true := rfl
        have HRRX := Lib.hid HRR3.out.step
        have HGX := Lib.hid (Go.Lib.grownBy_setB HG3.out 1 (.int .i64 ((n : Int) + 1)))
        obtain ⟨c0, c1, f1, hbw⟩ := HRR3.out
        go_upto_region 13 with fail
        clear c0 c1 f1 hbw hre1 g1 g2 g3
        obtain ⟨W4, hW4⟩ : ∃ W4, W4 = w3.setCell ⟨b, 1, none⟩ (.int .i64 ((n : Int) + 1)) := ⟨_, rfl⟩
        rw [← hW4] at HRRX HGX ⊢
        clear hW4
        cases hl : isLet (nextL t) with
        | true =>
          have HL := Lib.hid (fun w => hl ▸ letter_any (nextL t) w)
          have HFIN : Hid (numL (c :: l) = .error 3) := by unfold Hid; rw [HNUM.out, HSH.out, if_pos (by rw [hd_next, hl]; rfl)]
          clear hl
          go_wp2_with fail
          refine (HNX.out _ HRRX.out).mono ?_
          rintro e w5 ⟨rfl, hkk⟩
          have hb5 : Below W4.heap.size W4 w5 := by obtain ⟨k, rfl⟩ := hkk; exact below_drewN _ _
          have HG5 := Lib.hid (Go.Lib.grownBy_below HGX.out hb5)
          clear hkk hb5
          go_wp2_with fail
          refine (HL.out _).mono ?_
          rintro e w6 ⟨rfl, rfl⟩
          go_wp2_with fail
          go_ret2
          exact NumPost.err HFIN.out HG5.out
        | false =>
          have HL := Lib.hid (fun w => hl ▸ letter_any (nextL t) w)
          cases hd : isDig (nextL t) with
          | true =>
            have HD := Lib.hid (fun w => hd ▸ digit_any (nextL t) w)
            have HFIN : Hid (numL (c :: l) = .error 3) := by unfold Hid; rw [HNUM.out, HSH.out, if_pos (by rw [hd_next, hl, hd]; rfl)]
            clear hl hd
            go_wp2_with fail
            refine (HNX.out _ HRRX.out).mono ?_
            rintro e w5 ⟨rfl, hkk⟩
            have hb5 : Below W4.heap.size W4 w5 := by obtain ⟨k, rfl⟩ := hkk; exact below_drewN _ _
            have HRR5 := Lib.hid (HRRX.out.below hb5)
            have HG5 := Lib.hid (Go.Lib.grownBy_below HGX.out hb5)
            clear hkk hb5
            go_wp2_with fail
            refine (HL.out _).mono ?_
            rintro e w6 ⟨rfl, rfl⟩
            go_wp2_with fail
            refine (HNX.out _ HRR5.out).mono ?_
            rintro e w7 ⟨rfl, hkk⟩
            have hb7 : Below w5.heap.size w5 w7 := by obtain ⟨k, rfl⟩ := hkk; exact below_drewN _ _
            have HG7 := Lib.hid (Go.Lib.grownBy_below HG5.out hb7)
            clear hkk hb7
            go_wp2_with fail
            refine (HD.out _).mono ?_
            rintro e w8 ⟨rfl, rfl⟩
            go_wp2_with fail
            go_ret2
            exact NumPost.err HFIN.out HG7.out
          | false =>
            have HD := Lib.hid (fun w => hd ▸ digit_any (nextL t) w)
            have HNE : Hid (¬ hdOf isWd t = true) := by unfold Hid; rw [hd_next, hl, hd]; simp
            clear hl hd
            go_wp2_with fail
            refine (HNX.out _ HRRX.out).mono ?_
            rintro e w5 ⟨rfl, hkk⟩
            have hb5 : Below W4.heap.size W4 w5 := by obtain ⟨k, rfl⟩ := hkk; exact below_drewN _ _
            have HRR5 := Lib.hid (HRRX.out.below hb5)
            have HG5 := Lib.hid (Go.Lib.grownBy_below HGX.out hb5)
            clear hkk hb5
            go_wp2_with fail
            refine (HL.out _).mono ?_
            rintro e w6 ⟨rfl, rfl⟩
            go_wp2_with fail
            refine (HNX.out _ HRR5.out).mono ?_
            rintro e w7 ⟨rfl, hkk⟩
            have hb7 : Below w5.heap.size w5 w7 := by obtain ⟨k, rfl⟩ := hkk; exact below_drewN _ _
            have HRR7 := Lib.hid (HRR5.out.below hb7)
            have HG7 := Lib.hid (Go.Lib.grownBy_below HG5.out hb7)
            clear hkk hb7
            go_wp2_with fail
            refine (HD.out _).mono ?_
            rintro e w8 ⟨rfl, rfl⟩
            by_cases hbig : 9223372036854775808 ≤ V
            · obtain ⟨N, hN⟩ := HZ2.out hbig
              have HFIN : Hid (numL (c :: l) = .error 6) := by unfold Hid; rw [HNUM.out, HSH.out, if_neg HNE.out, if_pos (by show 2147483647 >>> 20 < V; have : (2147483647 : Nat) >>> 20 ≤ 2147483647 := Nat.shiftRight_le _ _; omega)]
              subst hN
              clear HZ1 HZ2 HN
              go_wp2_with fail
              go_ret2
              exact NumPost.err HFIN.out HG7.out
            · obtain ⟨hz, hy⟩ := HZ1.out (by omega)
              subst hz; subst hy
              have hVb : V < 9223372036854775808 := by omega
              by_cases hov : 2147483647 >>> 20 < V
              · have HFIN : Hid (numL (c :: l) = .error 6) := by unfold Hid; rw [HNUM.out, HSH.out, if_neg HNE.out, if_pos hov]
                have hov' : 2047 < V := hov
                clear HZ1 HZ2 HN hbig hov
                go_wp2_with fail
                go_ret2
                exact NumPost.err HFIN.out HG7.out
              · have HFIN : Hid (numL (c :: l) = .ok (⟨3, [], ((V <<< 20 : Nat) : Int)⟩, t)) := by unfold Hid; rw [HNUM.out, HSH.out, if_neg HNE.out, if_neg hov]
                have hov' : V ≤ 2047 := Nat.le_of_not_lt hov
                clear HZ1 HZ2 HN hbig hov
                go_wp2_with fail
                go_ret2
                exact NumPost.ok HFIN.out (by simp [Nat.shiftLeft_eq]) ⟨n + 1, HRE1.out, HRR7.out⟩ HG7.out
      · have HSH : Hid (shiftL (109 :: t) = (20, t)) := rfl
        obtain ⟨hlt, -, hre1⟩ := HRE.out.cons
        have HRE1 := Lib.hid hre1
        have HNX := Lib.hid (fun (w' : World) (h' : Rdr w' b s (n + 1)) => next_any b (n + 1) s t w' hs HRE1.out h')
        have g1 : (((nextL (109 :: t)).toNat : Int) == 75) = false := rfl
        have g2 : (((nextL (109 :: t)).toNat : Int) == 107) = false := rfl
        have g3 : (((nextL (109 :: t)).toNat : Int) == 77) = false := rfl
        have g4 : (((nextL (109 :: t)).toNat : Int) == 109) = true := rfl
        have HRRX := Lib.hid HRR3.out.step
        have HGX := Lib.hid (Go.Lib.grownBy_setB HG3.out 1 (.int .i64 ((n : Int) + 1)))
        obtain ⟨c0, c1, f1, hbw⟩ := HRR3.out
        go_upto_region 13 with fail
        clear c0 c1 f1 hbw hre1 g1 g2 g3 g4
        obtain ⟨W4, hW4⟩ : ∃ W4, W4 = w3.setCell ⟨b, 1, none⟩ (.int .i64 ((n : Int) + 1)) := ⟨_, rfl⟩
        rw [← hW4] at HRRX HGX ⊢
        clear hW4
        cases hl : isLet (nextL t) with
        | true =>
          have HL := Lib.hid (fun w => hl ▸ letter_any (nextL t) w)
          have HFIN : Hid (numL (c :: l) = .error 3) := by unfold Hid; rw [HNUM.out, HSH.out, if_pos (by rw [hd_next, hl]; rfl)]
          clear hl
          go_wp2_with fail
          refine (HNX.out _ HRRX.out).mono ?_
          rintro e w5 ⟨rfl, hkk⟩
          have hb5 : Below W4.heap.size W4 w5 := by obtain ⟨k, rfl⟩ := hkk; exact below_drewN _ _
          have HG5 := Lib.hid (Go.Lib.grownBy_below HGX.out hb5)
          clear hkk hb5
          go_wp2_with fail
          refine (HL.out _).mono ?_
          rintro e w6 ⟨rfl, rfl⟩
          go_wp2_with fail
          go_ret2
          exact NumPost.err HFIN.out HG5.out
        | false =>
          have HL := Lib.hid (fun w => hl ▸ letter_any (nextL t) w)
          cases hd : isDig (nextL t) with
          | true =>
            have HD := Lib.hid (fun w => hd ▸ digit_any (nextL t) w)
            have HFIN : Hid (numL (c :: l) = .error 3) := by unfold Hid; rw [HNUM.out, HSH.out, if_pos (by rw [hd_next, hl, hd]; rfl)]
            clear hl hd
            go_wp2_with fail
            refine (HNX.out _ HRRX.out).mono ?_
            rintro e w5 ⟨rfl, hkk⟩
            have hb5 : Below W4.heap.size W4 w5 := by obtain ⟨k, rfl⟩ := hkk; exact below_drewN _ _
            have HRR5 := Lib.hid (HRRX.out.below hb5)
            have HG5 := Lib.hid (Go.Lib.grownBy_below HGX.out hb5)
            clear hkk hb5
            go_wp2_with fail
            refine (HL.out _).mono ?_
            rintro e w6 ⟨rfl, rfl⟩
            go_wp2_with fail
            refine (HNX.out _ HRR5.out).mono ?_
            rintro e w7 ⟨rfl, hkk⟩
            have hb7 : Below w5.heap.size w5 w7 := by obtain ⟨k, rfl⟩ := hkk; exact below_drewN _ _
            have HG7 := Lib.hid (Go.Lib.grownBy_below HG5.out hb7)
            clear hkk hb7
            go_wp2_with fail
            refine (HD.out _).mono ?_
            rintro e w8 ⟨rfl, rfl⟩
            go_wp2_with fail
            go_ret2
            exact NumPost.err HFIN.out HG7.out
          | false =>
            have HD := Lib.hid (fun w => hd ▸ digit_any (nextL t) w)
            have HNE : Hid (¬ hdOf isWd t = true) := by unfold Hid; rw [hd_next, hl, hd]; simp
            clear hl hd
            go_wp2_with fail
            refine (HNX.out _ HRRX.out).mono ?_
            rintro e w5 ⟨rfl, hkk⟩
            have hb5 : Below W4.heap.size W4 w5 := by obtain ⟨k, rfl⟩ := hkk; exact below_drewN _ _
            have HRR5 := Lib.hid (HRRX.out.below hb5)
            have HG5 := Lib.hid (Go.Lib.grownBy_below HGX.out hb5)
            clear hkk hb5
            go_wp2_with fail
            refine (HL.out _).mono ?_
            rintro e w6 ⟨rfl, rfl⟩
            go_wp2_with fail
            refine (HNX.out _ HRR5.out).mono ?_
            rintro e w7 ⟨rfl, hkk⟩
            have hb7 : Below w5.heap.size w5 w7 := by obtain ⟨k, rfl⟩ := hkk; exact below_drewN _ _
            have HRR7 := Lib.hid (HRR5.out.below hb7)
            have HG7 := Lib.hid (Go.Lib.grownBy_below HG5.out hb7)
            clear hkk hb7
            go_wp2_with fail
            refine (HD.out _).mono ?_
            rintro e w8 ⟨rfl, rfl⟩
            by_cases hbig : 9223372036854775808 ≤ V
            · obtain ⟨N, hN⟩ := HZ2.out hbig
              have HFIN : Hid (numL (c :: l) = .error 6) := by unfold Hid; rw [HNUM.out, HSH.out, if_neg HNE.out, if_pos (by show 2147483647 >>> 20 < V; have : (2147483647 : Nat) >>> 20 ≤ 2147483647 := Nat.shiftRight_le _ _; omega)]
              subst hN
              clear HZ1 HZ2 HN
              go_wp2_with fail
              go_ret2
              exact NumPost.err HFIN.out HG7.out
            · obtain ⟨hz, hy⟩ := HZ1.out (by omega)
              subst hz; subst hy
              have hVb : V < 9223372036854775808 := by omega
              by_cases hov : 2147483647 >>> 20 < V
              · have HFIN : Hid (numL (c :: l) = .error 6) := by unfold Hid; rw [HNUM.out, HSH.out, if_neg HNE.out, if_pos hov]
                have hov' : 2047 < V := hov
                clear HZ1 HZ2 HN hbig hov
                go_wp2_with fail
                go_ret2
                exact NumPost.err HFIN.out HG7.out
              · have HFIN : Hid (numL (c :: l) = .ok (⟨3, [], ((V <<< 20 : Nat) : Int)⟩, t)) := by unfold Hid; rw [HNUM.out, HSH.out, if_neg HNE.out, if_neg hov]
                have hov' : V ≤ 2047 := Nat.le_of_not_lt hov
                clear HZ1 HZ2 HN hbig hov
                go_wp2_with fail
                go_ret2
                exact NumPost.ok HFIN.out (by simp [Nat.shiftLeft_eq]) ⟨n + 1, HRE1.out, HRR7.out⟩ HG7.out
    · have HSH : Hid (shiftL r = (0, r)) := by
        unfold Hid shiftL
        split
        · rfl
        · rename_i c t
          rw [if_neg (fun h => hK ⟨t, by rcases h with rfl | rfl; exact .inl rfl; exact .inr rfl⟩), if_neg (fun h => hM ⟨t, by rcases h with rfl | rfl; exact .inl rfl; exact .inr rfl⟩)]
      have g1 : (((nextL r).toNat : Int) == 75) = false := nx_ne r 75 (fun t e => hK ⟨t, .inl e⟩) (by decide)
      have g2 : (((nextL r).toNat : Int) == 107) = false := nx_ne r 107 (fun t e => hK ⟨t, .inr e⟩) (by decide)
      have g3 : (((nextL r).toNat : Int) == 77) = false := nx_ne r 77 (fun t e => hM ⟨t, .inl e⟩) (by decide)
      have g4 : (((nextL r).toNat : Int) == 109) = false := nx_ne r 109 (fun t e => hM ⟨t, .inr e⟩) (by decide)
      have HNX := Lib.hid (fun (w' : World) (h' : Rdr w' b s n) => next_any b n s r w' hs HRE.out h')
      have HRRX := HRR3; have HGX := HG3
      clear hK hM
      cases hl : isLet (nextL r) with
      | true =>
        have HL := Lib.hid (fun w => hl ▸ letter_any (nextL r) w)
        have HFIN : Hid (numL (c :: l) = .error 3) := by unfold Hid; rw [HNUM.out, HSH.out, if_pos (by rw [hd_next, hl]; rfl)]
        clear hl
        go_wp2_with fail
        refine (HNX.out _ HRRX.out).mono ?_
        rintro e w5 ⟨rfl, hkk⟩
        have hb5 : Below w3.heap.size w3 w5 := by obtain ⟨k, rfl⟩ := hkk; exact below_drewN _ _
        have HG5 := Lib.hid (Go.Lib.grownBy_below HGX.out hb5)
        clear hkk hb5
        go_wp2_with fail
        refine (HL.out _).mono ?_
        rintro e w6 ⟨rfl, rfl⟩
        go_wp2_with fail
        go_ret2
        exact NumPost.err HFIN.out HG5.out
      | false =>
        have HL := Lib.hid (fun w => hl ▸ letter_any (nextL r) w)
        cases hd : isDig (nextL r) with
        | true =>
          have HD := Lib.hid (fun w => hd ▸ digit_any (nextL r) w)
          have HFIN : Hid (numL (c :: l) = .error 3) := by unfold Hid; rw [HNUM.out, HSH.out, if_pos (by rw [hd_next, hl, hd]; rfl)]
          clear hl hd
          go_wp2_with fail
          refine (HNX.out _ HRRX.out).mono ?_
          rintro e w5 ⟨rfl, hkk⟩
          have hb5 : Below w3.heap.size w3 w5 := by obtain ⟨k, rfl⟩ := hkk; exact below_drewN _ _
          have HRR5 := Lib.hid (HRRX.out.below hb5)
          have HG5 := Lib.hid (Go.Lib.grownBy_below HGX.out hb5)
          clear hkk hb5
          go_wp2_with fail
          refine (HL.out _).mono ?_
          rintro e w6 ⟨rfl, rfl⟩
          go_wp2_with fail
          refine (HNX.out _ HRR5.out).mono ?_
          rintro e w7 ⟨rfl, hkk⟩
          have hb7 : Below w5.heap.size w5 w7 := by obtain ⟨k, rfl⟩ := hkk; exact below_drewN _ _
          have HG7 := Lib.hid (Go.Lib.grownBy_below HG5.out hb7)
          clear hkk hb7
          go_wp2_with fail
          refine (HD.out _).mono ?_
          rintro e w8 ⟨rfl, rfl⟩
          go_wp2_with fail
          go_ret2
          exact NumPost.err HFIN.out HG7.out
        | false =>
          have HD := Lib.hid (fun w => hd ▸ digit_any (nextL r) w)
          have HNE : Hid (¬ hdOf isWd r = true) := by unfold Hid; rw [hd_next, hl, hd]; simp
          clear hl hd
          go_wp2_with fail
          refine (HNX.out _ HRRX.out).mono ?_
          rintro e w5 ⟨rfl, hkk⟩
          have hb5 : Below w3.heap.size w3 w5 := by obtain ⟨k, rfl⟩ := hkk; exact below_drewN _ _
          have HRR5 := Lib.hid (HRRX.out.below hb5)
          have HG5 := Lib.hid (Go.Lib.grownBy_below HGX.out hb5)
          clear hkk hb5
          go_wp2_with fail
          refine (HL.out _).mono ?_
          rintro e w6 ⟨rfl, rfl⟩
          go_wp2_with fail
          refine (HNX.out _ HRR5.out).mono ?_
          rintro e w7 ⟨rfl, hkk⟩
          have hb7 : Below w5.heap.size w5 w7 := by obtain ⟨k, rfl⟩ := hkk; exact below_drewN _ _
          have HRR7 := Lib.hid (HRR5.out.below hb7)
          have HG7 := Lib.hid (Go.Lib.grownBy_below HG5.out hb7)
          clear hkk hb7
          go_wp2_with fail
          refine (HD.out _).mono ?_
          rintro e w8 ⟨rfl, rfl⟩
          by_cases hbig : 9223372036854775808 ≤ V
          · obtain ⟨N, hN⟩ := HZ2.out hbig
            have HFIN : Hid (numL (c :: l) = .error 6) := by unfold Hid; rw [HNUM.out, HSH.out, if_neg HNE.out, if_pos (by show 2147483647 >>> 0 < V; have : (2147483647 : Nat) >>> 0 ≤ 2147483647 := Nat.shiftRight_le _ _; omega)]
            subst hN
            clear HZ1 HZ2 HN
            go_wp2_with fail
            go_ret2
            exact NumPost.err HFIN.out HG7.out
          · obtain ⟨hz, hy⟩ := HZ1.out (by omega)
            subst hz; subst hy
            have hVb : V < 9223372036854775808 := by omega
            by_cases hov : 2147483647 >>> 0 < V
            · have HFIN : Hid (numL (c :: l) = .error 6) := by unfold Hid; rw [HNUM.out, HSH.out, if_neg HNE.out, if_pos hov]
              have hov' : 2147483647 < V := hov
              clear HZ1 HZ2 HN hbig hov
              go_wp2_with fail
              go_ret2
              exact NumPost.err HFIN.out HG7.out
            · have HFIN : Hid (numL (c :: l) = .ok (⟨3, [], ((V <<< 0 : Nat) : Int)⟩, r)) := by unfold Hid; rw [HNUM.out, HSH.out, if_neg HNE.out, if_neg hov]
              have hov' : V ≤ 2147483647 := Nat.le_of_not_lt hov
              clear HZ1 HZ2 HN hbig hov
              go_wp2_with fail
              go_ret2
              exact NumPost.ok HFIN.out (by simp [Nat.shiftLeft_eq]) ⟨n, HRE.out, HRR7.out⟩ HG7.out
end Go.Proofs.YtlgbmnmoobpkkaaDoor.Tk
namespace Go.Proofs.YtlgbmnmoobpkkaaDoor.Tk
open Go.RowKit

/-- what 'one' answers -/
def OnePost (b : Nat) (s : ByteArray) (l : List UInt8) (w : World) (e : Ending) (w' : World) : Prop :=
  (match oneL l with
    | .error z => e = .returned (.tuple #[.agg #[.int .i64 0, .string ⟨#[]⟩, .int .i64 0], .int .i64 z])
    | .ok p => e = .returned (.tuple #[.agg #[.int .i64 p.1.kind, .string ⟨p.1.text.toArray⟩, .int .i64 p.1.num], .int .i64 0]) ∧ RdrL w' b s p.2) ∧ w.grownBy w' (some b)
theorem has_tri {w : World} {b : Nat} {a0 a1 a2 : Value} (h : Has w b [a0, a1, a2]) : (w.cell? ⟨b, 0, none⟩ = some a0 ∧ w.cell? ⟨b, 1, none⟩ = some a1 ∧ w.cell? ⟨b, 2, none⟩ = some a2) ∧ (w.frozen? ⟨b, 0, none⟩ = false ∧ w.frozen? ⟨b, 1, none⟩ = false ∧ w.frozen? ⟨b, 2, none⟩ = false) :=
  ⟨⟨h.1 0 _ rfl, h.1 1 _ rfl, h.1 2 _ rfl⟩, ⟨h.2.1 0 (by simp), h.2.1 1 (by simp), h.2.1 2 (by simp)⟩⟩
theorem grown_else {w W : World} {b R : Nat} (hg : w.grownBy W (some b)) (hR : w.heap.size ≤ R) (i : Nat) (v : Value) : w.grownBy (W.setCell ⟨R, i, none⟩ v) (some b) := by
  have g := Go.Lib.grownBy_setB (World.grownBy.refl W (some R)) i v
  exact ⟨g.os.trans hg.os, g.tape.trans hg.tape, g.output.trans hg.output, Nat.le_trans hg.size g.size, fun k hk hn => (g.block k (Nat.lt_of_lt_of_le hk hg.size) (by intro e; have := Option.some.inj e; omega)).trans (hg.block k hk hn)⟩
theorem RdrL.else' {W : World} {b R : Nat} {s : ByteArray} {l : List UInt8} (h : RdrL W b s l) (hR : b ≠ R) (i : Nat) (v : Value) : RdrL (W.setCell ⟨R, i, none⟩ v) b s l := by
  obtain ⟨n, h1, h2, h3, h4, h5⟩ := h
  exact ⟨n, h1, (World.cell?_setCell_other _ _ _ _ (by intro e; exact hR (congrArg Addr.block e).symm)).trans h2, (World.cell?_setCell_other _ _ _ _ (by intro e; exact hR (congrArg Addr.block e).symm)).trans h3, (World.frozen?_setCell ..).trans h4, by simpa [World.setCell] using h5⟩
/-- the result's variable, written whole -/
def w3 (W : World) (R : Nat) (x y z : Value) : World := ((W.setCell ⟨R, 0, none⟩ x).setCell ⟨R, 1, none⟩ y).setCell ⟨R, 2, none⟩ z
theorem w3_facts {w W : World} {b R : Nat} {s : ByteArray} {r : List UInt8} {a0 a1 a2 : Value} (h : Has W R [a0, a1, a2]) (hb : b < R) (hR : w.heap.size ≤ R) (hg : w.grownBy W (some b)) (x y z : Value) : Has (w3 W R x y z) R [x, y, z] ∧ (RdrL W b s r → RdrL (w3 W R x y z) b s r) ∧ w.grownBy (w3 W R x y z) (some b) :=
  ⟨((h.set' (i := 0) _ (by simp)).set' (i := 1) _ (by simp)).set' (i := 2) _ (by simp), fun hr => ((hr.else' (by omega) 0 _).else' (by omega) 1 _).else' (by omega) 2 _, grown_else (grown_else (grown_else hg hR 0 _) hR 1 _) hR 2 _⟩
theorem one_end {R b : Nat} {s : ByteArray} {l : List UInt8} {a : Act} {W w : World} {k n z : Int} {x : ByteArray} (ht : a.tmps.getD 2 undef = .pointer (some ⟨R, 0, none⟩)) (h3 : a.tmps.getD 3 undef = .int .i64 z) (hd : a.defers = []) (h : Has W R [.int .i64 k, .string x, .int .i64 n])
    (hp : OnePost b s l w (.returned (.tuple #[.agg #[.int .i64 k, .string x, .int .i64 n], .int .i64 z])) W) : bodyPost Tryd.prog Tryd.f24 (OnePost b s l w) .ret a W := by
  obtain ⟨⟨c0, c1, c2⟩, -⟩ := has_tri h
  refine bodyPost_ret (v := .tuple #[.agg #[.int .i64 k, .string x, .int .i64 n], .int .i64 z]) ?_ hd hp
  have ht' : a.tmps[2]?.getD undef = .pointer (some ⟨R, 0, none⟩) := by simpa using ht
  have h3' : a.tmps[3]?.getD undef = .int .i64 z := by simpa using h3
  simp [results, Tryd.results24, go_sem, ht', h3', c0, c1, c2]
theorem OnePost.err {b : Nat} {s : ByteArray} {l : List UInt8} {w w' : World} {z : Int} (h : oneL l = .error z) (g : w.grownBy w' (some b)) : OnePost b s l w (.returned (.tuple #[.agg #[.int .i64 0, .string ⟨#[]⟩, .int .i64 0], .int .i64 z])) w' := by
  unfold OnePost; rw [h]; exact ⟨rfl, g⟩
theorem OnePost.ok {b : Nat} {s : ByteArray} {l r x : List UInt8} {w w' : World} {k n : Int} (h : oneL l = .ok (⟨k, x, n⟩, r)) (hr : RdrL w' b s r) (g : w.grownBy w' (some b)) : OnePost b s l w (.returned (.tuple #[.agg #[.int .i64 k, .string ⟨x.toArray⟩, .int .i64 n], .int .i64 0])) w' := by
  unfold OnePost; rw [h]; exact ⟨⟨rfl, hr⟩, g⟩
theorem ib_marks (c : UInt8) : decide (0 ≤ Go.Lib.indexByte [123, 125, 40, 41, 91, 93, 59, 44] c) = decide (c ∈ marks) :=
  byte_all (fun c => decide (0 ≤ Go.Lib.indexByte [123, 125, 40, 41, 91, 93, 59, 44] c) = decide (c ∈ marks)) (by decide +kernel) c
theorem one_bad {b : UInt8} (t : List UInt8) (h1 : isLet b = false) (h2 : b ≠ 58) (h3 : isDig b = false) (h4 : b ≠ 34) (h5 : b ∉ marks) : oneL (b :: t) = .error 3 := by
  show (if isLet b = true then _ else if b = 58 then _ else if isDig b = true then numL (b :: t) else if b = 34 then _ else if b ∈ marks then _ else _) = _
  rw [if_neg (by rw [h1]; simp), if_neg h2, if_neg (by rw [h3]; simp), if_neg h4, if_neg h5]
theorem one_tag_bad (t : List UInt8) (h : hdOf isLet t = false) : oneL (58 :: t) = .error 3 := if_neg (by rw [h]; simp)
theorem hd_let (l : List UInt8) : hdOf isLet l = isLet (nextL l) := by
  cases l with
  | nil => decide
  | cons c t => rfl
theorem u8_ne {c k : UInt8} (h : c ≠ k) : ((c.toNat : Int) == (k.toNat : Int)) = false := beq_eq_false_iff_ne.2 (fun e => h (UInt8.toNat_inj.1 (Int.ofNat_inj.1 e)))
theorem num_err {l : List UInt8} {z : Int} (h : numL l = .error z) : z = 3 ∨ z = 6 := by
  unfold numL at h
  split at h
  · injection h with h; exact .inl h.symm
  · split at h
    · injection h with h; exact .inr h.symm
    · cases h
theorem num_form {l r x : List UInt8} {k v : Int} (h : numL l = .ok (⟨k, x, v⟩, r)) : k = 3 ∧ x = [] := by
  unfold numL at h
  split at h
  · cases h
  · split at h
    · cases h
    · injection h with h
      injection h with h h2
      injection h with a1 a2 a3
      exact ⟨a1.symm, a2.symm⟩
theorem byte_str (W : World) (c : UInt8) : (convert 93 9 (.slice (some ⟨W.heap.size, 0, none⟩) 1 1)).run Tryd.prog (W.alloc (.cells #[.int .u8 (c.toNat : Int)] 5)) = .ok (.string ⟨#[c]⟩) (W.alloc (.cells #[.int .u8 (c.toNat : Int)] 5)) := by
  have h : OwnB (W.alloc (.cells #[.int .u8 (c.toNat : Int)] 5)) W.heap.size 5 (.slice (some ⟨W.heap.size, 0, none⟩) 1 1) [c] :=
    World.ownsRow_lit W #[.int .u8 (c.toNat : Int)] 1 (Nat.le_refl _) (by decide) rfl
  exact run_str_own h Tryd.underlying93 Tryd.underlying5 Tryd.underlying9

set_option maxHeartbeats 8000000 in
set_option maxRecDepth 20000 in
theorem one_any (b : Nat) (s : ByteArray) (c : UInt8) (t : List UInt8) (te : TypeId) (pe : Value) (w : World) (hs : s.size ≤ 100000) (h : RdrL w b s (c :: t)) (hb0 : 6 < b) (hev : w.cell? ⟨6, 0, none⟩ = some (.iface te pe)) :
    Calls Tryd.prog 24 #[.pointer (some ⟨b, 0, none⟩)] w (OnePost b s (c :: t) w) := by
  have hbw := h.lt
  obtain ⟨R, hR⟩ : ∃ R, R = w.heap.size := ⟨_, rfl⟩
  have hA := ba (Below.refl w.heap.size w) (.cells #[.int .i64 0, .string ⟨#[]⟩, .int .i64 0] 35)
  have hH0 : Has (w.alloc (.cells #[.int .i64 0, .string ⟨#[]⟩, .int .i64 0] 35)) w.heap.size [.int .i64 0, .string ⟨#[]⟩, .int .i64 0] := Has.alloc w _ _
  rw [← hR] at hH0
  have hrd0 := h.below hA
  have hg0 : w.grownBy (w.alloc (.cells #[.int .i64 0, .string ⟨#[]⟩, .int .i64 0] 35)) (some b) := Go.Lib.grownBy_below (World.grownBy.refl _ _) hA
  have hev0 := moved hev hA (Nat.le_refl _)
  have hR1 : b < R := by omega
  have hR2 : w.heap.size ≤ R := by omega
  obtain ⟨W0, hW0⟩ : ∃ W0, W0 = w.alloc (.cells #[.int .i64 0, .string ⟨#[]⟩, .int .i64 0] 35) := ⟨_, rfl⟩
  rw [← hW0] at hH0 hrd0 hg0 hev0
  have HW0 := Lib.hid hW0.symm; have HR := Lib.hid hR.symm
  obtain ⟨n, hre, hrr⟩ := hrd0
  have HRE := Lib.hid hre
  have HN := Lib.hid (fun (w' : World) (h' : Rdr w' b s n) => next_any b n s (c :: t) w' hs hre h')
  have HRR := Lib.hid hrr; have HH0 := Lib.hid hH0; have HG0 := Lib.hid hg0; have HEV0 := Lib.hid hev0
  clear hW0 hA hH0 hg0 hev0 hev hre hrr h hR
  have HNX : Hid (nextL (c :: t) = c) := rfl
  go_enter Tryd.func24, Tryd.ntmps24
  go_wp2_with fail
  rw [HW0.out, HR.out]
  clear HW0 HR
  refine (HN.out _ HRR.out).mono ?_
  rw [HNX.out]
  rintro e w1 ⟨rfl, hkk⟩
  have hb1 : Below W0.heap.size W0 w1 := by obtain ⟨k, rfl⟩ := hkk; exact below_drewN _ _
  have HRR1 := Lib.hid (HRR.out.below hb1); have HH1 := Lib.hid (HH0.out.down hb1); have HG1 := Lib.hid (Go.Lib.grownBy_below HG0.out hb1); have HEV1 := Lib.hid (moved HEV0.out hb1 (Nat.le_refl _))
  have HRL1 : Hid (RdrL w1 b s (c :: t)) := ⟨n, HRE.out, HRR1.out⟩
  clear hkk hb1 HN HRR HH0 HG0 HEV0
  cases hl : isLet c with
  | true =>
    have HL := Lib.hid (fun w => hl ▸ letter_any c w)
    have HW := Lib.hid (word_at b s (c :: t) w1 hs HRL1.out)
    have HFIN := Lib.hid (one_word t hl)
    clear hl
    go_wp2_with fail
    refine (HL.out _).mono ?_
    rintro e w2 ⟨rfl, rfl⟩
    go_wp2_with fail
    refine HW.out.mono ?_
    rintro e w2 ⟨rfl, hrd2, hg2⟩
    have hh2 := HH1.out.kept hg2 (fun e => by have := Option.some.inj e; omega)
    have HG2 := Lib.hid (Go.Lib.grownBy_trans HG1.out hg2)
    have HRD2 := Lib.hid hrd2; have HH2 := Lib.hid hh2
    clear hg2 hrd2 HW HL
    obtain ⟨⟨c0, c1, c2⟩, ⟨f0, f1, f2⟩⟩ := has_tri hh2
    clear hh2
    go_wp2_with fail
    obtain ⟨z1, z2, z3⟩ := w3_facts (b := b) (s := s) (r := (c :: t).dropWhile isWd) HH2.out hR1 hR2 HG2.out (.int .i64 1) (.string ⟨((c :: t).takeWhile isWd).toArray⟩) (.int .i64 0)
    exact one_end rfl rfl rfl z1 (OnePost.ok HFIN.out (z2 HRD2.out) z3)
  | false =>
    have HL := Lib.hid (fun w => hl ▸ letter_any c w)
    by_cases h58 : c = 58
    · have q58 : ((c.toNat : Int) == 58) = true := by rw [h58]; rfl
      obtain ⟨hlt, -, hre1⟩ := HRE.out.cons
      have HRE1 := Lib.hid hre1
      have hrr2 := HRR1.out.step
      have hg2 := Go.Lib.grownBy_setB HG1.out 1 (.int .i64 ((n : Int) + 1))
      have hh2 := HH1.out.else' (show R ≠ b by omega) (i := 1) (.int .i64 ((n : Int) + 1))
      obtain ⟨x0, x1, g1, hbw1⟩ := HRR1.out
      have HC := Lib.hid h58
      clear hl h58 hre1
      go_wp2_with fail
      refine (HL.out _).mono ?_
      rintro e w2 ⟨rfl, rfl⟩
      go_upto_region 6 with fail
      clear x0 x1 g1 hbw1 q58
      obtain ⟨W2, hW2⟩ : ∃ W2, W2 = w1.setCell ⟨b, 1, none⟩ (.int .i64 ((n : Int) + 1)) := ⟨_, rfl⟩
      rw [← hW2] at hrr2 hg2 hh2 ⊢
      have HRR2 := Lib.hid hrr2; have HG2 := Lib.hid hg2; have HH2 := Lib.hid hh2
      have HN2 := Lib.hid (next_any b (n + 1) s t W2 hs HRE1.out HRR2.out)
      clear hW2 hrr2 hg2 hh2 HL
      go_wp2_with fail
      refine HN2.out.mono ?_
      rintro e w3' ⟨rfl, hkk⟩
      have hb3 : Below W2.heap.size W2 w3' := by obtain ⟨k, rfl⟩ := hkk; exact below_drewN _ _
      have HRL3 : Hid (RdrL w3' b s t) := ⟨n + 1, HRE1.out, HRR2.out.below hb3⟩
      have HH3 := Lib.hid (HH2.out.down hb3); have HG3 := Lib.hid (Go.Lib.grownBy_below HG2.out hb3)
      clear hkk hb3 HN2 HRR2 HG2 HH2
      cases hl2 : isLet (nextL t) with
      | true =>
        have HL2 := Lib.hid (fun w => hl2 ▸ letter_any (nextL t) w)
        have HW := Lib.hid (word_at b s t w3' hs HRL3.out)
        have HFIN : Hid (oneL (c :: t) = .ok (⟨2, t.takeWhile isWd, 0⟩, t.dropWhile isWd)) := by unfold Hid; rw [HC.out]; exact one_tag t (by rw [hd_let, hl2])
        clear hl2
        go_wp2_with fail
        refine (HL2.out _).mono ?_
        rintro e w4 ⟨rfl, rfl⟩
        go_wp2_with fail
        refine HW.out.mono ?_
        rintro e w4 ⟨rfl, hrd4, hg4⟩
        have HH4 := Lib.hid (HH3.out.kept hg4 (fun e => by have := Option.some.inj e; omega))
        have HG4 := Lib.hid (Go.Lib.grownBy_trans HG3.out hg4)
        have HRD4 := Lib.hid hrd4
        clear hg4 hrd4 HW HL2
        obtain ⟨⟨c0, c1, c2⟩, ⟨f0, f1, f2⟩⟩ := has_tri HH4.out
        go_wp2_with fail
        obtain ⟨z1, z2, z3⟩ := w3_facts (b := b) (s := s) (r := t.dropWhile isWd) HH4.out hR1 hR2 HG4.out (.int .i64 2) (.string ⟨(t.takeWhile isWd).toArray⟩) (.int .i64 0)
        exact one_end rfl rfl rfl z1 (OnePost.ok HFIN.out (z2 HRD4.out) z3)
      | false =>
        have HL2 := Lib.hid (fun w => hl2 ▸ letter_any (nextL t) w)
        have HFIN : Hid (oneL (c :: t) = .error 3) := by unfold Hid; rw [HC.out]; exact one_tag_bad t (by rw [hd_let, hl2])
        clear hl2
        obtain ⟨⟨c0, c1, c2⟩, ⟨f0, f1, f2⟩⟩ := has_tri HH3.out
        go_wp2_with fail
        refine (HL2.out _).mono ?_
        rintro e w4 ⟨rfl, rfl⟩
        go_wp2_with fail
        obtain ⟨z1, z2, z3⟩ := w3_facts (b := b) (s := s) (r := []) HH3.out hR1 hR2 HG3.out (.int .i64 0) (.string ⟨#[]⟩) (.int .i64 0)
        exact one_end rfl rfl rfl z1 (OnePost.err HFIN.out z3)
    · have q58 : ((c.toNat : Int) == 58) = false := u8_ne h58
      cases hd : isDig c with
      | true =>
        have HD := Lib.hid (fun w => hd ▸ digit_any c w)
        have HNU := Lib.hid (number_any b s c t te pe w1 hs HRL1.out hd hb0 HEV1.out)
        have HONE := Lib.hid (one_num t hd)
        clear hl hd
        go_wp2_with fail
        refine (HL.out _).mono ?_
        rintro e w2 ⟨rfl, rfl⟩
        go_wp2_with fail
        refine (HD.out _).mono ?_
        rintro e w2 ⟨rfl, rfl⟩
        go_wp2_with fail
        refine HNU.out.mono ?_
        intro e w3' hp
        unfold NumPost at hp
        obtain ⟨hp, hg3⟩ := hp
        have HH3 := Lib.hid (HH1.out.kept hg3 (fun e => by have := Option.some.inj e; omega))
        have HG3 := Lib.hid (Go.Lib.grownBy_trans HG1.out hg3)
        clear hg3 HNU
        cases hn : numL (c :: t) with
        | error z =>
          rw [hn] at hp
          obtain rfl := hp
          have hz : z = 3 ∨ z = 6 := num_err hn
          have HFIN : Hid (oneL (c :: t) = .error z) := by unfold Hid; rw [HONE.out, hn]
          clear hn HONE
          obtain ⟨⟨c0, c1, c2⟩, ⟨f0, f1, f2⟩⟩ := has_tri HH3.out
          rcases hz with rfl | rfl
          all_goals
            go_wp2_with fail
            obtain ⟨z1, z2, z3⟩ := w3_facts (b := b) (s := s) (r := []) HH3.out hR1 hR2 HG3.out (.int .i64 0) (.string ⟨#[]⟩) (.int .i64 0)
            exact one_end rfl rfl rfl z1 (OnePost.err HFIN.out z3)
        | ok p =>
          rw [hn] at hp
          obtain ⟨rfl, hrd3⟩ := hp
          obtain ⟨⟨k, x, v⟩, r⟩ := p
          obtain ⟨rfl, rfl⟩ := num_form hn
          have HFIN : Hid (oneL (c :: t) = .ok (⟨3, [], v⟩, r)) := by unfold Hid; rw [HONE.out, hn]
          have HRD3 : Hid (RdrL w3' b s r) := hrd3
          clear hn HONE hrd3
          obtain ⟨⟨c0, c1, c2⟩, ⟨f0, f1, f2⟩⟩ := has_tri HH3.out
          go_wp2_with fail
          obtain ⟨z1, z2, z3⟩ := w3_facts (b := b) (s := s) (r := r) HH3.out hR1 hR2 HG3.out (.int .i64 3) (.string ⟨#[]⟩) (.int .i64 v)
          exact one_end rfl rfl rfl z1 (OnePost.ok HFIN.out (z2 HRD3.out) z3)
      | false =>
        have HD := Lib.hid (fun w => hd ▸ digit_any c w)
        by_cases h34 : c = 34
        · have q34 : ((c.toNat : Int) == 34) = true := by rw [h34]; rfl
          have HT := Lib.hid (text_any b s c t w1 hs HRL1.out)
          have HC := Lib.hid h34
          clear hl hd h34
          go_wp2_with fail
          refine (HL.out _).mono ?_
          rintro e w2 ⟨rfl, rfl⟩
          go_wp2_with fail
          refine (HD.out _).mono ?_
          rintro e w2 ⟨rfl, rfl⟩
          go_wp2_with fail
          refine HT.out.mono ?_
          intro e w3' hp
          unfold TextPost at hp
          obtain ⟨hp, hg3⟩ := hp
          have HH3 := Lib.hid (HH1.out.kept hg3 (fun e => by have := Option.some.inj e; omega))
          have HG3 := Lib.hid (Go.Lib.grownBy_trans HG1.out hg3)
          clear hg3 HT
          cases hn : textL t with
          | none =>
            rw [hn] at hp
            obtain rfl := hp
            have HFIN : Hid (oneL (c :: t) = .error 4) := by unfold Hid; rw [HC.out]; exact one_open hn
            clear hn
            obtain ⟨⟨c0, c1, c2⟩, ⟨f0, f1, f2⟩⟩ := has_tri HH3.out
            go_wp2_with fail
            obtain ⟨z1, z2, z3⟩ := w3_facts (b := b) (s := s) (r := []) HH3.out hR1 hR2 HG3.out (.int .i64 0) (.string ⟨#[]⟩) (.int .i64 0)
            exact one_end rfl rfl rfl z1 (OnePost.err HFIN.out z3)
          | some p =>
            rw [hn] at hp
            obtain ⟨rfl, hrd3⟩ := hp
            obtain ⟨x, r⟩ := p
            have HFIN : Hid (oneL (c :: t) = .ok (⟨4, x, 0⟩, r)) := by unfold Hid; rw [HC.out]; exact one_str hn
            have HRD3 : Hid (RdrL w3' b s r) := hrd3
            clear hn hrd3
            obtain ⟨⟨c0, c1, c2⟩, ⟨f0, f1, f2⟩⟩ := has_tri HH3.out
            go_wp2_with fail
            obtain ⟨z1, z2, z3⟩ := w3_facts (b := b) (s := s) (r := r) HH3.out hR1 hR2 HG3.out (.int .i64 4) (.string ⟨x.toArray⟩) (.int .i64 0)
            exact one_end rfl rfl rfl z1 (OnePost.ok HFIN.out (z2 HRD3.out) z3)
        · have q34 : ((c.toNat : Int) == 34) = false := u8_ne h34
          have HIB : Hid (∀ w, Calls Tryd.prog 48 #[.string ⟨#[123, 125, 40, 41, 91, 93, 59, 44]⟩, .int .u8 (c.toNat : Int)] w fun e w' => e = .returned (.int .i64 (Go.Lib.indexByte [123, 125, 40, 41, 91, 93, 59, 44] c)) ∧ w = w') := by
            intro w
            have hx := Tryd.strings_IndexByte ⟨#[123, 125, 40, 41, 91, 93, 59, 44]⟩ (c.toNat : Int) w
            have e1 : ((c.toNat : Int).toNat.toUInt8) = c := by rw [Int.toNat_natCast]; exact UInt8.ofNat_toNat
            rw [e1] at hx
            exact hx.mono fun _ _ ⟨x, y⟩ => ⟨x, y.symm⟩
          have him := ib_marks c
          obtain ⟨ib, hib⟩ : ∃ ib, ib = Go.Lib.indexByte [123, 125, 40, 41, 91, 93, 59, 44] c := ⟨_, rfl⟩
          rw [← hib] at HIB him
          clear hib
          by_cases hm : c ∈ marks
          · rw [decide_eq_true hm] at him
            have HFIN : Hid (oneL (c :: t) = .ok (⟨5, [c], 0⟩, t)) := one_mark t hm
            obtain ⟨hlt, -, hre1⟩ := HRE.out.cons
            have HRE1 := Lib.hid hre1
            have hrr2 := HRR1.out.step
            have hg2 := Go.Lib.grownBy_setB HG1.out 1 (.int .i64 ((n : Int) + 1))
            have hh2 := HH1.out.else' (show R ≠ b by omega) (i := 1) (.int .i64 ((n : Int) + 1))
            obtain ⟨x0, x1, g1, hbw1⟩ := HRR1.out
            clear hl hd h34 h58 hm hre1
            go_wp2_with fail
            refine (HL.out _).mono ?_
            rintro e w2 ⟨rfl, rfl⟩
            go_wp2_with fail
            refine (HD.out _).mono ?_
            rintro e w2 ⟨rfl, rfl⟩
            go_wp2_with fail
            refine (HIB.out _).mono ?_
            rintro e w2 ⟨rfl, rfl⟩
            go_upto_region 21 with fail
            clear x0 x1 g1 hbw1
            obtain ⟨W2, hW2⟩ : ∃ W2, W2 = w1.setCell ⟨b, 1, none⟩ (.int .i64 ((n : Int) + 1)) := ⟨_, rfl⟩
            rw [← hW2] at hrr2 hg2 hh2 ⊢
            have hA3 := ba (Below.refl W2.heap.size W2) (.cells #[.int .u8 (c.toNat : Int)] 5)
            have hcv := byte_str W2 c
            have HRL3 : Hid (RdrL (W2.alloc (.cells #[.int .u8 (c.toNat : Int)] 5)) b s t) := ⟨n + 1, HRE1.out, hrr2.below hA3⟩
            have HH3 := Lib.hid (hh2.down hA3); have HG3 := Lib.hid (Go.Lib.grownBy_below hg2 hA3)
            clear hW2 hrr2 hg2 hh2 hA3
            obtain ⟨⟨c0, c1, c2⟩, ⟨f0, f1, f2⟩⟩ := has_tri HH3.out
            go_wp2_with fail
            obtain ⟨z1, z2, z3⟩ := w3_facts (b := b) (s := s) (r := t) HH3.out hR1 hR2 HG3.out (.int .i64 5) (.string ⟨#[c]⟩) (.int .i64 0)
            exact one_end rfl rfl rfl z1 (OnePost.ok HFIN.out (z2 HRL3.out) z3)
          · rw [decide_eq_false hm] at him
            have HFIN : Hid (oneL (c :: t) = .error 3) := one_bad t hl h58 hd h34 hm
            clear hl hd h34 h58 hm
            obtain ⟨⟨c0, c1, c2⟩, ⟨f0, f1, f2⟩⟩ := has_tri HH1.out
            go_wp2_with fail
            refine (HL.out _).mono ?_
            rintro e w2 ⟨rfl, rfl⟩
            go_wp2_with fail
            refine (HD.out _).mono ?_
            rintro e w2 ⟨rfl, rfl⟩
            go_wp2_with fail
            refine (HIB.out _).mono ?_
            rintro e w2 ⟨rfl, rfl⟩
            go_wp2_with fail
            obtain ⟨z1, z2, z3⟩ := w3_facts (b := b) (s := s) (r := []) HH1.out hR1 hR2 HG1.out (.int .i64 0) (.string ⟨#[]⟩) (.int .i64 0)
            exact one_end rfl rfl rfl z1 (OnePost.err HFIN.out z3)
end Go.Proofs.YtlgbmnmoobpkkaaDoor.Tk
namespace Go.Proofs.YtlgbmnmoobpkkaaDoor.Tk
open Go.RowKit

theorem infoTok : (Tryd.prog.info? 35).map (fun i => (i.zero, i.size, i.bytes)) = some (some (.agg #[.int .i64 0, .string ⟨#[]⟩, .int .i64 0]), 3, 32) := by kernel_rfl
def tokC (t : Tok) : List Value := [.int .i64 t.kind, .string ⟨t.text.toArray⟩, .int .i64 t.num]
def cTok : Cod Tok := Cod.flat 3 tokC (fun _ => rfl)
/-- what Cut answers -/
def CutPost (r : List Tok × Nat × Int) (w : World) (e : Ending) (w' : World) : Prop :=
  (∃ v, e = .returned (.tuple #[v, .int .i64 r.2.1, .int .i64 r.2.2]) ∧ SAt cTok w' (fun b => w.heap.size ≤ b) v r.1) ∧ Below w.heap.size w w'
theorem CutPost.none' {k : Nat} {z : Int} {r : List Tok × Nat × Int} {w w' : World} (h : r = ([], k, z)) (hb : Below w.heap.size w w') : CutPost r w (.returned (.tuple #[.slice none 0 0, .int .i64 k, .int .i64 z])) w' := by
  subst h; exact ⟨⟨_, rfl, SAt.nil _ _ _⟩, hb⟩
theorem one_err {l : List UInt8} {z : Int} (h : oneL l = .error z) : z = 3 ∨ z = 4 ∨ z = 6 := by
  unfold oneL at h
  split at h
  · injection h with h; exact .inl h.symm
  · split at h
    · cases h
    · split at h
      · split at h
        · cases h
        · injection h with h; exact .inl h.symm
      · split at h
        · rcases num_err h with h | h
          · exact .inl h
          · exact .inr (.inr h)
        · split at h
          · split at h
            · injection h with h; exact .inr (.inl h.symm)
            · cases h
          · split at h
            · cases h
            · injection h with h; exact .inl h.symm
theorem bgr {B : Nat} {w wr w1 : World} {b : Nat} (hb : Below B w wr) (g : wr.grownBy w1 (some b)) (hB : B ≤ wr.heap.size) (hR : B ≤ b) : Below B w w1 :=
  ⟨g.os.trans hb.os, g.tape.trans hb.tape, g.output.trans hb.output, Nat.le_trans hb.size g.size, fun k hk => (g.block k (Nat.lt_of_lt_of_le hk hB) (by intro e; have := Option.some.inj e; omega)).trans (hb.block k hk)⟩
theorem news_tok (w : World) (o : Obj) (a0 a1 a2 : Value) (t : TypeId) : ∀ j u, ([a0, a1, a2] : List Value)[j]? = some u → ((w.alloc o).alloc (.cells #[a0, a1, a2] t)).cell? (Addr.add ⟨w.heap.size + 1, 0, none⟩ j) = some u := by
  intro j u h
  rw [show Addr.add ⟨w.heap.size + 1, 0, none⟩ j = ⟨w.heap.size + 1, j, none⟩ from by rw [Addr.add_lit, Nat.zero_add]]
  have := (Has.alloc (w.alloc o) [a0, a1, a2] t).1 j u h
  rwa [World.size_alloc] at this
theorem rdr_grown {w w' : World} {b : Nat} {s : ByteArray} {l : List UInt8} {o : Option Nat} (h : RdrL w b s l) (g : w.grownBy w' o) (hb : o = none ∨ o ≠ some b) : RdrL w' b s l := by
  obtain ⟨n, h1, h2, h3, h4, h5⟩ := h
  have hk := g.block b h5 (by rcases hb with rfl | hb; (exact fun e => nomatch e); (exact fun e => hb e.symm))
  exact ⟨n, h1, (World.cell?_of_block (w := w) (a := ⟨b, 0, none⟩) hk).trans h2, (World.cell?_of_block (w := w) (a := ⟨b, 1, none⟩) hk).trans h3, (World.frozen?_of_block (w := w) (a := ⟨b, 1, none⟩) hk).trans h4, Nat.lt_of_lt_of_le h5 g.size⟩
theorem toks_snoc (acc : List Tok) (t : Tok) : (acc ++ [t]).flatMap tokC = acc.flatMap tokC ++ tokC t := by simp
theorem toks_len : ∀ acc : List Tok, (acc.flatMap tokC).length = acc.length * 3
  | [] => rfl
  | t :: l => by have := toks_len l; simp only [List.flatMap_cons, List.length_append, this, tokC, List.length_cons, List.length_nil]; omega
theorem RdrL.at {w : World} {b : Nat} {s : ByteArray} {l : List UInt8} (h : RdrL w b s l) : Rdr w b s (s.size - l.length) ∧ l.length ≤ s.size := by
  obtain ⟨n, h1, h2⟩ := h
  have := h1.1
  rw [show s.size - l.length = n by omega]
  exact ⟨h2, by omega⟩

set_option maxHeartbeats 8000000 in
set_option maxRecDepth 20000 in
theorem cut_any (s : ByteArray) (m : Int) (te : TypeId) (pe : Value) (w : World) (hs : s.size ≤ 100000) (hm : w.cell? ⟨4, 0, none⟩ = some (.int .i64 m)) (hev : w.cell? ⟨6, 0, none⟩ = some (.iface te pe)) :
    Calls Tryd.prog 12 #[.string s] w (CutPost (cutL s.data.toList) w) := by
  have hsl : s.data.toList.length = s.size := by simp
  by_cases hbig : 2000 < s.size
  · have HFIN : Hid (cutL s.data.toList = ([], 0, 1)) := by unfold Hid cutL; rw [if_pos (by omega)]
    clear hsl
    go_enter Tryd.func12, Tryd.ntmps12
    go_wp2_with fail
    go_ret3
    exact CutPost.none' (k := 0) HFIN.out (Below.refl _ _)
  · have hs2 : s.size ≤ 2000 := by omega
    have h0 : cutL s.data.toList = cutEnd s.data.toList [] (cutR ([] : List Tok).length s.data.toList) := cutL_eq (by omega)
    obtain ⟨B, hB⟩ : ∃ B, B = w.heap.size := ⟨_, rfl⟩
    have hA := ba (Below.refl w.heap.size w) (.cells #[.string s, .int .i64 0] 68)
    have hpb : Has (w.alloc (.cells #[.string s, .int .i64 0] 68)) w.heap.size [.string s, .int .i64 0] := Has.alloc w _ _
    rw [← hB] at hpb
    have hmb : 4 < B := by rw [hB]; exact World.block_lt_of_cell? _ _ hm
    have heb : 6 < B := by rw [hB]; exact World.block_lt_of_cell? _ _ hev
    have hrd0 : RdrL (w.alloc (.cells #[.string s, .int .i64 0] 68)) B s s.data.toList := ⟨0, Rest.start s, hpb.two.1, hpb.two.2.1, hpb.two.2.2.2, hpb.2.2⟩
    have HM := Lib.hid hm; have HE := Lib.hid hev
    obtain ⟨W0, hW0⟩ : ∃ W0, W0 = w.alloc (.cells #[.string s, .int .i64 0] 68) := ⟨_, rfl⟩
    have hW0s : W0.heap.size = B + 1 := by rw [hW0, hB]; simp
    rw [← hW0] at hA hrd0
    have HA := Lib.hid hA; have HR0 := Lib.hid hrd0; have HB := Lib.hid hB.symm; have HW0 := Lib.hid hW0.symm; have H0 := Lib.hid h0; have HSL := Lib.hid hsl
    have hwB : w.heap.size ≤ B := by omega
    have hW0b : B + 1 ≤ W0.heap.size := by omega
    obtain ⟨i0, hi, hz0, hz1, hz2⟩ := info_parts infoTok
    have HI := Lib.hid hi; have HZ0 := Lib.hid hz0; have HZ1 := Lib.hid hz1; have HZ2 := Lib.hid hz2
    clear hi hz0 hz1 hz2 hA hpb hrd0 hm hev hW0 h0 hsl hB hbig hW0s
    go_enter Tryd.func12, Tryd.ntmps12
    go_wp2_with fail
    rw [HW0.out, HB.out]
    go_loopw [5] (fun v wr => ∃ (acc : List Tok) (rest : List UInt8), RdrL wr B s rest ∧ wr.ownsRow (B + 1) 35 3 v acc.length (acc.flatMap tokC) ∧ Hid (cutL s.data.toList = cutEnd s.data.toList acc (cutR acc.length rest)) ∧ acc.length ≤ 400 ∧ Below w.heap.size w wr ∧ B + 1 ≤ wr.heap.size) (fun _ wr => s.size - posAt wr B)
    case atStart => exact ⟨[], s.data.toList, HR0.out, World.ownsRow_nil _ _ _ _, H0.out, Nat.zero_le _, HA.out, hW0b⟩
    case round =>
      obtain ⟨acc, rest, hrd, hown, heq, hal, hbel, hsz⟩ := hrel
      have hmeas := Lib.hid hrd.len
      have hmr := moved HM.out hbel (Nat.le_refl _); have hevr := moved HE.out hbel (Nat.le_refl _)
      have HS := Lib.hid (skip_any B s rest m wr hs hrd hmb hmr)
      have HOWN := Lib.hid hown; have HBEL := Lib.hid hbel; have HEV := Lib.hid hevr
      have hwsz : w.heap.size ≤ wr.heap.size := hbel.size
      clear hrd hown hbel hmr hevr
      go_wp2_with fail
      refine HS.out.mono ?_
      rintro e w1 ⟨rfl, hrd1, hg1⟩
      have HOWN1 := Lib.hid (World.ownsRow.kept HOWN.out hg1 (row_ne HOWN.out (by omega)))
      have HBEL1 := Lib.hid (bgr HBEL.out hg1 hwsz hwB)
      have HEV1 := Lib.hid (cell_else' hg1 HEV.out heb)
      have hsz1 : B + 1 ≤ w1.heap.size := Nat.le_trans hsz hg1.size
      have HRD1 := Lib.hid hrd1
      obtain ⟨hat1, hle1⟩ := hrd1.at
      have HAT1 := Lib.hid hat1
      have hsk := skipL_le rest
      clear hg1 hrd1 hat1 HS HOWN HBEL HEV
      obtain ⟨r, hr⟩ : ∃ r, r = (skipL rest).2 := ⟨_, rfl⟩
      rw [← hr] at HRD1 HAT1 hle1 hsk
      obtain ⟨n, hn⟩ : ∃ n, n = s.size - r.length := ⟨_, rfl⟩
      rw [← hn] at HAT1
      have hnb : n + r.length = s.size := by omega
      have HN := Lib.hid hn; have HRR := Lib.hid hr
      obtain ⟨c0, c1, f1, hbw⟩ := HAT1.out
      clear hn hr
      cases hk : (skipL rest).1 with
      | false =>
        have HFIN : Hid (cutL s.data.toList = ([], n, 4)) := by
          unfold Hid
          rw [heq.out, cutR_torn hk, cutEnd_err, HSL.out, HN.out, HRR.out]
        clear hk heq
        go_wp2_with fail
        go_quiet (fail)
        go_wp2_with fail
        go_ret3
        exact CutPost.none' HFIN.out (bt HBEL1.out (below_drewN _ _))
      | true =>
        by_cases hnil : r = []
        · have HFIN : Hid (cutL s.data.toList = (acc, 0, 0)) := by
            unfold Hid
            rw [heq.out, cutR_end hk (by rw [← HRR.out]; exact hnil), cutEnd_ok, List.append_nil]
          have q : ((n : Int) == (s.size : Int)) = true := by
            have : r.length = 0 := by rw [hnil]; rfl
            exact beq_iff_eq.2 (by omega)
          clear hk heq hnil
          go_wp2_with fail
          go_ret3
          unfold CutPost
          rw [HFIN.out]
          exact ⟨⟨_, rfl, SAt.of_row (f := tokC) (hf := fun _ => rfl) HOWN1.out (fun b hb => by show w.heap.size ≤ b; omega)⟩, HBEL1.out⟩
        · have hrl : 0 < r.length := List.length_pos_iff.2 hnil
          have q : ((n : Int) == (s.size : Int)) = false := beq_eq_false_iff_ne.2 (by omega)
          by_cases h400 : acc.length = 400
          · have HFIN : Hid (cutL s.data.toList = ([], n, 5)) := by
              unfold Hid
              rw [heq.out, h400, cutR_full hk (by rw [← HRR.out]; exact hnil), cutEnd_err, HSL.out, HN.out, HRR.out]
            have HL : Hid (acc.length = 400) := h400
            obtain ⟨Gv, cv, hv⟩ : ∃ Gv cv, u5 = .slice Gv acc.length cv := by
              obtain ⟨g, cap, e, -⟩ := World.ownsRow.form HOWN1.out (by omega)
              exact ⟨_, _, e⟩
            subst hv
            have q4 : ((acc.length : Int) == 400) = true := beq_iff_eq.2 (by omega)
            clear hk heq hnil h400
            go_wp2_with fail
            go_ret3
            exact CutPost.none' HFIN.out HBEL1.out
          · obtain ⟨Gv, cv, hv⟩ : ∃ Gv cv, u5 = .slice Gv acc.length cv := by
              rcases HOWN1.out.2 with ⟨h1, h2⟩ | ⟨g, cap, _, h1, _⟩
              · exact ⟨none, 0, by rw [h1, h2]⟩
              · exact ⟨_, _, h1⟩
            subst hv
            have q4 : ((acc.length : Int) == 400) = false := beq_eq_false_iff_ne.2 (by omega)
            have hal4 : acc.length < 400 := by omega
            have HNE : Hid ((skipL rest).2 ≠ []) := by unfold Hid; rw [← HRR.out]; exact hnil
            have HK := Lib.hid hk
            cases r with
            | nil => exact absurd rfl hnil
            | cons c t =>
              have HON := Lib.hid (one_any B s c t te pe w1 hs HRD1.out heb HEV1.out)
              clear hk hnil
              go_wp2_with fail
              refine HON.out.mono ?_
              intro e w5 hp
              unfold OnePost at hp
              obtain ⟨hp, hg5⟩ := hp
              have HBEL5 := Lib.hid (bgr HBEL1.out hg5 HBEL1.out.size hwB)
              have HOWN5 := Lib.hid (World.ownsRow.kept HOWN1.out hg5 (row_ne HOWN1.out (by omega)))
              have hsz5 : B + 1 ≤ w5.heap.size := Nat.le_trans hsz1 hg5.size
              clear hg5 HON c0 c1 f1 hbw
              cases ho : oneL (c :: t) with
              | error z =>
                rw [ho] at hp
                obtain rfl := hp
                have hz := one_err ho
                have HFIN : Hid (cutL s.data.toList = ([], n, z)) := by
                  unfold Hid
                  rw [heq.out, cutR_bad HK.out HNE.out (by omega) (by rw [← HRR.out]; exact ho), cutEnd_err, HSL.out, HN.out, HRR.out]
                clear ho heq
                rcases hz with rfl | rfl | rfl
                all_goals
                  go_wp2_with fail
                  go_ret3
                  exact CutPost.none' HFIN.out (ba HBEL5.out _)
              | ok p =>
                rw [ho] at hp
                obtain ⟨rfl, hrd5⟩ := hp
                obtain ⟨⟨k, x, v⟩, r'⟩ := p
                have HRD5 : Hid (RdrL w5 B s r') := hrd5
                have hlt5 := oneL_lt ho
                have HEQ : Hid (cutL s.data.toList = cutEnd s.data.toList (acc ++ [⟨k, x, v⟩]) (cutR (acc.length + 1) r')) := by
                  unfold Hid
                  rw [heq.out, cutR_one HK.out HNE.out (by omega) (by rw [← HRR.out]; exact ho), cutEnd_map]
                have HLT : Hid (r'.length < (c :: t).length) := hlt5
                have HTL := toks_len acc
                have HTS : Hid ((acc ++ [(⟨k, x, v⟩ : Tok)]).flatMap tokC = acc.flatMap tokC ++ [.int .i64 k, .string ⟨x.toArray⟩, .int .i64 v]) := toks_snoc acc _
                obtain ⟨L, hL⟩ : ∃ L, L = acc.flatMap tokC := ⟨_, rfl⟩
                rw [← hL] at HOWN5 HTL HTS
                clear ho heq hrd5 hL hlt5 HOWN1 HNE HK
                go_wp2_with (at_builtin; refine wpList_append_lies _ (by rfl) _ _ _ (by rfl) (B + 1) 35 i0 _ 3 32 Tryd.underlying25 HI.out HZ0.out HZ1.out HZ2.out rfl (by omega) (.slice Gv acc.length cv) acc.length L (by rfl) ((HOWN5.out.alloc _).alloc _) ⟨w5.heap.size + 1, 0, none⟩ 1 1 [.int .i64 k, .string ⟨x.toArray⟩, .int .i64 v] (by rfl) (by rfl) (news_tok w5 _ _ _ _ _) (by simp [Value.oneCell']) (by omega) (by unfold maxLen; omega) (by omega) (by simp; omega) (w5.heap.size + 2) (by simp) ?_)
                intro g cap w6 hown6 hgrow hat hlt6
                rw [← HTS.out] at hown6
                have hba := ba (ba (Below.refl w5.heap.size w5) (.cells #[.int .i64 k, .string ⟨x.toArray⟩, .int .i64 v] 35)) (.cells #[.int .i64 k, .string ⟨x.toArray⟩, .int .i64 v] 35)
                have hrow6 := HOWN5.out
                have hb6 : Below w.heap.size w w6 := below_row (bt HBEL5.out hba) (Nat.le_refl _) (row_down hrow6 hba) (by omega) hgrow
                have hrd6 : RdrL w6 B s r' := rdr_grown (HRD5.out.below hba) hgrow (row_ne (row_down hrow6 hba) (by omega))
                have HRD6 := Lib.hid hrd6; have HB6 := Lib.hid hb6; have HOWN6 := Lib.hid hown6
                have hsz6 : B + 1 ≤ w6.heap.size := Nat.le_trans (Nat.le_trans hsz5 hba.size) hgrow.size
                clear hown6 hgrow hat hlt6 hba hrow6 hb6 hrd6
                go_wp2_with fail
                go_roundw
                case rel => exact ⟨acc ++ [⟨k, x, v⟩], r', HRD6.out, by rw [List.length_append]; exact HOWN6.out, by rw [List.length_append]; exact HEQ.out, by rw [List.length_append, List.length_singleton]; omega, HB6.out, hsz6⟩
                case measure =>
                  have h1 := HRD6.out.len
                  have h2 := hmeas.out
                  have h3 := HLT.out
                  omega
end Go.Proofs.YtlgbmnmoobpkkaaDoor.Tk
