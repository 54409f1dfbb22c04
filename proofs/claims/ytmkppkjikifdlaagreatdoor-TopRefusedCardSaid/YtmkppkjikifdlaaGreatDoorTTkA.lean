/- On the way. -/
import Derived.Test.YtmkppkjikifdlaaGreatDoorTKtA
import Derived.Test.YtmkppkjikifdlaaGreatDoorTTokL
import Derived.Test.YtmkppkjikifdlaaGreatDoorTShelf
import Derived.Lib.BufferOwn
import Derived.Lib.HexFns2
import Derived.Deep.QuietTactic
import Derived.BigQuiet
import Derived.Handy
import Derived.IntWalk
import Derived.Deep.Cut
import Derived.Deep.RegionHeld3
import Derived.Deep.AppendLies
set_option linter.unusedVariables false
set_option linter.unusedSimpArgs false
set_option maxHeartbeats 8000000
set_option maxRecDepth 20000
namespace Go.Proofs.YtmkppkjikifdlaaGreatDoor.Tk
open Go.RowKit
def Rdr (w : World) (b : Nat) (s : ByteArray) (n : Nat) : Prop :=
 w.cell? ⟨b, 0, none⟩ = some (.string s) ∧ w.cell? ⟨b, 1, none⟩ = some (.int .i64 (n : Int)) ∧ w.frozen? ⟨b, 1, none⟩ = false ∧ b < w.heap.size
def Rest (s : ByteArray) (n : Nat) (l : List UInt8) : Prop := n + l.length = s.size ∧ s.data.toList.drop n = l
def RdrL (w : World) (b : Nat) (s : ByteArray) (l : List UInt8) : Prop := ∃ n, Rest s n l ∧ Rdr w b s n
theorem Rest.start (s : ByteArray) : Rest s 0 s.data.toList := ⟨by simp, rfl⟩
theorem Rest.nil {s : ByteArray} {n : Nat} (h : Rest s n []) : n = s.size := by have := h.1; simpa using this
theorem Rest.drop {s : ByteArray} {n : Nat} {l : List UInt8} (h : Rest s n l) (k : Nat) (hk : k ≤ l.length) : Rest s (n + k) (l.drop k) := by
 refine ⟨by have := h.1; rw [List.length_drop]; omega, ?_⟩
 rw [← h.2, List.drop_drop]
theorem Rest.cons {s : ByteArray} {n : Nat} {c : UInt8} {r : List UInt8} (h : Rest s n (c :: r)) : ∃ hlt : n < s.size, s[n] = c ∧ Rest s (n + 1) r := by
 have h1 := h.1
 simp only [List.length_cons] at h1
 have hlt : n < s.size := by omega
 have h2 := h.2
 have hl : n < s.data.toList.length := by simpa using hlt
 rw [List.drop_eq_getElem_cons hl] at h2
 obtain ⟨e1, e2⟩ := List.cons.inj h2
 exact ⟨hlt, e1, by omega, e2⟩
theorem Rest.le {s : ByteArray} {n : Nat} {l : List UInt8} (h : Rest s n l) : n ≤ s.size := by have := h.1; omega
theorem Rdr.set {w : World} {b n : Nat} {s : ByteArray} (h : Rdr w b s n) (n' : Nat) : Rdr (w.setCell ⟨b, 1, none⟩ (.int .i64 (n' : Int))) b s n' :=
 ⟨(World.cell?_setCell_other _ _ _ _ (by simp)).trans h.1, World.cell?_setCell_same _ _ _ h.2.1, (World.frozen?_setCell ..).trans h.2.2.1, by have := h.2.2.2; simpa [World.setCell] using this⟩
theorem Rdr.step {w : World} {b n : Nat} {s : ByteArray} (h : Rdr w b s n) : Rdr (w.setCell ⟨b, 1, none⟩ (.int .i64 ((n : Int) + 1))) b s (n + 1) := h.set (n + 1)
theorem Rdr.drew {w : World} {b n : Nat} {s : ByteArray} (h : Rdr w b s n) : Rdr w.drew b s n := ⟨h.1, h.2.1, h.2.2.1, h.2.2.2⟩
theorem Rdr.drewN {w : World} {b n : Nat} {s : ByteArray} (h : Rdr w b s n) (k : Nat) : Rdr (w.drewN k) b s n := ⟨h.1, h.2.1, h.2.2.1, h.2.2.2⟩
theorem Rdr.below {w w' : World} {b n : Nat} {s : ByteArray} (h : Rdr w b s n) (hb : Below w.heap.size w w') : Rdr w' b s n :=
 ⟨moved h.1 hb (Nat.le_refl _), moved h.2.1 hb (Nat.le_refl _), (hb.frozen (p := ⟨b, 1, none⟩) h.2.2.2).trans h.2.2.1, Nat.lt_of_lt_of_le h.2.2.2 hb.size⟩
theorem RdrL.below {w w' : World} {b : Nat} {s : ByteArray} {l : List UInt8} (h : RdrL w b s l) (hb : Below w.heap.size w w') : RdrL w' b s l := by
 obtain ⟨n, h1, h2⟩ := h; exact ⟨n, h1, h2.below hb⟩
theorem below_drewN (w : World) (k : Nat) : Below w.heap.size w (w.drewN k) := ⟨rfl, rfl, rfl, Nat.le_refl _, fun _ _ => rfl⟩
def posAt (w : World) (b : Nat) : Nat := match w.cell? ⟨b, 1, none⟩ with
 | some (.int _ n) => n.toNat
 | _ => 0
theorem Rdr.pos {w : World} {b n : Nat} {s : ByteArray} (h : Rdr w b s n) : posAt w b = n := by unfold posAt; rw [h.2.1]; rfl
def nextL : List UInt8 → UInt8
 | [] => 0
 | c :: _ => c
theorem u8_le (a c : UInt8) : decide (a ≤ c) = decide ((a.toNat : Int) ≤ (c.toNat : Int)) := by
 rw [decide_eq_decide, UInt8.le_iff_toNat_le]; omega
theorem u8_eq (c a : UInt8) : (c == a) = ((c.toNat : Int) == (a.toNat : Int)) := by
 rw [Bool.eq_iff_iff, beq_iff_eq, beq_iff_eq]
 constructor
 ·rintro rfl; rfl
 ·intro h; exact UInt8.toNat_inj.1 (by omega)
theorem letter_any (c : UInt8) (w : World) : Calls Tryz.prog 101 #[.int .u8 (c.toNat : Int)] w fun e w' => e = .returned (.bool (isLet c)) ∧ w = w' := by
 have H : Hid (isLet c = ((decide ((97 : Int) ≤ (c.toNat : Int)) && decide ((c.toNat : Int) ≤ 122)) || (decide ((65 : Int) ≤ (c.toNat : Int)) && decide ((c.toNat : Int) ≤ 90)) || ((c.toNat : Int) == 95))) := by
  unfold Hid isLet
  rw [u8_le, u8_le, u8_le, u8_le, u8_eq]
  rfl
 rw [H.out]
 have hb : (c.toNat : Int) < 256 := by have := c.toNat_lt; omega
 generalize (c.toNat : Int) = x at *
 clear H
 go_enter Tryz.func101, Tryz.ntmps101
 go_wp2
 all_goals
  go_ret
  refine ⟨congrArg (fun b => Ending.returned (Value.bool b)) ?_, rfl⟩
  refine Bool.eq_iff_iff.2 ?_
  first | omega | (simp <;> omega) | simp
theorem digit_any (c : UInt8) (w : World) : Calls Tryz.prog 103 #[.int .u8 (c.toNat : Int)] w fun e w' => e = .returned (.bool (isDig c)) ∧ w = w' := by
 have H : Hid (isDig c = (decide ((48 : Int) ≤ (c.toNat : Int)) && decide ((c.toNat : Int) ≤ 57))) := by
  unfold Hid isDig
  rw [u8_le, u8_le]
  rfl
 rw [H.out]
 have hb : (c.toNat : Int) < 256 := by have := c.toNat_lt; omega
 generalize (c.toNat : Int) = x at *
 clear H
 go_enter Tryz.func103, Tryz.ntmps103
 go_wp2
 all_goals
  go_ret
  refine ⟨congrArg (fun b => Ending.returned (Value.bool b)) ?_, rfl⟩
  refine Bool.eq_iff_iff.2 ?_
  first | omega | (simp <;> omega) | simp
theorem wordB_any (c : UInt8) (w : World) : Calls Tryz.prog 131 #[.int .u8 (c.toNat : Int)] w fun e w' => e = .returned (.bool (isWd c)) ∧ w = w' := by
 cases hl : isLet c with
 | true =>
  have H1 : Hid (∀ w, Calls Tryz.prog 101 #[.int .u8 (c.toNat : Int)] w fun e w' => e = .returned (.bool true) ∧ w = w') := fun w => hl ▸ letter_any c w
  have H : Hid (isWd c = true) := by unfold Hid isWd; rw [hl]; rfl
  clear hl
  go_enter Tryz.func131, Tryz.ntmps131
  go_wp2_with (go_at_call 101; refine (H1.out _).mono ?_; rintro e w' ⟨rfl, rfl⟩)
  go_ret
  exact ⟨by rw [H.out]; rfl, rfl⟩
 | false =>
  have H1 : Hid (∀ w, Calls Tryz.prog 101 #[.int .u8 (c.toNat : Int)] w fun e w' => e = .returned (.bool false) ∧ w = w') := fun w => hl ▸ letter_any c w
  have H2 := Lib.hid (digit_any c)
  have H : Hid (isWd c = isDig c) := by unfold Hid isWd; rw [hl]; rfl
  rw [H.out]
  clear hl H
  generalize isDig c = d at H2 ⊢
  go_enter Tryz.func131, Tryz.ntmps131
  go_wp2_with (first | (go_at_call 101; refine (H1.out _).mono ?_; rintro e w' ⟨rfl, rfl⟩) | (go_at_call 103; refine (H2.out _).mono ?_; rintro e w' ⟨rfl, rfl⟩))
  go_ret
  exact ⟨rfl, rfl⟩
theorem wsB_any (c : UInt8) (w : World) : Calls Tryz.prog 96 #[.int .u8 (c.toNat : Int)] w fun e w' => e = .returned (.bool (isWs c)) ∧ w = w' := by
 have H : Hid (isWs c = (((c.toNat : Int) == 32) || ((c.toNat : Int) == 9) || ((c.toNat : Int) == 13) || ((c.toNat : Int) == 10))) := by
  unfold Hid isWs
  rw [u8_eq, u8_eq, u8_eq, u8_eq]
  rfl
 rw [H.out]
 generalize (c.toNat : Int) = x at *
 clear H
 go_enter Tryz.func96, Tryz.ntmps96
 go_wp2
 all_goals
  go_ret
  refine ⟨congrArg (fun b => Ending.returned (Value.bool b)) ?_, rfl⟩
  refine Bool.eq_iff_iff.2 ?_
  first | omega | (simp <;> omega) | simp
theorem nlB_any (c : UInt8) (w : World) : Calls Tryz.prog 98 #[.int .u8 (c.toNat : Int)] w fun e w' => e = .returned (.bool (noNl c)) ∧ w = w' := by
 have H : Hid (noNl c = ((c.toNat : Int) != 10)) := by
  unfold Hid noNl
  rw [bne, u8_eq]
  rfl
 rw [H.out]
 generalize (c.toNat : Int) = x at *
 clear H
 go_enter Tryz.func98, Tryz.ntmps98
 go_wp2
 all_goals
  go_ret
  refine ⟨congrArg (fun b => Ending.returned (Value.bool b)) ?_, rfl⟩
  refine Bool.eq_iff_iff.2 ?_
  first | omega | (simp <;> omega) | simp
theorem next_any (b n : Nat) (s : ByteArray) (l : List UInt8) (w : World) (_hs : s.size ≤ 100000) (hr : Rest s n l) (h : Rdr w b s n) :
    Calls Tryz.prog 97 #[.pointer (some ⟨b, 0, none⟩)] w fun e w' => e = .returned (.int .u8 ((nextL l).toNat : Int)) ∧ ∃ k, w' = w.drewN k := by
 obtain ⟨c0, c1, f1, hb⟩ := h
 cases l with
 | nil =>
  obtain rfl := hr.nil
  clear hr
  go_enter Tryz.func97, Tryz.ntmps97
  go_wp2
  go_quiet (fail)
  go_wp2
  go_ret
  exact ⟨rfl, _, rfl⟩
 | cons c r =>
  obtain ⟨hlt, hc, _⟩ := hr.cons
  have HC := Lib.hid hc
  have h1 : decide ((s.size : Int) ≤ (n : Int)) = false := decide_eq_false (by omega)
  clear hr hc
  go_enter Tryz.func97, Tryz.ntmps97
  go_wp2
  go_quiet (fail)
  go_wp2
  go_quiet (fail)
  go_wp2
  go_ret
  exact ⟨by rw [← HC.out]; rfl, _, World.drewN_drewN _ _ _⟩
theorem span_split (p : UInt8 → Bool) (l : List UInt8) : l.takeWhile p ++ l.dropWhile p = l := List.takeWhile_append_dropWhile
theorem span_slice {s : ByteArray} {n n' : Nat} {l : List UInt8} {p : UInt8 → Bool} (h : Rest s n l) (h' : Rest s n' (l.dropWhile p)) : s.extract n n' = ⟨(l.takeWhile p).toArray⟩ := by
 have hb := span_split p l
 have hl : (l.takeWhile p).length + (l.dropWhile p).length = l.length := by rw [← List.length_append, hb]
 have h1 := h.1; have h2 := h'.1
 rw [Go.Lib.extract_eq, h.2, show n' - n = (l.takeWhile p).length by omega]
 have : l.take (l.takeWhile p).length = l.takeWhile p := by
  have e : (l.takeWhile p ++ l.dropWhile p).take (l.takeWhile p).length = l.takeWhile p := List.take_left
  rw [hb] at e; exact e
 rw [this]
theorem span_le {s : ByteArray} {n n' : Nat} {l : List UInt8} {p : UInt8 → Bool} (h : Rest s n l) (h' : Rest s n' (l.dropWhile p)) : n ≤ n' := by
 have hb := span_split p l
 have hl : (l.takeWhile p).length + (l.dropWhile p).length = l.length := by rw [← List.length_append, hb]
 have h1 := h.1; have h2 := h'.1
 omega
theorem drop_yes {p : UInt8 → Bool} {c : UInt8} (r : List UInt8) (h : p c = true) : (c :: r).dropWhile p = r.dropWhile p := by rw [List.dropWhile_cons, if_pos h]
theorem drop_no {p : UInt8 → Bool} {c : UInt8} (r : List UInt8) (h : p c = false) : (c :: r).dropWhile p = c :: r := by rw [List.dropWhile_cons, if_neg (by rw [h]; exact Bool.false_ne_true)]
theorem span_word (b : Nat) (s : ByteArray) (l : List UInt8) (w : World) (hs : s.size ≤ 100000) (h : RdrL w b s l) :
    Calls Tryz.prog 95 #[.pointer (some ⟨b, 0, none⟩), .func (.func 131) #[] #[]] w fun e w' => e = .returned (.string ⟨(l.takeWhile isWd).toArray⟩) ∧ RdrL w' b s (l.dropWhile isWd) ∧ w.grownBy w' (some b) := by
 obtain ⟨n0, hr0, hrd0⟩ := h
 have HR0 := Lib.hid hr0
 have hn0 := hr0.le
 have hrd0' := hrd0
 obtain ⟨c0, c1, f1, hb⟩ := hrd0'
 clear hr0
 go_enter Tryz.func95, Tryz.ntmps95
 go_wp2_with fail
 go_loopw [10] (fun _ wr => ∃ l', RdrL wr b s l' ∧ Hid (l'.dropWhile isWd = l.dropWhile isWd) ∧ w.grownBy wr (some b)) (fun _ wr => s.size - posAt wr b)
 case atStart => exact ⟨l, ⟨n0, HR0.out, hrd0⟩, rfl, World.grownBy.refl _ _⟩
 case round =>
  clear c0 c1 f1 hb
  obtain ⟨l', ⟨n, hr, hrd⟩, hsk, hg⟩ := hrel
  have hpos := Lib.hid hrd.pos
  have hrd' := hrd
  obtain ⟨c0, c1, f1, hb⟩ := hrd'
  cases l' with
  | nil =>
   obtain rfl := hr.nil
   have hr9 : Rest s s.size (l.dropWhile isWd) := by rw [← hsk.out]; exact hr
   have hx := Lib.hid (span_slice HR0.out hr9)
   have h1 : decide ((s.size : Int) < (s.size : Int)) = false := decide_eq_false (by omega)
   clear hr
   have HR9 := Lib.hid hr9; clear hr9
   go_wp2
   go_quiet (fail)
   go_wp2
   go_quiet (fail)
   go_wp2
   go_ret
   exact ⟨congrArg (fun b => Ending.returned (Value.string b)) hx.out, ⟨s.size, HR9.out, (hrd.drewN _).drewN _⟩, Go.Lib.grownBy_below hg (bt (below_drewN _ _) (below_drewN _ _))⟩
  | cons c r =>
   obtain ⟨hlt, hc, hr1⟩ := hr.cons
   have HR := Lib.hid hr; have HR1 := Lib.hid hr1
   have h1 : decide ((n : Int) < (s.size : Int)) = true := decide_eq_true (by omega)
   clear hr hr1
   cases hat : isWd c with
   | true =>
    have HA : Hid (∀ w, Calls Tryz.prog 131 #[.int .u8 (s[n].toNat : Int)] w fun e w' => e = .returned (.bool true) ∧ w' = w) := by
     intro w; rw [hc]
     refine (wordB_any c w).mono ?_
     rintro e w' ⟨rfl, rfl⟩
     exact ⟨by rw [hat], rfl⟩
    have hsk' : Hid (r.dropWhile isWd = l.dropWhile isWd) := by unfold Hid; rw [← hsk.out, drop_yes _ hat]
    clear hsk hc hat
    go_wp2
    go_quiet ((go_at_call 131; exact Calls.quiet_of_same (HA.out _)))
    go_wp2
    go_roundw
    case rel => exact ⟨r, ⟨n + 1, HR1.out, (hrd.drewN _).step⟩, hsk', Go.Lib.grownBy_setB (Go.Lib.grownBy_below hg (below_drewN _ _)) 1 _⟩
    case measure =>
     rw [(hrd.drewN _).step.pos, hpos.out]
     omega
   | false =>
    have HA : Hid (∀ w, Calls Tryz.prog 131 #[.int .u8 (s[n].toNat : Int)] w fun e w' => e = .returned (.bool false) ∧ w' = w) := by
     intro w; rw [hc]
     refine (wordB_any c w).mono ?_
     rintro e w' ⟨rfl, rfl⟩
     exact ⟨by rw [hat], rfl⟩
    have hsk' : Hid (c :: r = l.dropWhile isWd) := by unfold Hid; rw [← hsk.out, drop_no _ hat]
    have hr9 : Rest s n (l.dropWhile isWd) := by rw [← hsk'.out]; exact HR.out
    have hx := Lib.hid (span_slice HR0.out hr9)
    have hle := span_le HR0.out hr9
    have HR9 := Lib.hid hr9
    clear hsk hc hat hr9
    go_wp2
    go_quiet ((go_at_call 131; exact Calls.quiet_of_same (HA.out _)))
    go_wp2
    go_quiet (fail)
    go_wp2
    go_ret
    exact ⟨congrArg (fun b => Ending.returned (Value.string b)) hx.out, ⟨n, HR9.out, (hrd.drewN _).drewN _⟩, Go.Lib.grownBy_below hg (bt (below_drewN _ _) (below_drewN _ _))⟩
theorem span_ws (b : Nat) (s : ByteArray) (l : List UInt8) (w : World) (hs : s.size ≤ 100000) (h : RdrL w b s l) :
    Calls Tryz.prog 95 #[.pointer (some ⟨b, 0, none⟩), .func (.func 96) #[] #[]] w fun e w' => e = .returned (.string ⟨(l.takeWhile isWs).toArray⟩) ∧ RdrL w' b s (l.dropWhile isWs) ∧ w.grownBy w' (some b) := by
 obtain ⟨n0, hr0, hrd0⟩ := h
 have HR0 := Lib.hid hr0
 have hn0 := hr0.le
 have hrd0' := hrd0
 obtain ⟨c0, c1, f1, hb⟩ := hrd0'
 clear hr0
 go_enter Tryz.func95, Tryz.ntmps95
 go_wp2_with fail
 go_loopw [10] (fun _ wr => ∃ l', RdrL wr b s l' ∧ Hid (l'.dropWhile isWs = l.dropWhile isWs) ∧ w.grownBy wr (some b)) (fun _ wr => s.size - posAt wr b)
 case atStart => exact ⟨l, ⟨n0, HR0.out, hrd0⟩, rfl, World.grownBy.refl _ _⟩
 case round =>
  clear c0 c1 f1 hb
  obtain ⟨l', ⟨n, hr, hrd⟩, hsk, hg⟩ := hrel
  have hpos := Lib.hid hrd.pos
  have hrd' := hrd
  obtain ⟨c0, c1, f1, hb⟩ := hrd'
  cases l' with
  | nil =>
   obtain rfl := hr.nil
   have hr9 : Rest s s.size (l.dropWhile isWs) := by rw [← hsk.out]; exact hr
   have hx := Lib.hid (span_slice HR0.out hr9)
   have h1 : decide ((s.size : Int) < (s.size : Int)) = false := decide_eq_false (by omega)
   clear hr
   have HR9 := Lib.hid hr9; clear hr9
   go_wp2
   go_quiet (fail)
   go_wp2
   go_quiet (fail)
   go_wp2
   go_ret
   exact ⟨congrArg (fun b => Ending.returned (Value.string b)) hx.out, ⟨s.size, HR9.out, (hrd.drewN _).drewN _⟩, Go.Lib.grownBy_below hg (bt (below_drewN _ _) (below_drewN _ _))⟩
  | cons c r =>
   obtain ⟨hlt, hc, hr1⟩ := hr.cons
   have HR := Lib.hid hr; have HR1 := Lib.hid hr1
   have h1 : decide ((n : Int) < (s.size : Int)) = true := decide_eq_true (by omega)
   clear hr hr1
   cases hat : isWs c with
   | true =>
    have HA : Hid (∀ w, Calls Tryz.prog 96 #[.int .u8 (s[n].toNat : Int)] w fun e w' => e = .returned (.bool true) ∧ w' = w) := by
     intro w; rw [hc]
     refine (wsB_any c w).mono ?_
     rintro e w' ⟨rfl, rfl⟩
     exact ⟨by rw [hat], rfl⟩
    have hsk' : Hid (r.dropWhile isWs = l.dropWhile isWs) := by unfold Hid; rw [← hsk.out, drop_yes _ hat]
    clear hsk hc hat
    go_wp2
    go_quiet ((go_at_call 96; exact Calls.quiet_of_same (HA.out _)))
    go_wp2
    go_roundw
    case rel => exact ⟨r, ⟨n + 1, HR1.out, (hrd.drewN _).step⟩, hsk', Go.Lib.grownBy_setB (Go.Lib.grownBy_below hg (below_drewN _ _)) 1 _⟩
    case measure =>
     rw [(hrd.drewN _).step.pos, hpos.out]
     omega
   | false =>
    have HA : Hid (∀ w, Calls Tryz.prog 96 #[.int .u8 (s[n].toNat : Int)] w fun e w' => e = .returned (.bool false) ∧ w' = w) := by
     intro w; rw [hc]
     refine (wsB_any c w).mono ?_
     rintro e w' ⟨rfl, rfl⟩
     exact ⟨by rw [hat], rfl⟩
    have hsk' : Hid (c :: r = l.dropWhile isWs) := by unfold Hid; rw [← hsk.out, drop_no _ hat]
    have hr9 : Rest s n (l.dropWhile isWs) := by rw [← hsk'.out]; exact HR.out
    have hx := Lib.hid (span_slice HR0.out hr9)
    have hle := span_le HR0.out hr9
    have HR9 := Lib.hid hr9
    clear hsk hc hat hr9
    go_wp2
    go_quiet ((go_at_call 96; exact Calls.quiet_of_same (HA.out _)))
    go_wp2
    go_quiet (fail)
    go_wp2
    go_ret
    exact ⟨congrArg (fun b => Ending.returned (Value.string b)) hx.out, ⟨n, HR9.out, (hrd.drewN _).drewN _⟩, Go.Lib.grownBy_below hg (bt (below_drewN _ _) (below_drewN _ _))⟩
theorem span_nl (b : Nat) (s : ByteArray) (l : List UInt8) (w : World) (hs : s.size ≤ 100000) (h : RdrL w b s l) :
    Calls Tryz.prog 95 #[.pointer (some ⟨b, 0, none⟩), .func (.func 98) #[] #[]] w fun e w' => e = .returned (.string ⟨(l.takeWhile noNl).toArray⟩) ∧ RdrL w' b s (l.dropWhile noNl) ∧ w.grownBy w' (some b) := by
 obtain ⟨n0, hr0, hrd0⟩ := h
 have HR0 := Lib.hid hr0
 have hn0 := hr0.le
 have hrd0' := hrd0
 obtain ⟨c0, c1, f1, hb⟩ := hrd0'
 clear hr0
 go_enter Tryz.func95, Tryz.ntmps95
 go_wp2_with fail
 go_loopw [10] (fun _ wr => ∃ l', RdrL wr b s l' ∧ Hid (l'.dropWhile noNl = l.dropWhile noNl) ∧ w.grownBy wr (some b)) (fun _ wr => s.size - posAt wr b)
 case atStart => exact ⟨l, ⟨n0, HR0.out, hrd0⟩, rfl, World.grownBy.refl _ _⟩
 case round =>
  clear c0 c1 f1 hb
  obtain ⟨l', ⟨n, hr, hrd⟩, hsk, hg⟩ := hrel
  have hpos := Lib.hid hrd.pos
  have hrd' := hrd
  obtain ⟨c0, c1, f1, hb⟩ := hrd'
  cases l' with
  | nil =>
   obtain rfl := hr.nil
   have hr9 : Rest s s.size (l.dropWhile noNl) := by rw [← hsk.out]; exact hr
   have hx := Lib.hid (span_slice HR0.out hr9)
   have h1 : decide ((s.size : Int) < (s.size : Int)) = false := decide_eq_false (by omega)
   clear hr
   have HR9 := Lib.hid hr9; clear hr9
   go_wp2
   go_quiet (fail)
   go_wp2
   go_quiet (fail)
   go_wp2
   go_ret
   exact ⟨congrArg (fun b => Ending.returned (Value.string b)) hx.out, ⟨s.size, HR9.out, (hrd.drewN _).drewN _⟩, Go.Lib.grownBy_below hg (bt (below_drewN _ _) (below_drewN _ _))⟩
  | cons c r =>
   obtain ⟨hlt, hc, hr1⟩ := hr.cons
   have HR := Lib.hid hr; have HR1 := Lib.hid hr1
   have h1 : decide ((n : Int) < (s.size : Int)) = true := decide_eq_true (by omega)
   clear hr hr1
   cases hat : noNl c with
   | true =>
    have HA : Hid (∀ w, Calls Tryz.prog 98 #[.int .u8 (s[n].toNat : Int)] w fun e w' => e = .returned (.bool true) ∧ w' = w) := by
     intro w; rw [hc]
     refine (nlB_any c w).mono ?_
     rintro e w' ⟨rfl, rfl⟩
     exact ⟨by rw [hat], rfl⟩
    have hsk' : Hid (r.dropWhile noNl = l.dropWhile noNl) := by unfold Hid; rw [← hsk.out, drop_yes _ hat]
    clear hsk hc hat
    go_wp2
    go_quiet ((go_at_call 98; exact Calls.quiet_of_same (HA.out _)))
    go_wp2
    go_roundw
    case rel => exact ⟨r, ⟨n + 1, HR1.out, (hrd.drewN _).step⟩, hsk', Go.Lib.grownBy_setB (Go.Lib.grownBy_below hg (below_drewN _ _)) 1 _⟩
    case measure =>
     rw [(hrd.drewN _).step.pos, hpos.out]
     omega
   | false =>
    have HA : Hid (∀ w, Calls Tryz.prog 98 #[.int .u8 (s[n].toNat : Int)] w fun e w' => e = .returned (.bool false) ∧ w' = w) := by
     intro w; rw [hc]
     refine (nlB_any c w).mono ?_
     rintro e w' ⟨rfl, rfl⟩
     exact ⟨by rw [hat], rfl⟩
    have hsk' : Hid (c :: r = l.dropWhile noNl) := by unfold Hid; rw [← hsk.out, drop_no _ hat]
    have hr9 : Rest s n (l.dropWhile noNl) := by rw [← hsk'.out]; exact HR.out
    have hx := Lib.hid (span_slice HR0.out hr9)
    have hle := span_le HR0.out hr9
    have HR9 := Lib.hid hr9
    clear hsk hc hat hr9
    go_wp2
    go_quiet ((go_at_call 98; exact Calls.quiet_of_same (HA.out _)))
    go_wp2
    go_quiet (fail)
    go_wp2
    go_ret
    exact ⟨congrArg (fun b => Ending.returned (Value.string b)) hx.out, ⟨n, HR9.out, (hrd.drewN _).drewN _⟩, Go.Lib.grownBy_below hg (bt (below_drewN _ _) (below_drewN _ _))⟩
theorem span_digit (b : Nat) (s : ByteArray) (l : List UInt8) (w : World) (hs : s.size ≤ 100000) (h : RdrL w b s l) :
    Calls Tryz.prog 95 #[.pointer (some ⟨b, 0, none⟩), .func (.func 103) #[] #[]] w fun e w' => e = .returned (.string ⟨(l.takeWhile isDig).toArray⟩) ∧ RdrL w' b s (l.dropWhile isDig) ∧ w.grownBy w' (some b) := by
 obtain ⟨n0, hr0, hrd0⟩ := h
 have HR0 := Lib.hid hr0
 have hn0 := hr0.le
 have hrd0' := hrd0
 obtain ⟨c0, c1, f1, hb⟩ := hrd0'
 clear hr0
 go_enter Tryz.func95, Tryz.ntmps95
 go_wp2_with fail
 go_loopw [10] (fun _ wr => ∃ l', RdrL wr b s l' ∧ Hid (l'.dropWhile isDig = l.dropWhile isDig) ∧ w.grownBy wr (some b)) (fun _ wr => s.size - posAt wr b)
 case atStart => exact ⟨l, ⟨n0, HR0.out, hrd0⟩, rfl, World.grownBy.refl _ _⟩
 case round =>
  clear c0 c1 f1 hb
  obtain ⟨l', ⟨n, hr, hrd⟩, hsk, hg⟩ := hrel
  have hpos := Lib.hid hrd.pos
  have hrd' := hrd
  obtain ⟨c0, c1, f1, hb⟩ := hrd'
  cases l' with
  | nil =>
   obtain rfl := hr.nil
   have hr9 : Rest s s.size (l.dropWhile isDig) := by rw [← hsk.out]; exact hr
   have hx := Lib.hid (span_slice HR0.out hr9)
   have h1 : decide ((s.size : Int) < (s.size : Int)) = false := decide_eq_false (by omega)
   clear hr
   have HR9 := Lib.hid hr9; clear hr9
   go_wp2
   go_quiet (fail)
   go_wp2
   go_quiet (fail)
   go_wp2
   go_ret
   exact ⟨congrArg (fun b => Ending.returned (Value.string b)) hx.out, ⟨s.size, HR9.out, (hrd.drewN _).drewN _⟩, Go.Lib.grownBy_below hg (bt (below_drewN _ _) (below_drewN _ _))⟩
  | cons c r =>
   obtain ⟨hlt, hc, hr1⟩ := hr.cons
   have HR := Lib.hid hr; have HR1 := Lib.hid hr1
   have h1 : decide ((n : Int) < (s.size : Int)) = true := decide_eq_true (by omega)
   clear hr hr1
   cases hat : isDig c with
   | true =>
    have HA : Hid (∀ w, Calls Tryz.prog 103 #[.int .u8 (s[n].toNat : Int)] w fun e w' => e = .returned (.bool true) ∧ w' = w) := by
     intro w; rw [hc]
     refine (digit_any c w).mono ?_
     rintro e w' ⟨rfl, rfl⟩
     exact ⟨by rw [hat], rfl⟩
    have hsk' : Hid (r.dropWhile isDig = l.dropWhile isDig) := by unfold Hid; rw [← hsk.out, drop_yes _ hat]
    clear hsk hc hat
    go_wp2
    go_quiet ((go_at_call 103; exact Calls.quiet_of_same (HA.out _)))
    go_wp2
    go_roundw
    case rel => exact ⟨r, ⟨n + 1, HR1.out, (hrd.drewN _).step⟩, hsk', Go.Lib.grownBy_setB (Go.Lib.grownBy_below hg (below_drewN _ _)) 1 _⟩
    case measure =>
     rw [(hrd.drewN _).step.pos, hpos.out]
     omega
   | false =>
    have HA : Hid (∀ w, Calls Tryz.prog 103 #[.int .u8 (s[n].toNat : Int)] w fun e w' => e = .returned (.bool false) ∧ w' = w) := by
     intro w; rw [hc]
     refine (digit_any c w).mono ?_
     rintro e w' ⟨rfl, rfl⟩
     exact ⟨by rw [hat], rfl⟩
    have hsk' : Hid (c :: r = l.dropWhile isDig) := by unfold Hid; rw [← hsk.out, drop_no _ hat]
    have hr9 : Rest s n (l.dropWhile isDig) := by rw [← hsk'.out]; exact HR.out
    have hx := Lib.hid (span_slice HR0.out hr9)
    have hle := span_le HR0.out hr9
    have HR9 := Lib.hid hr9
    clear hsk hc hat hr9
    go_wp2
    go_quiet ((go_at_call 103; exact Calls.quiet_of_same (HA.out _)))
    go_wp2
    go_quiet (fail)
    go_wp2
    go_ret
    exact ⟨congrArg (fun b => Ending.returned (Value.string b)) hx.out, ⟨n, HR9.out, (hrd.drewN _).drewN _⟩, Go.Lib.grownBy_below hg (bt (below_drewN _ _) (below_drewN _ _))⟩
theorem RdrL.len {w : World} {b : Nat} {s : ByteArray} {l : List UInt8} (h : RdrL w b s l) : s.size - posAt w b = l.length := by
 obtain ⟨n, h1, h2⟩ := h
 rw [h2.pos]; have := h1.1; omega
theorem RdrL.lt {w : World} {b : Nat} {s : ByteArray} {l : List UInt8} (h : RdrL w b s l) : b < w.heap.size := by
 obtain ⟨n, h1, h2⟩ := h; exact h2.2.2.2
theorem word_at (b : Nat) (s : ByteArray) (l : List UInt8) (w : World) (hs : s.size ≤ 100000) (h : RdrL w b s l) :
    Calls Tryz.prog 102 #[.pointer (some ⟨b, 0, none⟩)] w fun e w' => e = .returned (.string ⟨(l.takeWhile isWd).toArray⟩) ∧ RdrL w' b s (l.dropWhile isWd) ∧ w.grownBy w' (some b) := by
 have H := Lib.hid (span_word b s l w hs h)
 clear h
 go_enter Tryz.func102, Tryz.ntmps102
 go_wp2_with fail
 refine H.out.mono ?_
 rintro e w' ⟨rfl, h1, h2⟩
 go_wp2
 go_ret
 exact ⟨rfl, h1, h2⟩
theorem ext_rest {s : ByteArray} {n : Nat} {l : List UInt8} (h : Rest s n l) : (s.extract n s.size).data.toList = l := by
 rw [Go.Lib.extract_eq, h.2, List.take_of_length_le (by have := h.1; omega)]
theorem pre_opens (r : List UInt8) : Go.Lib.hasPrefix r [47, 42] = opens r := by
 unfold Go.Lib.hasPrefix opens
 match r with
 | [] => rfl
 | [a] => simp [List.isPrefixOf]
 | a :: c :: t =>
  by_cases h1 : a = 47
  ·subst h1
   by_cases h2 : c = 42
   ·subst h2; simp
   ·have : (decide (42 = c)) = false := decide_eq_false (fun e => h2 e.symm)
    simp only [List.isPrefixOf]
    split
    ·rename_i h; simp at h; exact absurd h.1 h2
    ·simp; intro e; exact absurd e.symm h2
  ·simp only [List.isPrefixOf]
   split
   ·rename_i h; simp at h; exact absurd h.1 h1
   ·simp; intro e; exact absurd e.symm h1
theorem endC_index : ∀ l : List UInt8, match endC l with
    | none => Go.Lib.index l [42, 47] = -1
    | some t => ∃ i : Nat, Go.Lib.index l [42, 47] = (i : Int) ∧ t = l.drop (i + 2) ∧ i + 2 ≤ l.length
 | [] => rfl
 | c :: l => by
  have ih := endC_index l
  rw [endC]
  by_cases h : c = 42 ∧ l.head? = some 47
  ·rw [if_pos h]
   obtain ⟨rfl, h2⟩ := h
   cases l with
   | nil => cases h2
   | cons d t =>
    obtain rfl : d = 47 := by simpa using h2
    exact ⟨0, by unfold Go.Lib.index; rw [if_pos (by simp)]; rfl, rfl, by simp⟩
  ·rw [if_neg h]
   have hp : List.isPrefixOf [42, 47] (c :: l) = false := by
    rw [Bool.eq_false_iff]
    intro e
    cases l with
    | nil => simp at e
    | cons d t =>
     simp only [List.isPrefixOf, Bool.and_eq_true, beq_iff_eq, and_true] at e
     exact h ⟨e.1.symm, by rw [e.2]; rfl⟩
   cases he : endC l with
   | none =>
    rw [he] at ih
    show Go.Lib.index (c :: l) [42, 47] = -1
    unfold Go.Lib.index
    rw [hp, ih]; rfl
   | some t =>
    rw [he] at ih
    obtain ⟨i, h1, h2, h3⟩ := ih
    refine ⟨i + 1, ?_, by rw [h2]; rfl, by rw [List.length_cons]; omega⟩
    unfold Go.Lib.index
    rw [hp, h1]
    have : ((i : Int) == -1) = false := beq_eq_false_iff_ne.2 (by omega)
    rw [this]
    simp
theorem by_set4 {w : World} {b n n' i : Nat} {s : ByteArray} (h : Rdr w b s n) (e : n' = n + 2 + (i + 2) := by rfl) : Rdr (w.setCell ⟨b, 1, none⟩ (.int .i64 ((n : Int) + ((i : Int) + 4)))) b s n' := by
 have := h.set n'
 rwa [show ((n' : Nat) : Int) = (n : Int) + ((i : Int) + 4) by omega] at this
theorem quiet_add_same {P : Program} {f : FuncId} {args : Array Value} {w : World} {a n : Nat} {v : Value}
    (h : Calls P f args (w.drewN (a + n)) fun e w' => e = .returned v ∧ w' = w.drewN (a + n)) :
    Calls P f args (w.drewN (a + n)) fun e w'' => e = .returned v ∧ ∃ m, w'' = w.drewN (a + m) :=
 h.mono fun _ _ ⟨he, hm⟩ => ⟨he, n, hm⟩
theorem cell_else' {w w' : World} {b c o : Nat} {v : Value} (g : w.grownBy w' (some b)) (h : w.cell? ⟨c, o, none⟩ = some v) (hc : c < b) : w'.cell? ⟨c, o, none⟩ = some v :=
 (World.cell?_of_block (w := w) (a := ⟨c, o, none⟩) (g.block c (World.block_lt_of_cell? _ _ h) (by intro e; have := Option.some.inj e; omega))).trans h
theorem skip_any (b : Nat) (s : ByteArray) (l : List UInt8) (m : Int) (w : World) (hs : s.size ≤ 100000) (h : RdrL w b s l) (hb0 : 2 < b) (hm : w.cell? ⟨2, 0, none⟩ = some (.int .i64 m)) :
    Calls Tryz.prog 71 #[.pointer (some ⟨b, 0, none⟩)] w fun e w' => e = .returned (.bool (skipL l).1) ∧ RdrL w' b s (skipL l).2 ∧ w.grownBy w' (some b) := by
 have HM := Lib.hid hm; have HR := Lib.hid h
 clear hm h
 go_enter Tryz.func71, Tryz.ntmps71
 go_wp2_with fail
 go_loopw [4] (fun _ wr => ∃ l', RdrL wr b s l' ∧ Hid (skipL l' = skipL l) ∧ w.grownBy wr (some b)) (fun _ wr => s.size - posAt wr b)
 case atStart => exact ⟨l, HR.out, rfl, World.grownBy.refl _ _⟩
 case round =>
  obtain ⟨l', hrd, hsk, hg⟩ := hrel
  have hmeas := Lib.hid hrd.len
  have HS := Lib.hid (span_ws b s l' wr hs hrd)
  have HG := Lib.hid hg
  clear hrd hg
  go_wp2_with fail
  refine HS.out.mono ?_
  rintro e w1 ⟨rfl, hrd1, hg1⟩
  have HG1 := Lib.hid (Go.Lib.grownBy_trans HG.out hg1)
  clear HS hg1 HG
  have hdl := drop_le isWs l'
  obtain ⟨r, hr⟩ : ∃ r, r = l'.dropWhile isWs := ⟨_, rfl⟩
  rw [← hr] at hrd1 hdl
  have HRr := Lib.hid hr
  clear hr
  obtain ⟨n, hre, hrr⟩ := hrd1
  have HN := Lib.hid (fun (w' : World) (h' : Rdr w' b s n) => next_any b n s r w' hs hre h')
  have HRD := Lib.hid hrr; have HRE := Lib.hid hre
  clear hrr hre
  go_wp2_with fail
  refine (HN.out _ HRD.out).mono ?_
  rintro e w2 ⟨rfl, hkk⟩
  clear HN
  have HRD2 : Hid (Rdr w2 b s n) := by obtain ⟨kk, rfl⟩ := hkk; exact HRD.out.drewN kk
  have HG2 : Hid (w.grownBy w2 (some b)) := by obtain ⟨kk, rfl⟩ := hkk; exact Go.Lib.grownBy_below HG1.out (below_drewN w1 kk)
  clear hkk
  have hnn := HRE.out.le
  by_cases hh : hdOf (· == 35) r = true
  ·have q : (((nextL r).toNat : Int) == 35) = true := by
    cases r with
    | nil => cases hh
    | cons c t =>
     have : c = 35 := by simpa [hdOf] using hh
     rw [this]; rfl
   have HSK : Hid (skipL (r.dropWhile noNl) = skipL l) := by
    unfold Hid
    rw [← hsk.out, HRr.out]
    exact (skip_hash (by rw [← HRr.out]; exact hh)).symm
   have hlt := hash_lt hh
   have HSN := Lib.hid (span_nl b s r w2 hs ⟨n, HRE.out, HRD2.out⟩)
   have HHH := Lib.hid hh
   clear hh hsk
   go_wp2_with fail
   refine HSN.out.mono ?_
   rintro e w3 ⟨rfl, hrd3, hg3⟩
   have HG3 := Lib.hid (Go.Lib.grownBy_trans HG2.out hg3)
   have HRD3 := Lib.hid hrd3
   clear hrd3 hg3 HSN
   go_wp2_with fail
   go_roundw
   case rel => exact ⟨r.dropWhile noNl, HRD3.out, HSK, HG3.out⟩
   case measure =>
    have h1 := HRD3.out.len
    have h2 := hmeas.out
    omega
  ·have hh' : hdOf (· == 35) r = false := by simpa using hh
   have q : (((nextL r).toNat : Int) == 35) = false := by
    cases r with
    | nil => rfl
    | cons c t =>
     have : c ≠ 35 := by simpa [hdOf] using hh'
     exact beq_eq_false_iff_ne.2 (fun e => this (UInt8.toNat_inj.1 (by
      have e' : (c.toNat : Int) = 35 := e
      show c.toNat = 35
      omega)))
   have HHH := Lib.hid hh'
   have hpx : (s.extract n s.size).data.toList = r := ext_rest HRE.out
   have HPF : Hid (∀ w, Calls Tryz.prog 99 #[.string (s.extract n s.size), .string ⟨#[47, 42]⟩] w fun e w' => e = .returned (.bool (opens r)) ∧ w' = w) := by
    intro w
    have := Tryz.strings_HasPrefix (s.extract n s.size) ⟨#[47, 42]⟩ w
    rw [hpx] at this
    rw [← pre_opens]; exact this
   clear hh hh' hpx
   obtain ⟨c0, c1, f1, hbl⟩ := HRD2.out
   have i1 : (0 : Int) ≤ n := by omega
   have i2 : (n : Int) ≤ s.size := by omega
   by_cases ho : opens r = true
   ·rw [ho] at HPF
    have hei := endC_index (r.drop 2)
    have HO := Lib.hid ho
    have hrl : 2 ≤ r.length := by
     have ho2 := HO.out
     unfold opens at ho2
     split at ho2
     ·simp
     ·cases ho2
    have hre2 := HRE.out.drop 2 hrl
    have hpx2 : (s.extract (n + 2) s.size).data.toList = r.drop 2 := ext_rest hre2
    have hn2 := hre2.le
    have hw2 : IntKind.i64.wrap ((n : Int) + 2) = (n : Int) + 2 := IntWalk.i64_in _ (by omega)
    have ht2 : ((n : Int) + 2).toNat = n + 2 := by omega
    have i3 : (0 : Int) ≤ (n : Int) + 2 := by omega
    have i4 : (n : Int) + 2 ≤ s.size := by omega
    have HM2 := Lib.hid (cell_else' HG2.out HM.out hb0)
    have hxs : (s.extract (n + 2) s.size).size < 4294967281 := by rw [ByteArray.size_extract]; omega
    cases he : endC (r.drop 2) with
    | none =>
     rw [he] at hei
     have HIX : Hid (∀ w, w.cell? ⟨2, 0, none⟩ = some (.int .i64 m) → Calls Tryz.prog 100 #[.string (s.extract (n + 2) s.size), .string ⟨#[42, 47]⟩] w fun e w' => e = .returned (.int .i64 (-1)) ∧ w' = w) := by
      intro w hm
      have := Tryz.strings_Index (s.extract (n + 2) s.size) ⟨#[42, 47]⟩ m w hxs hm
      rw [hpx2] at this
      rw [← hei]; exact this
     have HFIN : Hid (skipL l = (false, r)) := by
      unfold Hid
      rw [← hsk.out, HRr.out]
      exact skip_torn (by rw [← HRr.out]; exact HHH.out) (by rw [← HRr.out]; exact HO.out) (by rw [← HRr.out]; exact he)
     clear he hei ho hpx2 hre2 hsk hxs
     go_wp2_with fail
     go_quiet ((go_at_call 99; exact Calls.quiet_of_same (HPF.out _)))
     go_wp2_with fail
     go_quiet ((go_at_call 100; exact quiet_add_same (HIX.out _ HM2.out)))
     go_wp2_with fail
     go_ret
     rw [HFIN.out]
     first
      | exact ⟨rfl, ⟨n, HRE.out, HRD2.out.drewN _⟩, Go.Lib.grownBy_below HG2.out (below_drewN _ _)⟩
      | exact ⟨rfl, ⟨n, HRE.out, (HRD2.out.drewN _).drewN _⟩, Go.Lib.grownBy_below HG2.out (bt (below_drewN _ _) (below_drewN _ _))⟩
    | some t =>
     rw [he] at hei
     obtain ⟨i, hi1, hi2, hi3⟩ := hei
     rw [List.length_drop] at hi3
     have hre4 := hre2.drop (i + 2) (by rw [List.length_drop]; omega)
     rw [← hi2] at hre4
     have hrb := HRE.out.1
     have HIX : Hid (∀ w, w.cell? ⟨2, 0, none⟩ = some (.int .i64 m) → Calls Tryz.prog 100 #[.string (s.extract (n + 2) s.size), .string ⟨#[42, 47]⟩] w fun e w' => e = .returned (.int .i64 i) ∧ w' = w) := by
      intro w hm
      have := Tryz.strings_Index (s.extract (n + 2) s.size) ⟨#[42, 47]⟩ m w hxs hm
      rw [hpx2] at this
      rw [← hi1]; exact this
     have HSK : Hid (skipL t = skipL l) := by
      unfold Hid
      rw [← hsk.out]
      exact (skip_open (by rw [← HRr.out]; exact HHH.out) (by rw [← HRr.out]; exact HO.out) (by rw [← HRr.out]; exact he)).symm
     have HRE4 := Lib.hid hre4
     have htl : t.length + 4 ≤ r.length := by have := hre4.1; omega
     have dni : decide ((i : Int) < 0) = false := decide_eq_false (by omega)
     have hib : (i : Int) ≤ 100000 := by omega
     clear he ho hpx2 hre2 hsk hxs hi1 hi2 hre4 hrb
     go_wp2_with fail
     go_quiet ((go_at_call 99; exact Calls.quiet_of_same (HPF.out _)))
     go_wp2_with fail
     go_quiet ((go_at_call 100; exact quiet_add_same (HIX.out _ HM2.out)))
     go_wp2_with fail
     go_roundw
     case rel => exact ⟨t, ⟨n + 2 + (i + 2), HRE4.out, by first | exact by_set4 (HRD2.out.drewN _) | exact by_set4 ((HRD2.out.drewN _).drewN _)⟩, HSK, by first | exact Go.Lib.grownBy_setB (Go.Lib.grownBy_below HG2.out (below_drewN _ _)) 1 _ | exact Go.Lib.grownBy_setB (Go.Lib.grownBy_below HG2.out (bt (below_drewN _ _) (below_drewN _ _))) 1 _⟩
     case measure =>
      have h2 := hmeas.out
      have h1 := HRE4.out.1
      first
       | rw [(by_set4 (n' := n + 2 + (i + 2)) (HRD2.out.drewN _)).pos]
       | rw [(by_set4 (n' := n + 2 + (i + 2)) ((HRD2.out.drewN _).drewN _)).pos]
      omega
   ·have ho' : opens r = false := by simpa using ho
    rw [ho'] at HPF
    have HFIN : Hid (skipL l = (true, r)) := by
     unfold Hid
     rw [← hsk.out, HRr.out]
     exact skip_end (by rw [← HRr.out]; exact HHH.out) (by rw [← HRr.out]; exact ho')
    clear ho ho' hsk
    go_wp2_with fail
    go_quiet ((go_at_call 99; exact Calls.quiet_of_same (HPF.out _)))
    go_wp2_with fail
    go_ret
    rw [HFIN.out]
    exact ⟨rfl, ⟨n, HRE.out, HRD2.out.drewN _⟩, Go.Lib.grownBy_below HG2.out (below_drewN _ _)⟩
theorem infoB8 : (Tryz.prog.info? 5).map (fun i => (i.zero, i.size, i.bytes)) = some (some (.int .u8 0), 1, 1) := by kernel_rfl
theorem textL_cons {c : UInt8} (t : List UInt8) (h1 : c ≠ 34) (h2 : c ≠ 92) : textL (c :: t) = (textL t).map (fun p => (c :: p.1, p.2)) := by
 cases t with
 | nil => show (if c = 34 then _ else none) = none; rw [if_neg h1]
 | cons d t => rw [textL, if_neg h1, if_neg h2]
theorem textL_quote (t : List UInt8) : textL (34 :: t) = some ([], t) := by
 cases t with
 | nil => rfl
 | cons d t => rw [textL, if_pos rfl]
theorem textL_esc (d : UInt8) (t : List UInt8) : textL (92 :: d :: t) = (textL t).map (fun p => (d :: p.1, p.2)) := by rw [textL, if_neg (by decide), if_pos rfl]
theorem map_acc (acc : List UInt8) (c : UInt8) (o : Option (List UInt8 × List UInt8)) : (o.map (fun p => (c :: p.1, p.2))).map (fun p => (acc ++ p.1, p.2)) = o.map (fun p => ((acc ++ [c]) ++ p.1, p.2)) := by
 cases o with
 | none => rfl
 | some p => simp
theorem text_put {w W Wd w1 : World} {b n : Nat} {s : ByteArray} {v v' : Value} {L : List UInt8} {d : UInt8} (hb : b < w.heap.size) (hg : w.grownBy W (some b)) (hrd : Rdr W b s n) (hown : OwnB W w.heap.size 5 v L) (hd : Below W.heap.size W Wd) (hgrow : Wd.grownBy w1 v.ownBlock)
    (hown' : w1.ownsRow w.heap.size 5 1 v' (L.length + 1) (bcells L ++ [.int .u8 (d.toNat : Int)])) : Rdr w1 b s n ∧ OwnB w1 w.heap.size 5 v' (L ++ [d]) ∧ w.grownBy w1 (some b) := by
 have hne : ∀ k, k < w.heap.size → some k ≠ v.ownBlock := fun k hk e => by have := (World.ownsRow.lt hown k e.symm).1; omega
 have hszd : W.heap.size ≤ Wd.heap.size := hd.size
 have hbW : b < Wd.heap.size := Nat.lt_of_lt_of_le hrd.2.2.2 hszd
 have hblk : w1.heap[b]? = W.heap[b]? := (hgrow.block b hbW (hne b hb)).trans (hd.block b hrd.2.2.2)
 refine ⟨⟨(World.cell?_of_block (w := W) (a := ⟨b, 0, none⟩) hblk).trans hrd.1, (World.cell?_of_block (w := W) (a := ⟨b, 1, none⟩) hblk).trans hrd.2.1, (World.frozen?_of_block (w := W) (a := ⟨b, 1, none⟩) hblk).trans hrd.2.2.1, Nat.lt_of_lt_of_le hbW hgrow.size⟩, ?_, ?_⟩
 ·unfold OwnB
  rw [bcells_append, List.length_append]
  exact hown'
 ·have hsz : w.heap.size ≤ W.heap.size := hg.size
  exact ⟨hgrow.os.trans (hd.os.trans hg.os), hgrow.tape.trans (hd.tape.trans hg.tape), hgrow.output.trans (hd.output.trans hg.output), Nat.le_trans hsz (Nat.le_trans hszd hgrow.size), fun k hk hn => (hgrow.block k (by omega) (hne k hk)).trans ((hd.block k (by omega)).trans (hg.block k hk hn))⟩
theorem row_ne {w : World} {base e size n b : Nat} {v : Value} {l : List Value} (h : w.ownsRow base e size v n l) (hb : b < base) : v.ownBlock = none ∨ v.ownBlock ≠ some b := by
 cases hv : v.ownBlock with
 | none => exact .inl rfl
 | some k => exact .inr (fun e => by have := (World.ownsRow.lt h k hv).1; have := Option.some.inj e; omega)
def TextPost (b : Nat) (s : ByteArray) (l : List UInt8) (w : World) (e : Ending) (w' : World) : Prop :=
 (match textL l with
  | none => e = .returned (.tuple #[.string ⟨#[]⟩, .bool false])
  | some p => e = .returned (.tuple #[.string ⟨p.1.toArray⟩, .bool true]) ∧ RdrL w' b s p.2) ∧ w.grownBy w' (some b)
theorem TextPost.none' {b : Nat} {s : ByteArray} {l : List UInt8} {w w' : World} (h : textL l = none) (g : w.grownBy w' (some b)) : TextPost b s l w (.returned (.tuple #[.string ⟨#[]⟩, .bool false])) w' := by
 unfold TextPost; rw [h]; exact ⟨rfl, g⟩
theorem TextPost.some' {b : Nat} {s : ByteArray} {l x r : List UInt8} {w w' : World} (h : textL l = some (x, r)) (hr : RdrL w' b s r) (g : w.grownBy w' (some b)) : TextPost b s l w (.returned (.tuple #[.string ⟨x.toArray⟩, .bool true])) w' := by
 unfold TextPost; rw [h]; exact ⟨⟨rfl, hr⟩, g⟩
theorem text_any (b : Nat) (s : ByteArray) (q : UInt8) (l : List UInt8) (w : World) (hs : s.size ≤ 100000) (h : RdrL w b s (q :: l)) :
    Calls Tryz.prog 105 #[.pointer (some ⟨b, 0, none⟩)] w (TextPost b s l w) := by
 obtain ⟨n0, hr0, hrd0⟩ := h
 obtain ⟨hlt0, -, hr1⟩ := hr0.cons
 have HR1 := Lib.hid hr1; have HRD0 := Lib.hid hrd0
 obtain ⟨c0, c1, f1, hb⟩ := hrd0
 obtain ⟨i0, hi, hz0, hz1, hz2⟩ := info_parts infoB8
 have HI := Lib.hid hi; have HZ0 := Lib.hid hz0; have HZ1 := Lib.hid hz1; have HZ2 := Lib.hid hz2
 clear hr0 hr1 hi hz0 hz1 hz2
 go_enter Tryz.func105, Tryz.ntmps105
 go_wp2_with fail
 go_loopw [4] (fun v wr => ∃ (l' acc : List UInt8), RdrL wr b s l' ∧ OwnB wr w.heap.size 5 v acc ∧ acc.length + l'.length ≤ s.size ∧ Hid (textL l = (textL l').map (fun p => (acc ++ p.1, p.2))) ∧ w.grownBy wr (some b)) (fun _ wr => s.size - posAt wr b)
 case atStart => exact ⟨l, [], ⟨n0 + 1, HR1.out, HRD0.out.step⟩, World.ownsRow_nil _ _ _ _, by have := HR1.out.1; simp only [List.length_nil]; omega, by unfold Hid; cases textL l <;> rfl, Go.Lib.grownBy_setB (World.grownBy.refl _ _) 1 _⟩
 case round =>
  clear c0 c1 f1
  obtain ⟨l', acc, hrl, hown, hal, heq, hg⟩ := hrel
  have hmeas := Lib.hid hrl.len
  obtain ⟨n, hre, hrd⟩ := hrl
  have HRD := Lib.hid hrd; have HOWN := Lib.hid hown; have HG := Lib.hid hg
  obtain ⟨c0, c1, f1, hbw⟩ := hrd
  cases l' with
  | nil =>
   obtain rfl := hre.nil
   have HFIN : Hid (textL l = none) := by unfold Hid; rw [heq.out]; rfl
   have h1 : decide ((s.size : Int) < (s.size : Int)) = false := decide_eq_false (by omega)
   clear hown hg hre heq
   go_wp2_with fail
   go_quiet (fail)
   go_wp2_with fail
   go_ret2
   exact TextPost.none' HFIN.out (Go.Lib.grownBy_below HG.out (below_drewN _ _))
  | cons c t =>
   obtain ⟨hlt, hc, hre1⟩ := hre.cons
   have HRE := Lib.hid hre; have HRE1 := Lib.hid hre1; have HC := Lib.hid hc
   have h1 : decide ((n : Int) < (s.size : Int)) = true := decide_eq_true (by omega)
   have i1 : (0 : Int) ≤ n := by omega
   have i2 : (n : Int) < s.size := by omega
   clear hown hg hre hre1 hc
   by_cases h34 : c = 34
   ·have e1 : ((s[n].toNat : Int) == 34) = true := by rw [HC.out, h34]; rfl
    have HFIN : Hid (textL l = some (acc, t)) := by unfold Hid; rw [heq.out, h34, textL_quote]; simp
    clear heq h34
    go_wp2_with fail
    go_quiet (fail)
    obtain ⟨W1, hW1⟩ : ∃ W1, W1 = wr.drewN nq := ⟨_, rfl⟩
    rw [← hW1]
    have hbW1 : Below wr.heap.size wr W1 := by rw [hW1]; exact below_drewN _ _
    clear hW1 nq
    have hrd1 := HRD.out.below hbW1
    clear c0 c1 f1 hbw
    obtain ⟨c0, c1, f1, hbw⟩ := hrd1
    go_wp2_with fail
    go_quiet (fail)
    obtain ⟨W2, hW2⟩ : ∃ W2, W2 = W1.drewN nq := ⟨_, rfl⟩
    rw [← hW2]
    have hbW2 : Below W1.heap.size W1 W2 := by rw [hW2]; exact below_drewN _ _
    clear hW2 nq
    have hbW := bt hbW1 hbW2
    have hrd2 := HRD.out.below hbW
    have HOWN2 := Lib.hid (row_down HOWN.out hbW); have HG2 := Lib.hid (Go.Lib.grownBy_below HG.out hbW)
    have HRD2 := Lib.hid hrd2
    clear c0 c1 f1 hbw hbW1 hbW2 hbW
    obtain ⟨c0, c1, f1, hbw⟩ := hrd2
    go_upto_region 8 with fail
    have hown3 := (World.ownsRow.kept HOWN2.out (Go.Lib.grownBy_setB (World.grownBy.refl W2 (some b)) 1 (.int .i64 ((n : Int) + 1))) (row_ne HOWN2.out hb))
    have hcv := run_str_own hown3 Tryz.underlying68 Tryz.underlying5 Tryz.underlying9
    have HCV := Lib.hid hcv
    have HRD3 := Lib.hid HRD2.out.step
    clear hown3
    go_wp2_with fail
    go_ret2
    exact TextPost.some' HFIN.out ⟨n + 1, HRE1.out, HRD3.out⟩ (Go.Lib.grownBy_setB HG2.out 1 _)
   ·have e1 : ((s[n].toNat : Int) == 34) = false := by
     rw [HC.out]
     exact beq_eq_false_iff_ne.2 (fun e => h34 (UInt8.toNat_inj.1 (Int.ofNat_inj.1 e)))
    by_cases h92 : c = 92
    ·have e2 : ((s[n].toNat : Int) == 92) = true := by rw [HC.out, h92]; rfl
     cases t with
     | nil =>
      have hn1 := HRE1.out.nil
      have HFIN : Hid (textL l = none) := by unfold Hid; rw [heq.out, h92]; rfl
      have e3 : (((n : Int) + 1) == (s.size : Int)) = true := beq_iff_eq.2 (by omega)
      clear heq h34 h92 hn1
      go_wp2_with fail
      go_quiet (fail)
      obtain ⟨W1, hW1⟩ : ∃ W1, W1 = wr.drewN nq := ⟨_, rfl⟩
      rw [← hW1]
      have hbW1 : Below wr.heap.size wr W1 := by rw [hW1]; exact below_drewN _ _
      clear hW1 nq
      have hrd1 := HRD.out.below hbW1
      clear c0 c1 f1 hbw
      obtain ⟨c0, c1, f1, hbw⟩ := hrd1
      go_wp2_with fail
      go_quiet (fail)
      obtain ⟨W2, hW2⟩ : ∃ W2, W2 = W1.drewN nq := ⟨_, rfl⟩
      rw [← hW2]
      have hbW2 : Below W1.heap.size W1 W2 := by rw [hW2]; exact below_drewN _ _
      clear hW2 nq
      have hbW := bt hbW1 hbW2
      have hrd2 := HRD.out.below hbW
      have HOWN2 := Lib.hid (row_down HOWN.out hbW); have HG2 := Lib.hid (Go.Lib.grownBy_below HG.out hbW)
      have HRD2 := Lib.hid hrd2
      clear c0 c1 f1 hbw hbW1 hbW2 hbW
      obtain ⟨c0, c1, f1, hbw⟩ := hrd2
      go_wp2_with fail
      go_quiet (fail)
      go_wp2_with fail
      go_ret2
      exact TextPost.none' HFIN.out (Go.Lib.grownBy_below (Go.Lib.grownBy_setB HG2.out 1 _) (below_drewN _ _))
     | cons d t =>
      obtain ⟨hlt1, hc1, hre2⟩ := HRE1.out.cons
      have HRE2 := Lib.hid hre2
      have HEQ : Hid (textL l = (textL t).map (fun p => ((acc ++ [s[n + 1]]) ++ p.1, p.2))) := by unfold Hid; rw [heq.out, h92, hc1, textL_esc, map_acc]
      have HTL : Hid (t.length + 1 = (d :: t).length) := rfl
      simp only [List.length_cons] at hal
      clear heq h34 h92 hre2 hc1
      go_wp2_with fail
      go_quiet (fail)
      obtain ⟨W1, hW1⟩ : ∃ W1, W1 = wr.drewN nq := ⟨_, rfl⟩
      rw [← hW1]
      have hbW1 : Below wr.heap.size wr W1 := by rw [hW1]; exact below_drewN _ _
      clear hW1 nq
      have hrd1 := HRD.out.below hbW1
      clear c0 c1 f1 hbw
      obtain ⟨c0, c1, f1, hbw⟩ := hrd1
      go_wp2_with fail
      go_quiet (fail)
      obtain ⟨W2, hW2⟩ : ∃ W2, W2 = W1.drewN nq := ⟨_, rfl⟩
      rw [← hW2]
      have hbW2 : Below W1.heap.size W1 W2 := by rw [hW2]; exact below_drewN _ _
      clear hW2 nq
      have hbW := bt hbW1 hbW2
      have hrd2 := HRD.out.below hbW
      have HOWN2 := Lib.hid (row_down HOWN.out hbW); have HG2 := Lib.hid (Go.Lib.grownBy_below HG.out hbW)
      have HRD2 := Lib.hid hrd2
      clear c0 c1 f1 hbw hbW1 hbW2 hbW
      obtain ⟨c0, c1, f1, hbw⟩ := hrd2
      go_upto_region 11 with fail
      have hgs := Go.Lib.grownBy_setB (World.grownBy.refl W2 (some b)) 1 (.int .i64 ((n : Int) + 1))
      have hrd3 := HRD2.out.step
      have hown3 : OwnB (W2.setCell ⟨b, 1, none⟩ (.int .i64 ((n : Int) + 1))) w.heap.size 5 u4 acc := World.ownsRow.kept HOWN2.out hgs (row_ne HOWN2.out hb)
      have hg3 := Go.Lib.grownBy_setB HG2.out 1 (.int .i64 ((n : Int) + 1))
      obtain ⟨W3, hW3⟩ : ∃ W3, W3 = W2.setCell ⟨b, 1, none⟩ (.int .i64 ((n : Int) + 1)) := ⟨_, rfl⟩
      rw [← hW3] at hrd3 hown3 hg3 ⊢
      have HRD3 := Lib.hid hrd3; have HOWN3 := Lib.hid hown3; have HG3 := Lib.hid hg3
      clear hgs hown3 hg3 hW3 c0 c1 f1 hbw
      obtain ⟨c0, c1, f1, hbw⟩ := hrd3
      have c1' : W3.cell? ⟨b, 1, none⟩ = some (.int .i64 ((n : Int) + 1)) := c1
      have hne3 : (((n : Int) + 1) == (s.size : Int)) = false := beq_eq_false_iff_ne.2 (by omega)
      clear c1
      go_quiet (fail)
      obtain ⟨W4, hW4⟩ : ∃ W4, W4 = W3.drewN nq := ⟨_, rfl⟩
      rw [← hW4]
      have hbW4 : Below W3.heap.size W3 W4 := by rw [hW4]; exact below_drewN _ _
      clear hW4 nq
      have hrd4 := HRD3.out.below hbW4
      have HRD4 := Lib.hid hrd4; have HOWN4 := Lib.hid (row_down HOWN3.out hbW4); have HG4 := Lib.hid (Go.Lib.grownBy_below HG3.out hbW4)
      clear c0 c1' f1 hbw hbW4
      obtain ⟨c0, c1, f1, hbw⟩ := hrd4
      have c1' : W4.cell? ⟨b, 1, none⟩ = some (.int .i64 ((n : Int) + 1)) := c1
      clear c1
      have c1 := c1'
      clear c1'
      have i3 : (0 : Int) ≤ (n : Int) + 1 := by omega
      have i4 : (n : Int) + 1 < s.size := by omega
      have i5 : ((n : Int) + 1).toNat = n + 1 := by omega
      go_upto_region 13 with fail
      have hszd : w.heap.size ≤ W4.heap.size := HG4.out.size
      have hal2 : acc.length ≤ 100000 := by omega
      have hdr : Below W4.heap.size W4 (W4.alloc (.cells #[.int .u8 (s[n + 1].toNat : Int)] 5)).drew := Below.drew (ba (Below.refl _ _) _)
      have hownd : World.ownsRow (W4.alloc (.cells #[.int .u8 (s[n + 1].toNat : Int)] 5)).drew w.heap.size 5 1 u4 acc.length (bcells acc) := row_down HOWN4.out hdr
      have HDR := Lib.hid hdr; have HOD := Lib.hid hownd
      have nb : W4.heap.size ≠ b := World.new_ne W4 ⟨b, 0, none⟩ c0
      clear hdr hownd
      go_region_held3 (fun w' => w'.cell? ⟨b, 0, none⟩ = some (.string s) ∧ w'.cell? ⟨b, 1, none⟩ = some (.int .i64 ((n : Int) + 1))) (first | with_reducible exact ⟨c0, c1⟩ | exact ⟨hrd5.1, hrd5.2.1⟩ | go_keep) ((refine step_append_lies _ (by rfl) _ _ _ (by rfl) w.heap.size 5 i0 (.int .u8 0) 1 1 Tryz.underlying68 HI.out HZ0.out HZ1.out HZ2.out rfl (by omega) u4 acc.length (bcells acc) (by rfl) HOD.out ⟨W4.heap.size, 0, none⟩ 1 1 [.int .u8 (s[n + 1].toNat : Int)] (by rfl) (by rfl) (fun j u h => cell_one_new _ _ _ j u h) (by simp [Value.oneCell']) (by omega) (by unfold maxLen; omega) (by omega) (by simp; omega) (W4.heap.size + 1) (by simp) ?_; intro g cap w1 hown' hgrow _ _; obtain ⟨hrd5, hown5, hg5⟩ := text_put hb HG4.out HRD4.out HOWN4.out HDR.out hgrow hown'))
      all_goals
       have HRD5 := Lib.hid hrd5; have HOWN5 := Lib.hid hown5; have HG5 := Lib.hid hg5
       clear hown' hgrow hown5 hg5 c0 c1 f1 hbw
       obtain ⟨c0, c1, f1, hbw⟩ := hrd5
       go_wp2_with fail
       go_roundw
       case rel => exact ⟨t, acc ++ [s[n + 1]], ⟨n + 1 + 1, HRE2.out, HRD5.out.step⟩, World.ownsRow.kept HOWN5.out (Go.Lib.grownBy_setB (World.grownBy.refl w1 (some b)) 1 _) (row_ne HOWN5.out hb), by rw [List.length_append, List.length_singleton]; omega, HEQ.out, Go.Lib.grownBy_setB HG5.out 1 _⟩
       case measure =>
        have h2 := hmeas.out
        have h4 := HRD5.out.step.pos
        have h3 := HRE1.out.1
        simp only [List.length_cons] at h2
        try simp only [List.length_cons] at h3
        refine Nat.lt_of_le_of_lt (Nat.le_of_eq (congrArg (s.size - ·) h4)) ?_
        omega
    ·have e2 : ((s[n].toNat : Int) == 92) = false := by
      rw [HC.out]
      exact beq_eq_false_iff_ne.2 (fun e => h92 (UInt8.toNat_inj.1 (Int.ofNat_inj.1 e)))
     have HEQ : Hid (textL l = (textL t).map (fun p => ((acc ++ [s[n]]) ++ p.1, p.2))) := by unfold Hid; rw [heq.out, HC.out, textL_cons t h34 h92, map_acc]
     simp only [List.length_cons] at hal
     clear heq h34 h92
     go_wp2_with fail
     go_quiet (fail)
     obtain ⟨W1, hW1⟩ : ∃ W1, W1 = wr.drewN nq := ⟨_, rfl⟩
     rw [← hW1]
     have hbW1 : Below wr.heap.size wr W1 := by rw [hW1]; exact below_drewN _ _
     clear hW1 nq
     have hrd1 := HRD.out.below hbW1
     clear c0 c1 f1 hbw
     obtain ⟨c0, c1, f1, hbw⟩ := hrd1
     go_wp2_with fail
     go_quiet (fail)
     obtain ⟨W2, hW2⟩ : ∃ W2, W2 = W1.drewN nq := ⟨_, rfl⟩
     rw [← hW2]
     have hbW2 : Below W1.heap.size W1 W2 := by rw [hW2]; exact below_drewN _ _
     clear hW2 nq
     have hbW := bt hbW1 hbW2
     have hrd2 := HRD.out.below hbW
     have HOWN2 := Lib.hid (row_down HOWN.out hbW); have HG2 := Lib.hid (Go.Lib.grownBy_below HG.out hbW)
     have HRD2 := Lib.hid hrd2
     clear c0 c1 f1 hbw hbW1 hbW2 hbW
     obtain ⟨c0, c1, f1, hbw⟩ := hrd2
     go_upto_region 13 with fail
     have hszd : w.heap.size ≤ W2.heap.size := HG2.out.size
     have hal2 : acc.length ≤ 100000 := by omega
     have hdr : Below W2.heap.size W2 (W2.alloc (.cells #[.int .u8 (s[n].toNat : Int)] 5)).drew := Below.drew (ba (Below.refl _ _) _)
     have hownd : World.ownsRow (W2.alloc (.cells #[.int .u8 (s[n].toNat : Int)] 5)).drew w.heap.size 5 1 u4 acc.length (bcells acc) := row_down HOWN2.out hdr
     have HDR := Lib.hid hdr; have HOD := Lib.hid hownd
     have nb : W2.heap.size ≠ b := World.new_ne W2 ⟨b, 0, none⟩ c0
     clear hdr hownd
     go_region_held3 (fun w' => w'.cell? ⟨b, 0, none⟩ = some (.string s) ∧ w'.cell? ⟨b, 1, none⟩ = some (.int .i64 (n : Int))) (first | with_reducible exact ⟨c0, c1⟩ | exact ⟨hrd5.1, hrd5.2.1⟩ | go_keep) ((refine step_append_lies _ (by rfl) _ _ _ (by rfl) w.heap.size 5 i0 (.int .u8 0) 1 1 Tryz.underlying68 HI.out HZ0.out HZ1.out HZ2.out rfl (by omega) u4 acc.length (bcells acc) (by rfl) HOD.out ⟨W2.heap.size, 0, none⟩ 1 1 [.int .u8 (s[n].toNat : Int)] (by rfl) (by rfl) (fun j u h => cell_one_new _ _ _ j u h) (by simp [Value.oneCell']) (by omega) (by unfold maxLen; omega) (by omega) (by simp; omega) (W2.heap.size + 1) (by simp) ?_; intro g cap w1 hown' hgrow _ _; obtain ⟨hrd5, hown5, hg5⟩ := text_put hb HG2.out HRD2.out HOWN2.out HDR.out hgrow hown'))
     all_goals
      have HRD5 := Lib.hid hrd5; have HOWN5 := Lib.hid hown5; have HG5 := Lib.hid hg5
      clear hown' hgrow hown5 hg5 c0 c1 f1 hbw
      obtain ⟨c0, c1, f1, hbw⟩ := hrd5
      go_wp2_with fail
      go_roundw
      case rel => exact ⟨t, acc ++ [s[n]], ⟨n + 1, HRE1.out, HRD5.out.step⟩, World.ownsRow.kept HOWN5.out (Go.Lib.grownBy_setB (World.grownBy.refl w1 (some b)) 1 _) (row_ne HOWN5.out hb), by rw [List.length_append, List.length_singleton]; omega, HEQ.out, Go.Lib.grownBy_setB HG5.out 1 _⟩
      case measure =>
       have h2 := hmeas.out
       have h4 := HRD5.out.step.pos
       have h3 := HRE1.out.1
       simp only [List.length_cons] at h2
       refine Nat.lt_of_le_of_lt (Nat.le_of_eq (congrArg (s.size - ·) h4)) ?_
       omega
end Go.Proofs.YtmkppkjikifdlaaGreatDoor.Tk
