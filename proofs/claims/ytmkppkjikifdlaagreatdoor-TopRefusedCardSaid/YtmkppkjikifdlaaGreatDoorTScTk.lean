/- On the way. -/
import Derived.Test.YtmkppkjikifdlaaGreatDoorTKtA
import Derived.Test.YtmkppkjikifdlaaGreatDoorTTokL
import Derived.Test.YtmkppkjikifdlaaGreatDoorTShelf
import Derived.Lib.BufferOwn
import Derived.Lib.HexFns2
import Derived.Deep.QuietTactic
import Derived.Deep.Cut
import Derived.Deep.RegionHeld3
import Derived.BigQuiet
import Derived.Handy
import Derived.IntWalk
set_option linter.unusedVariables false
set_option linter.unusedSimpArgs false
set_option maxHeartbeats 8000000
set_option maxRecDepth 20000
namespace Go.Proofs.YtmkppkjikifdlaaGreatDoor.Tk2
open Tk
open Go.RowKit
theorem byte_all (p : UInt8 → Prop) (h : ∀ i : Fin 256, p (UInt8.ofNat i.val)) (c : UInt8) : p c := by
 have := h ⟨c.toNat, c.toNat_lt⟩
 rwa [UInt8.ofNat_toNat] at this
def Rdr (w : World) (b : Nat) (s : ByteArray) (n : Nat) : Prop :=
 w.cell? ⟨b, 0, none⟩ = some (.string s) ∧ w.cell? ⟨b, 1, none⟩ = some (.int .i64 (n : Int)) ∧ w.frozen? ⟨b, 1, none⟩ = false ∧ b < w.heap.size
def Rest (s : ByteArray) (n : Nat) (l : List UInt8) : Prop := n + l.length = s.size ∧ s.data.toList.drop n = l
def RdrL (w : World) (b : Nat) (s : ByteArray) (l : List UInt8) : Prop := ∃ n, Rest s n l ∧ Rdr w b s n
theorem Rest.start (s : ByteArray) : Rest s 0 s.data.toList := ⟨by simp, rfl⟩
theorem Rest.nil {s : ByteArray} {n : Nat} (h : Rest s n []) : n = s.size := by have := h.1; simpa using this
theorem Rest.drop {s : ByteArray} {n : Nat} {l : List UInt8} (h : Rest s n l) (k : Nat) (hk : k ≤ l.length) : Rest s (n + k) (l.drop k) := by
 refine ⟨by have := h.1; rw [List.length_drop]; omega, ?_⟩
 rw [← h.2, List.drop_drop]
theorem Rest.cons {s : ByteArray} {n : Nat} {c : UInt8} {r : List UInt8} (h : Rest s n (c :: r)) : ∃ hlt : n < s.size, s[n] = c ∧ Rest s (n + 1) r := by
 have h1 := h.1
 simp only [List.length_cons] at h1
 have hlt : n < s.size := by omega
 have h2 := h.2
 have hl : n < s.data.toList.length := by simpa using hlt
 rw [List.drop_eq_getElem_cons hl] at h2
 obtain ⟨e1, e2⟩ := List.cons.inj h2
 exact ⟨hlt, e1, by omega, e2⟩
theorem Rest.le {s : ByteArray} {n : Nat} {l : List UInt8} (h : Rest s n l) : n ≤ s.size := by have := h.1; omega
theorem Rdr.set {w : World} {b n : Nat} {s : ByteArray} (h : Rdr w b s n) (n' : Nat) : Rdr (w.setCell ⟨b, 1, none⟩ (.int .i64 (n' : Int))) b s n' :=
 ⟨(World.cell?_setCell_other _ _ _ _ (by simp)).trans h.1, World.cell?_setCell_same _ _ _ h.2.1, (World.frozen?_setCell ..).trans h.2.2.1, by have := h.2.2.2; simpa [World.setCell] using this⟩
theorem Rdr.step {w : World} {b n : Nat} {s : ByteArray} (h : Rdr w b s n) : Rdr (w.setCell ⟨b, 1, none⟩ (.int .i64 ((n : Int) + 1))) b s (n + 1) := h.set (n + 1)
theorem Rdr.drew {w : World} {b n : Nat} {s : ByteArray} (h : Rdr w b s n) : Rdr w.drew b s n := ⟨h.1, h.2.1, h.2.2.1, h.2.2.2⟩
theorem Rdr.drewN {w : World} {b n : Nat} {s : ByteArray} (h : Rdr w b s n) (k : Nat) : Rdr (w.drewN k) b s n := ⟨h.1, h.2.1, h.2.2.1, h.2.2.2⟩
theorem Rdr.below {w w' : World} {b n : Nat} {s : ByteArray} (h : Rdr w b s n) (hb : Below w.heap.size w w') : Rdr w' b s n :=
 ⟨moved h.1 hb (Nat.le_refl _), moved h.2.1 hb (Nat.le_refl _), (hb.frozen (p := ⟨b, 1, none⟩) h.2.2.2).trans h.2.2.1, Nat.lt_of_lt_of_le h.2.2.2 hb.size⟩
theorem RdrL.below {w w' : World} {b : Nat} {s : ByteArray} {l : List UInt8} (h : RdrL w b s l) (hb : Below w.heap.size w w') : RdrL w' b s l := by
 obtain ⟨n, h1, h2⟩ := h; exact ⟨n, h1, h2.below hb⟩
theorem below_drewN (w : World) (k : Nat) : Below w.heap.size w (w.drewN k) := ⟨rfl, rfl, rfl, Nat.le_refl _, fun _ _ => rfl⟩
def posAt (w : World) (b : Nat) : Nat := match w.cell? ⟨b, 1, none⟩ with
 | some (.int _ n) => n.toNat
 | _ => 0
theorem Rdr.pos {w : World} {b n : Nat} {s : ByteArray} (h : Rdr w b s n) : posAt w b = n := by unfold posAt; rw [h.2.1]; rfl
def nextL : List UInt8 → UInt8
 | [] => 0
 | c :: _ => c
theorem u8_le (a c : UInt8) : decide (a ≤ c) = decide ((a.toNat : Int) ≤ (c.toNat : Int)) := by
 rw [decide_eq_decide, UInt8.le_iff_toNat_le]; omega
theorem u8_eq (c a : UInt8) : (c == a) = ((c.toNat : Int) == (a.toNat : Int)) := by
 rw [Bool.eq_iff_iff, beq_iff_eq, beq_iff_eq]
 constructor
 ·rintro rfl; rfl
 ·intro h; exact UInt8.toNat_inj.1 (by omega)
theorem letter_any (c : UInt8) (w : World) : Calls Tryz.prog 101 #[.int .u8 (c.toNat : Int)] w fun e w' => e = .returned (.bool (isLet c)) ∧ w = w' := by
 have H : Hid (isLet c = ((decide ((97 : Int) ≤ (c.toNat : Int)) && decide ((c.toNat : Int) ≤ 122)) || (decide ((65 : Int) ≤ (c.toNat : Int)) && decide ((c.toNat : Int) ≤ 90)) || ((c.toNat : Int) == 95))) := by
  unfold Hid isLet
  rw [u8_le, u8_le, u8_le, u8_le, u8_eq]
  rfl
 rw [H.out]
 have hb : (c.toNat : Int) < 256 := by have := c.toNat_lt; omega
 generalize (c.toNat : Int) = x at *
 clear H
 go_enter Tryz.func101, Tryz.ntmps101
 go_wp2
 all_goals
  go_ret
  refine ⟨congrArg (fun b => Ending.returned (Value.bool b)) ?_, rfl⟩
  refine Bool.eq_iff_iff.2 ?_
  first | omega | (simp <;> omega) | simp
theorem digit_any (c : UInt8) (w : World) : Calls Tryz.prog 103 #[.int .u8 (c.toNat : Int)] w fun e w' => e = .returned (.bool (isDig c)) ∧ w = w' := by
 have H : Hid (isDig c = (decide ((48 : Int) ≤ (c.toNat : Int)) && decide ((c.toNat : Int) ≤ 57))) := by
  unfold Hid isDig
  rw [u8_le, u8_le]
  rfl
 rw [H.out]
 have hb : (c.toNat : Int) < 256 := by have := c.toNat_lt; omega
 generalize (c.toNat : Int) = x at *
 clear H
 go_enter Tryz.func103, Tryz.ntmps103
 go_wp2
 all_goals
  go_ret
  refine ⟨congrArg (fun b => Ending.returned (Value.bool b)) ?_, rfl⟩
  refine Bool.eq_iff_iff.2 ?_
  first | omega | (simp <;> omega) | simp
theorem wordB_any (c : UInt8) (w : World) : Calls Tryz.prog 131 #[.int .u8 (c.toNat : Int)] w fun e w' => e = .returned (.bool (isWd c)) ∧ w = w' := by
 cases hl : isLet c with
 | true =>
  have H1 : Hid (∀ w, Calls Tryz.prog 101 #[.int .u8 (c.toNat : Int)] w fun e w' => e = .returned (.bool true) ∧ w = w') := fun w => hl ▸ letter_any c w
  have H : Hid (isWd c = true) := by unfold Hid isWd; rw [hl]; rfl
  clear hl
  go_enter Tryz.func131, Tryz.ntmps131
  go_wp2_with (go_at_call 101; refine (H1.out _).mono ?_; rintro e w' ⟨rfl, rfl⟩)
  go_ret
  exact ⟨by rw [H.out]; rfl, rfl⟩
 | false =>
  have H1 : Hid (∀ w, Calls Tryz.prog 101 #[.int .u8 (c.toNat : Int)] w fun e w' => e = .returned (.bool false) ∧ w = w') := fun w => hl ▸ letter_any c w
  have H2 := Lib.hid (digit_any c)
  have H : Hid (isWd c = isDig c) := by unfold Hid isWd; rw [hl]; rfl
  rw [H.out]
  clear hl H
  generalize isDig c = d at H2 ⊢
  go_enter Tryz.func131, Tryz.ntmps131
  go_wp2_with (first | (go_at_call 101; refine (H1.out _).mono ?_; rintro e w' ⟨rfl, rfl⟩) | (go_at_call 103; refine (H2.out _).mono ?_; rintro e w' ⟨rfl, rfl⟩))
  go_ret
  exact ⟨rfl, rfl⟩
theorem next_any (b n : Nat) (s : ByteArray) (l : List UInt8) (w : World) (_hs : s.size ≤ 4611686018427387904) (hr : Rest s n l) (h : Rdr w b s n) :
    Calls Tryz.prog 97 #[.pointer (some ⟨b, 0, none⟩)] w fun e w' => e = .returned (.int .u8 ((nextL l).toNat : Int)) ∧ ∃ k, w' = w.drewN k := by
 obtain ⟨c0, c1, f1, hb⟩ := h
 cases l with
 | nil =>
  obtain rfl := hr.nil
  clear hr
  go_enter Tryz.func97, Tryz.ntmps97
  go_wp2
  go_quiet (fail)
  go_wp2
  go_ret
  exact ⟨rfl, _, rfl⟩
 | cons c r =>
  obtain ⟨hlt, hc, _⟩ := hr.cons
  have HC := Lib.hid hc
  have h1 : decide ((s.size : Int) ≤ (n : Int)) = false := decide_eq_false (by omega)
  clear hr hc
  go_enter Tryz.func97, Tryz.ntmps97
  go_wp2
  go_quiet (fail)
  go_wp2
  go_quiet (fail)
  go_wp2
  go_ret
  exact ⟨by rw [← HC.out]; rfl, _, World.drewN_drewN _ _ _⟩
theorem span_split (p : UInt8 → Bool) (l : List UInt8) : l.takeWhile p ++ l.dropWhile p = l := List.takeWhile_append_dropWhile
theorem span_slice {s : ByteArray} {n n' : Nat} {l : List UInt8} {p : UInt8 → Bool} (h : Rest s n l) (h' : Rest s n' (l.dropWhile p)) : s.extract n n' = ⟨(l.takeWhile p).toArray⟩ := by
 have hb := span_split p l
 have hl : (l.takeWhile p).length + (l.dropWhile p).length = l.length := by rw [← List.length_append, hb]
 have h1 := h.1; have h2 := h'.1
 rw [Go.Lib.extract_eq, h.2, show n' - n = (l.takeWhile p).length by omega]
 have : l.take (l.takeWhile p).length = l.takeWhile p := by
  have e : (l.takeWhile p ++ l.dropWhile p).take (l.takeWhile p).length = l.takeWhile p := List.take_left
  rw [hb] at e; exact e
 rw [this]
theorem span_le {s : ByteArray} {n n' : Nat} {l : List UInt8} {p : UInt8 → Bool} (h : Rest s n l) (h' : Rest s n' (l.dropWhile p)) : n ≤ n' := by
 have hb := span_split p l
 have hl : (l.takeWhile p).length + (l.dropWhile p).length = l.length := by rw [← List.length_append, hb]
 have h1 := h.1; have h2 := h'.1
 omega
theorem drop_yes {p : UInt8 → Bool} {c : UInt8} (r : List UInt8) (h : p c = true) : (c :: r).dropWhile p = r.dropWhile p := by rw [List.dropWhile_cons, if_pos h]
theorem drop_no {p : UInt8 → Bool} {c : UInt8} (r : List UInt8) (h : p c = false) : (c :: r).dropWhile p = c :: r := by rw [List.dropWhile_cons, if_neg (by rw [h]; exact Bool.false_ne_true)]
theorem span_word (b : Nat) (s : ByteArray) (l : List UInt8) (w : World) (hs : s.size ≤ 4611686018427387904) (h : RdrL w b s l) :
    Calls Tryz.prog 95 #[.pointer (some ⟨b, 0, none⟩), .func (.func 131) #[] #[]] w fun e w' => e = .returned (.string ⟨(l.takeWhile isWd).toArray⟩) ∧ RdrL w' b s (l.dropWhile isWd) ∧ w.grownBy w' (some b) := by
 obtain ⟨n0, hr0, hrd0⟩ := h
 have HR0 := Lib.hid hr0
 have hn0 := hr0.le
 have hrd0' := hrd0
 obtain ⟨c0, c1, f1, hb⟩ := hrd0'
 clear hr0
 go_enter Tryz.func95, Tryz.ntmps95
 go_wp2_with fail
 go_loopw [10] (fun _ wr => ∃ l', RdrL wr b s l' ∧ Hid (l'.dropWhile isWd = l.dropWhile isWd) ∧ w.grownBy wr (some b)) (fun _ wr => s.size - posAt wr b)
 case atStart => exact ⟨l, ⟨n0, HR0.out, hrd0⟩, rfl, World.grownBy.refl _ _⟩
 case round =>
  clear c0 c1 f1 hb
  obtain ⟨l', ⟨n, hr, hrd⟩, hsk, hg⟩ := hrel
  have hpos := Lib.hid hrd.pos
  have hrd' := hrd
  obtain ⟨c0, c1, f1, hb⟩ := hrd'
  cases l' with
  | nil =>
   obtain rfl := hr.nil
   have hr9 : Rest s s.size (l.dropWhile isWd) := by rw [← hsk.out]; exact hr
   have hx := Lib.hid (span_slice HR0.out hr9)
   have h1 : decide ((s.size : Int) < (s.size : Int)) = false := decide_eq_false (by omega)
   clear hr
   have HR9 := Lib.hid hr9; clear hr9
   go_wp2
   go_quiet (fail)
   go_wp2
   go_quiet (fail)
   go_wp2
   go_ret
   exact ⟨congrArg (fun b => Ending.returned (Value.string b)) hx.out, ⟨s.size, HR9.out, (hrd.drewN _).drewN _⟩, Go.Lib.grownBy_below hg (bt (below_drewN _ _) (below_drewN _ _))⟩
  | cons c r =>
   obtain ⟨hlt, hc, hr1⟩ := hr.cons
   have HR := Lib.hid hr; have HR1 := Lib.hid hr1
   have h1 : decide ((n : Int) < (s.size : Int)) = true := decide_eq_true (by omega)
   clear hr hr1
   cases hat : isWd c with
   | true =>
    have HA : Hid (∀ w, Calls Tryz.prog 131 #[.int .u8 (s[n].toNat : Int)] w fun e w' => e = .returned (.bool true) ∧ w' = w) := by
     intro w; rw [hc]
     refine (wordB_any c w).mono ?_
     rintro e w' ⟨rfl, rfl⟩
     exact ⟨by rw [hat], rfl⟩
    have hsk' : Hid (r.dropWhile isWd = l.dropWhile isWd) := by unfold Hid; rw [← hsk.out, drop_yes _ hat]
    clear hsk hc hat
    go_wp2
    go_quiet ((go_at_call 131; exact Calls.quiet_of_same (HA.out _)))
    go_wp2
    go_roundw
    case rel => exact ⟨r, ⟨n + 1, HR1.out, (hrd.drewN _).step⟩, hsk', Go.Lib.grownBy_setB (Go.Lib.grownBy_below hg (below_drewN _ _)) 1 _⟩
    case measure =>
     rw [(hrd.drewN _).step.pos, hpos.out]
     omega
   | false =>
    have HA : Hid (∀ w, Calls Tryz.prog 131 #[.int .u8 (s[n].toNat : Int)] w fun e w' => e = .returned (.bool false) ∧ w' = w) := by
     intro w; rw [hc]
     refine (wordB_any c w).mono ?_
     rintro e w' ⟨rfl, rfl⟩
     exact ⟨by rw [hat], rfl⟩
    have hsk' : Hid (c :: r = l.dropWhile isWd) := by unfold Hid; rw [← hsk.out, drop_no _ hat]
    have hr9 : Rest s n (l.dropWhile isWd) := by rw [← hsk'.out]; exact HR.out
    have hx := Lib.hid (span_slice HR0.out hr9)
    have hle := span_le HR0.out hr9
    have HR9 := Lib.hid hr9
    clear hsk hc hat hr9
    go_wp2
    go_quiet ((go_at_call 131; exact Calls.quiet_of_same (HA.out _)))
    go_wp2
    go_quiet (fail)
    go_wp2
    go_ret
    exact ⟨congrArg (fun b => Ending.returned (Value.string b)) hx.out, ⟨n, HR9.out, (hrd.drewN _).drewN _⟩, Go.Lib.grownBy_below hg (bt (below_drewN _ _) (below_drewN _ _))⟩
theorem word_at (b : Nat) (s : ByteArray) (l : List UInt8) (w : World) (hs : s.size ≤ 4611686018427387904) (h : RdrL w b s l) :
    Calls Tryz.prog 102 #[.pointer (some ⟨b, 0, none⟩)] w fun e w' => e = .returned (.string ⟨(l.takeWhile isWd).toArray⟩) ∧ RdrL w' b s (l.dropWhile isWd) ∧ w.grownBy w' (some b) := by
 have H := Lib.hid (span_word b s l w hs h)
 clear h
 go_enter Tryz.func102, Tryz.ntmps102
 go_wp2_with fail
 refine H.out.mono ?_
 rintro e w' ⟨rfl, h1, h2⟩
 go_wp2
 go_ret
 exact ⟨rfl, h1, h2⟩
theorem has_tri {w : World} {b : Nat} {a0 a1 a2 : Value} (h : Has w b [a0, a1, a2]) : (w.cell? ⟨b, 0, none⟩ = some a0 ∧ w.cell? ⟨b, 1, none⟩ = some a1 ∧ w.cell? ⟨b, 2, none⟩ = some a2) ∧ (w.frozen? ⟨b, 0, none⟩ = false ∧ w.frozen? ⟨b, 1, none⟩ = false ∧ w.frozen? ⟨b, 2, none⟩ = false) :=
 ⟨⟨h.1 0 _ rfl, h.1 1 _ rfl, h.1 2 _ rfl⟩, ⟨h.2.1 0 (by simp), h.2.1 1 (by simp), h.2.1 2 (by simp)⟩⟩
theorem ib_marks (c : UInt8) : decide (0 ≤ Go.Lib.indexByte [123, 125, 40, 41, 91, 93, 59, 44] c) = decide (c ∈ marks) :=
 byte_all (fun c => decide (0 ≤ Go.Lib.indexByte [123, 125, 40, 41, 91, 93, 59, 44] c) = decide (c ∈ marks)) (by decide +kernel) c
theorem hd_let (l : List UInt8) : hdOf isLet l = isLet (nextL l) := by
 cases l with
 | nil => decide
 | cons c t => rfl
theorem ctk3 {k z : Int} {x : List UInt8} (h : k = 3) : checkT ⟨k, x, z⟩ = if z < 0 ∨ 2147483647 < z then 6 else if x = [] then 0 else 3 := if_pos h
theorem ctk12 {k z : Int} {x : List UInt8} (h : k = 1 ∨ k = 2) : checkT ⟨k, x, z⟩ = if hdOf isLet x = true ∧ x.takeWhile isWd = x then (if z = 0 then 0 else 3) else 3 := by
 unfold checkT; rw [if_neg (by show ¬ k = 3; omega), if_pos h]
theorem ctk5 {k z : Int} {x : List UInt8} (h : k = 5) : checkT ⟨k, x, z⟩ = if x.length = 1 ∧ (∀ c ∈ x, c ∈ marks) then (if z = 0 then 0 else 3) else 3 := by
 unfold checkT; rw [if_neg (by show ¬ k = 3; omega), if_neg (by show ¬ (k = 1 ∨ k = 2); omega), if_pos h]
theorem ctk4 {k z : Int} {x : List UInt8} (h : k = 4) : checkT ⟨k, x, z⟩ = if z = 0 then 0 else 3 := by
 unfold checkT; rw [if_neg (by show ¬ k = 3; omega), if_neg (by show ¬ (k = 1 ∨ k = 2); omega), if_neg (by show ¬ k = 5; omega), if_pos h]
theorem ctk0 {k z : Int} {x : List UInt8} (h : ¬ k = 3 ∧ ¬ k = 1 ∧ ¬ k = 2 ∧ ¬ k = 5 ∧ ¬ k = 4) : checkT ⟨k, x, z⟩ = 2 := by
 unfold checkT; rw [if_neg (by show ¬ k = 3; omega), if_neg (by show ¬ (k = 1 ∨ k = 2); omega), if_neg (by show ¬ k = 5; omega), if_neg (by show ¬ k = 4; omega)]
theorem cell_gt {w w' : World} {b c o : Nat} {v : Value} (g : w.grownBy w' (some b)) (h : w.cell? ⟨c, o, none⟩ = some v) (hc : c ≠ b) : w'.cell? ⟨c, o, none⟩ = some v :=
 (World.cell?_of_block (w := w) (a := ⟨c, o, none⟩) (g.block c (World.block_lt_of_cell? _ _ h) (by intro e; exact hc (Option.some.inj e)))).trans h
theorem bgr' {B : Nat} {w wr w1 : World} {b : Nat} (hb : Below B w wr) (g : wr.grownBy w1 (some b)) (hB : B ≤ wr.heap.size) (hR : B ≤ b) : Below B w w1 :=
 ⟨g.os.trans hb.os, g.tape.trans hb.tape, g.output.trans hb.output, Nat.le_trans hb.size g.size, fun k hk => (g.block k (Nat.lt_of_lt_of_le hk hB) (by intro e; have := Option.some.inj e; omega)).trans (hb.block k hk)⟩
theorem quiet_left {P : Program} {f : FuncId} {args : Array Value} {w : World} {n : Nat} {v : Value}
    (h : Calls P f args (w.drewN n) fun e w' => e = .returned v ∧ w.drewN n = w') : Calls P f args (w.drewN n) fun e w'' => e = .returned v ∧ ∃ m, w'' = w.drewN m :=
 h.mono fun _ _ ⟨he, hm⟩ => ⟨he, n, hm.symm⟩
theorem int_bq (a b : Int) (h : a = b) : (a == b) = true := beq_iff_eq.2 h
theorem int_bn (a b : Int) (h : ¬ a = b) : (a == b) = false := beq_eq_false_iff_ne.2 h
theorem check_any (k z : Int) (x : ByteArray) (w : World) (hx0 : k = 1 ∨ k = 2 → x.size ≤ 4611686018427387904) :
    Calls Tryz.prog 73 #[.agg #[.int .i64 k, .string x, .int .i64 z]] w fun e w' => e = .returned (.int .i64 (checkT ⟨k, x.data.toList, z⟩)) ∧ Below w.heap.size w w' := by
 have hA := ba (Below.refl w.heap.size w) (.cells #[.int .i64 k, .string x, .int .i64 z] 147)
 have hxl : x.data.toList.length = x.size := by simp
 by_cases h3 : k = 3
 ·rw [ctk3 h3]
  have q3 := int_bq k 3 h3
  by_cases hz : z < 0
  ·rw [if_pos (.inl hz)]
   clear hxl h3
   go_enter Tryz.func73, Tryz.ntmps73
   go_wp2_with fail
   go_ret
   exact ⟨rfl, hA⟩
  ·by_cases hz2 : 2147483647 < z
   ·rw [if_pos (.inr hz2)]
    clear hxl h3
    go_enter Tryz.func73, Tryz.ntmps73
    go_wp2_with fail
    go_ret
    exact ⟨rfl, hA⟩
   ·rw [if_neg (by omega)]
    by_cases hn : x.data.toList = []
    ·rw [if_pos hn]
     have hn' : x.toList = [] := by rw [ByteArray.toList_eq x]; exact hn
     clear hxl h3
     go_enter Tryz.func73, Tryz.ntmps73
     go_wp2_with fail
     go_ret
     exact ⟨rfl, hA⟩
    ·rw [if_neg hn]
     have hn1 : x.toList.isEmpty = false := by
      cases hq : x.toList with
      | nil => exact absurd (by rw [← ByteArray.toList_eq]; exact hq) hn
      | cons a b => rfl
     have hn2 : (!x.toList.isEmpty) = true := by rw [hn1]; rfl
     clear hxl h3 hn
     go_enter Tryz.func73, Tryz.ntmps73
     go_wp2_with fail
     go_ret
     exact ⟨rfl, hA⟩
 ·have q3 := int_bn k 3 h3
  by_cases h12 : k = 1 ∨ k = 2
  ·have hx := hx0 h12
   rw [ctk12 h12]
   have hA2 := ba hA (.cells #[.string x, .int .i64 0] 144)
   obtain ⟨b, hb⟩ : ∃ b, b = w.heap.size := ⟨_, rfl⟩
   have hT : Has ((w.alloc (.cells #[.int .i64 k, .string x, .int .i64 z] 147)).alloc (.cells #[.string x, .int .i64 0] 144)) w.heap.size [.int .i64 k, .string x, .int .i64 z] := (Has.alloc w _ _).down (ba (Below.refl _ _) _)
   have hC := Has.alloc (w.alloc (.cells #[.int .i64 k, .string x, .int .i64 z] 147)) [.string x, .int .i64 0] 144
   rw [World.size_alloc] at hC
   rw [← hb] at hT hC
   obtain ⟨W2, hW2⟩ : ∃ W2, W2 = (w.alloc (.cells #[.int .i64 k, .string x, .int .i64 z] 147)).alloc (.cells #[.string x, .int .i64 0] 144) := ⟨_, rfl⟩
   have hC' : Has W2 (b + 1) [.string x, .int .i64 0] := by rw [hW2]; exact hC
   have hrd0 : Rdr W2 (b + 1) x 0 := ⟨hC'.two.1, hC'.two.2.1, hC'.two.2.2.2, hC'.2.2⟩
   rw [← hW2] at hT hA2
   obtain ⟨⟨-, t1, t2⟩, -⟩ := has_tri hT
   have HRD := Lib.hid hrd0; have HA2 := Lib.hid hA2; have HW2 := Lib.hid hW2.symm; have HB := Lib.hid hb.symm
   have hxd : x.data.toList = x.data.toList := rfl
   have HN := Lib.hid (fun (w' : World) (h' : Rdr w' (b + 1) x 0) => next_any (b + 1) 0 x x.data.toList w' hx (Rest.start x) h')
   have hwb : w.heap.size ≤ b := by omega
   clear hC hC' hrd0 hA hA2 hW2 hT hb hxd
   cases hl : isLet (nextL x.data.toList) with
   | false =>
    rw [if_neg (by rw [hd_let, hl]; simp)]
    have HL := Lib.hid (fun w => hl ▸ letter_any (nextL x.data.toList) w)
    clear hl
    rcases h12 with rfl | rfl
    all_goals
     go_enter Tryz.func73, Tryz.ntmps73
     go_upto_region 12 with fail
     rw [HB.out, HW2.out]
     go_quiet ((first
      | (go_at_call 97; exact Calls.quiet_of (HN.out _ (HRD.out.drewN _)))
      | (go_at_call 101; exact quiet_left (HL.out _))))
     go_wp2_with fail
     go_ret
     exact ⟨rfl, bt HA2.out (below_drewN _ _)⟩
   | true =>
    have HL := Lib.hid (fun w => hl ▸ letter_any (nextL x.data.toList) w)
    have HWD := Lib.hid (fun (w' : World) (h' : RdrL w' (b + 1) x x.data.toList) => word_at (b + 1) x x.data.toList w' hx h')
    have HX := Lib.hid (ByteArray.toList_eq x)
    obtain ⟨TW, hTW⟩ : ∃ TW : ByteArray, TW = ⟨(x.data.toList.takeWhile isWd).toArray⟩ := ⟨_, rfl⟩
    rw [← hTW] at HWD
    have HTW : Hid (TW.toList = x.data.toList.takeWhile isWd) := by unfold Hid; rw [ByteArray.toList_eq TW, hTW]
    clear hTW
    by_cases htw : x.data.toList.takeWhile isWd = x.data.toList
    ·rw [if_pos ⟨by rw [hd_let, hl], htw⟩]
     have hq : (TW.toList == x.toList) = true := by rw [HTW.out, HX.out, htw]; exact beq_self_eq_true _
     clear hl htw
     by_cases hz0 : z = 0
     ·rw [if_pos hz0]
      have qz : (z != 0) = false := by rw [bne, int_bq z 0 hz0]; rfl
      clear hz0
      rcases h12 with rfl | rfl
      all_goals
       go_enter Tryz.func73, Tryz.ntmps73
       go_upto_region 12 with fail
       rw [HB.out, HW2.out]
       go_region_held3 (fun w' => w'.cell? ⟨b, 1, none⟩ = some (.string x) ∧ w'.cell? ⟨b, 2, none⟩ = some (.int .i64 z)) (first | exact ⟨t1, t2⟩ | exact ⟨e_1, e_2⟩ | go_keep) (first
        | (go_at_call 97; refine (HN.out _ HRD.out.drew).mono ?_; rintro e w5 ⟨rfl, hkk⟩; have hb5 : Below W2.heap.size W2 w5 := (by obtain ⟨k, rfl⟩ := hkk; exact bt (Below.drew (Below.refl _ _)) (below_drewN _ _)); have hr5 := HRD.out.below hb5; have e_1 := moved t1 hb5 (Nat.le_refl _); have e_2 := moved t2 hb5 (Nat.le_refl _); clear hkk)
        | (go_at_call 101; refine (HL.out _).mono ?_; rintro e w' ⟨rfl, rfl⟩)
        | (go_at_call 102; refine (HWD.out _ ⟨0, Rest.start x, hr5⟩).mono ?_; rintro e w6 ⟨rfl, -, hg6⟩; have e_1 := cell_gt hg6 e_1 (by omega); have e_2 := cell_gt hg6 e_2 (by omega)))
       all_goals
        have HE := Lib.hid (bgr' (bt HA2.out hb5) hg6 (bt HA2.out hb5).size (by omega))
        clear hg6 hb5 hr5 t1 t2
        go_wp2_with fail
        go_ret
        exact ⟨rfl, HE.out⟩
     ·rw [if_neg hz0]
      have qz : (z != 0) = true := by rw [bne, int_bn z 0 hz0]; rfl
      clear hz0
      rcases h12 with rfl | rfl
      all_goals
       go_enter Tryz.func73, Tryz.ntmps73
       go_upto_region 12 with fail
       rw [HB.out, HW2.out]
       go_region_held3 (fun w' => w'.cell? ⟨b, 1, none⟩ = some (.string x) ∧ w'.cell? ⟨b, 2, none⟩ = some (.int .i64 z)) (first | exact ⟨t1, t2⟩ | exact ⟨e_1, e_2⟩ | go_keep) (first
        | (go_at_call 97; refine (HN.out _ HRD.out.drew).mono ?_; rintro e w5 ⟨rfl, hkk⟩; have hb5 : Below W2.heap.size W2 w5 := (by obtain ⟨k, rfl⟩ := hkk; exact bt (Below.drew (Below.refl _ _)) (below_drewN _ _)); have hr5 := HRD.out.below hb5; have e_1 := moved t1 hb5 (Nat.le_refl _); have e_2 := moved t2 hb5 (Nat.le_refl _); clear hkk)
        | (go_at_call 101; refine (HL.out _).mono ?_; rintro e w' ⟨rfl, rfl⟩)
        | (go_at_call 102; refine (HWD.out _ ⟨0, Rest.start x, hr5⟩).mono ?_; rintro e w6 ⟨rfl, -, hg6⟩; have e_1 := cell_gt hg6 e_1 (by omega); have e_2 := cell_gt hg6 e_2 (by omega)))
       all_goals
        have HE := Lib.hid (bgr' (bt HA2.out hb5) hg6 (bt HA2.out hb5).size (by omega))
        clear hg6 hb5 hr5 t1 t2
        go_wp2_with fail
        go_ret
        exact ⟨rfl, HE.out⟩
    ·rw [if_neg (fun e => htw e.2)]
     have hq : (TW.toList == x.toList) = false := by rw [HTW.out, HX.out]; exact beq_eq_false_iff_ne.2 htw
     clear hl htw
     rcases h12 with rfl | rfl
     all_goals
      go_enter Tryz.func73, Tryz.ntmps73
      go_upto_region 12 with fail
      rw [HB.out, HW2.out]
      go_region_held3 (fun w' => w'.cell? ⟨b, 1, none⟩ = some (.string x) ∧ w'.cell? ⟨b, 2, none⟩ = some (.int .i64 z)) (first | exact ⟨t1, t2⟩ | exact ⟨e_1, e_2⟩ | go_keep) (first
       | (go_at_call 97; refine (HN.out _ HRD.out.drew).mono ?_; rintro e w5 ⟨rfl, hkk⟩; have hb5 : Below W2.heap.size W2 w5 := (by obtain ⟨k, rfl⟩ := hkk; exact bt (Below.drew (Below.refl _ _)) (below_drewN _ _)); have hr5 := HRD.out.below hb5; have e_1 := moved t1 hb5 (Nat.le_refl _); have e_2 := moved t2 hb5 (Nat.le_refl _); clear hkk)
       | (go_at_call 101; refine (HL.out _).mono ?_; rintro e w' ⟨rfl, rfl⟩)
       | (go_at_call 102; refine (HWD.out _ ⟨0, Rest.start x, hr5⟩).mono ?_; rintro e w6 ⟨rfl, -, hg6⟩; have e_1 := cell_gt hg6 e_1 (by omega); have e_2 := cell_gt hg6 e_2 (by omega)))
      all_goals
       have HE := Lib.hid (bgr' (bt HA2.out hb5) hg6 (bt HA2.out hb5).size (by omega))
       clear hg6 hb5 hr5 t1 t2
       go_wp2_with fail
       go_ret
       exact ⟨rfl, HE.out⟩
  ·have q1 := int_bn k 1 (by omega)
   have q2 := int_bn k 2 (by omega)
   by_cases h5 : k = 5
   ·rw [ctk5 h5]
    have q5 := int_bq k 5 h5
    by_cases h1 : x.size = 1
    ·obtain ⟨c, rfl⟩ : ∃ c, x = ⟨#[c]⟩ := by
      obtain ⟨⟨l⟩⟩ := x
      match l, h1 with
      | [c], _ => exact ⟨c, rfl⟩
     have HCT : Hid (∀ w, Calls Tryz.prog 106 #[.string ⟨#[123, 125, 40, 41, 91, 93, 59, 44]⟩, .string ⟨#[c]⟩] w fun e w' => e = .returned (.bool (decide (c ∈ marks))) ∧ w = w') := by
      intro w
      have := Tryz.strings_Contains_one ⟨#[123, 125, 40, 41, 91, 93, 59, 44]⟩ c w
      refine this.mono ?_
      rintro e w' ⟨rfl, rfl⟩
      exact ⟨by rw [← ib_marks], rfl⟩
     by_cases hm : c ∈ marks
     ·rw [if_pos (by exact ⟨rfl, fun d hd => by obtain rfl := List.mem_singleton.1 hd; exact hm⟩)]
      rw [decide_eq_true hm] at HCT
      clear hxl h3 h12 h5 h1 hm
      by_cases hz0 : z = 0
      ·rw [if_pos hz0]
       have qz : (z != 0) = false := by rw [bne, int_bq z 0 hz0]; rfl
       clear hz0
       go_enter Tryz.func73, Tryz.ntmps73
       go_wp2_with fail
       refine (HCT.out _).mono ?_
       rintro e w' ⟨rfl, rfl⟩
       go_wp2_with fail
       go_ret
       exact ⟨rfl, hA⟩
      ·rw [if_neg hz0]
       have qz : (z != 0) = true := by rw [bne, int_bn z 0 hz0]; rfl
       clear hz0
       go_enter Tryz.func73, Tryz.ntmps73
       go_wp2_with fail
       refine (HCT.out _).mono ?_
       rintro e w' ⟨rfl, rfl⟩
       go_wp2_with fail
       go_ret
       exact ⟨rfl, hA⟩
     ·rw [if_neg (fun e => hm (e.2 c (List.mem_singleton_self _)))]
      rw [decide_eq_false hm] at HCT
      clear hxl h3 h12 h5 h1 hm
      go_enter Tryz.func73, Tryz.ntmps73
      go_wp2_with fail
      refine (HCT.out _).mono ?_
      rintro e w' ⟨rfl, rfl⟩
      go_wp2_with fail
      go_ret
      exact ⟨rfl, hA⟩
    ·rw [if_neg (fun e => h1 (by rw [← hxl]; exact e.1))]
     have qn : ((x.size : Int) != 1) = true := by rw [bne, int_bn _ _ (by omega)]; rfl
     clear hxl h3 h12 h5
     go_enter Tryz.func73, Tryz.ntmps73
     go_wp2_with fail
     go_ret
     exact ⟨rfl, hA⟩
   ·have q5 := int_bn k 5 h5
    by_cases h4 : k = 4
    ·rw [ctk4 h4]
     have q4 := int_bq k 4 h4
     clear hxl h3 h12 h5 h4
     by_cases hz0 : z = 0
     ·rw [if_pos hz0]
      have qz : (z != 0) = false := by rw [bne, int_bq z 0 hz0]; rfl
      clear hz0
      go_enter Tryz.func73, Tryz.ntmps73
      go_wp2_with fail
      go_ret
      exact ⟨rfl, hA⟩
     ·rw [if_neg hz0]
      have qz : (z != 0) = true := by rw [bne, int_bn z 0 hz0]; rfl
      clear hz0
      go_enter Tryz.func73, Tryz.ntmps73
      go_wp2_with fail
      go_ret
      exact ⟨rfl, hA⟩
    ·rw [ctk0 ⟨h3, by omega, by omega, h5, h4⟩]
     have q4 := int_bn k 4 h4
     clear hxl h3 h12 h5 h4
     go_enter Tryz.func73, Tryz.ntmps73
     go_wp2_with fail
     go_ret
     exact ⟨rfl, hA⟩
end Go.Proofs.YtmkppkjikifdlaaGreatDoor.Tk2
