/- On the way. -/
import Derived.Test.YtmkppkjikifdlaaGreatDoorTJgB
import Derived.Lib.BufferOwn
import Derived.Lib.HexFns2
import Derived.Deep.QuietTactic
import Derived.BigQuiet
import Derived.Handy
import Derived.BigRegion
import Derived.StillTailTactics
import Derived.Tactics
import Derived.Tactics2
import Derived.Defers
import Derived.Recover
import Derived.Deep.AppendLies
import Derived.Deep.RegionLaw
import Derived.Deep.RegionHeld3
import Derived.Deep.DeepCutAuto
import Derived.Deep.CutBlock
set_option linter.unusedVariables false
set_option linter.unusedSimpArgs false
set_option maxHeartbeats 8000000
set_option maxRecDepth 20000
namespace Go.Proofs.YtmkppkjikifdlaaGreatDoor
open Go.RowKit
def Rdr (w : World) (b : Nat) (s : ByteArray) (n : Nat) : Prop :=
 w.cell? ⟨b, 0, none⟩ = some (.string s) ∧ w.cell? ⟨b, 1, none⟩ = some (.int .i64 (n : Int)) ∧ w.frozen? ⟨b, 1, none⟩ = false ∧ b < w.heap.size
def Rest (s : ByteArray) (n : Nat) (l : List UInt8) : Prop := n + l.length = s.size ∧ s.data.toList.drop n = l
def RdrL (w : World) (b : Nat) (s : ByteArray) (l : List UInt8) : Prop := ∃ n, Rest s n l ∧ Rdr w b s n
theorem Rest.start (s : ByteArray) : Rest s 0 s.data.toList := ⟨by simp, rfl⟩
theorem Rest.nil {s : ByteArray} {n : Nat} (h : Rest s n []) : n = s.size := by have := h.1; simpa using this
theorem Rest.cons {s : ByteArray} {n : Nat} {c : UInt8} {r : List UInt8} (h : Rest s n (c :: r)) : ∃ hlt : n < s.size, s[n] = c ∧ Rest s (n + 1) r := by
 have h1 := h.1
 simp only [List.length_cons] at h1
 have hlt : n < s.size := by omega
 have h2 := h.2
 have hl : n < s.data.toList.length := by simpa using hlt
 rw [List.drop_eq_getElem_cons hl] at h2
 obtain ⟨e1, e2⟩ := List.cons.inj h2
 exact ⟨hlt, e1, by omega, e2⟩
theorem Rest.le {s : ByteArray} {n : Nat} {l : List UInt8} (h : Rest s n l) : n ≤ s.size := by have := h.1; omega
theorem Rdr.set {w : World} {b n : Nat} {s : ByteArray} (h : Rdr w b s n) (n' : Nat) : Rdr (w.setCell ⟨b, 1, none⟩ (.int .i64 (n' : Int))) b s n' :=
 ⟨(World.cell?_setCell_other _ _ _ _ (by simp)).trans h.1, World.cell?_setCell_same _ _ _ h.2.1, (World.frozen?_setCell ..).trans h.2.2.1, by have := h.2.2.2; simpa [World.setCell] using this⟩
theorem Rdr.step {w : World} {b n : Nat} {s : ByteArray} (h : Rdr w b s n) : Rdr (w.setCell ⟨b, 1, none⟩ (.int .i64 ((n : Int) + 1))) b s (n + 1) := h.set (n + 1)
theorem Rdr.drew {w : World} {b n : Nat} {s : ByteArray} (h : Rdr w b s n) : Rdr w.drew b s n := ⟨h.1, h.2.1, h.2.2.1, h.2.2.2⟩
theorem Rdr.drewN {w : World} {b n : Nat} {s : ByteArray} (h : Rdr w b s n) (k : Nat) : Rdr (w.drewN k) b s n := ⟨h.1, h.2.1, h.2.2.1, h.2.2.2⟩
theorem Rdr.below {w w' : World} {b n : Nat} {s : ByteArray} (h : Rdr w b s n) (hb : Below w.heap.size w w') : Rdr w' b s n :=
 ⟨moved h.1 hb (Nat.le_refl _), moved h.2.1 hb (Nat.le_refl _), (hb.frozen (p := ⟨b, 1, none⟩) h.2.2.2).trans h.2.2.1, Nat.lt_of_lt_of_le h.2.2.2 hb.size⟩
theorem RdrL.below {w w' : World} {b : Nat} {s : ByteArray} {l : List UInt8} (h : RdrL w b s l) (hb : Below w.heap.size w w') : RdrL w' b s l := by
 obtain ⟨n, h1, h2⟩ := h; exact ⟨n, h1, h2.below hb⟩
theorem below_drewN (w : World) (k : Nat) : Below w.heap.size w (w.drewN k) := ⟨rfl, rfl, rfl, Nat.le_refl _, fun _ _ => rfl⟩
def nextL : List UInt8 → UInt8
 | [] => 0
 | c :: _ => c
def isBl (c : UInt8) : Bool := c == 32 || c == 9
def skipL : List UInt8 → List UInt8
 | [] => []
 | c :: l => if isBl c then skipL l else c :: l
theorem must_true (w : World) : Calls Tryz.prog 89 #[.bool true] w fun e w' => e = .returned (.tuple #[]) ∧ w = w' := by
 go_enter Tryz.func89, Tryz.ntmps89
 go_wp2
 go_returns
 exact ⟨rfl, rfl⟩
theorem must_false (w : World) : Calls Tryz.prog 89 #[.bool false] w fun e w' => e = .panicked [{ v := .iface 45 (.int .i64 3), recovered := false }] ∧ w = w' := by
 go_enter Tryz.func89, Tryz.ntmps89
 go_wp2
 exact ⟨rfl, rfl, rfl⟩
theorem next_any (b n : Nat) (s : ByteArray) (l : List UInt8) (w : World) (_hs : s.size ≤ 100000) (hr : Rest s n l) (h : Rdr w b s n) :
    Calls Tryz.prog 90 #[.pointer (some ⟨b, 0, none⟩)] w fun e w' => e = .returned (.int .u8 ((nextL l).toNat : Int)) ∧ Below w.heap.size w w' := by
 obtain ⟨c0, c1, f1, hb⟩ := h
 cases l with
 | nil =>
  obtain rfl := hr.nil
  clear hr
  go_enter Tryz.func90, Tryz.ntmps90
  go_wp2
  go_quiet (fail)
  go_wp2
  go_ret
  exact ⟨rfl, below_drewN w _⟩
 | cons c r =>
  obtain ⟨hlt, hc, _⟩ := hr.cons
  have hne : ((n : Int) == (s.size : Int)) = false := beq_eq_false_iff_ne.2 (by omega)
  have HC := Lib.hid hc
  clear hr hc
  go_enter Tryz.func90, Tryz.ntmps90
  go_wp2
  go_quiet (fail)
  go_wp2
  go_quiet (fail)
  go_wp2
  go_ret
  exact ⟨by rw [← HC.out]; rfl, bt (below_drewN w _) (below_drewN _ _)⟩
def posAt (w : World) (b : Nat) : Nat := match w.cell? ⟨b, 1, none⟩ with
 | some (.int _ n) => n.toNat
 | _ => 0
theorem Rdr.pos {w : World} {b n : Nat} {s : ByteArray} (h : Rdr w b s n) : posAt w b = n := by unfold posAt; rw [h.2.1]; rfl
theorem skip_any (b : Nat) (s : ByteArray) (l : List UInt8) (w : World) (hs : s.size ≤ 100000) (h : RdrL w b s l) :
    Calls Tryz.prog 88 #[.pointer (some ⟨b, 0, none⟩)] w fun e w' => e = .returned (.tuple #[]) ∧ RdrL w' b s (skipL l) ∧ w.grownBy w' (some b) := by
 go_enter Tryz.func88, Tryz.ntmps88
 go_wp2_with fail
 go_loopw [2] (fun _ wr => ∃ l', RdrL wr b s l' ∧ Hid (skipL l' = skipL l) ∧ w.grownBy wr (some b)) (fun _ wr => s.size - posAt wr b)
 case atStart => exact ⟨l, h, rfl, World.grownBy.refl _ _⟩
 case round =>
  obtain ⟨l', ⟨n, hr, hrd⟩, hsk, hg⟩ := hrel
  have hpos := Lib.hid hrd.pos
  have hrd' := hrd
  obtain ⟨c0, c1, f1, hb⟩ := hrd'
  cases l' with
  | nil =>
   obtain rfl := hr.nil
   have HR := Lib.hid hr; clear hr
   go_wp2
   go_quiet (fail)
   go_wp2
   go_returns
   exact ⟨rfl, by rw [← hsk.out]; exact ⟨s.size, HR.out, hrd.drewN _⟩, Go.Lib.grownBy_below hg (below_drewN _ _)⟩
  | cons c r =>
   obtain ⟨hlt, hc, hr1⟩ := hr.cons
   have HR := Lib.hid hr; have HR1 := Lib.hid hr1
   clear hr hr1
   by_cases h32 : c = 32
   ·subst h32
    have hsk' : Hid (skipL r = skipL l) := by unfold Hid; rw [← hsk.out, skipL, if_pos (by decide)]
    have e1 : ((s[n].toNat : Int) == 32) = true := by rw [hc]; rfl
    clear hsk hc
    go_wp2
    go_quiet (fail)
    go_wp2
    go_roundw
    case rel => exact ⟨r, ⟨n + 1, HR1.out, (hrd.drewN _).step⟩, hsk', Go.Lib.grownBy_setB (Go.Lib.grownBy_below hg (below_drewN _ _)) 1 _⟩
    case measure =>
     rw [(hrd.drewN _).step.pos, hpos.out]
     omega
   ·have e1 : ((s[n].toNat : Int) == 32) = false := beq_eq_false_iff_ne.2 (fun e => h32 (UInt8.toNat_inj.1 (by rw [← hc]; exact Int.ofNat_inj.1 e)))
    by_cases h9 : c = 9
    ·subst h9
     have hsk' : Hid (skipL r = skipL l) := by unfold Hid; rw [← hsk.out, skipL, if_pos (by decide)]
     have e2 : ((s[n].toNat : Int) == 9) = true := by rw [hc]; rfl
     clear hsk hc h32
     go_wp2
     go_quiet (fail)
     go_wp2
     go_roundw
     case rel => exact ⟨r, ⟨n + 1, HR1.out, (hrd.drewN _).step⟩, hsk', Go.Lib.grownBy_setB (Go.Lib.grownBy_below hg (below_drewN _ _)) 1 _⟩
     case measure =>
      rw [(hrd.drewN _).step.pos, hpos.out]
      omega
    ·have hsk' : Hid (skipL (c :: r) = c :: r) := by
      unfold Hid
      rw [skipL, if_neg (by unfold isBl; simp [h32, h9])]
     have e2 : ((s[n].toNat : Int) == 9) = false := beq_eq_false_iff_ne.2 (fun e => h9 (UInt8.toNat_inj.1 (by rw [← hc]; exact Int.ofNat_inj.1 e)))
     clear hc h32 h9
     go_wp2
     go_quiet (fail)
     go_wp2
     go_returns
     exact ⟨rfl, by rw [← hsk.out, hsk'.out]; exact ⟨n, HR.out, hrd.drewN _⟩, Go.Lib.grownBy_below hg (below_drewN _ _)⟩
def isRn (c : UInt8) : Bool := isAtom c || c == 46
def runT : List UInt8 → List UInt8
 | [] => []
 | c :: l => if isRn c then c :: runT l else []
def runR : List UInt8 → List UInt8
 | [] => []
 | c :: l => if isRn c then runR l else c :: l
theorem run_both : ∀ l : List UInt8, runT l ++ runR l = l
 | [] => rfl
 | c :: l => by
  unfold runT runR
  split
  ·rw [List.cons_append, run_both l]
  ·rfl
theorem run_slice {s : ByteArray} {n n' : Nat} {l : List UInt8} (h : Rest s n l) (h' : Rest s n' (runR l)) : s.extract n n' = ⟨(runT l).toArray⟩ := by
 have hb := run_both l
 have hl : (runT l).length + (runR l).length = l.length := by rw [← List.length_append, hb]
 have h1 := h.1; have h2 := h'.1
 rw [Go.Lib.extract_eq, h.2, show n' - n = (runT l).length by omega]
 have : l.take (runT l).length = runT l := by
  have e : (runT l ++ runR l).take (runT l).length = runT l := List.take_left
  rw [hb] at e; exact e
 rw [this]
theorem run_le {s : ByteArray} {n n' : Nat} {l : List UInt8} (h : Rest s n l) (h' : Rest s n' (runR l)) : n ≤ n' := by
 have hb := run_both l
 have hl : (runT l).length + (runR l).length = l.length := by rw [← List.length_append, hb]
 have h1 := h.1; have h2 := h'.1
 omega
theorem atom_at (c : UInt8) (t : Bool) (h : isAtom c = t) (w : World) : Calls Tryz.prog 70 #[.int .u8 (c.toNat : Int)] w fun e w' => e = .returned (.bool t) ∧ w' = w := by
 refine (atom_any c w).mono ?_
 rintro e w' ⟨rfl, rfl⟩
 exact ⟨by rw [h], rfl⟩
theorem run_any (b : Nat) (s : ByteArray) (l : List UInt8) (w : World) (hs : s.size ≤ 100000) (h : RdrL w b s l) :
    Calls Tryz.prog 125 #[.pointer (some ⟨b, 0, none⟩)] w fun e w' => e = .returned (.string ⟨(runT l).toArray⟩) ∧ RdrL w' b s (runR l) ∧ w.grownBy w' (some b) := by
 obtain ⟨n0, hr0, hrd0⟩ := h
 have HR0 := Lib.hid hr0
 have hn0 := hr0.le
 have hrd0' := hrd0
 obtain ⟨c0, c1, f1, hb⟩ := hrd0'
 clear hr0
 go_enter Tryz.func125, Tryz.ntmps125
 go_wp2_with fail
 go_loopw [8] (fun _ wr => ∃ l', RdrL wr b s l' ∧ Hid (runR l' = runR l) ∧ w.grownBy wr (some b)) (fun _ wr => s.size - posAt wr b)
 case atStart => exact ⟨l, ⟨n0, HR0.out, hrd0⟩, rfl, World.grownBy.refl _ _⟩
 case round =>
  clear c0 c1 f1 hb
  obtain ⟨l', ⟨n, hr, hrd⟩, hsk, hg⟩ := hrel
  have hpos := Lib.hid hrd.pos
  have hrd' := hrd
  obtain ⟨c0, c1, f1, hb⟩ := hrd'
  cases l' with
  | nil =>
   obtain rfl := hr.nil
   have hr9 : Rest s s.size (runR l) := by rw [← hsk.out]; exact hr
   have hx := Lib.hid (run_slice HR0.out hr9)
   clear hr
   have HR9 := Lib.hid hr9; clear hr9
   go_wp2
   go_quiet (fail)
   go_wp2
   go_quiet (fail)
   go_wp2
   go_ret
   exact ⟨congrArg (fun b => Ending.returned (Value.string b)) hx.out, ⟨s.size, HR9.out, (hrd.drewN _).drewN _⟩, Go.Lib.grownBy_below (Go.Lib.grownBy_below hg (below_drewN _ _)) (below_drewN _ _)⟩
  | cons c r =>
   obtain ⟨hlt, hc, hr1⟩ := hr.cons
   have HR := Lib.hid hr; have HR1 := Lib.hid hr1
   clear hr hr1
   cases hat : isAtom c with
   | true =>
    have HA : Hid (∀ w, Calls Tryz.prog 70 #[.int .u8 (s[n].toNat : Int)] w fun e w' => e = .returned (.bool true) ∧ w' = w) := by intro w; rw [hc]; exact atom_at c true hat w
    have hsk' : Hid (runR r = runR l) := by unfold Hid; rw [← hsk.out]; show _ = if isRn c then runR r else c :: r; rw [if_pos (by unfold isRn; rw [hat]; rfl)]
    clear hsk hc hat
    go_wp2
    go_quiet ((go_at_call 70; exact Calls.quiet_of_same (HA.out _)))
    go_wp2
    go_roundw
    case rel => exact ⟨r, ⟨n + 1, HR1.out, (hrd.drewN _).step⟩, hsk', Go.Lib.grownBy_setB (Go.Lib.grownBy_below hg (below_drewN _ _)) 1 _⟩
    case measure =>
     rw [(hrd.drewN _).step.pos, hpos.out]
     omega
   | false =>
    have HA : Hid (∀ w, Calls Tryz.prog 70 #[.int .u8 (s[n].toNat : Int)] w fun e w' => e = .returned (.bool false) ∧ w' = w) := by intro w; rw [hc]; exact atom_at c false hat w
    by_cases h46 : c = 46
    ·have hsk' : Hid (runR r = runR l) := by unfold Hid; rw [← hsk.out]; show _ = if isRn c then runR r else c :: r; rw [if_pos (by unfold isRn; rw [h46]; rfl)]
     have e1 : ((s[n].toNat : Int) == 46) = true := by rw [hc, h46]; rfl
     clear hsk hc hat h46
     go_wp2
     go_quiet ((go_at_call 70; exact Calls.quiet_of_same (HA.out _)))
     go_wp2
     go_roundw
     case rel => exact ⟨r, ⟨n + 1, HR1.out, (hrd.drewN _).step⟩, hsk', Go.Lib.grownBy_setB (Go.Lib.grownBy_below hg (below_drewN _ _)) 1 _⟩
     case measure =>
      rw [(hrd.drewN _).step.pos, hpos.out]
      omega
    ·have hsk' : Hid (runR (c :: r) = c :: r) := by show (if isRn c then runR r else c :: r) = _; rw [if_neg (by unfold isRn; rw [hat]; simpa using h46)]
     have e1 : ((s[n].toNat : Int) == 46) = false := beq_eq_false_iff_ne.2 (fun e => h46 (UInt8.toNat_inj.1 (by rw [← hc]; exact Int.ofNat_inj.1 e)))
     have hr9 : Rest s n (runR l) := by rw [← hsk.out, hsk'.out]; exact HR.out
     have hx := Lib.hid (run_slice HR0.out hr9)
     have hle := run_le HR0.out hr9
     have HR9 := Lib.hid hr9; clear hr9
     clear hc hat h46
     go_wp2
     go_quiet ((go_at_call 70; exact Calls.quiet_of_same (HA.out _)))
     go_wp2
     go_quiet (fail)
     go_wp2
     go_ret
     exact ⟨congrArg (fun b => Ending.returned (Value.string b)) hx.out, ⟨n, HR9.out, (hrd.drewN _).drewN _⟩, Go.Lib.grownBy_below (Go.Lib.grownBy_below hg (below_drewN _ _)) (below_drewN _ _)⟩
def quotL : List UInt8 → Option (List UInt8)
 | [] => none
 | c :: l => if c = 34 then some l else if c = 92 then (match l with | [] => none | _ :: r => quotL r) else quotL l
theorem quotL_34 (c : UInt8) (l : List UInt8) (h : c = 34) : quotL (c :: l) = some l := by rw [quotL.eq_def]; simp only [if_pos h]
theorem quotL_92n (c : UInt8) (h : c = 92) : quotL [c] = none := by subst h; rfl
theorem quotL_92 (c d : UInt8) (l : List UInt8) (h : c = 92) : quotL (c :: d :: l) = quotL l := by
 subst h
 rw [quotL.eq_def]; simp only [if_neg (show ¬ (92 : UInt8) = 34 by decide), if_true]
theorem quotL_else (c : UInt8) (l : List UInt8) (h : c ≠ 34) (h2 : c ≠ 92) : quotL (c :: l) = quotL l := by rw [quotL.eq_def]; simp only [if_neg h, if_neg h2]
theorem meas {w w' : World} {b n n' k : Nat} (h : posAt w' b = n') (h2 : posAt w b = n) (h3 : n < n') (h4 : n < k) : k - posAt w' b < k - posAt w b := by rw [h, h2]; omega
def Out (b : Nat) (w : World) (e : Ending) (w' : World) : Prop := e = .panicked [{ v := .iface 45 (.int .i64 3), recovered := false }] ∧ w.grownBy w' (some b)
theorem nextL_ne (c : UInt8) (l : List UInt8) (d : UInt8) (h : c ≠ d) (z : Int) (hz : z = (d.toNat : Int)) : (((nextL (c :: l)).toNat : Int) == z) = false :=
 beq_eq_false_iff_ne.2 (fun e => h (UInt8.toNat_inj.1 (by rw [hz] at e; exact Int.ofNat_inj.1 e)))
theorem nextL_eq (c : UInt8) (l : List UInt8) (d : UInt8) (h : c = d) (z : Int) (hz : z = (d.toNat : Int)) : (((nextL (c :: l)).toNat : Int) == z) = true := by
 subst h; subst hz; exact beq_self_eq_true _
theorem quoted_any (b : Nat) (s : ByteArray) (c0 : UInt8) (l : List UInt8) (w : World) (hs : s.size ≤ 100000) (h : RdrL w b s (c0 :: l)) :
    Calls Tryz.prog 123 #[.pointer (some ⟨b, 0, none⟩)] w fun e w' => (∃ r, quotL l = some r ∧ e = .returned (.tuple #[]) ∧ RdrL w' b s r ∧ w.grownBy w' (some b)) ∨ (quotL l = none ∧ Out b w e w') := by
 obtain ⟨n0, hr0, hrd0⟩ := h
 obtain ⟨hlt0, _, hr1⟩ := hr0.cons
 have HR1 := Lib.hid hr1; clear hr0 hr1
 have HN : Hid (∀ n l w, Rest s n l → Rdr w b s n → Calls Tryz.prog 90 #[.pointer (some ⟨b, 0, none⟩)] w fun e w' => e = .returned (.int .u8 ((nextL l).toNat : Int)) ∧ Below w.heap.size w w') := fun n l w h1 h2 => next_any b n s l w hs h1 h2
 have hrd0' := hrd0
 obtain ⟨d0, d1, g1, hb0⟩ := hrd0'
 go_enter Tryz.func123, Tryz.ntmps123
 go_wp2_with fail
 go_loopw [9] (fun _ wr => ∃ l', RdrL wr b s l' ∧ Hid (quotL l' = quotL l) ∧ w.grownBy wr (some b)) (fun _ wr => s.size - posAt wr b)
 case atStart => exact ⟨l, ⟨n0 + 1, HR1.out, hrd0.step⟩, rfl, Go.Lib.grownBy_setB (World.grownBy.refl _ _) 1 _⟩
 case round =>
  clear d0 d1 g1 hb0
  obtain ⟨l', ⟨n, hr, hrd⟩, hsk, hg⟩ := hrel
  have hpos := Lib.hid hrd.pos
  have HR := Lib.hid hr; clear hr
  cases l' with
  | nil =>
   have e1 : (((nextL []).toNat : Int) == 34) = false := rfl
   have e2 : (((nextL []).toNat : Int) == 92) = false := rfl
   have hn : n = s.size := HR.out.nil
   go_wp2_with fail
   refine (HN.out n [] _ HR.out hrd).mono ?_
   rintro e w1 ⟨rfl, hb1⟩
   have hrd1 := hrd.below hb1
   go_wp2_with fail
   refine (HN.out n [] _ HR.out hrd1).mono ?_
   rintro e w2 ⟨rfl, hb2⟩
   have hrd2 := hrd1.below hb2
   have hg2 := Go.Lib.grownBy_below (Go.Lib.grownBy_below hg hb1) hb2
   have hdd : decide (n < s.size) = false := decide_eq_false (by omega)
   have hrd3 := hrd2
   obtain ⟨d0, d1, g1, hb0⟩ := hrd3
   clear e1 e2 hb1 hb2 hrd1 hrd
   go_wp2_with fail
   go_still_tail 10, (by kernel_rfl)
   change wpList _ _ _ _ _ w2.drew
   go_wp2_with fail
   refine (must_false _).mono ?_
   rintro e w3 ⟨rfl, rfl⟩
   go_wp2
   exact ⟨rfl, .inr ⟨by rw [← hsk.out]; rfl, rfl, Go.Lib.grownBy_below hg2 (Below.drew (Below.refl _ _))⟩⟩
  | cons c r =>
   obtain ⟨hlt, _, hr1⟩ := HR.out.cons
   have HR1 := Lib.hid hr1; clear hr1
   by_cases h34 : c = 34
   ·have e1 := nextL_eq c r 34 h34 34 rfl
    have hq : Hid (quotL l = some r) := by unfold Hid; rw [← hsk.out, quotL_34 c r h34]
    clear h34
    go_wp2_with fail
    refine (HN.out n (c :: r) _ HR.out hrd).mono ?_
    rintro e w1 ⟨rfl, hb1⟩
    have hrd1 := hrd.below hb1
    have hg1 := Go.Lib.grownBy_below hg hb1
    have hrd3 := hrd1
    obtain ⟨d0, d1, g1, hb0⟩ := hrd3
    go_wp2_with fail
    go_returns
    exact .inl ⟨r, hq.out, rfl, ⟨n + 1, HR1.out, hrd1.step⟩, Go.Lib.grownBy_setB hg1 1 _⟩
   ·have e1 := nextL_ne c r 34 h34 34 rfl
    by_cases h92 : c = 92
    ·have e2 := nextL_eq c r 92 h92 92 rfl
     have H92 := Lib.hid h92
     clear h34 h92
     go_wp2_with fail
     refine (HN.out n (c :: r) _ HR.out hrd).mono ?_
     rintro e w1 ⟨rfl, hb1⟩
     have hrd1 := hrd.below hb1
     go_wp2_with fail
     refine (HN.out n (c :: r) _ HR.out hrd1).mono ?_
     rintro e w2 ⟨rfl, hb2⟩
     have hrd2 := hrd1.below hb2
     have hg2 := Go.Lib.grownBy_below (Go.Lib.grownBy_below hg hb1) hb2
     clear hb1 hb2 hrd1 hrd
     have hrd5 := hrd2.step
     have hg5 := Go.Lib.grownBy_setB hg2 1 (.int .i64 ((n : Int) + 1))
     have hrd3 := hrd2
     obtain ⟨d0, d1, g1, hb0⟩ := hrd3
     have hrd6 := hrd5
     obtain ⟨k0, k1, i1, ib0⟩ := hrd6
     cases r with
     | nil =>
      have hn : n + 1 = s.size := HR1.out.nil
      have hdd : decide ((n : Int) + 1 < (s.size : Int)) = false := decide_eq_false (by omega)
      have hq : Hid (quotL l = none) := by unfold Hid; rw [← hsk.out, quotL_92n c H92.out]
      go_wp2_with fail
      obtain ⟨w3, hw3⟩ : ∃ w3, w3 = w2.setCell ⟨b, 1, none⟩ (.int .i64 ((n : Int) + 1)) := ⟨_, rfl⟩
      rw [← hw3] at k0 k1 i1 ib0 hg5 ⊢
      clear hw3 d0 d1 g1 hb0
      go_still_tail 10, (by kernel_rfl)
      change wpList _ _ _ _ _ w3.drew
      go_wp2_with fail
      refine (must_false _).mono ?_
      rintro e w4 ⟨rfl, rfl⟩
      go_wp2
      exact ⟨rfl, .inr ⟨hq.out, rfl, Go.Lib.grownBy_below hg5 (Below.drew (Below.refl _ _))⟩⟩
     | cons d r2 =>
      obtain ⟨hlt2, _, hr2⟩ := HR1.out.cons
      have HR2 := Lib.hid hr2; clear hr2
      have hq : Hid (quotL r2 = quotL l) := by unfold Hid; rw [← hsk.out, quotL_92 c d r2 H92.out]
      have hdd : decide ((n : Int) + 1 < (s.size : Int)) = true := decide_eq_true (by omega)
      go_wp2_with fail
      go_quiet ((go_at_call 89; exact Calls.quiet_of_same ((must_true _).mono (by rintro e w ⟨rfl, rfl⟩; exact ⟨rfl, rfl⟩))))
      go_wp2_with fail
      go_roundw
      case rel => exact ⟨r2, ⟨n + 2, HR2.out, (hrd5.drewN _).step⟩, hq, Go.Lib.grownBy_setB (Go.Lib.grownBy_below hg5 (below_drewN _ _)) 1 _⟩
      case measure => exact meas ((hrd5.drewN _).set (n + 2)).pos hpos.out (by omega) (by omega)
    ·have e2 := nextL_ne c r 92 h92 92 rfl
     have hq : Hid (quotL r = quotL l) := by unfold Hid; rw [← hsk.out, quotL_else c r h34 h92]
     clear h34 h92
     go_wp2_with fail
     refine (HN.out n (c :: r) _ HR.out hrd).mono ?_
     rintro e w1 ⟨rfl, hb1⟩
     have hrd1 := hrd.below hb1
     go_wp2_with fail
     refine (HN.out n (c :: r) _ HR.out hrd1).mono ?_
     rintro e w2 ⟨rfl, hb2⟩
     have hrd2 := hrd1.below hb2
     have hg2 := Go.Lib.grownBy_below (Go.Lib.grownBy_below hg hb1) hb2
     clear hb1 hb2 hrd1 hrd
     have hrd3 := hrd2
     obtain ⟨d0, d1, g1, hb0⟩ := hrd3
     have hdd : decide (n < s.size) = true := decide_eq_true hlt
     go_wp2_with fail
     go_quiet ((go_at_call 89; exact Calls.quiet_of_same ((must_true _).mono (by rintro e w ⟨rfl, rfl⟩; exact ⟨rfl, rfl⟩))))
     go_wp2_with fail
     go_roundw
     case rel => exact ⟨r, ⟨n + 1, HR1.out, (hrd2.drewN _).step⟩, hq, Go.Lib.grownBy_setB (Go.Lib.grownBy_below hg2 (below_drewN _ _)) 1 _⟩
     case measure =>
      rw [(hrd2.drewN _).step.pos, hpos.out]
      omega
theorem block_kept {w w' : World} {b k : Nat} (h : w.grownBy w' (some b)) (hne : k ≠ b) (hk : k < w.heap.size) : w'.heap[k]? = w.heap[k]? := h.block k hk (by intro e; exact hne (Option.some.inj e))
theorem cell_kept {w w' : World} {b k o : Nat} {v : Value} (hc : w.cell? ⟨k, o, none⟩ = some v) (h : w.grownBy w' (some b)) (hne : k ≠ b) : w'.cell? ⟨k, o, none⟩ = some v :=
 (World.cell?_of_block (w := w) (a := ⟨k, o, none⟩) (block_kept h hne (World.block_lt_of_cell? _ _ hc))).trans hc
theorem Two.grown {w w' : World} {b R : Nat} {x y : ByteArray} (t : Two w R x y) (h : w.grownBy w' (some b)) (hne : R ≠ b) : Two w' R x y :=
 ⟨cell_kept t.1 h hne, cell_kept t.2.1 h hne, (World.frozen?_of_block (w := w) (a := ⟨R, 0, none⟩) (block_kept h hne t.2.2.2.2)).trans t.2.2.1, (World.frozen?_of_block (w := w) (a := ⟨R, 1, none⟩) (block_kept h hne t.2.2.2.2)).trans t.2.2.2.1, Nat.lt_of_lt_of_le t.2.2.2.2 h.size⟩
theorem grownBy_setNew {w w' : World} {row : Option Nat} (h : w.grownBy w' row) {R : Nat} (hR : w.heap.size ≤ R) (i : Nat) (v : Value) : w.grownBy (w'.setCell ⟨R, i, none⟩ v) row :=
 ⟨h.os, h.tape, h.output, by have := h.size; simpa [World.setCell] using this, fun k hk hne => (Below.heap_setCell _ _ _ _ (by show k ≠ R; omega)).trans (h.block k hk hne)⟩
theorem Rdr.else0 {w : World} {b n R : Nat} {s : ByteArray} (h : Rdr w b s n) (hne : R ≠ b) (i : Nat) (v : Value) : Rdr (w.setCell ⟨R, i, none⟩ v) b s n :=
 ⟨(World.cell?_setCell_other _ _ _ _ (by intro e; exact hne (congrArg Addr.block e))).trans h.1, (World.cell?_setCell_other _ _ _ _ (by intro e; exact hne (congrArg Addr.block e))).trans h.2.1, (World.frozen?_setCell ..).trans h.2.2.1, by have := h.2.2.2; simpa [World.setCell] using this⟩
theorem RdrL.else0 {w : World} {b R : Nat} {s : ByteArray} {l : List UInt8} (h : RdrL w b s l) (hne : R ≠ b) (i : Nat) (v : Value) : RdrL (w.setCell ⟨R, i, none⟩ v) b s l := by
 obtain ⟨n, h1, h2⟩ := h; exact ⟨n, h1, h2.else0 hne i v⟩
def bareL (loc : List UInt8) : List UInt8 → Option (List UInt8 × List UInt8)
 | [] => none
 | c :: r => if c = 64 then (if chk loc (runT r) = 0 then some (runT r, runR r) else none) else none
theorem runT_le (l : List UInt8) : (runT l).length ≤ l.length := by
 have := congrArg List.length (run_both l); rw [List.length_append] at this; omega
theorem bare_any (b : Nat) (s : ByteArray) (loc l : List UInt8) (m : Int) (w : World) (hs : s.size ≤ 100000) (hl : loc.length ≤ 100000) (hb : b ≠ 2) (hm : w.cell? ⟨2, 0, none⟩ = some (.int .i64 m)) (h : RdrL w b s l) :
    Calls Tryz.prog 124 #[.pointer (some ⟨b, 0, none⟩), .string ⟨loc.toArray⟩] w fun e w' => (∃ d r, bareL loc l = some (d, r) ∧ e = .returned (.agg #[.string ⟨loc.toArray⟩, .string ⟨d.toArray⟩]) ∧ RdrL w' b s r ∧ w.grownBy w' (some b)) ∨ (bareL loc l = none ∧ Out b w e w') := by
 have HN : Hid (∀ n l w, Rest s n l → Rdr w b s n → Calls Tryz.prog 90 #[.pointer (some ⟨b, 0, none⟩)] w fun e w' => e = .returned (.int .u8 ((nextL l).toNat : Int)) ∧ Below w.heap.size w w') := fun n l w h1 h2 => next_any b n s l w hs h1 h2
 have HRun : Hid (∀ l w, RdrL w b s l → Calls Tryz.prog 125 #[.pointer (some ⟨b, 0, none⟩)] w fun e w' => e = .returned (.string ⟨(runT l).toArray⟩) ∧ RdrL w' b s (runR l) ∧ w.grownBy w' (some b)) := fun l w h => run_any b s l w hs h
 obtain ⟨X, hX⟩ : ∃ X : ByteArray, X = ⟨loc.toArray⟩ := ⟨_, rfl⟩
 have hXl : X.data.toList = loc := by rw [hX]
 have hXs : X.size ≤ 100000 := by rw [hX]; exact hl
 have HC : Hid (∀ d : List UInt8, d.length ≤ 100000 → ∀ w, w.cell? ⟨2, 0, none⟩ = some (.int .i64 m) → Calls Tryz.prog 29 #[.agg #[.string X, .string ⟨d.toArray⟩]] w fun e w' => e = .returned (.int .i64 (chk loc d)) ∧ Below w.heap.size w w') := by
  intro d hd w h
  have := check_any X ⟨d.toArray⟩ m w (by omega) (by show d.length ≤ 1000000; omega) h
  rw [hXl] at this
  exact this
 rw [← hX]
 clear hX hXl
 obtain ⟨n, hr, hrd⟩ := h
 have HR := Lib.hid hr; clear hr
 have hrdR := hrd.below (ba (Below.refl _ w) (.cells #[.string ⟨#[]⟩, .string ⟨#[]⟩] 73))
 have tR := Two.alloc w ⟨#[]⟩ ⟨#[]⟩ 73
 have hg0 : w.grownBy (w.alloc (.cells #[.string ⟨#[]⟩, .string ⟨#[]⟩] 73)) (some b) := Go.Lib.grownBy_allocR (World.grownBy.refl _ _) _
 have hbR : w.heap.size ≠ b := by have := hrd.2.2.2; omega
 obtain ⟨R, hRe⟩ : ∃ R, R = w.heap.size := ⟨_, rfl⟩
 obtain ⟨w0, hw0⟩ : ∃ w0, w0 = w.alloc (.cells #[.string ⟨#[]⟩, .string ⟨#[]⟩] 73) := ⟨_, rfl⟩
 rw [← hw0] at hrdR tR hg0
 rw [← hRe] at tR hbR
 have HM := Lib.hid hm
 have HW0 := Lib.hid hw0; have HRe := Lib.hid hRe
 clear hm hw0 hRe
 go_enter Tryz.func124, Tryz.ntmps124
 go_wp2_with fail
 rw [show w.alloc (.cells #[.string ⟨#[]⟩, .string ⟨#[]⟩] 73) = w0 from HW0.out.symm, show w.heap.size = R from HRe.out.symm]
 refine (HN.out n l _ HR.out hrdR).mono ?_
 rintro e w1 ⟨rfl, hb1⟩
 have hrd1 := hrdR.below hb1
 have t1 := tR.below hb1 (Nat.le_refl _)
 have hg1 := Go.Lib.grownBy_below hg0 hb1
 clear hrdR tR hg0 hb1 hrd
 have hfail : l = [] ∨ (∃ c r, l = c :: r ∧ c ≠ 64) ∨ ∃ r, l = 64 :: r := by
  cases l with
  | nil => exact .inl rfl
  | cons c r => by_cases hc : c = 64
                ·exact .inr (.inr ⟨r, by rw [hc]⟩)
                ·exact .inr (.inl ⟨c, r, rfl, hc⟩)
 rcases hfail with rfl | ⟨c, r, rfl, hc⟩ | ⟨r, rfl⟩
 ·have e1 : (((nextL []).toNat : Int) == 64) = false := rfl
  go_wp2_with fail
  refine (must_false _).mono ?_
  rintro e w2 ⟨rfl, rfl⟩
  go_wp2
  exact ⟨rfl, .inr ⟨rfl, rfl, hg1⟩⟩
 ·have e1 := nextL_ne c r 64 hc 64 rfl
  have hq : Hid (bareL loc (c :: r) = none) := by show (if c = 64 then (if chk loc (runT r) = 0 then some (runT r, runR r) else none) else none) = none; rw [if_neg hc]
  clear hc
  go_wp2_with fail
  refine (must_false _).mono ?_
  rintro e w2 ⟨rfl, rfl⟩
  go_wp2
  exact ⟨rfl, .inr ⟨hq.out, rfl, hg1⟩⟩
 ·have e1 := nextL_eq 64 r 64 rfl 64 rfl
  obtain ⟨hlt, _, hr1⟩ := HR.out.cons
  have HR1 := Lib.hid hr1; clear hr1
  have hrlen : r.length ≤ 100000 := by have := HR1.out.1; omega
  have hq : Hid (bareL loc (64 :: r) = if chk loc (runT r) = 0 then some (runT r, runR r) else none) := rfl
  go_wp2_with fail
  refine (must_true _).mono ?_
  rintro e w2 ⟨rfl, rfl⟩
  have hrd2 := hrd1.step
  have t2 := t1.else0 (i := 1) hbR (.int .i64 ((n : Int) + 1))
  have hg2 := Go.Lib.grownBy_setB hg1 1 (.int .i64 ((n : Int) + 1))
  have hrd1' := hrd1
  obtain ⟨d0, d1, g1, hb0⟩ := hrd1'
  go_wp2_with fail
  refine (HRun.out r _ ⟨n + 1, HR1.out, hrd2⟩).mono ?_
  rintro e w3 ⟨rfl, hrd3, hgr⟩
  have t3 := t2.grown hgr hbR
  have hg3 := Go.Lib.grownBy_trans hg2 hgr
  clear d0 d1 g1 hb0 t2 hrd2 hg2 hgr t1 hrd1 hg1
  go_wp2_with fail
  have hal := ba (Below.refl _ w3) (.cells #[.string X, .string ⟨(runT r).toArray⟩] 73)
  refine (HC.out (runT r) (Nat.le_trans (runT_le r) hrlen) _ (moved (cell_kept HM.out hg3 (Ne.symm hb)) hal (Nat.le_refl _))).mono ?_
  rintro e w4 ⟨rfl, hb4⟩
  have t4 := t3.below (bt hal hb4) (Nat.le_refl _)
  have tX := (Two.alloc w3 X ⟨(runT r).toArray⟩ 73).below hb4 (Nat.le_refl _)
  have hrd4 := hrd3.below (bt hal hb4)
  have hg4 := Go.Lib.grownBy_below hg3 (bt hal hb4)
  have hRw : w.heap.size ≤ R := by rw [HRe.out]; exact Nat.le_refl _
  clear t3 hb4 hrd3 hg3 hal
  by_cases hz : chk loc (runT r) = 0
  ·have hq2 : Hid (bareL loc (64 :: r) = some (runT r, runR r)) := by unfold Hid; rw [hq.out, if_pos hz]
   rw [hz]
   clear hq hz
   go_wp2_with fail
   refine (must_true _).mono ?_
   rintro e w5 ⟨rfl, rfl⟩
   have tF := Two.set t4 X ⟨(runT r).toArray⟩
   have q0 := tF.1
   have q1 := tF.2.1
   obtain ⟨a0, a1, f0, f1, z1⟩ := t4
   obtain ⟨b0, b1, f2, f3, z2⟩ := tX
   go_wp2_with fail
   refine bodyPost_ret (v := .agg #[.string X, .string ⟨(runT r).toArray⟩]) (by simp [results, Tryz.results124, go_sem, q0, q1]) rfl (.inl ⟨runT r, runR r, hq2.out, rfl, ?_, ?_⟩)
   ·exact (hrd4.else0 hbR 0 _).else0 hbR 1 _
   ·exact grownBy_setNew (grownBy_setNew hg4 hRw 0 _) hRw 1 _
  ·have hq2 : Hid (bareL loc (64 :: r) = none) := by unfold Hid; rw [hq.out, if_neg hz]
   have hzz : ((chk loc (runT r) : Int) == 0) = false := beq_eq_false_iff_ne.2 (by omega)
   clear hq hz
   go_wp2_with fail
   refine (must_false _).mono ?_
   rintro e w5 ⟨rfl, rfl⟩
   go_wp2
   exact ⟨rfl, .inr ⟨hq2.out, rfl, hg4⟩⟩
def addrP : Nat → Bool → List UInt8 → Option ((List UInt8 × List UInt8) × List UInt8)
 | 0, _, _ => none
 | k + 1, f, l =>
  if nextL (skipL l) = 34 then (quotL (skipL l).tail).bind (addrP k false)
  else if nextL (skipL l) = 60 then
   (bareL (runT (skipL l).tail) (runR (skipL l).tail)).bind fun dr => if nextL dr.2 = 62 then some ((runT (skipL l).tail, dr.1), dr.2.tail) else none
  else if nextL (runR (skipL l)) = 64 ∧ f = true then (bareL (runT (skipL l)) (runR (skipL l))).map fun dr => ((runT (skipL l), dr.1), dr.2)
  else if (runT (skipL l)).isEmpty then none else addrP k false (runR (skipL l))
theorem skip_le : ∀ l : List UInt8, (skipL l).length ≤ l.length
 | [] => Nat.le_refl _
 | c :: l => by
  unfold skipL
  split
  ·exact Nat.le_trans (skip_le l) (by simp)
  ·exact Nat.le_refl _
theorem quot_lt : ∀ (n : Nat) (l r : List UInt8), l.length ≤ n → quotL l = some r → r.length < l.length
 | n, [], r, _, h => by cases h
 | 0, c :: l, r, hn, _ => by simp at hn
 | n + 1, c :: l, r, hn, h => by
  simp only [List.length_cons] at hn ⊢
  by_cases h34 : c = 34
  ·rw [quotL_34 c l h34] at h; cases h; omega
  ·by_cases h92 : c = 92
   ·cases l with
    | nil => rw [quotL_92n c h92] at h; cases h
    | cons d l =>
     rw [quotL_92 c d l h92] at h
     simp only [List.length_cons] at hn ⊢
     have := quot_lt n l r (by omega) h
     omega
   ·rw [quotL_else c l h34 h92] at h
    have := quot_lt n l r (by omega) h
    omega
theorem run_len (l : List UInt8) : (runT l).length + (runR l).length = l.length := by
 have := congrArg List.length (run_both l); rw [List.length_append] at this; exact this
theorem tail_lt {l : List UInt8} {c : UInt8} (h : nextL l = c) (hc : c ≠ 0) : l = c :: l.tail := by
 cases l with
 | nil => exact absurd h.symm hc
 | cons d l => have : d = c := h; rw [this]; rfl
theorem addrP_fuel : ∀ (k k' : Nat) (f : Bool) (l : List UInt8), l.length < k → l.length < k' → addrP k f l = addrP k' f l
 | 0, _, _, l, h, _ => absurd h (Nat.not_lt_zero _)
 | _ + 1, 0, _, l, _, h => absurd h (Nat.not_lt_zero _)
 | k + 1, k' + 1, f, l, h, h' => by
  rw [addrP, addrP]
  have hs := skip_le l
  by_cases h34 : nextL (skipL l) = 34
  ·rw [if_pos h34, if_pos h34]
   have ht := congrArg List.length (tail_lt h34 (by decide))
   simp only [List.length_cons] at ht
   cases hq : quotL (skipL l).tail with
   | none => rfl
   | some r =>
    have := quot_lt _ _ r (Nat.le_refl _) hq
    exact addrP_fuel k k' false r (by omega) (by omega)
  ·rw [if_neg h34, if_neg h34]
   split
   ·rfl
   ·split
    ·rfl
    ·split
     ·rfl
     ·next he =>
      have hl := run_len (skipL l)
      have : 1 ≤ (runT (skipL l)).length := by
       cases ht : runT (skipL l) with
       | nil => rw [ht] at he; exact absurd rfl he
       | cons a b => simp
      exact addrP_fuel k k' false _ (by omega) (by omega)
def addrL' (f : Bool) (l : List UInt8) : Option ((List UInt8 × List UInt8) × List UInt8) := addrP (l.length + 1) f l
theorem addr_quote (f : Bool) (l r : List UInt8) (h : skipL l = 34 :: r) : addrL' f l = (quotL r).bind (addrL' false) := by
 have hs := skip_le l
 rw [h] at hs
 simp only [List.length_cons] at hs
 unfold addrL'
 rw [addrP, h, if_pos (show nextL (34 :: r) = 34 from rfl)]
 show (quotL r).bind _ = _
 cases hq : quotL r with
 | none => rfl
 | some r2 =>
  have := quot_lt _ _ r2 (Nat.le_refl _) hq
  exact addrP_fuel _ _ false r2 (by omega) (by omega)
theorem addr_lt (f : Bool) (l r : List UInt8) (h : skipL l = 60 :: r) : addrL' f l = (bareL (runT r) (runR r)).bind fun dr => if nextL dr.2 = 62 then some ((runT r, dr.1), dr.2.tail) else none := by
 unfold addrL'
 rw [addrP, h, if_neg (show ¬ nextL (60 :: r) = 34 from (by decide : ¬ (60 : UInt8) = 34)), if_pos (show nextL (60 :: r) = 60 from rfl)]
 rfl
theorem addr_else (f : Bool) (l L : List UInt8) (h : skipL l = L) (h1 : nextL L ≠ 34) (h2 : nextL L ≠ 60) :
    addrL' f l = if nextL (runR L) = 64 ∧ f = true then (bareL (runT L) (runR L)).map fun dr => ((runT L, dr.1), dr.2) else if (runT L).isEmpty then none else addrL' false (runR L) := by
 have hs := skip_le l
 unfold addrL'
 rw [addrP, h, if_neg h1, if_neg h2]
 split
 ·rfl
 ·split
  ·rfl
  ·next he =>
   have hl := run_len L
   have : 1 ≤ (runT L).length := by
    cases ht : runT L with
    | nil => rw [ht] at he; exact absurd rfl he
    | cons a b => simp
   rw [h] at hs
   exact addrP_fuel _ _ false _ (by omega) (by omega)
theorem RdrL.pos {w : World} {b : Nat} {s : ByteArray} {l : List UInt8} (h : RdrL w b s l) : posAt w b = s.size - l.length ∧ l.length ≤ s.size := by
 obtain ⟨n, h1, h2⟩ := h
 rw [h2.pos]
 have := h1.1
 omega
theorem measL {w w' : World} {b : Nat} {s : ByteArray} {l l' : List UInt8} (h : RdrL w b s l) (h' : RdrL w' b s l') (hl : l'.length < l.length) : s.size - posAt w' b < s.size - posAt w b := by
 have h1 := h.pos; have h2 := h'.pos
 rw [h1.1, h2.1]; omega
theorem next_ne (l : List UInt8) (d : UInt8) (h : nextL l ≠ d) (z : Int) (hz : z = (d.toNat : Int)) : (((nextL l).toNat : Int) == z) = false :=
 beq_eq_false_iff_ne.2 (fun e => h (UInt8.toNat_inj.1 (by rw [hz] at e; exact Int.ofNat_inj.1 e)))
theorem address_read (b : Nat) (s : ByteArray) (l : List UInt8) (m : Int) (w : World) (hs : s.size ≤ 100000) (hb : b ≠ 2) (hm : w.cell? ⟨2, 0, none⟩ = some (.int .i64 m)) (h : RdrL w b s l) :
    Calls Tryz.prog 87 #[.pointer (some ⟨b, 0, none⟩)] w fun e w' => (∃ x y r, addrL' true l = some ((x, y), r) ∧ e = .returned (.agg #[.string ⟨x.toArray⟩, .string ⟨y.toArray⟩]) ∧ RdrL w' b s r ∧ w.grownBy w' (some b)) ∨ (addrL' true l = none ∧ Out b w e w') := by
 have HN : Hid (∀ n l w, Rest s n l → Rdr w b s n → Calls Tryz.prog 90 #[.pointer (some ⟨b, 0, none⟩)] w fun e w' => e = .returned (.int .u8 ((nextL l).toNat : Int)) ∧ Below w.heap.size w w') := fun n l w h1 h2 => next_any b n s l w hs h1 h2
 have HS : Hid (∀ l w, RdrL w b s l → Calls Tryz.prog 88 #[.pointer (some ⟨b, 0, none⟩)] w fun e w' => e = .returned (.tuple #[]) ∧ RdrL w' b s (skipL l) ∧ w.grownBy w' (some b)) := fun l w h => skip_any b s l w hs h
 have HRun : Hid (∀ l w, RdrL w b s l → Calls Tryz.prog 125 #[.pointer (some ⟨b, 0, none⟩)] w fun e w' => e = .returned (.string ⟨(runT l).toArray⟩) ∧ RdrL w' b s (runR l) ∧ w.grownBy w' (some b)) := fun l w h => run_any b s l w hs h
 have HQ : Hid (∀ c0 l w, RdrL w b s (c0 :: l) → Calls Tryz.prog 123 #[.pointer (some ⟨b, 0, none⟩)] w fun e w' => (∃ r, quotL l = some r ∧ e = .returned (.tuple #[]) ∧ RdrL w' b s r ∧ w.grownBy w' (some b)) ∨ (quotL l = none ∧ Out b w e w')) := fun c0 l w h => quoted_any b s c0 l w hs h
 have HB : Hid (∀ loc l w, loc.length ≤ 100000 → w.cell? ⟨2, 0, none⟩ = some (.int .i64 m) → RdrL w b s l → Calls Tryz.prog 124 #[.pointer (some ⟨b, 0, none⟩), .string ⟨loc.toArray⟩] w fun e w' => (∃ d r, bareL loc l = some (d, r) ∧ e = .returned (.agg #[.string ⟨loc.toArray⟩, .string ⟨d.toArray⟩]) ∧ RdrL w' b s r ∧ w.grownBy w' (some b)) ∨ (bareL loc l = none ∧ Out b w e w')) := fun loc l w h1 h2 h3 => bare_any b s loc l m w hs h1 hb h2 h3
 have hblt : b < w.heap.size := by obtain ⟨n, _, hr⟩ := h; exact hr.2.2.2
 have hl0 := h.pos.2
 have h0 := h.below (ba (Below.refl _ w) (.cells #[.string ⟨#[]⟩, .string ⟨#[]⟩] 73))
 have tR := Two.alloc w ⟨#[]⟩ ⟨#[]⟩ 73
 have hg0 : w.grownBy (w.alloc (.cells #[.string ⟨#[]⟩, .string ⟨#[]⟩] 73)) (some b) := Go.Lib.grownBy_allocR (World.grownBy.refl _ _) _
 have hbR : w.heap.size ≠ b := by omega
 have hRw : w.heap.size ≤ w.heap.size := Nat.le_refl _
 obtain ⟨R, hRe⟩ : ∃ R, R = w.heap.size := ⟨_, rfl⟩
 obtain ⟨w0, hw0⟩ : ∃ w0, w0 = w.alloc (.cells #[.string ⟨#[]⟩, .string ⟨#[]⟩] 73) := ⟨_, rfl⟩
 rw [← hw0] at h0 tR hg0
 rw [← hRe] at tR hbR
 have hRw : w.heap.size ≤ R := by omega
 have HM := Lib.hid hm
 have HW0 := Lib.hid hw0; have HRe := Lib.hid hRe
 clear hm hw0 hRe h
 go_enter Tryz.func87, Tryz.ntmps87
 go_wp2_with fail
 rw [show w.alloc (.cells #[.string ⟨#[]⟩, .string ⟨#[]⟩] 73) = w0 from HW0.out.symm, show w.heap.size = R from HRe.out.symm]
 go_loopw [3] (fun v wr => ∃ (k : Nat) (l' : List UInt8), v = .int .i64 k ∧ k + l'.length ≤ s.size ∧ RdrL wr b s l' ∧ Two wr R ⟨#[]⟩ ⟨#[]⟩ ∧ w.grownBy wr (some b) ∧ Hid (addrL' (k == 0) l' = addrL' true l)) (fun _ wr => s.size - posAt wr b)
 case atStart => exact ⟨0, l, rfl, by omega, h0, tR, hg0, rfl⟩
 case round =>
  clear h0 tR hg0
  obtain ⟨k, l', rfl, hk, hrl, tR, hg, heq⟩ := hrel
  have hsl := skip_le l'
  go_wp2_with fail
  refine (HS.out l' _ hrl).mono ?_
  rintro e w1 ⟨rfl, h1, g1⟩
  have t1 := tR.grown g1 hbR
  have hg1 := Go.Lib.grownBy_trans hg g1
  obtain ⟨L, hL⟩ : ∃ L, L = skipL l' := ⟨_, rfl⟩
  rw [← hL] at h1 hsl
  have HLs := Lib.hid hL.symm
  clear hL tR g1 hg
  go_wp2_with fail
  obtain ⟨n1, hr1, hrd1⟩ := h1
  refine (HN.out n1 L _ hr1 hrd1).mono ?_
  rintro e w2 ⟨rfl, hb2⟩
  have t2 := t1.below hb2 (Nat.le_refl _)
  have hg2 := Go.Lib.grownBy_below hg1 hb2
  have h2 := RdrL.below ⟨n1, hr1, hrd1⟩ hb2
  clear t1 hg1 hb2 hr1 hrd1
  by_cases h34 : nextL L = 34
  ·have hcons := tail_lt h34 (by decide)
   obtain ⟨r, hr⟩ : ∃ r, r = L.tail := ⟨_, rfl⟩
   rw [← hr] at hcons
   clear hr
   subst hcons
   have e1 := nextL_eq 34 r 34 rfl 34 rfl
   have hq := Lib.hid (addr_quote (k == 0) l' r HLs.out)
   simp only [List.length_cons] at hsl
   clear h34
   go_wp2_with fail
   refine (HQ.out 34 r _ h2).mono ?_
   rintro e w3 (⟨r2, hqq, rfl, h3, g3⟩ | ⟨hqq, rfl, g3⟩)
   ·have hlt := quot_lt _ _ r2 (Nat.le_refl _) hqq
    have hfin : Hid (addrL' false r2 = addrL' true l) := by unfold Hid; rw [← heq.out, hq.out, hqq]; rfl
    have t3 := t2.grown g3 hbR
    have hg3 := Go.Lib.grownBy_trans hg2 g3
    clear hqq hq heq
    go_wp2_with fail
    go_roundw
    case rel => exact ⟨k + 1, r2, by go_num, by omega, h3, t3, hg3, hfin⟩
    case measure => exact measL hrl h3 (by omega)
   ·have hfin : Hid (addrL' true l = none) := by unfold Hid; rw [← heq.out, hq.out, hqq]; rfl
    clear hqq hq heq
    go_wp2_with fail
    exact ⟨rfl, .inr ⟨hfin.out, rfl, Go.Lib.grownBy_trans hg2 g3⟩⟩
  ·by_cases h60 : nextL L = 60
   ·have hcons := tail_lt h60 (by decide)
    obtain ⟨r, hr⟩ : ∃ r, r = L.tail := ⟨_, rfl⟩
    rw [← hr] at hcons
    clear hr
    subst hcons
    have e0 := nextL_ne 60 r 34 (by decide) 34 rfl
    have e1 := nextL_eq 60 r 60 rfl 60 rfl
    have hq := Lib.hid (addr_lt (k == 0) l' r HLs.out)
    simp only [List.length_cons] at hsl
    clear h34 h60
    obtain ⟨n2, hr2, hrd2⟩ := h2
    obtain ⟨hlt, _, hr3⟩ := hr2.cons
    have hrd3 := hrd2.step
    have t3 := t2.else0 (i := 1) hbR (.int .i64 ((n2 : Int) + 1))
    have hg3 := Go.Lib.grownBy_setB hg2 1 (.int .i64 ((n2 : Int) + 1))
    obtain ⟨d0, d1, f1, hb0⟩ := hrd2
    have HR2 := Lib.hid hr2; have HR3 := Lib.hid hr3
    clear hr2 hr3
    go_wp2_with fail
    refine (HRun.out r _ ⟨n2 + 1, HR3.out, hrd3⟩).mono ?_
    rintro e w4 ⟨rfl, h4, g4⟩
    have t4 := t3.grown g4 hbR
    have hg4 := Go.Lib.grownBy_trans hg3 g4
    clear d0 d1 f1 hb0 hrd3 t3 hg3 g4 t2 hg2
    go_wp2_with fail
    have hrl := run_len r
    refine (HB.out (runT r) (runR r) _ (by omega) (cell_kept HM.out hg4 (Ne.symm hb)) h4).mono ?_
    rintro e w5 (⟨d, r2, hqq, rfl, h5, g5⟩ | ⟨hqq, rfl, g5⟩)
    ·have hq2 : Hid (addrL' true l = if nextL r2 = 62 then some ((runT r, d), r2.tail) else none) := by unfold Hid; rw [← heq.out, hq.out, hqq]; rfl
     have t5 := t4.grown g5 hbR
     have hg5 := Go.Lib.grownBy_trans hg4 g5
     have hz5 : w5.heap.size ≠ b := by have := hg5.size; omega
     have hal := ba (Below.refl _ w5) (.cells #[.string ⟨(runT r).toArray⟩, .string ⟨d.toArray⟩] 73)
     have t6 := t5.below hal (Nat.le_refl _)
     have hg6 := Go.Lib.grownBy_below hg5 hal
     have h6 := h5.below hal
     have tX := Two.alloc w5 ⟨(runT r).toArray⟩ ⟨d.toArray⟩ 73
     obtain ⟨A, hA⟩ : ∃ A : ByteArray, A = ⟨(runT r).toArray⟩ := ⟨_, rfl⟩
     obtain ⟨D, hD⟩ : ∃ D : ByteArray, D = ⟨d.toArray⟩ := ⟨_, rfl⟩
     rw [← hA, ← hD] at tX t6 hg6 h6 ⊢
     have HA := Lib.hid hA; have HD := Lib.hid hD
     clear hA hD hqq hq heq t4 hg4 g5 t5 hg5 h5 h4 hal
     go_wp2_with fail
     obtain ⟨n6, hr6, hrd6⟩ := h6
     refine (HN.out n6 r2 _ hr6 hrd6).mono ?_
     rintro e w7 ⟨rfl, hb7⟩
     have t7 := t6.below hb7 (Nat.le_refl _)
     have tY := tX.below hb7 (Nat.le_refl _)
     have hg7 := Go.Lib.grownBy_below hg6 hb7
     have hrd7 := hrd6.below hb7
     clear t6 tX hg6 hrd6 hb7
     by_cases h62 : nextL r2 = 62
     ·have hcons := tail_lt h62 (by decide)
      obtain ⟨r3, hr⟩ : ∃ r3, r3 = r2.tail := ⟨_, rfl⟩
      rw [← hr] at hcons
      clear hr
      subst hcons
      have hfin : Hid (addrL' true l = some ((runT r, d), r3)) := by unfold Hid; rw [hq2.out, if_pos h62]; rfl
      have e3 := nextL_eq 62 r3 62 rfl 62 rfl
      obtain ⟨_, _, hr8⟩ := hr6.cons
      have hrd8 := hrd7.step
      have t8 := t7.else0 (i := 1) hbR (.int .i64 ((n6 : Int) + 1))
      have HR8 := Lib.hid hr8
      clear h62 hq2 hr6 hr8
      go_wp2_with fail
      refine (must_true _).mono ?_
      rintro e w8 ⟨rfl, rfl⟩
      obtain ⟨d0, d1, f1, hb0⟩ := hrd7
      have tY8 := tY.else0 (i := 1) hz5 (.int .i64 ((n6 : Int) + 1))
      have hg8 := Go.Lib.grownBy_setB hg7 1 (.int .i64 ((n6 : Int) + 1))
      have tF := Two.set t8 A D
      have q0 := tF.1
      have q1 := tF.2.1
      obtain ⟨x0, x1, y0, y1, z1⟩ := tY8
      obtain ⟨x2, x3, y2, y3, z2⟩ := t8
      clear tF t7 tY hg7
      go_wp2_with fail
      refine bodyPost_ret (v := .agg #[.string A, .string D]) (by simp [results, Tryz.results87, go_sem, q0, q1]) rfl (.inl ⟨runT r, d, r3, hfin.out, by rw [HA.out, HD.out], ?_, ?_⟩)
      ·exact ((RdrL.else0 ⟨n6 + 1, HR8.out, hrd8⟩ hbR 0 _).else0 hbR 1 _)
      ·exact grownBy_setNew (grownBy_setNew hg8 hRw 0 _) hRw 1 _
     ·have hfin : Hid (addrL' true l = none) := by unfold Hid; rw [hq2.out, if_neg h62]
      have e3 := next_ne r2 62 h62 62 rfl
      clear h62 hq2
      go_wp2_with fail
      refine (must_false _).mono ?_
      rintro e w8 ⟨rfl, rfl⟩
      go_wp2
      exact ⟨rfl, .inr ⟨hfin.out, rfl, hg7⟩⟩
    ·have hfin : Hid (addrL' true l = none) := by unfold Hid; rw [← heq.out, hq.out, hqq]; rfl
     clear hqq hq heq
     go_wp2_with fail
     exact ⟨rfl, .inr ⟨hfin.out, rfl, Go.Lib.grownBy_trans hg4 g5⟩⟩
   ·have e0 := next_ne L 34 h34 34 rfl
    have e1 := next_ne L 60 h60 60 rfl
    have hq := Lib.hid (addr_else (k == 0) l' L HLs.out h34 h60)
    clear h34 h60
    go_wp2_with fail
    refine (HRun.out L _ h2).mono ?_
    rintro e w3 ⟨rfl, h3, g3⟩
    have t3 := t2.grown g3 hbR
    have hg3 := Go.Lib.grownBy_trans hg2 g3
    clear h2 t2 hg2 g3
    go_wp2_with fail
    obtain ⟨n3, hr3, hrd3⟩ := h3
    refine (HN.out n3 (runR L) _ hr3 hrd3).mono ?_
    rintro e w4 ⟨rfl, hb4⟩
    have t4 := t3.below hb4 (Nat.le_refl _)
    have hg4 := Go.Lib.grownBy_below hg3 hb4
    have h4 := RdrL.below ⟨n3, hr3, hrd3⟩ hb4
    have hrl2 := run_len L
    clear t3 hg3 hb4 hr3 hrd3
    by_cases h64 : nextL (runR L) = 64
    ·have e2 : (((nextL (runR L)).toNat : Int) == 64) = true := by rw [h64]; rfl
     by_cases hk0 : k = 0
     ·subst hk0
      have hq2 : Hid (addrL' true l = (bareL (runT L) (runR L)).map fun dr => ((runT L, dr.1), dr.2)) := by unfold Hid; rw [← heq.out, hq.out, if_pos ⟨h64, rfl⟩]
      clear hq heq h64
      go_wp2_with fail
      refine (HB.out (runT L) (runR L) _ (by omega) (cell_kept HM.out hg4 (Ne.symm hb)) h4).mono ?_
      rintro e w5 (⟨d, r2, hqq, rfl, h5, g5⟩ | ⟨hqq, rfl, g5⟩)
      ·have hfin : Hid (addrL' true l = some ((runT L, d), r2)) := by unfold Hid; rw [hq2.out, hqq]; rfl
       have t5 := t4.grown g5 hbR
       have hg5 := Go.Lib.grownBy_trans hg4 g5
       have tF := Two.set t5 ⟨(runT L).toArray⟩ ⟨d.toArray⟩
       have q0 := tF.1
       have q1 := tF.2.1
       obtain ⟨x2, x3, y2, y3, z2⟩ := t5
       clear tF t4 hg4 g5 hqq hq2
       go_wp2_with fail
       refine bodyPost_ret (v := .agg #[.string ⟨(runT L).toArray⟩, .string ⟨d.toArray⟩]) (by simp [results, Tryz.results87, go_sem, q0, q1]) rfl (.inl ⟨runT L, d, r2, hfin.out, rfl, ?_, ?_⟩)
       ·exact (h5.else0 hbR 0 _).else0 hbR 1 _
       ·exact grownBy_setNew (grownBy_setNew hg5 hRw 0 _) hRw 1 _
      ·have hfin : Hid (addrL' true l = none) := by unfold Hid; rw [hq2.out, hqq]; rfl
       clear hqq hq2
       go_wp2_with fail
       exact ⟨rfl, .inr ⟨hfin.out, rfl, Go.Lib.grownBy_trans hg4 g5⟩⟩
     ·have e3 : ((k : Int) == 0) = false := beq_eq_false_iff_ne.2 (by omega)
      have hq2 : Hid (addrL' true l = if (runT L).isEmpty then none else addrL' false (runR L)) := by unfold Hid; rw [← heq.out, hq.out, if_neg (by rintro ⟨_, h⟩; exact hk0 (by simpa using h))]
      clear hq heq h64
      cases he : (runT L).isEmpty with
      | true =>
       have hfin : Hid (addrL' true l = none) := by unfold Hid; rw [hq2.out, he]; rfl
       clear hq2
       go_wp2_with fail
       refine (must_false _).mono ?_
       rintro e w5 ⟨rfl, rfl⟩
       go_wp2
       exact ⟨rfl, .inr ⟨hfin.out, rfl, hg4⟩⟩
      | false =>
       have hfin : Hid (addrL' false (runR L) = addrL' true l) := by unfold Hid; rw [hq2.out, he]; rfl
       have hpos : 1 ≤ (runT L).length := by
        cases ht : runT L with
        | nil => rw [ht] at he; cases he
        | cons a b => simp
       clear hq2
       go_wp2_with fail
       refine (must_true _).mono ?_
       rintro e w5 ⟨rfl, rfl⟩
       go_wp2_with fail
       go_roundw
       case rel => exact ⟨k + 1, runR L, by go_num, by omega, h4, t4, hg4, hfin⟩
       case measure => exact measL hrl h4 (by omega)
    ·have e2 := next_ne (runR L) 64 h64 64 rfl
     have hq2 : Hid (addrL' true l = if (runT L).isEmpty then none else addrL' false (runR L)) := by unfold Hid; rw [← heq.out, hq.out, if_neg (by rintro ⟨h, _⟩; exact h64 h)]
     clear hq heq h64
     cases he : (runT L).isEmpty with
     | true =>
      have hfin : Hid (addrL' true l = none) := by unfold Hid; rw [hq2.out, he]; rfl
      clear hq2
      go_wp2_with fail
      refine (must_false _).mono ?_
      rintro e w5 ⟨rfl, rfl⟩
      go_wp2
      exact ⟨rfl, .inr ⟨hfin.out, rfl, hg4⟩⟩
     | false =>
      have hfin : Hid (addrL' false (runR L) = addrL' true l) := by unfold Hid; rw [hq2.out, he]; rfl
      have hpos : 1 ≤ (runT L).length := by
       cases ht : runT L with
       | nil => rw [ht] at he; cases he
       | cons a b => simp
      clear hq2
      go_wp2_with fail
      refine (must_true _).mono ?_
      rintro e w5 ⟨rfl, rfl⟩
      go_wp2_with fail
      go_roundw
      case rel => exact ⟨k + 1, runR L, by go_num, by omega, h4, t4, hg4, hfin⟩
      case measure => exact measL hrl h4 (by omega)
def Turned (w w' : World) (p q : Nat) : Prop := w'.os = w.os ∧ w'.tape = w.tape ∧ w'.output = w.output ∧ w.heap.size ≤ w'.heap.size ∧ ∀ k, k ≠ p → k ≠ q → w'.heap[k]? = w.heap[k]?
theorem catch_idle (p q : Addr) (w : World) :
    CallsD Tryz.prog 86 #[.pointer (some p), .pointer (some q)] .returning w fun e u' w' => e = .returned (.tuple #[]) ∧ u' = .returning ∧ w' = w := by
 refine callsD_of_wpS Tryz.func86 rfl fun c₀ cs hu => ?_
 apply wpS_seq
 apply wpS_region
 simp [wpOpsS, go_sem, recoverD, hu, Tryz.ntmps86, Exit.thenS]
 refine wpS_of_wp ?_
 show Code.wp _ _ _ ⟨#[.pointer (some p), .pointer (some q), .nilIface, .nilIface, undef, undef, undef, undef], []⟩ w
 go_wp2
 cases c₀
 simp_all [bodyPostS, results, Tryz.results86]
theorem catch_panicking (p q : Nat) (x y : Value) (older : List PanicEntry) (w : World) (hp : w.cell? ⟨p, 0, none⟩ = some x) (hq : w.cell? ⟨q, 0, none⟩ = some y) (fp : w.frozen? ⟨p, 0, none⟩ = false) (fq : w.frozen? ⟨q, 0, none⟩ = false) (hne : p ≠ q) :
    CallsD Tryz.prog 86 #[.pointer (some ⟨p, 0, none⟩), .pointer (some ⟨q, 0, none⟩)] (.panicking ({ v := .iface 45 (.int .i64 3), recovered := false } :: older)) w fun e u' w' =>
     e = .returned (.tuple #[]) ∧ u' = .panicking ({ v := .iface 45 (.int .i64 3), recovered := true } :: older) ∧ w'.cell? ⟨p, 0, none⟩ = some (.slice none 0 0) ∧ w'.cell? ⟨q, 0, none⟩ = some (.int .i64 3) ∧ Turned w w' p q := by
 refine callsD_of_wpS Tryz.func86 rfl fun c₀ cs hu => ?_
 apply wpS_seq
 apply wpS_region
 simp [wpOpsS, go_sem, recoverD, hu, Tryz.ntmps86, Exit.thenS]
 refine wpS_of_wp ?_
 show Code.wp _ _ _ ⟨#[.pointer (some ⟨p, 0, none⟩), .pointer (some ⟨q, 0, none⟩), .iface 45 (.int .i64 3), .iface 45 (.int .i64 3), undef, undef, undef, undef], []⟩ w
 have hta : ∀ w, (Instr.typeAssert (.iface 45 (.int .i64 3)) 20 45 false).run Tryz.prog w = .ok (.int .i64 3) w := fun _ => by kernel_rfl
 go_wp2
 go_region
 have ne : (⟨q, 0, none⟩ : Addr) ≠ ⟨p, 0, none⟩ := fun e => hne (congrArg Addr.block e).symm
 have hq2 : (w.setCell ⟨p, 0, none⟩ (.slice none 0 0)).cell? ⟨q, 0, none⟩ = some y := (World.cell?_setCell_other _ _ _ _ (Ne.symm ne)).trans hq
 have e0 : ((w.setCell ⟨p, 0, none⟩ (.slice none 0 0)).setCell ⟨q, 0, none⟩ (.int .i64 3)).cell? ⟨p, 0, none⟩ = some (.slice none 0 0) :=
  (World.cell?_setCell_other _ _ _ _ ne).trans (World.cell?_setCell_same _ _ _ hp)
 have e1 : ((w.setCell ⟨p, 0, none⟩ (.slice none 0 0)).setCell ⟨q, 0, none⟩ (.int .i64 3)).cell? ⟨q, 0, none⟩ = some (.int .i64 3) := World.cell?_setCell_same _ _ _ hq2
 refine ⟨rfl, _, rfl, .tuple #[], by simp [results, Tryz.results86], rfl, rfl, e0, e1, rfl, rfl, rfl, by simp [World.setCell, World.drew], fun k h1 h2 => ?_⟩
 exact (Below.heap_setCell _ _ _ _ h2).trans (Below.heap_setCell _ _ _ _ h1)
theorem bare_len {loc l d r : List UInt8} (h : bareL loc l = some (d, r)) : r.length ≤ l.length := by
 cases l with
 | nil => cases h
 | cons c l =>
  have h' : (if c = 64 then (if chk loc (runT l) = 0 then some (runT l, runR l) else none) else none) = some (d, r) := h
  have := run_len l
  split at h'
  ·split at h'
   ·obtain ⟨_, rfl⟩ := Prod.mk.inj (Option.some.inj h'); simp only [List.length_cons]; omega
   ·cases h'
  ·cases h'
theorem addrP_len : ∀ (k : Nat) (f : Bool) (l r : List UInt8) (xy : List UInt8 × List UInt8), addrP k f l = some (xy, r) → r.length ≤ l.length
 | 0, _, _, _, _, h => by cases h
 | k + 1, f, l, r, xy, h => by
  have hs := skip_le l
  have hr := run_len (skipL l)
  rw [addrP] at h
  by_cases h34 : nextL (skipL l) = 34
  ·rw [if_pos h34] at h
   have ht := congrArg List.length (tail_lt h34 (by decide))
   simp only [List.length_cons] at ht
   cases hq : quotL (skipL l).tail with
   | none => rw [hq] at h; cases h
   | some r2 =>
    rw [hq] at h
    have h1 := quot_lt _ _ r2 (Nat.le_refl _) hq
    have h2 := addrP_len k false r2 r xy h
    omega
  ·rw [if_neg h34] at h
   split at h
   ·next h60 =>
    have ht := congrArg List.length (tail_lt h60 (by decide))
    simp only [List.length_cons] at ht
    have hr2 := run_len (skipL l).tail
    cases hb : bareL (runT (skipL l).tail) (runR (skipL l).tail) with
    | none => rw [hb] at h; cases h
    | some dr =>
     obtain ⟨d, r2⟩ := dr
     have hbl := bare_len hb
     rw [hb] at h
     have h' : (if nextL r2 = 62 then some ((runT (skipL l).tail, d), r2.tail) else none) = some (xy, r) := h
     split at h'
     ·obtain ⟨_, rfl⟩ := Prod.mk.inj (Option.some.inj h'); simp only [List.length_tail]; omega
     ·cases h'
   ·split at h
    ·cases hb : bareL (runT (skipL l)) (runR (skipL l)) with
     | none => rw [hb] at h; cases h
     | some dr =>
      obtain ⟨d, r2⟩ := dr
      have hbl := bare_len hb
      rw [hb] at h
      have he : r2 = r := (Prod.mk.inj (Option.some.inj h)).2
      subst he
      omega
    ·split at h
     ·cases h
     ·have h2 := addrP_len k false _ r xy h
      omega
theorem addr_len {f : Bool} {l r : List UInt8} {xy : List UInt8 × List UInt8} (h : addrL' f l = some (xy, r)) : r.length ≤ l.length := addrP_len _ f l r xy h
def listP : Nat → List UInt8 → Option (List (List UInt8 × List UInt8))
 | 0, _ => none
 | k + 1, l => (addrL' true l).bind fun ar => if skipL ar.2 = [] then some [ar.1] else if nextL (skipL ar.2) = 44 then (listP k (skipL ar.2).tail).map (ar.1 :: ·) else none
theorem listP_fuel : ∀ (k k' : Nat) (l : List UInt8), l.length < k → l.length < k' → listP k l = listP k' l
 | 0, _, l, h, _ => absurd h (Nat.not_lt_zero _)
 | _ + 1, 0, l, _, h => absurd h (Nat.not_lt_zero _)
 | k + 1, k' + 1, l, h, h' => by
  rw [listP, listP]
  cases ha : addrL' true l with
  | none => rfl
  | some ar =>
   obtain ⟨xy, r⟩ := ar
   have hl := addr_len ha
   have hs := skip_le r
   show (if skipL r = [] then some [xy] else if nextL (skipL r) = 44 then (listP k (skipL r).tail).map (xy :: ·) else none) = (if skipL r = [] then some [xy] else if nextL (skipL r) = 44 then (listP k' (skipL r).tail).map (xy :: ·) else none)
   split
   ·rfl
   ·split
    ·next h44 =>
     have ht := congrArg List.length (tail_lt h44 (by decide))
     simp only [List.length_cons] at ht
     rw [listP_fuel k k' (skipL r).tail (by omega) (by omega)]
    ·rfl
def listL (l : List UInt8) : Option (List (List UInt8 × List UInt8)) := listP (l.length + 1) l
theorem list_none {l : List UInt8} (h : addrL' true l = none) : listL l = none := by unfold listL; rw [listP, h]; rfl
theorem list_end {l r : List UInt8} {xy : List UInt8 × List UInt8} (h : addrL' true l = some (xy, r)) (hs : skipL r = []) : listL l = some [xy] := by
 unfold listL; rw [listP, h]; show (if skipL r = [] then some [xy] else _) = _; rw [if_pos hs]
theorem list_next {l r q : List UInt8} {xy : List UInt8 × List UInt8} (h : addrL' true l = some (xy, r)) (hs : skipL r = 44 :: q) : listL l = (listL q).map (xy :: ·) := by
 have h1 := addr_len h
 have h2 := skip_le r
 unfold listL; rw [listP, h]
 show (if skipL r = [] then some [xy] else if nextL (skipL r) = 44 then (listP l.length (skipL r).tail).map (xy :: ·) else none) = _
 rw [hs] at h2 ⊢
 simp only [List.length_cons] at h2
 rw [if_neg (by simp), if_pos (show nextL (44 :: q) = 44 from rfl)]
 show (listP l.length q).map _ = _
 rw [listP_fuel l.length (q.length + 1) q (by omega) (by omega)]
theorem list_bad {l r L : List UInt8} {xy : List UInt8 × List UInt8} (h : addrL' true l = some (xy, r)) (hs : skipL r = L) (h1 : L ≠ []) (h2 : nextL L ≠ 44) : listL l = none := by
 unfold listL; rw [listP, h]
 show (if skipL r = [] then some [xy] else if nextL (skipL r) = 44 then (listP l.length (skipL r).tail).map (xy :: ·) else none) = _
 rw [hs, if_neg h1, if_neg h2]
def acells (l : List (List UInt8 × List UInt8)) : List Value := l.flatMap fun a => [.string ⟨a.1.toArray⟩, .string ⟨a.2.toArray⟩]
theorem acells_snoc (l : List (List UInt8 × List UInt8)) (a : List UInt8 × List UInt8) : acells (l ++ [a]) = acells l ++ [.string ⟨a.1.toArray⟩, .string ⟨a.2.toArray⟩] := by simp [acells]
theorem infoAddr : (Tryz.prog.info? 73).map (fun i => (i.zero, i.size, i.bytes)) = some (some (.agg #[.string ⟨#[]⟩, .string ⟨#[]⟩]), 2, 32) := by kernel_rfl
def ResAt (w : World) (R : Nat) (v : Value) (c : Int) : Prop := w.cell? ⟨R, 0, none⟩ = some v ∧ w.cell? ⟨R + 1, 0, none⟩ = some (.int .i64 c) ∧ w.frozen? ⟨R, 0, none⟩ = false ∧ w.frozen? ⟨R + 1, 0, none⟩ = false
def ListSays (B : Nat) (w' : World) (e : Ending) (r : Option (List (List UInt8 × List UInt8))) : Prop :=
 (r = none ∧ e = .returned (.tuple #[.slice none 0 0, .int .i64 3])) ∨
 (∃ ys, r = some ys ∧ 20 < ys.length ∧ e = .returned (.tuple #[.slice none 0 0, .int .i64 5])) ∨
 (∃ ys v, r = some ys ∧ ys.length ≤ 20 ∧ e = .returned (.tuple #[v, .int .i64 0]) ∧ w'.ownsRow B 73 2 v ys.length (acells ys))
theorem turned_below {w wr w1 w2 : World} {R : Nat} (hb : Below w.heap.size w wr) (g : wr.drew.grownBy w1 (some (R + 2))) (t : Turned w1 w2 R (R + 1)) (hR : R = w.heap.size) : Below w.heap.size w w2 :=
 ⟨t.1.trans (g.os.trans hb.os), t.2.1.trans (g.tape.trans hb.tape), t.2.2.1.trans (g.output.trans hb.output), Nat.le_trans hb.size (Nat.le_trans g.size t.2.2.2.1),
  fun k hk => (t.2.2.2.2 k (by omega) (by omega)).trans ((g.block k (Nat.lt_of_lt_of_le hk hb.size) (by intro e; have := Option.some.inj e; omega)).trans (hb.block k hk))⟩
theorem turned_below2 {w w1 w2 : World} {R : Nat} (hb : Below w.heap.size w w1) (t : Turned w1 w2 R (R + 1)) (hR : R = w.heap.size) : Below w.heap.size w w2 :=
 ⟨t.1.trans hb.os, t.2.1.trans hb.tape, t.2.2.1.trans hb.output, Nat.le_trans hb.size t.2.2.2.1, fun k hk => (t.2.2.2.2 k (by omega) (by omega)).trans (hb.block k hk)⟩
theorem own_base {w : World} {base base' e size n : Nat} {v : Value} {l : List Value} (hb : base' ≤ base) (h : w.ownsRow base e size v n l) : w.ownsRow base' e size v n l := by
 refine ⟨h.1, ?_⟩
 rcases h.2 with h | ⟨g, cap, cur, h1, h2, h3⟩
 ·exact .inl h
 ·exact .inr ⟨g, cap, cur, h1, Nat.le_trans hb h2, h3⟩
theorem ResAt.below {w w' : World} {R : Nat} {v : Value} {c : Int} (h : ResAt w R v c) (hb : Below w.heap.size w w') : ResAt w' R v c :=
 ⟨moved h.1 hb (Nat.le_refl _), moved h.2.1 hb (Nat.le_refl _), (hb.frozen (p := ⟨R, 0, none⟩) (World.block_lt_of_cell? _ _ h.1)).trans h.2.2.1, (hb.frozen (p := ⟨R + 1, 0, none⟩) (World.block_lt_of_cell? _ _ h.2.1)).trans h.2.2.2⟩
theorem own_down {w w' : World} {base e size n : Nat} {v : Value} {l : List Value} (h : w.ownsRow base e size v n l) (hb : Below w.heap.size w w') : w'.ownsRow base e size v n l :=
 h.kept (row := none) ⟨hb.os, hb.tape, hb.output, hb.size, fun k hk _ => hb.block k hk⟩ (by cases hv : v.ownBlock <;> simp)
theorem map_join {α : Type} (o : Option (List α)) (acc : List α) (a : α) : ((o.map (a :: ·)).map (acc ++ ·)) = o.map ((acc ++ [a]) ++ ·) := by
 cases o <;> simp
theorem own_grown {w w' : World} {base e size n b : Nat} {v : Value} {l : List Value} (h : w.ownsRow base e size v n l) (hg : w.grownBy w' (some b)) (hb : b < base) : w'.ownsRow base e size v n l :=
 h.kept hg (by
  cases hv : v.ownBlock with
  | none => exact .inl rfl
  | some k => exact .inr (by intro e; have := (h.lt k hv).1; have := Option.some.inj e; omega))
theorem ResAt.kept {w w' : World} {R : Nat} {v : Value} {c : Int} (h : ResAt w R v c) (g : w.grownBy w' (some (R + 2))) : ResAt w' R v c :=
 ⟨cell_kept h.1 g (by omega), cell_kept h.2.1 g (by omega), (World.frozen?_of_block (w := w) (a := ⟨R, 0, none⟩) (block_kept g (by show R ≠ R + 2; omega) (World.block_lt_of_cell? _ _ h.1))).trans h.2.2.1, (World.frozen?_of_block (w := w) (a := ⟨R + 1, 0, none⟩) (block_kept g (by show R + 1 ≠ R + 2; omega) (World.block_lt_of_cell? _ _ h.2.1))).trans h.2.2.2⟩
theorem below_grown {w wr w1 : World} {b : Nat} (hb : Below w.heap.size w wr) (g : wr.grownBy w1 (some b)) (hR : w.heap.size ≤ b) : Below w.heap.size w w1 :=
 ⟨g.os.trans hb.os, g.tape.trans hb.tape, g.output.trans hb.output, Nat.le_trans hb.size g.size, fun k hk => (g.block k (Nat.lt_of_lt_of_le hk hb.size) (by intro e; have := Option.some.inj e; omega)).trans (hb.block k hk)⟩
theorem list_round {w wr w1 w3 : World} {R n : Nat} {s : ByteArray} {r : List UInt8} {o : Obj} {v V : Value} {L : List Value} (hbel : Below w.heap.size w wr) (hR : R = w.heap.size) (g1 : wr.drew.grownBy w1 (some (R + 2))) (hs1 : R + 3 ≤ w1.heap.size)
    (h1 : RdrL w1 (R + 2) s r) (q1 : w1.cell? ⟨R + 1, 0, none⟩ = some (.int .i64 0)) (p1 : w1.frozen? ⟨R + 1, 0, none⟩ = false) (a0 : w3.cell? ⟨R, 0, none⟩ = some v) (b0 : w3.frozen? ⟨R, 0, none⟩ = false)
    (hgrow : (w1.alloc o).grownBy w3 v.ownBlock) (hvne : ∀ k, k < R + 3 → some k ≠ v.ownBlock) (hown3 : w3.ownsRow (R + 3) 73 2 V n L) :
    RdrL (w3.setCell ⟨R, 0, none⟩ V) (R + 2) s r ∧ ResAt (w3.setCell ⟨R, 0, none⟩ V) R V 0 ∧ (w3.setCell ⟨R, 0, none⟩ V).ownsRow (R + 3) 73 2 V n L ∧ Below w.heap.size w (w3.setCell ⟨R, 0, none⟩ V) ∧ R + 3 ≤ (w3.setCell ⟨R, 0, none⟩ V).heap.size := by
 have hsz3 : R + 3 ≤ w3.heap.size := by have := hgrow.size; simp at this; omega
 have hk : ∀ k, k < R + 3 → w3.heap[k]? = w1.heap[k]? := fun k hk =>
  (hgrow.block k (by simp; omega) (hvne k hk)).trans ((ba (Below.refl _ w1) o).block k (by omega))
 have hsz4 : (w3.setCell ⟨R, 0, none⟩ V).heap.size = w3.heap.size := by simp [World.setCell]
 refine ⟨?_, ⟨World.cell?_setCell_same _ _ _ a0, ?_, (World.frozen?_setCell ..).trans b0, ?_⟩, own_grown hown3 (Go.Lib.grownBy_setB (World.grownBy.refl w3 (some R)) 0 V) (by omega), ?_, by omega⟩
 ·obtain ⟨n, hr, c0, c1, f1, hl⟩ := h1
  have hrd : Rdr w3 (R + 2) s n := ⟨(World.cell?_of_block (w := w1) (a := ⟨R + 2, 0, none⟩) (hk (R + 2) (by omega))).trans c0, (World.cell?_of_block (w := w1) (a := ⟨R + 2, 1, none⟩) (hk (R + 2) (by omega))).trans c1, (World.frozen?_of_block (w := w1) (a := ⟨R + 2, 1, none⟩) (hk (R + 2) (by omega))).trans f1, by omega⟩
  exact ⟨n, hr, hrd.else0 (by omega) 0 V⟩
 ·exact (World.cell?_setCell_other _ _ _ _ (by intro e; have := congrArg Addr.block e; simp at this)).trans ((World.cell?_of_block (w := w1) (a := ⟨R + 1, 0, none⟩) (hk (R + 1) (by omega))).trans q1)
 ·exact (World.frozen?_setCell ..).trans ((World.frozen?_of_block (w := w1) (a := ⟨R + 1, 0, none⟩) (hk (R + 1) (by omega))).trans p1)
 ·have hb1 : Below w.heap.size w w1 := below_grown (wr := wr.drew) ⟨hbel.os, hbel.tape, hbel.output, hbel.size, hbel.block⟩ g1 (by omega)
  have hb3 : Below w.heap.size w w3 := ⟨hgrow.os.trans hb1.os, hgrow.tape.trans hb1.tape, hgrow.output.trans hb1.output, Nat.le_trans hb1.size (by have := hgrow.size; simp at this; omega), fun k hk' => (hk k (by omega)).trans (hb1.block k hk')⟩
  exact hb3.setCell (by show w.heap.size ≤ R; omega) V
theorem res_set {w wr : World} {R : Nat} {a c : Value} (hbel : Below w.heap.size w wr) (hR : w.heap.size ≤ R) (z0 : wr.cell? ⟨R, 0, none⟩ = some a) (z1 : wr.cell? ⟨R + 1, 0, none⟩ = some c) (v c' : Value) :
    ((wr.setCell ⟨R, 0, none⟩ v).setCell ⟨R + 1, 0, none⟩ c').cell? ⟨R, 0, none⟩ = some v ∧ ((wr.setCell ⟨R, 0, none⟩ v).setCell ⟨R + 1, 0, none⟩ c').cell? ⟨R + 1, 0, none⟩ = some c' ∧ Below w.heap.size w ((wr.setCell ⟨R, 0, none⟩ v).setCell ⟨R + 1, 0, none⟩ c') := by
 have n1 : (⟨R, 0, none⟩ : Addr) ≠ ⟨R + 1, 0, none⟩ := by intro e; have := congrArg Addr.block e; simp at this
 have n2 : (⟨R + 1, 0, none⟩ : Addr) ≠ ⟨R, 0, none⟩ := Ne.symm n1
 refine ⟨(World.cell?_setCell_other _ _ _ _ n2).trans (World.cell?_setCell_same _ _ _ z0), World.cell?_setCell_same _ _ _ ((World.cell?_setCell_other _ _ _ _ n1).trans z1), (hbel.setCell (by show w.heap.size ≤ R; exact hR) v).setCell (by show w.heap.size ≤ R + 1; omega) c'⟩
theorem list_any (s : ByteArray) (m : Int) (w : World) (hs : s.size ≤ 2000) (hm : w.cell? ⟨2, 0, none⟩ = some (.int .i64 m)) :
    Calls Tryz.prog 57 #[.string s] w fun e w' => ListSays w.heap.size w' e (listL s.data.toList) ∧ Below w.heap.size w w' := by
 have hmf : ∀ (fn : Fn) (first cap : Array Value) (w : World), (Instr.makeFunc fn first cap).run Tryz.prog w = .ok (.func fn first cap) w := fun _ _ _ _ => rfl
 obtain ⟨l, hl⟩ : ∃ l, l = s.data.toList := ⟨_, rfl⟩
 have hll : l.length = s.size := by rw [hl]; simp
 obtain ⟨R, hR⟩ : ∃ R, R = w.heap.size := ⟨_, rfl⟩
 have hg0 : 2 < R := by rw [hR]; exact World.block_lt_of_cell? _ _ hm
 have HA : Hid (∀ l w, w.cell? ⟨2, 0, none⟩ = some (.int .i64 m) → RdrL w (R + 2) s l → Calls Tryz.prog 87 #[.pointer (some ⟨R + 2, 0, none⟩)] w fun e w' => (∃ x y r, addrL' true l = some ((x, y), r) ∧ e = .returned (.agg #[.string ⟨x.toArray⟩, .string ⟨y.toArray⟩]) ∧ RdrL w' (R + 2) s r ∧ w.grownBy w' (some (R + 2))) ∨ (addrL' true l = none ∧ Out (R + 2) w e w')) := fun l w h1 h2 => address_read (R + 2) s l m w (by omega) (by omega) h1 h2
 have HS : Hid (∀ l w, RdrL w (R + 2) s l → Calls Tryz.prog 88 #[.pointer (some ⟨R + 2, 0, none⟩)] w fun e w' => e = .returned (.tuple #[]) ∧ RdrL w' (R + 2) s (skipL l) ∧ w.grownBy w' (some (R + 2))) := fun l w h => skip_any (R + 2) s l w (by omega) h
 have HN : Hid (∀ n l w, Rest s n l → Rdr w (R + 2) s n → Calls Tryz.prog 90 #[.pointer (some ⟨R + 2, 0, none⟩)] w fun e w' => e = .returned (.int .u8 ((nextL l).toNat : Int)) ∧ Below w.heap.size w w') := fun n l w h1 h2 => next_any (R + 2) n s l w (by omega) h1 h2
 have hrest : Rest s 0 l := by rw [hl]; exact Rest.start s
 rw [← hl]
 obtain ⟨W0, hW0⟩ : ∃ W0, W0 = ((w.alloc (.cells #[.slice none 0 0] 74)).alloc (.cells #[.int .i64 0] 45)).alloc (.cells #[.string s, .int .i64 0] 182) := ⟨_, rfl⟩
 have hB0 : Below w.heap.size w W0 := by rw [hW0]; exact ba (ba (ba (Below.refl _ w) _) _) _
 have hS0 : W0.heap.size = R + 3 := by rw [hW0, hR]; simp
 have hC0 : W0.heap[R]? = some (.cells #[.slice none 0 0] 74 (0, 0)) := by
  have h1 : (w.alloc (.cells #[.slice none 0 0] 74 (0, 0))).heap[w.heap.size]? = some (.cells #[.slice none 0 0] 74 (0, 0)) := heap_alloc_new w _
  have hb : Below (w.alloc (.cells #[.slice none 0 0] 74)).heap.size (w.alloc (.cells #[.slice none 0 0] 74)) W0 := by rw [hW0]; exact ba (ba (Below.refl _ _) _) _
  rw [hR, hb.block w.heap.size (by simp)]; exact h1
 have hC1 : W0.heap[R + 1]? = some (.cells #[.int .i64 0] 45 (0, 0)) := by
  have h1 : ((w.alloc (.cells #[.slice none 0 0] 74)).alloc (.cells #[.int .i64 0] 45 (0, 0))).heap[(w.alloc (.cells #[.slice none 0 0] 74)).heap.size]? = some (.cells #[.int .i64 0] 45 (0, 0)) := heap_alloc_new _ _
  have hb : Below ((w.alloc (.cells #[.slice none 0 0] 74)).alloc (.cells #[.int .i64 0] 45)).heap.size ((w.alloc (.cells #[.slice none 0 0] 74)).alloc (.cells #[.int .i64 0] 45)) W0 := by rw [hW0]; exact ba (Below.refl _ _) _
  rw [show (w.alloc (.cells #[.slice none 0 0] 74)).heap.size = w.heap.size + 1 by simp] at h1
  rw [hR, hb.block (w.heap.size + 1) (by simp)]; exact h1
 have hC2 : W0.heap[R + 2]? = some (.cells #[.string s, .int .i64 0] 182 (0, 0)) := by
  have h1 : W0.heap[((w.alloc (.cells #[.slice none 0 0] 74)).alloc (.cells #[.int .i64 0] 45)).heap.size]? = some (.cells #[.string s, .int .i64 0] 182 (0, 0)) := by rw [hW0]; exact heap_alloc_new _ _
  rw [show ((w.alloc (.cells #[.slice none 0 0] 74)).alloc (.cells #[.int .i64 0] 45)).heap.size = w.heap.size + 2 by simp] at h1
  rw [hR]; exact h1
 have hRes0 : ResAt W0 R (.slice none 0 0) 0 := by
  refine ⟨?_, ?_, ?_, ?_⟩
  ·simp only [World.cell?, hC0]; rfl
  ·simp only [World.cell?, hC1]; rfl
  ·simp only [World.frozen?, hC0]; simp
  ·simp only [World.frozen?, hC1]; simp
 have hRd0 : RdrL W0 (R + 2) s l := by
  refine ⟨0, hrest, ?_, ?_, ?_, by omega⟩
  ·simp only [World.cell?, hC2]; rfl
  ·simp only [World.cell?, hC2]; rfl
  ·simp only [World.frozen?, hC2]; simp
 have HR := Lib.hid hR; have HW := Lib.hid hW0; have HM := Lib.hid hm
 clear hl hC0 hC1 hC2 hW0 hm hrest hR
 go_enter_defers Tryz.func57, Tryz.ntmps57
 go_wp2_with fail
 rw [show ((w.alloc (.cells #[.slice none 0 0] 74)).alloc (.cells #[.int .i64 0] 45)).alloc (.cells #[.string s, .int .i64 0] 182) = W0 from HW.out.symm, show w.heap.size = R from HR.out.symm]
 go_loopw [12] (fun _ wr => ∃ (acc : List (List UInt8 × List UInt8)) (l' : List UInt8) (v : Value), RdrL wr (R + 2) s l' ∧ ResAt wr R v 0 ∧ wr.ownsRow (R + 3) 73 2 v acc.length (acells acc) ∧ acc.length + l'.length ≤ s.size ∧ Hid (listL l = (listL l').map (acc ++ ·)) ∧ Below w.heap.size w wr ∧ R + 3 ≤ wr.heap.size) (fun _ wr => s.size - posAt wr (R + 2))
 case atStart => exact ⟨[], l, .slice none 0 0, hRd0, hRes0, World.ownsRow_nil _ _ _ _, by simp; omega, by unfold Hid; simp, hB0, by omega⟩
 case round =>
  clear hRd0 hRes0
  obtain ⟨acc, l', v, hrl, hres, hown, hlen, heq, hbel, hsz⟩ := hrel
  have hmr := Lib.hid (moved HM.out hbel (Nat.le_refl _))
  go_wp2_with fail
  cases hadr : addrL' true l' with
  | none =>
   have hfin : Hid (listL l = none) := by unfold Hid; rw [heq.out, list_none hadr]; rfl
   obtain ⟨r0, r1, fr0, fr1⟩ := hres
   have hbd := Below.drew (Below.refl wr.heap.size wr)
   refine wp_region_any (by kernel_rfl) ?_
   try (change wpAny _ _ _ _ _ _ _ (World.drew _))
   refine wpAny_ready (rs := [0, 1]) (by kernel_rfl) (by simp) ?_
   refine AllReady.cons rfl (fun K hK => ?_) (AllReady.cons rfl (fun K hK => ?_) AllReady.nil)
   ·go_simp
    refine hK _ _ ?_
    clear hK K
    refine wpAny_ready (rs := [1]) (by kernel_rfl) (by simp) ?_
    refine AllReady.cons rfl (fun K hK => ?_) AllReady.nil
    go_simp
    refine hK _ _ ?_
    clear hK K
    refine wpAny_ready (rs := [2]) (by kernel_rfl) (by simp) ?_
    refine AllReady.cons rfl (fun K hK => ?_) AllReady.nil
    go_simp
    go_at_call 87
    refine (HA.out l' _ (moved hmr.out hbd (Nat.le_refl _)) (hrl.below hbd)).mono ?_
    rintro e w1 (⟨x, y, r, hx, _⟩ | ⟨_, rfl, g1⟩)
    ·rw [hadr] at hx; cases hx
    ·have q0 := cell_kept (w := wr.drew) r0 g1 (by omega)
     have q1 := cell_kept (w := wr.drew) r1 g1 (by omega)
     have p0 : w1.frozen? ⟨R, 0, none⟩ = false := (World.frozen?_of_block (w := wr.drew) (a := ⟨R, 0, none⟩) (block_kept g1 (by show R ≠ R + 2; omega) (World.block_lt_of_cell? _ _ r0))).trans fr0
     have p1 : w1.frozen? ⟨R + 1, 0, none⟩ = false := (World.frozen?_of_block (w := wr.drew) (a := ⟨R + 1, 0, none⟩) (block_kept g1 (by show R + 1 ≠ R + 2; omega) (World.block_lt_of_cell? _ _ r1))).trans fr1
     go_wp2_with fail
     refine leaves_cons (f := 86) (args := #[.pointer (some ⟨R, 0, none⟩), .pointer (some ⟨R + 1, 0, none⟩)]) (by simp) (by simp [go_sem]) ?_
     refine (catch_panicking R (R + 1) v (.int .i64 0) [] w1 q0 q1 p0 p1 (by omega)).mono ?_
     rintro e u' w2 ⟨rfl, rfl, z0, z1, ht⟩
     simp [Leaves, settle, results, Tryz.results57, go_sem, z0, z1]
     exact ⟨.inl ⟨hfin.out, rfl⟩, turned_below hbel g1 ht HR.out⟩
   ·go_simp
    refine hK _ _ ?_
    clear hK K
    refine wpAny_ready (rs := [0, 2]) (by kernel_rfl) (by simp) ?_
    refine AllReady.cons rfl (fun K hK => ?_) (AllReady.cons rfl (fun K hK => ?_) AllReady.nil)
    ·go_simp
     refine hK _ _ ?_
     clear hK K
     refine wpAny_ready (rs := [2]) (by kernel_rfl) (by simp) ?_
     refine AllReady.cons rfl (fun K hK => ?_) AllReady.nil
     go_simp
     go_at_call 87
     refine (HA.out l' _ (moved hmr.out hbd (Nat.le_refl _)) (hrl.below hbd)).mono ?_
     rintro e w1 (⟨x, y, r, hx, _⟩ | ⟨_, rfl, g1⟩)
     ·rw [hadr] at hx; cases hx
     ·have q0 := cell_kept (w := wr.drew) r0 g1 (by omega)
      have q1 := cell_kept (w := wr.drew) r1 g1 (by omega)
      have p0 : w1.frozen? ⟨R, 0, none⟩ = false := (World.frozen?_of_block (w := wr.drew) (a := ⟨R, 0, none⟩) (block_kept g1 (by show R ≠ R + 2; omega) (World.block_lt_of_cell? _ _ r0))).trans fr0
      have p1 : w1.frozen? ⟨R + 1, 0, none⟩ = false := (World.frozen?_of_block (w := wr.drew) (a := ⟨R + 1, 0, none⟩) (block_kept g1 (by show R + 1 ≠ R + 2; omega) (World.block_lt_of_cell? _ _ r1))).trans fr1
      go_wp2_with fail
      refine leaves_cons (f := 86) (args := #[.pointer (some ⟨R, 0, none⟩), .pointer (some ⟨R + 1, 0, none⟩)]) (by simp) (by simp [go_sem]) ?_
      refine (catch_panicking R (R + 1) v (.int .i64 0) [] w1 q0 q1 p0 p1 (by omega)).mono ?_
      rintro e u' w2 ⟨rfl, rfl, z0, z1, ht⟩
      simp [Leaves, settle, results, Tryz.results57, go_sem, z0, z1]
      exact ⟨.inl ⟨hfin.out, rfl⟩, turned_below hbel g1 ht HR.out⟩
    ·go_simp
     go_at_call 87
     refine (HA.out l' _ (moved hmr.out hbd (Nat.le_refl _)) (hrl.below hbd)).mono ?_
     rintro e w1 (⟨x, y, r, hx, _⟩ | ⟨_, rfl, g1⟩)
     ·rw [hadr] at hx; cases hx
     ·have q0 := cell_kept (w := wr.drew) r0 g1 (by omega)
      have q1 := cell_kept (w := wr.drew) r1 g1 (by omega)
      have p0 : w1.frozen? ⟨R, 0, none⟩ = false := (World.frozen?_of_block (w := wr.drew) (a := ⟨R, 0, none⟩) (block_kept g1 (by show R ≠ R + 2; omega) (World.block_lt_of_cell? _ _ r0))).trans fr0
      have p1 : w1.frozen? ⟨R + 1, 0, none⟩ = false := (World.frozen?_of_block (w := wr.drew) (a := ⟨R + 1, 0, none⟩) (block_kept g1 (by show R + 1 ≠ R + 2; omega) (World.block_lt_of_cell? _ _ r1))).trans fr1
      go_wp2_with fail
      refine leaves_cons (f := 86) (args := #[.pointer (some ⟨R, 0, none⟩), .pointer (some ⟨R + 1, 0, none⟩)]) (by simp) (by simp [go_sem]) ?_
      refine (catch_panicking R (R + 1) v (.int .i64 0) [] w1 q0 q1 p0 p1 (by omega)).mono ?_
      rintro e u' w2 ⟨rfl, rfl, z0, z1, ht⟩
      simp [Leaves, settle, results, Tryz.results57, go_sem, z0, z1]
      exact ⟨.inl ⟨hfin.out, rfl⟩, turned_below hbel g1 ht HR.out⟩
  | some xr =>
   obtain ⟨⟨x, y⟩, r⟩ := xr
   have hrl2 := addr_len hadr
   obtain ⟨i0, hi, hz0, hz1, hz2⟩ := info_parts infoAddr
   have hvne : ∀ k, k < R + 3 → some k ≠ v.ownBlock := by
    intro k hk e
    have := (hown.lt k e.symm).1
    omega
   have hal : acc.length ≤ 2000 := by omega
   obtain ⟨r0, r1, fr0, fr1⟩ := hres
   have hbd := Below.drew (Below.refl wr.heap.size wr)
   obtain ⟨X, hX⟩ : ∃ X : ByteArray, X = ⟨x.toArray⟩ := ⟨_, rfl⟩
   obtain ⟨Y, hY⟩ : ∃ Y : ByteArray, Y = ⟨y.toArray⟩ := ⟨_, rfl⟩
   have hsnoc : Hid (acells acc ++ [.string X, .string Y] = acells (acc ++ [(x, y)])) := by unfold Hid; rw [acells_snoc, hX, hY]
   have hcall : Hid (Calls Tryz.prog 87 #[.pointer (some ⟨R + 2, 0, none⟩)] wr.drew fun e w' => e = .returned (.agg #[.string X, .string Y]) ∧ RdrL w' (R + 2) s r ∧ wr.drew.grownBy w' (some (R + 2))) := by
    refine (HA.out l' _ (moved hmr.out hbd (Nat.le_refl _)) (hrl.below hbd)).mono ?_
    rintro e w1 (⟨x', y', r', hx, rfl, h1, g1⟩ | ⟨hn, _⟩)
    ·rw [hadr] at hx
     obtain ⟨e1, rfl⟩ := Prod.mk.inj (Option.some.inj hx)
     obtain ⟨rfl, rfl⟩ := Prod.mk.inj e1
     exact ⟨by rw [hX, hY], h1, g1⟩
    ·rw [hadr] at hn; cases hn
   have HX := Lib.hid hX; have HY := Lib.hid hY; have HAD := Lib.hid hadr
   clear hX hY hadr
   refine wp_region_noPanic ?_
   go_region_law (first
    | (refine step_append_lies _ (by rfl) _ _ _ (by rfl) (R + 3) 73 i0 _ 2 32 Tryz.underlying74 hi hz0 hz1 hz2 rfl (by omega) v acc.length (acells acc) (by rfl) (h1o.alloc _)
        ⟨w1.heap.size, 0, none⟩ 1 1 [.string X, .string Y] (by rfl) (by rfl) (World.news_of_block (cs := #[.string X, .string Y]) (t := 73) (fr := (0, 0)) (heap_alloc_new w1 _)) (by simp [Value.oneCell'])
        (by omega) (by unfold maxLen; omega) (by omega) (by simp; omega) (w1.heap.size + 1) (by simp) ?_
       intro g cap w3 hown3 hgrow hat hlt3
       have a0 := (hgrow.cell_far ⟨R, 0, none⟩ (by simp; omega) (hvne R (by omega))).trans (moved q0 (ba (Below.refl _ w1) _) (Nat.le_refl _))
       have b0 := (hgrow.frozen_far ⟨R, 0, none⟩ (by simp; omega) (hvne R (by omega))).trans (((ba (Below.refl _ w1) (.cells #[.string X, .string Y] 73)).frozen (p := ⟨R, 0, none⟩) (by show R < _; omega)).trans p0))
    | (go_simp
       go_at_call 87
       refine hcall.out.mono ?_
       rintro e w1 ⟨rfl, h1, g1⟩
       have q0 := cell_kept (w := wr.drew) r0 g1 (by omega)
       have q1 := cell_kept (w := wr.drew) r1 g1 (by omega)
       have p0 : w1.frozen? ⟨R, 0, none⟩ = false := (World.frozen?_of_block (w := wr.drew) (a := ⟨R, 0, none⟩) (block_kept g1 (by show R ≠ R + 2; omega) (World.block_lt_of_cell? _ _ r0))).trans fr0
       have p1 : w1.frozen? ⟨R + 1, 0, none⟩ = false := (World.frozen?_of_block (w := wr.drew) (a := ⟨R + 1, 0, none⟩) (block_kept g1 (by show R + 1 ≠ R + 2; omega) (World.block_lt_of_cell? _ _ r1))).trans fr1
       have h1o := own_grown (w := wr.drew) hown g1 (by omega)
       have hs1 : R + 3 ≤ w1.heap.size := Nat.le_trans hsz g1.size
       have q2 := moved q0 (ba (Below.refl _ w1) (.cells #[.string X, .string Y] 73)) (Nat.le_refl _)))
   all_goals
    refine NoPanic.normal ?_
    obtain ⟨hrl4, hres4, hown4, hbel4, hsz4⟩ := list_round hbel HR.out g1 hs1 h1 q1 p1 a0 b0 hgrow hvne hown3
    rw [hsnoc.out] at hown4
    obtain ⟨V, hV⟩ : ∃ V, V = Value.slice (some ⟨g, 0, none⟩) (acc.length + 1) cap := ⟨_, rfl⟩
    obtain ⟨w4, hw4⟩ : ∃ w4, w4 = w3.setCell ⟨R, 0, none⟩ V := ⟨_, rfl⟩
    rw [← hV] at hrl4 hres4 hown4 hbel4 hsz4 ⊢
    rw [← hw4] at hrl4 hres4 hown4 hbel4 hsz4 ⊢
    have HV := Lib.hid hV
    clear hV hw4 hown3 hgrow hat hlt3 a0 b0 q0 q1 q2 p0 p1 h1o hs1 h1 g1 hbd r0 r1 fr0 fr1 hvne hi hz0 hz1 hz2 hown hbel hsz hmr hcall hsnoc
    go_wp2_with fail
    refine (HS.out r _ hrl4).mono ?_
    rintro e w5 ⟨rfl, hrl5, g5⟩
    have hres5 := hres4.kept g5
    have hown5 := own_grown hown4 g5 (by omega)
    have hbel5 := below_grown hbel4 g5 (by have := HR.out; omega)
    have hsz5 : R + 3 ≤ w5.heap.size := Nat.le_trans hsz4 g5.size
    clear hrl4 hres4 hown4 hbel4 hsz4 g5
    have hskl := skip_le r
    obtain ⟨q, hq⟩ : ∃ q, q = skipL r := ⟨_, rfl⟩
    rw [← hq] at hrl5 hskl
    have HQ := Lib.hid hq.symm
    clear hq
    cases q with
    | nil =>
     have hfin : Hid (listL l = some (acc ++ [(x, y)])) := by unfold Hid; rw [heq.out, list_end HAD.out HQ.out]; rfl
     obtain ⟨n, hr, hrd⟩ := hrl5
     obtain rfl := hr.nil
     obtain ⟨d0, d1, f1, hb0⟩ := hrd
     obtain ⟨z0, z1, y0, y1⟩ := hres5
     obtain rfl := HV.out
     clear hr heq HV
     go_wp2_with fail
     refine wp_region_noPanic ?_
     go_quiet (fail)
     refine NoPanic.normal ?_
     by_cases h20 : 20 < acc.length + 1
     ·obtain ⟨e0, e1, hbF⟩ := res_set (bt hbel5 (below_drewN w5 nq)) (by have := HR.out; omega) z0 z1 (.slice none 0 0) (.int .i64 5)
      go_wp2_with fail
      refine leaves_cons (f := 86) (args := #[.pointer (some ⟨R, 0, none⟩), .pointer (some ⟨R + 1, 0, none⟩)]) (by simp) (by simp [go_sem]) ?_
      refine (catch_idle ⟨R, 0, none⟩ ⟨R + 1, 0, none⟩ _).mono ?_
      rintro e u' w6 ⟨rfl, rfl, rfl⟩
      simp [Leaves, settle, results, Tryz.results57, go_sem, e0, e1]
      exact ⟨.inr (.inl ⟨_, hfin.out, by simpa using h20, rfl⟩), hbF⟩
     ·have h20' : decide (20 < acc.length + 1) = false := decide_eq_false h20
      obtain ⟨e0, e1, hbF⟩ := res_set (bt hbel5 (below_drewN w5 nq)) (by have := HR.out; omega) z0 z1 (.slice (some ⟨g, 0, none⟩) (acc.length + 1) cap) (.int .i64 0)
      have hownF := own_grown (own_grown (w := w5.drewN nq) hown5 (Go.Lib.grownBy_setB (World.grownBy.refl (w5.drewN nq) (some R)) 0 (.slice (some ⟨g, 0, none⟩) (acc.length + 1) cap)) (by omega)) (Go.Lib.grownBy_setB (World.grownBy.refl _ (some (R + 1))) 0 (.int .i64 0)) (by omega)
      go_wp2_with fail
      refine leaves_cons (f := 86) (args := #[.pointer (some ⟨R, 0, none⟩), .pointer (some ⟨R + 1, 0, none⟩)]) (by simp) (by simp [go_sem]) ?_
      refine (catch_idle ⟨R, 0, none⟩ ⟨R + 1, 0, none⟩ _).mono ?_
      rintro e u' w6 ⟨rfl, rfl, rfl⟩
      simp [Leaves, settle, results, Tryz.results57, go_sem, e0, e1]
      exact ⟨.inr (.inr ⟨_, _, hfin.out, by simp; omega, rfl, own_base (base := R + 3) (base' := w.heap.size) (by have := HR.out; omega) (by simpa using hownF)⟩), hbF⟩
    | cons c q =>
     simp only [List.length_cons] at hskl
     obtain ⟨n, hr, hrd⟩ := hrl5
     obtain ⟨hlt, _, hr1⟩ := hr.cons
     have hrd' := hrd
     obtain ⟨d0, d1, f1, hb0⟩ := hrd'
     have hne : ((n : Int) == (s.size : Int)) = false := beq_eq_false_iff_ne.2 (by omega)
     have HRs := Lib.hid hr; have HR1 := Lib.hid hr1
     clear hr hr1
     go_wp2_with fail
     refine wp_region_noPanic ?_
     go_quiet (fail)
     refine NoPanic.normal ?_
     have hrd6 := hrd.drewN nq
     have hbel6 := bt hbel5 (below_drewN w5 nq)
     clear d0 d1 f1 hb0
     go_wp2_with fail
     refine (HN.out n (c :: q) _ HRs.out hrd6).mono ?_
     rintro e w6 ⟨rfl, hb6⟩
     have hrd7 := hrd6.below hb6
     have hbel7 := bt hbel6 hb6
     have hres7 : ResAt w6 R V 0 := ResAt.below (w := w5.drewN nq) hres5 hb6
     have hown7 := own_down (w := w5.drewN nq) hown5 hb6
     have hsz7 : R + 3 ≤ w6.heap.size := Nat.le_trans hsz5 hb6.size
     clear hrd hrd6 hbel6 hb6 hres5 hown5 hbel5 hsz5
     by_cases h44 : c = 44
     ·have e1 := nextL_eq c q 44 h44 44 rfl
      have hfin : Hid (listL l = (listL q).map ((acc ++ [(x, y)]) ++ ·)) := by
       unfold Hid
       rw [heq.out, list_next HAD.out (by rw [HQ.out, h44]), map_join]
      clear heq h44
      go_wp2_with fail
      refine (must_true _).mono ?_
      rintro e w7 ⟨rfl, rfl⟩
      have hrd8 := hrd7.step
      have hst := Go.Lib.grownBy_setB (World.grownBy.refl w6 (some (R + 2))) 1 (.int .i64 ((n : Int) + 1))
      have hres8 := hres7.kept hst
      have hown8 := own_grown hown7 hst (by omega)
      have hbel8 := below_grown hbel7 hst (by have := HR.out; omega)
      have hsz8 := Nat.le_trans hsz7 hst.size
      obtain ⟨d0, d1, f1, hb0⟩ := hrd7
      go_wp2_with fail
      go_roundw
      case rel => exact ⟨acc ++ [(x, y)], q, V, ⟨n + 1, HR1.out, hrd8⟩, hres8, by rw [List.length_append]; exact hown8, by simp; omega, hfin, hbel8, hsz8⟩
      case measure => exact measL hrl ⟨n + 1, HR1.out, hrd8⟩ (by omega)
     ·have e1 := nextL_ne c q 44 h44 44 rfl
      have hfin : Hid (listL l = none) := by
       unfold Hid
       rw [heq.out, list_bad HAD.out HQ.out (by simp) h44]; rfl
      clear heq h44
      go_wp2_with fail
      refine (must_false _).mono ?_
      rintro e w7 ⟨rfl, rfl⟩
      obtain ⟨q0, q1, p0, p1⟩ := hres7
      go_wp2_with fail
      refine leaves_cons (f := 86) (args := #[.pointer (some ⟨R, 0, none⟩), .pointer (some ⟨R + 1, 0, none⟩)]) (by simp) (by simp [go_sem]) ?_
      refine (catch_panicking R (R + 1) V (.int .i64 0) [] w6 q0 q1 p0 p1 (by omega)).mono ?_
      rintro e u' w8 ⟨rfl, rfl, z0, z1, ht⟩
      simp [Leaves, settle, results, Tryz.results57, go_sem, z0, z1]
      exact ⟨.inl ⟨hfin.out, rfl⟩, turned_below2 hbel7 ht HR.out⟩
end Go.Proofs.YtmkppkjikifdlaaGreatDoor
