/-
  DERIVED. (*cutter).span of token, at each of the four predicates that the cutter hands over: the walks.
-/
import Derived.Test.YtpjiiipabbchiaaDoorTkRdr
namespace Go.Proofs.YtpjiiipabbchiaaDoor.Tk
open Go.RowKit

theorem span_split (p : UInt8 → Bool) (l : List UInt8) : l.takeWhile p ++ l.dropWhile p = l := List.takeWhile_append_dropWhile
theorem span_slice {s : ByteArray} {n n' : Nat} {l : List UInt8} {p : UInt8 → Bool} (h : Rest s n l) (h' : Rest s n' (l.dropWhile p)) : s.extract n n' = ⟨(l.takeWhile p).toArray⟩ := by
  have hb := span_split p l
  have hl : (l.takeWhile p).length + (l.dropWhile p).length = l.length := by rw [← List.length_append, hb]
  have h1 := h.1; have h2 := h'.1
  rw [Go.Lib.extract_eq, h.2, show n' - n = (l.takeWhile p).length by omega]
  have : l.take (l.takeWhile p).length = l.takeWhile p := by
    have e : (l.takeWhile p ++ l.dropWhile p).take (l.takeWhile p).length = l.takeWhile p := List.take_left
    rw [hb] at e; exact e
  rw [this]
theorem span_le {s : ByteArray} {n n' : Nat} {l : List UInt8} {p : UInt8 → Bool} (h : Rest s n l) (h' : Rest s n' (l.dropWhile p)) : n ≤ n' := by
  have hb := span_split p l
  have hl : (l.takeWhile p).length + (l.dropWhile p).length = l.length := by rw [← List.length_append, hb]
  have h1 := h.1; have h2 := h'.1
  omega
theorem drop_yes {p : UInt8 → Bool} {c : UInt8} (r : List UInt8) (h : p c = true) : (c :: r).dropWhile p = r.dropWhile p := by rw [List.dropWhile_cons, if_pos h]
theorem drop_no {p : UInt8 → Bool} {c : UInt8} (r : List UInt8) (h : p c = false) : (c :: r).dropWhile p = c :: r := by rw [List.dropWhile_cons, if_neg (by rw [h]; exact Bool.false_ne_true)]

set_option maxHeartbeats 4000000 in
set_option maxRecDepth 20000 in
theorem span_word (b : Nat) (s : ByteArray) (l : List UInt8) (w : World) (hs : s.size ≤ 100000) (h : RdrL w b s l) :
    Calls Tryd.prog 32 #[.pointer (some ⟨b, 0, none⟩), .func (.func 41) #[] #[]] w fun e w' => e = .returned (.string ⟨(l.takeWhile isWd).toArray⟩) ∧ RdrL w' b s (l.dropWhile isWd) ∧ w.grownBy w' (some b) := by
  obtain ⟨n0, hr0, hrd0⟩ := h
  have HR0 := Lib.hid hr0
  have hn0 := hr0.le
  have hrd0' := hrd0
  obtain ⟨c0, c1, f1, hb⟩ := hrd0'
  clear hr0
  go_enter Tryd.func32, Tryd.ntmps32
  go_wp2_with fail
  go_loopw [10] (fun _ wr => ∃ l', RdrL wr b s l' ∧ Hid (l'.dropWhile isWd = l.dropWhile isWd) ∧ w.grownBy wr (some b)) (fun _ wr => s.size - posAt wr b)
  case atStart => exact ⟨l, ⟨n0, HR0.out, hrd0⟩, rfl, World.grownBy.refl _ _⟩
  case round =>
    clear c0 c1 f1 hb
    obtain ⟨l', ⟨n, hr, hrd⟩, hsk, hg⟩ := hrel
    have hpos := Lib.hid hrd.pos
    have hrd' := hrd
    obtain ⟨c0, c1, f1, hb⟩ := hrd'
    cases l' with
    | nil =>
      obtain rfl := hr.nil
      have hr9 : Rest s s.size (l.dropWhile isWd) := by rw [← hsk.out]; exact hr
      have hx := Lib.hid (span_slice HR0.out hr9)
      have h1 : decide ((s.size : Int) < (s.size : Int)) = false := decide_eq_false (by omega)
      clear hr
      have HR9 := Lib.hid hr9; clear hr9
      go_wp2
      go_quiet (fail)
      go_wp2
      go_quiet (fail)
      go_wp2
      go_ret
      exact ⟨congrArg (fun b => Ending.returned (Value.string b)) hx.out, ⟨s.size, HR9.out, (hrd.drewN _).drewN _⟩, Go.Lib.grownBy_below hg (bt (below_drewN _ _) (below_drewN _ _))⟩
    | cons c r =>
      obtain ⟨hlt, hc, hr1⟩ := hr.cons
      have HR := Lib.hid hr; have HR1 := Lib.hid hr1
      have h1 : decide ((n : Int) < (s.size : Int)) = true := decide_eq_true (by omega)
      clear hr hr1
      cases hat : isWd c with
      | true =>
        have HA : Hid (∀ w, Calls Tryd.prog 41 #[.int .u8 (s[n].toNat : Int)] w fun e w' => e = .returned (.bool true) ∧ w' = w) := by
          intro w; rw [hc]
          refine (wordB_any c w).mono ?_
          rintro e w' ⟨rfl, rfl⟩
          exact ⟨by rw [hat], rfl⟩
        have hsk' : Hid (r.dropWhile isWd = l.dropWhile isWd) := by unfold Hid; rw [← hsk.out, drop_yes _ hat]
        clear hsk hc hat
        go_wp2
        go_quiet ((go_at_call 41; exact Calls.quiet_of_same (HA.out _)))
        go_wp2
        go_roundw
        case rel => exact ⟨r, ⟨n + 1, HR1.out, (hrd.drewN _).step⟩, hsk', Go.Lib.grownBy_setB (Go.Lib.grownBy_below hg (below_drewN _ _)) 1 _⟩
        case measure =>
          rw [(hrd.drewN _).step.pos, hpos.out]
          omega
      | false =>
        have HA : Hid (∀ w, Calls Tryd.prog 41 #[.int .u8 (s[n].toNat : Int)] w fun e w' => e = .returned (.bool false) ∧ w' = w) := by
          intro w; rw [hc]
          refine (wordB_any c w).mono ?_
          rintro e w' ⟨rfl, rfl⟩
          exact ⟨by rw [hat], rfl⟩
        have hsk' : Hid (c :: r = l.dropWhile isWd) := by unfold Hid; rw [← hsk.out, drop_no _ hat]
        have hr9 : Rest s n (l.dropWhile isWd) := by rw [← hsk'.out]; exact HR.out
        have hx := Lib.hid (span_slice HR0.out hr9)
        have hle := span_le HR0.out hr9
        have HR9 := Lib.hid hr9
        clear hsk hc hat hr9
        go_wp2
        go_quiet ((go_at_call 41; exact Calls.quiet_of_same (HA.out _)))
        go_wp2
        go_quiet (fail)
        go_wp2
        go_ret
        exact ⟨congrArg (fun b => Ending.returned (Value.string b)) hx.out, ⟨n, HR9.out, (hrd.drewN _).drewN _⟩, Go.Lib.grownBy_below hg (bt (below_drewN _ _) (below_drewN _ _))⟩

set_option maxHeartbeats 4000000 in
set_option maxRecDepth 20000 in
theorem span_ws (b : Nat) (s : ByteArray) (l : List UInt8) (w : World) (hs : s.size ≤ 100000) (h : RdrL w b s l) :
    Calls Tryd.prog 32 #[.pointer (some ⟨b, 0, none⟩), .func (.func 33) #[] #[]] w fun e w' => e = .returned (.string ⟨(l.takeWhile isWs).toArray⟩) ∧ RdrL w' b s (l.dropWhile isWs) ∧ w.grownBy w' (some b) := by
  obtain ⟨n0, hr0, hrd0⟩ := h
  have HR0 := Lib.hid hr0
  have hn0 := hr0.le
  have hrd0' := hrd0
  obtain ⟨c0, c1, f1, hb⟩ := hrd0'
  clear hr0
  go_enter Tryd.func32, Tryd.ntmps32
  go_wp2_with fail
  go_loopw [10] (fun _ wr => ∃ l', RdrL wr b s l' ∧ Hid (l'.dropWhile isWs = l.dropWhile isWs) ∧ w.grownBy wr (some b)) (fun _ wr => s.size - posAt wr b)
  case atStart => exact ⟨l, ⟨n0, HR0.out, hrd0⟩, rfl, World.grownBy.refl _ _⟩
  case round =>
    clear c0 c1 f1 hb
    obtain ⟨l', ⟨n, hr, hrd⟩, hsk, hg⟩ := hrel
    have hpos := Lib.hid hrd.pos
    have hrd' := hrd
    obtain ⟨c0, c1, f1, hb⟩ := hrd'
    cases l' with
    | nil =>
      obtain rfl := hr.nil
      have hr9 : Rest s s.size (l.dropWhile isWs) := by rw [← hsk.out]; exact hr
      have hx := Lib.hid (span_slice HR0.out hr9)
      have h1 : decide ((s.size : Int) < (s.size : Int)) = false := decide_eq_false (by omega)
      clear hr
      have HR9 := Lib.hid hr9; clear hr9
      go_wp2
      go_quiet (fail)
      go_wp2
      go_quiet (fail)
      go_wp2
      go_ret
      exact ⟨congrArg (fun b => Ending.returned (Value.string b)) hx.out, ⟨s.size, HR9.out, (hrd.drewN _).drewN _⟩, Go.Lib.grownBy_below hg (bt (below_drewN _ _) (below_drewN _ _))⟩
    | cons c r =>
      obtain ⟨hlt, hc, hr1⟩ := hr.cons
      have HR := Lib.hid hr; have HR1 := Lib.hid hr1
      have h1 : decide ((n : Int) < (s.size : Int)) = true := decide_eq_true (by omega)
      clear hr hr1
      cases hat : isWs c with
      | true =>
        have HA : Hid (∀ w, Calls Tryd.prog 33 #[.int .u8 (s[n].toNat : Int)] w fun e w' => e = .returned (.bool true) ∧ w' = w) := by
          intro w; rw [hc]
          refine (wsB_any c w).mono ?_
          rintro e w' ⟨rfl, rfl⟩
          exact ⟨by rw [hat], rfl⟩
        have hsk' : Hid (r.dropWhile isWs = l.dropWhile isWs) := by unfold Hid; rw [← hsk.out, drop_yes _ hat]
        clear hsk hc hat
        go_wp2
        go_quiet ((go_at_call 33; exact Calls.quiet_of_same (HA.out _)))
        go_wp2
        go_roundw
        case rel => exact ⟨r, ⟨n + 1, HR1.out, (hrd.drewN _).step⟩, hsk', Go.Lib.grownBy_setB (Go.Lib.grownBy_below hg (below_drewN _ _)) 1 _⟩
        case measure =>
          rw [(hrd.drewN _).step.pos, hpos.out]
          omega
      | false =>
        have HA : Hid (∀ w, Calls Tryd.prog 33 #[.int .u8 (s[n].toNat : Int)] w fun e w' => e = .returned (.bool false) ∧ w' = w) := by
          intro w; rw [hc]
          refine (wsB_any c w).mono ?_
          rintro e w' ⟨rfl, rfl⟩
          exact ⟨by rw [hat], rfl⟩
        have hsk' : Hid (c :: r = l.dropWhile isWs) := by unfold Hid; rw [← hsk.out, drop_no _ hat]
        have hr9 : Rest s n (l.dropWhile isWs) := by rw [← hsk'.out]; exact HR.out
        have hx := Lib.hid (span_slice HR0.out hr9)
        have hle := span_le HR0.out hr9
        have HR9 := Lib.hid hr9
        clear hsk hc hat hr9
        go_wp2
        go_quiet ((go_at_call 33; exact Calls.quiet_of_same (HA.out _)))
        go_wp2
        go_quiet (fail)
        go_wp2
        go_ret
        exact ⟨congrArg (fun b => Ending.returned (Value.string b)) hx.out, ⟨n, HR9.out, (hrd.drewN _).drewN _⟩, Go.Lib.grownBy_below hg (bt (below_drewN _ _) (below_drewN _ _))⟩

set_option maxHeartbeats 4000000 in
set_option maxRecDepth 20000 in
theorem span_nl (b : Nat) (s : ByteArray) (l : List UInt8) (w : World) (hs : s.size ≤ 100000) (h : RdrL w b s l) :
    Calls Tryd.prog 32 #[.pointer (some ⟨b, 0, none⟩), .func (.func 34) #[] #[]] w fun e w' => e = .returned (.string ⟨(l.takeWhile noNl).toArray⟩) ∧ RdrL w' b s (l.dropWhile noNl) ∧ w.grownBy w' (some b) := by
  obtain ⟨n0, hr0, hrd0⟩ := h
  have HR0 := Lib.hid hr0
  have hn0 := hr0.le
  have hrd0' := hrd0
  obtain ⟨c0, c1, f1, hb⟩ := hrd0'
  clear hr0
  go_enter Tryd.func32, Tryd.ntmps32
  go_wp2_with fail
  go_loopw [10] (fun _ wr => ∃ l', RdrL wr b s l' ∧ Hid (l'.dropWhile noNl = l.dropWhile noNl) ∧ w.grownBy wr (some b)) (fun _ wr => s.size - posAt wr b)
  case atStart => exact ⟨l, ⟨n0, HR0.out, hrd0⟩, rfl, World.grownBy.refl _ _⟩
  case round =>
    clear c0 c1 f1 hb
    obtain ⟨l', ⟨n, hr, hrd⟩, hsk, hg⟩ := hrel
    have hpos := Lib.hid hrd.pos
    have hrd' := hrd
    obtain ⟨c0, c1, f1, hb⟩ := hrd'
    cases l' with
    | nil =>
      obtain rfl := hr.nil
      have hr9 : Rest s s.size (l.dropWhile noNl) := by rw [← hsk.out]; exact hr
      have hx := Lib.hid (span_slice HR0.out hr9)
      have h1 : decide ((s.size : Int) < (s.size : Int)) = false := decide_eq_false (by omega)
      clear hr
      have HR9 := Lib.hid hr9; clear hr9
      go_wp2
      go_quiet (fail)
      go_wp2
      go_quiet (fail)
      go_wp2
      go_ret
      exact ⟨congrArg (fun b => Ending.returned (Value.string b)) hx.out, ⟨s.size, HR9.out, (hrd.drewN _).drewN _⟩, Go.Lib.grownBy_below hg (bt (below_drewN _ _) (below_drewN _ _))⟩
    | cons c r =>
      obtain ⟨hlt, hc, hr1⟩ := hr.cons
      have HR := Lib.hid hr; have HR1 := Lib.hid hr1
      have h1 : decide ((n : Int) < (s.size : Int)) = true := decide_eq_true (by omega)
      clear hr hr1
      cases hat : noNl c with
      | true =>
        have HA : Hid (∀ w, Calls Tryd.prog 34 #[.int .u8 (s[n].toNat : Int)] w fun e w' => e = .returned (.bool true) ∧ w' = w) := by
          intro w; rw [hc]
          refine (nlB_any c w).mono ?_
          rintro e w' ⟨rfl, rfl⟩
          exact ⟨by rw [hat], rfl⟩
        have hsk' : Hid (r.dropWhile noNl = l.dropWhile noNl) := by unfold Hid; rw [← hsk.out, drop_yes _ hat]
        clear hsk hc hat
        go_wp2
        go_quiet ((go_at_call 34; exact Calls.quiet_of_same (HA.out _)))
        go_wp2
        go_roundw
        case rel => exact ⟨r, ⟨n + 1, HR1.out, (hrd.drewN _).step⟩, hsk', Go.Lib.grownBy_setB (Go.Lib.grownBy_below hg (below_drewN _ _)) 1 _⟩
        case measure =>
          rw [(hrd.drewN _).step.pos, hpos.out]
          omega
      | false =>
        have HA : Hid (∀ w, Calls Tryd.prog 34 #[.int .u8 (s[n].toNat : Int)] w fun e w' => e = .returned (.bool false) ∧ w' = w) := by
          intro w; rw [hc]
          refine (nlB_any c w).mono ?_
          rintro e w' ⟨rfl, rfl⟩
          exact ⟨by rw [hat], rfl⟩
        have hsk' : Hid (c :: r = l.dropWhile noNl) := by unfold Hid; rw [← hsk.out, drop_no _ hat]
        have hr9 : Rest s n (l.dropWhile noNl) := by rw [← hsk'.out]; exact HR.out
        have hx := Lib.hid (span_slice HR0.out hr9)
        have hle := span_le HR0.out hr9
        have HR9 := Lib.hid hr9
        clear hsk hc hat hr9
        go_wp2
        go_quiet ((go_at_call 34; exact Calls.quiet_of_same (HA.out _)))
        go_wp2
        go_quiet (fail)
        go_wp2
        go_ret
        exact ⟨congrArg (fun b => Ending.returned (Value.string b)) hx.out, ⟨n, HR9.out, (hrd.drewN _).drewN _⟩, Go.Lib.grownBy_below hg (bt (below_drewN _ _) (below_drewN _ _))⟩

set_option maxHeartbeats 4000000 in
set_option maxRecDepth 20000 in
theorem span_digit (b : Nat) (s : ByteArray) (l : List UInt8) (w : World) (hs : s.size ≤ 100000) (h : RdrL w b s l) :
    Calls Tryd.prog 32 #[.pointer (some ⟨b, 0, none⟩), .func (.func 37) #[] #[]] w fun e w' => e = .returned (.string ⟨(l.takeWhile isDig).toArray⟩) ∧ RdrL w' b s (l.dropWhile isDig) ∧ w.grownBy w' (some b) := by
  obtain ⟨n0, hr0, hrd0⟩ := h
  have HR0 := Lib.hid hr0
  have hn0 := hr0.le
  have hrd0' := hrd0
  obtain ⟨c0, c1, f1, hb⟩ := hrd0'
  clear hr0
  go_enter Tryd.func32, Tryd.ntmps32
  go_wp2_with fail
  go_loopw [10] (fun _ wr => ∃ l', RdrL wr b s l' ∧ Hid (l'.dropWhile isDig = l.dropWhile isDig) ∧ w.grownBy wr (some b)) (fun _ wr => s.size - posAt wr b)
  case atStart => exact ⟨l, ⟨n0, HR0.out, hrd0⟩, rfl, World.grownBy.refl _ _⟩
  case round =>
    clear c0 c1 f1 hb
    obtain ⟨l', ⟨n, hr, hrd⟩, hsk, hg⟩ := hrel
    have hpos := Lib.hid hrd.pos
    have hrd' := hrd
    obtain ⟨c0, c1, f1, hb⟩ := hrd'
    cases l' with
    | nil =>
      obtain rfl := hr.nil
      have hr9 : Rest s s.size (l.dropWhile isDig) := by rw [← hsk.out]; exact hr
      have hx := Lib.hid (span_slice HR0.out hr9)
      have h1 : decide ((s.size : Int) < (s.size : Int)) = false := decide_eq_false (by omega)
      clear hr
      have HR9 := Lib.hid hr9; clear hr9
      go_wp2
      go_quiet (fail)
      go_wp2
      go_quiet (fail)
      go_wp2
      go_ret
      exact ⟨congrArg (fun b => Ending.returned (Value.string b)) hx.out, ⟨s.size, HR9.out, (hrd.drewN _).drewN _⟩, Go.Lib.grownBy_below hg (bt (below_drewN _ _) (below_drewN _ _))⟩
    | cons c r =>
      obtain ⟨hlt, hc, hr1⟩ := hr.cons
      have HR := Lib.hid hr; have HR1 := Lib.hid hr1
      have h1 : decide ((n : Int) < (s.size : Int)) = true := decide_eq_true (by omega)
      clear hr hr1
      cases hat : isDig c with
      | true =>
        have HA : Hid (∀ w, Calls Tryd.prog 37 #[.int .u8 (s[n].toNat : Int)] w fun e w' => e = .returned (.bool true) ∧ w' = w) := by
          intro w; rw [hc]
          refine (digit_any c w).mono ?_
          rintro e w' ⟨rfl, rfl⟩
          exact ⟨by rw [hat], rfl⟩
        have hsk' : Hid (r.dropWhile isDig = l.dropWhile isDig) := by unfold Hid; rw [← hsk.out, drop_yes _ hat]
        clear hsk hc hat
        go_wp2
        go_quiet ((go_at_call 37; exact Calls.quiet_of_same (HA.out _)))
        go_wp2
        go_roundw
        case rel => exact ⟨r, ⟨n + 1, HR1.out, (hrd.drewN _).step⟩, hsk', Go.Lib.grownBy_setB (Go.Lib.grownBy_below hg (below_drewN _ _)) 1 _⟩
        case measure =>
          rw [(hrd.drewN _).step.pos, hpos.out]
          omega
      | false =>
        have HA : Hid (∀ w, Calls Tryd.prog 37 #[.int .u8 (s[n].toNat : Int)] w fun e w' => e = .returned (.bool false) ∧ w' = w) := by
          intro w; rw [hc]
          refine (digit_any c w).mono ?_
          rintro e w' ⟨rfl, rfl⟩
          exact ⟨by rw [hat], rfl⟩
        have hsk' : Hid (c :: r = l.dropWhile isDig) := by unfold Hid; rw [← hsk.out, drop_no _ hat]
        have hr9 : Rest s n (l.dropWhile isDig) := by rw [← hsk'.out]; exact HR.out
        have hx := Lib.hid (span_slice HR0.out hr9)
        have hle := span_le HR0.out hr9
        have HR9 := Lib.hid hr9
        clear hsk hc hat hr9
        go_wp2
        go_quiet ((go_at_call 37; exact Calls.quiet_of_same (HA.out _)))
        go_wp2
        go_quiet (fail)
        go_wp2
        go_ret
        exact ⟨congrArg (fun b => Ending.returned (Value.string b)) hx.out, ⟨n, HR9.out, (hrd.drewN _).drewN _⟩, Go.Lib.grownBy_below hg (bt (below_drewN _ _) (below_drewN _ _))⟩
end Go.Proofs.YtpjiiipabbchiaaDoor.Tk
