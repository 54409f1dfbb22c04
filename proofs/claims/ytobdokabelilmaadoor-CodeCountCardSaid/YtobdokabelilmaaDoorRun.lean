/-
  DERIVED. 'run', 'quoted' of who's reader.
-/
import Derived.Test.YtobdokabelilmaaDoorReader
namespace Go.Proofs.YtobdokabelilmaaDoor
open Go.RowKit

def isRn (c : UInt8) : Bool := isAtom c || c == 46
def runT : List UInt8 → List UInt8
  | [] => []
  | c :: l => if isRn c then c :: runT l else []
def runR : List UInt8 → List UInt8
  | [] => []
  | c :: l => if isRn c then runR l else c :: l
theorem run_both : ∀ l : List UInt8, runT l ++ runR l = l
  | [] => rfl
  | c :: l => by
    unfold runT runR
    split
    · rw [List.cons_append, run_both l]
    · rfl
theorem run_slice {s : ByteArray} {n n' : Nat} {l : List UInt8} (h : Rest s n l) (h' : Rest s n' (runR l)) : s.extract n n' = ⟨(runT l).toArray⟩ := by
  have hb := run_both l
  have hl : (runT l).length + (runR l).length = l.length := by rw [← List.length_append, hb]
  have h1 := h.1; have h2 := h'.1
  rw [Go.Lib.extract_eq, h.2, show n' - n = (runT l).length by omega]
  have : l.take (runT l).length = runT l := by
    have e : (runT l ++ runR l).take (runT l).length = runT l := List.take_left
    rw [hb] at e; exact e
  rw [this]
theorem run_le {s : ByteArray} {n n' : Nat} {l : List UInt8} (h : Rest s n l) (h' : Rest s n' (runR l)) : n ≤ n' := by
  have hb := run_both l
  have hl : (runT l).length + (runR l).length = l.length := by rw [← List.length_append, hb]
  have h1 := h.1; have h2 := h'.1
  omega
theorem atom_at (c : UInt8) (t : Bool) (h : isAtom c = t) (w : World) : Calls Tryd.prog 97 #[.int .u8 (c.toNat : Int)] w fun e w' => e = .returned (.bool t) ∧ w' = w := by
  refine (atom_any c w).mono ?_
  rintro e w' ⟨rfl, rfl⟩
  exact ⟨by rw [h], rfl⟩

set_option maxHeartbeats 2000000 in
theorem run_any (b : Nat) (s : ByteArray) (l : List UInt8) (w : World) (hs : s.size ≤ 100000) (h : RdrL w b s l) :
    Calls Tryd.prog 93 #[.pointer (some ⟨b, 0, none⟩)] w fun e w' => e = .returned (.string ⟨(runT l).toArray⟩) ∧ RdrL w' b s (runR l) ∧ w.grownBy w' (some b) := by
  obtain ⟨n0, hr0, hrd0⟩ := h
  have HR0 := Lib.hid hr0
  have hn0 := hr0.le
  have hrd0' := hrd0
  obtain ⟨c0, c1, f1, hb⟩ := hrd0'
  clear hr0
  go_enter Tryd.func93, Tryd.ntmps93
  go_wp2_with fail
  go_loopw [8] (fun _ wr => ∃ l', RdrL wr b s l' ∧ Hid (runR l' = runR l) ∧ w.grownBy wr (some b)) (fun _ wr => s.size - posAt wr b)
  case atStart => exact ⟨l, ⟨n0, HR0.out, hrd0⟩, rfl, World.grownBy.refl _ _⟩
  case round =>
    clear c0 c1 f1 hb
    obtain ⟨l', ⟨n, hr, hrd⟩, hsk, hg⟩ := hrel
    have hpos := Lib.hid hrd.pos
    have hrd' := hrd
    obtain ⟨c0, c1, f1, hb⟩ := hrd'
    cases l' with
    | nil =>
      obtain rfl := hr.nil
      have hr9 : Rest s s.size (runR l) := by rw [← hsk.out]; exact hr
      have hx := Lib.hid (run_slice HR0.out hr9)
      clear hr
      have HR9 := Lib.hid hr9; clear hr9
      go_wp2
      go_quiet (fail)
      go_wp2
      go_quiet (fail)
      go_wp2
      go_ret
      exact ⟨congrArg (fun b => Ending.returned (Value.string b)) hx.out, ⟨s.size, HR9.out, (hrd.drewN _).drewN _⟩, Go.Lib.grownBy_below (Go.Lib.grownBy_below hg (below_drewN _ _)) (below_drewN _ _)⟩
    | cons c r =>
      obtain ⟨hlt, hc, hr1⟩ := hr.cons
      have HR := Lib.hid hr; have HR1 := Lib.hid hr1
      clear hr hr1
      cases hat : isAtom c with
      | true =>
        have HA : Hid (∀ w, Calls Tryd.prog 97 #[.int .u8 (s[n].toNat : Int)] w fun e w' => e = .returned (.bool true) ∧ w' = w) := by intro w; rw [hc]; exact atom_at c true hat w
        have hsk' : Hid (runR r = runR l) := by unfold Hid; rw [← hsk.out]; show _ = if isRn c then runR r else c :: r; rw [if_pos (by unfold isRn; rw [hat]; rfl)]
        clear hsk hc hat
        go_wp2
        go_quiet ((go_at_call 97; exact Calls.quiet_of_same (HA.out _)))
        go_wp2
        go_roundw
        case rel => exact ⟨r, ⟨n + 1, HR1.out, (hrd.drewN _).step⟩, hsk', Go.Lib.grownBy_setB (Go.Lib.grownBy_below hg (below_drewN _ _)) 1 _⟩
        case measure =>
          rw [(hrd.drewN _).step.pos, hpos.out]
          omega
      | false =>
        have HA : Hid (∀ w, Calls Tryd.prog 97 #[.int .u8 (s[n].toNat : Int)] w fun e w' => e = .returned (.bool false) ∧ w' = w) := by intro w; rw [hc]; exact atom_at c false hat w
        by_cases h46 : c = 46
        · have hsk' : Hid (runR r = runR l) := by unfold Hid; rw [← hsk.out]; show _ = if isRn c then runR r else c :: r; rw [if_pos (by unfold isRn; rw [h46]; rfl)]
          have e1 : ((s[n].toNat : Int) == 46) = true := by rw [hc, h46]; rfl
          clear hsk hc hat h46
          go_wp2
          go_quiet ((go_at_call 97; exact Calls.quiet_of_same (HA.out _)))
          go_wp2
          go_roundw
          case rel => exact ⟨r, ⟨n + 1, HR1.out, (hrd.drewN _).step⟩, hsk', Go.Lib.grownBy_setB (Go.Lib.grownBy_below hg (below_drewN _ _)) 1 _⟩
          case measure =>
            rw [(hrd.drewN _).step.pos, hpos.out]
            omega
        · have hsk' : Hid (runR (c :: r) = c :: r) := by show (if isRn c then runR r else c :: r) = _; rw [if_neg (by unfold isRn; rw [hat]; simpa using h46)]
          have e1 : ((s[n].toNat : Int) == 46) = false := beq_eq_false_iff_ne.2 (fun e => h46 (UInt8.toNat_inj.1 (by rw [← hc]; exact Int.ofNat_inj.1 e)))
          have hr9 : Rest s n (runR l) := by rw [← hsk.out, hsk'.out]; exact HR.out
          have hx := Lib.hid (run_slice HR0.out hr9)
          have hle := run_le HR0.out hr9
          have HR9 := Lib.hid hr9; clear hr9
          clear hc hat h46
          go_wp2
          go_quiet ((go_at_call 97; exact Calls.quiet_of_same (HA.out _)))
          go_wp2
          go_quiet (fail)
          go_wp2
          go_ret
          exact ⟨congrArg (fun b => Ending.returned (Value.string b)) hx.out, ⟨n, HR9.out, (hrd.drewN _).drewN _⟩, Go.Lib.grownBy_below (Go.Lib.grownBy_below hg (below_drewN _ _)) (below_drewN _ _)⟩
end Go.Proofs.YtobdokabelilmaaDoor
