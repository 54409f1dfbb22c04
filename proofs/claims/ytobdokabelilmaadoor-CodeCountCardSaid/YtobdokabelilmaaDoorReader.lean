/-
  DERIVED. The reader of who: where it stands; 'next', 'skip', 'must'.
-/
import Derived.Test.YtobdokabelilmaaDoorBlk
import Derived.Lib.BufferOwn
import Derived.Lib.HexFns2
import Derived.Deep.QuietTactic
import Derived.BigQuiet
import Derived.Handy
namespace Go.Proofs.YtobdokabelilmaaDoor
open Go.RowKit

/-- 'the reader in block b reads s, and stands at n' -/
def Rdr (w : World) (b : Nat) (s : ByteArray) (n : Nat) : Prop :=
  w.cell? ⟨b, 0, none⟩ = some (.string s) ∧ w.cell? ⟨b, 1, none⟩ = some (.int .i64 (n : Int)) ∧ w.frozen? ⟨b, 1, none⟩ = false ∧ b < w.heap.size
/-- 'what is left is l' -/
def Rest (s : ByteArray) (n : Nat) (l : List UInt8) : Prop := n + l.length = s.size ∧ s.data.toList.drop n = l
def RdrL (w : World) (b : Nat) (s : ByteArray) (l : List UInt8) : Prop := ∃ n, Rest s n l ∧ Rdr w b s n
theorem Rest.start (s : ByteArray) : Rest s 0 s.data.toList := ⟨by simp, rfl⟩
theorem Rest.nil {s : ByteArray} {n : Nat} (h : Rest s n []) : n = s.size := by have := h.1; simpa using this
theorem Rest.cons {s : ByteArray} {n : Nat} {c : UInt8} {r : List UInt8} (h : Rest s n (c :: r)) : ∃ hlt : n < s.size, s[n] = c ∧ Rest s (n + 1) r := by
  have h1 := h.1
  simp only [List.length_cons] at h1
  have hlt : n < s.size := by omega
  have h2 := h.2
  have hl : n < s.data.toList.length := by simpa using hlt
  rw [List.drop_eq_getElem_cons hl] at h2
  obtain ⟨e1, e2⟩ := List.cons.inj h2
  exact ⟨hlt, e1, by omega, e2⟩
theorem Rest.le {s : ByteArray} {n : Nat} {l : List UInt8} (h : Rest s n l) : n ≤ s.size := by have := h.1; omega
theorem Rdr.set {w : World} {b n : Nat} {s : ByteArray} (h : Rdr w b s n) (n' : Nat) : Rdr (w.setCell ⟨b, 1, none⟩ (.int .i64 (n' : Int))) b s n' :=
  ⟨(World.cell?_setCell_other _ _ _ _ (by simp)).trans h.1, World.cell?_setCell_same _ _ _ h.2.1, (World.frozen?_setCell ..).trans h.2.2.1, by have := h.2.2.2; simpa [World.setCell] using this⟩
theorem Rdr.step {w : World} {b n : Nat} {s : ByteArray} (h : Rdr w b s n) : Rdr (w.setCell ⟨b, 1, none⟩ (.int .i64 ((n : Int) + 1))) b s (n + 1) := h.set (n + 1)
theorem Rdr.drew {w : World} {b n : Nat} {s : ByteArray} (h : Rdr w b s n) : Rdr w.drew b s n := ⟨h.1, h.2.1, h.2.2.1, h.2.2.2⟩
theorem Rdr.drewN {w : World} {b n : Nat} {s : ByteArray} (h : Rdr w b s n) (k : Nat) : Rdr (w.drewN k) b s n := ⟨h.1, h.2.1, h.2.2.1, h.2.2.2⟩
theorem Rdr.below {w w' : World} {b n : Nat} {s : ByteArray} (h : Rdr w b s n) (hb : Below w.heap.size w w') : Rdr w' b s n :=
  ⟨moved h.1 hb (Nat.le_refl _), moved h.2.1 hb (Nat.le_refl _), (hb.frozen (p := ⟨b, 1, none⟩) h.2.2.2).trans h.2.2.1, Nat.lt_of_lt_of_le h.2.2.2 hb.size⟩
theorem RdrL.below {w w' : World} {b : Nat} {s : ByteArray} {l : List UInt8} (h : RdrL w b s l) (hb : Below w.heap.size w w') : RdrL w' b s l := by
  obtain ⟨n, h1, h2⟩ := h; exact ⟨n, h1, h2.below hb⟩
theorem below_drewN (w : World) (k : Nat) : Below w.heap.size w (w.drewN k) := ⟨rfl, rfl, rfl, Nat.le_refl _, fun _ _ => rfl⟩

/-- the next byte; 0: there is none -/
def nextL : List UInt8 → UInt8
  | [] => 0
  | c :: _ => c
/-- blanks -/
def isBl (c : UInt8) : Bool := c == 32 || c == 9
def skipL : List UInt8 → List UInt8
  | [] => []
  | c :: l => if isBl c then skipL l else c :: l

theorem must_true (w : World) : Calls Tryd.prog 85 #[.bool true] w fun e w' => e = .returned (.tuple #[]) ∧ w = w' := by
  go_enter Tryd.func85, Tryd.ntmps85
  go_wp2
  go_returns
  exact ⟨rfl, rfl⟩
theorem must_false (w : World) : Calls Tryd.prog 85 #[.bool false] w fun e w' => e = .panicked [{ v := .iface 30 (.int .i64 3), recovered := false }] ∧ w = w' := by
  go_enter Tryd.func85, Tryd.ntmps85
  go_wp2
  exact ⟨rfl, rfl, rfl⟩

set_option maxHeartbeats 1000000 in
theorem next_any (b n : Nat) (s : ByteArray) (l : List UInt8) (w : World) (_hs : s.size ≤ 100000) (hr : Rest s n l) (h : Rdr w b s n) :
    Calls Tryd.prog 86 #[.pointer (some ⟨b, 0, none⟩)] w fun e w' => e = .returned (.int .u8 ((nextL l).toNat : Int)) ∧ Below w.heap.size w w' := by
  obtain ⟨c0, c1, f1, hb⟩ := h
  cases l with
  | nil =>
    obtain rfl := hr.nil
    clear hr
    go_enter Tryd.func86, Tryd.ntmps86
    go_wp2
    go_quiet (fail)
    go_wp2
    go_ret
    exact ⟨rfl, below_drewN w _⟩
  | cons c r =>
    obtain ⟨hlt, hc, _⟩ := hr.cons
    have hne : ((n : Int) == (s.size : Int)) = false := beq_eq_false_iff_ne.2 (by omega)
    have HC := Lib.hid hc
    clear hr hc
    go_enter Tryd.func86, Tryd.ntmps86
    go_wp2
    go_quiet (fail)
    go_wp2
    go_quiet (fail)
    go_wp2
    go_ret
    exact ⟨by rw [← HC.out]; rfl, bt (below_drewN w _) (below_drewN _ _)⟩

/-- where the reader stands, by its cell -/
def posAt (w : World) (b : Nat) : Nat := match w.cell? ⟨b, 1, none⟩ with
  | some (.int _ n) => n.toNat
  | _ => 0
theorem Rdr.pos {w : World} {b n : Nat} {s : ByteArray} (h : Rdr w b s n) : posAt w b = n := by unfold posAt; rw [h.2.1]; rfl

set_option maxHeartbeats 2000000 in
theorem skip_any (b : Nat) (s : ByteArray) (l : List UInt8) (w : World) (hs : s.size ≤ 100000) (h : RdrL w b s l) :
    Calls Tryd.prog 84 #[.pointer (some ⟨b, 0, none⟩)] w fun e w' => e = .returned (.tuple #[]) ∧ RdrL w' b s (skipL l) ∧ w.grownBy w' (some b) := by
  go_enter Tryd.func84, Tryd.ntmps84
  go_wp2_with fail
  go_loopw [2] (fun _ wr => ∃ l', RdrL wr b s l' ∧ Hid (skipL l' = skipL l) ∧ w.grownBy wr (some b)) (fun _ wr => s.size - posAt wr b)
  case atStart => exact ⟨l, h, rfl, World.grownBy.refl _ _⟩
  case round =>
    obtain ⟨l', ⟨n, hr, hrd⟩, hsk, hg⟩ := hrel
    have hpos := Lib.hid hrd.pos
    have hrd' := hrd
    obtain ⟨c0, c1, f1, hb⟩ := hrd'
    cases l' with
    | nil =>
      obtain rfl := hr.nil
      have HR := Lib.hid hr; clear hr
      go_wp2
      go_quiet (fail)
      go_wp2
      go_returns
      exact ⟨rfl, by rw [← hsk.out]; exact ⟨s.size, HR.out, hrd.drewN _⟩, Go.Lib.grownBy_below hg (below_drewN _ _)⟩
    | cons c r =>
      obtain ⟨hlt, hc, hr1⟩ := hr.cons
      have HR := Lib.hid hr; have HR1 := Lib.hid hr1
      clear hr hr1
      by_cases h32 : c = 32
      · subst h32
        have hsk' : Hid (skipL r = skipL l) := by unfold Hid; rw [← hsk.out, skipL, if_pos (by decide)]
        have e1 : ((s[n].toNat : Int) == 32) = true := by rw [hc]; rfl
        clear hsk hc
        go_wp2
        go_quiet (fail)
        go_wp2
        go_roundw
        case rel => exact ⟨r, ⟨n + 1, HR1.out, (hrd.drewN _).step⟩, hsk', Go.Lib.grownBy_setB (Go.Lib.grownBy_below hg (below_drewN _ _)) 1 _⟩
        case measure =>
          rw [(hrd.drewN _).step.pos, hpos.out]
          omega
      · have e1 : ((s[n].toNat : Int) == 32) = false := beq_eq_false_iff_ne.2 (fun e => h32 (UInt8.toNat_inj.1 (by rw [← hc]; exact Int.ofNat_inj.1 e)))
        by_cases h9 : c = 9
        · subst h9
          have hsk' : Hid (skipL r = skipL l) := by unfold Hid; rw [← hsk.out, skipL, if_pos (by decide)]
          have e2 : ((s[n].toNat : Int) == 9) = true := by rw [hc]; rfl
          clear hsk hc h32
          go_wp2
          go_quiet (fail)
          go_wp2
          go_roundw
          case rel => exact ⟨r, ⟨n + 1, HR1.out, (hrd.drewN _).step⟩, hsk', Go.Lib.grownBy_setB (Go.Lib.grownBy_below hg (below_drewN _ _)) 1 _⟩
          case measure =>
            rw [(hrd.drewN _).step.pos, hpos.out]
            omega
        · have hsk' : Hid (skipL (c :: r) = c :: r) := by
            unfold Hid
            rw [skipL, if_neg (by unfold isBl; simp [h32, h9])]
          have e2 : ((s[n].toNat : Int) == 9) = false := beq_eq_false_iff_ne.2 (fun e => h9 (UInt8.toNat_inj.1 (by rw [← hc]; exact Int.ofNat_inj.1 e)))
          clear hc h32 h9
          go_wp2
          go_quiet (fail)
          go_wp2
          go_returns
          exact ⟨rfl, by rw [← hsk.out, hsk'.out]; exact ⟨n, HR.out, hrd.drewN _⟩, Go.Lib.grownBy_below hg (below_drewN _ _)⟩
end Go.Proofs.YtobdokabelilmaaDoor
