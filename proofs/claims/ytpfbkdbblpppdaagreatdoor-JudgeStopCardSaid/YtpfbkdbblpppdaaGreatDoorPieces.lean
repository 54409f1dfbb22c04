/-
  DERIVED. 'pieces' of glob: the iterator: it hands over the pieces of a pattern, one by one.
-/
import Derived.RangeFuncNested
import Derived.RangeFuncBound
import Derived.RangeFuncCalls
import Derived.RangeFuncLeaves
import Derived.RangeFuncBox
import Derived.Shelf.Abstract
import Derived.OwnWalkIn
import Derived.TacticsInMore
import Derived.LoopNIn
import Derived.LoopIn
import Derived.RegionIn
import Derived.BigRegionIn
import Derived.RegionTactic
import Derived.BigRegion
import Derived.ChangeAlike
import Derived.Test.YtpfbkdbblpppdaaGreatDoorMatches
set_option linter.unusedVariables false
set_option linter.unusedSimpArgs false
namespace Go.Proofs.YtpfbkdbblpppdaaGreatDoor
open Go.RowKit Go.Shelf
attribute [local go_sem] Oper.semAt_some

/-- the pieces, flag down: step by step -/
theorem pcs_drop_esc (S : List UInt8) (k : Nat) (h : k + 1 < S.length) (he : S[k] = 92) : pcsG false (S.drop k) = ⟨S[k + 1], false, false⟩ :: pcsG false (S.drop (k + 2)) := by
  rw [List.drop_eq_getElem_cons (by omega), pcsG, if_pos he, List.drop_eq_getElem_cons h, pcsG]
theorem pcs_drop_end (S : List UInt8) (k : Nat) (h : k + 1 = S.length) (he : S[k] = 92) : pcsG false (S.drop k) = ⟨92, false, false⟩ :: pcsG false (S.drop (k + 1)) := by
  rw [List.drop_eq_getElem_cons (by omega), pcsG, if_pos he, List.drop_eq_nil_of_le (by omega)]; rfl
theorem pcs_drop_plain (S : List UInt8) (k : Nat) (h : k < S.length) (he : S[k] ≠ 92) : pcsG false (S.drop k) = ⟨S[k], (S[k].toNat : Int) == 63, (S[k].toNat : Int) == 42⟩ :: pcsG false (S.drop (k + 1)) := by
  rw [List.drop_eq_getElem_cons h, pcsG, if_neg he]
theorem pcsG_length : ∀ (l : List UInt8), (pcsG false l).length ≤ l.length ∧ (pcsG true l).length ≤ l.length + 1
  | [] => by simp [pcsG]
  | c :: r => by
    have ih := pcsG_length r
    refine ⟨?_, ?_⟩
    · unfold pcsG
      split
      · simp; omega
      · simp; omega
    · simp [pcsG]; omega
theorem pcs_length (l : List UInt8) : (pcs l).length ≤ l.length := (pcsG_length l).1

theorem grown_alloc_drew (w : World) (o : Obj) (row : Option Nat) : w.grownBy (w.alloc o).drew row :=
  ⟨rfl, rfl, rfl, by simp, fun k hk _ => heap_alloc_old w o k hk⟩
/-- what a round keeps: the cell of the iterator's text -/
def KeepsCell (b : Nat) (W W' : World) : Prop := W'.cell? ⟨b, 0, none⟩ = W.cell? ⟨b, 0, none⟩ ∧ W.heap.size ≤ W'.heap.size
theorem KeepsCell.trans {b : Nat} {A B C : World} (h : KeepsCell b A B) (k : KeepsCell b B C) : KeepsCell b A C := ⟨k.1.trans h.1, Nat.le_trans h.2 k.2⟩
theorem KeepsCell.of_grown {b : Nat} {W W' : World} {v : Value} (hg : W.grownBy W' none) (hc : W.cell? ⟨b, 0, none⟩ = some v) : KeepsCell b W W' :=
  ⟨(hg.cell hc (by simp)).trans hc.symm, hg.size⟩
theorem KeepsCell.put {b : Nat} {w : World} (hb : b < w.heap.size) (W : World) (l : Nat) (o o' : Obj) (hl : w.heap.size ≤ l) (_ : W.heap[l]? = some o) (_ : o.isCells = false) (_ : o.isWalk = false) : KeepsCell b W (W.putObj l o') :=
  ⟨World.cell?_of_block (World.putObj_heap_other (by show b ≠ l; omega)), by simp⟩
def pcVal (p : Pc) : Value := .agg #[.int .u8 (p.c.toNat : Int), .bool p.one, .bool p.many]

set_option maxRecDepth 100000 in
set_option maxHeartbeats 6000000 in
theorem pieces1_in (n : Nat) (hn : 1 ≤ n) (l Bn : Nat) (s : ByteArray) (hs : s.size ≤ 1000000) (J Jx : List Pc → World → Prop)
    (hY : ∀ pre x W, J pre W → pre.length < (pcs s.data.toList).length → YieldAt Fence.wide (n - 1) Tryz.prog l #[pcVal x] W fun e W' =>
      (e = .returned (.bool true) ∧ J (pre ++ [x]) W' ∧ KeepsCell Bn W W') ∨ (e = .returned (.bool false) ∧ Jx (pre ++ [x]) W'))
    (hJ : ∀ pre W W', J pre W → W.grownBy W' none → J pre W')
    (W : World) (hBn : W.cell? ⟨Bn, 0, none⟩ = some (.string s)) (h0 : J [] W) :
    CallsIn Fence.wide n Tryz.prog 227 #[.func (.yield l) #[] #[], .pointer (some ⟨Bn, 0, none⟩)] W fun e W' => (∃ v, e = .returned v) ∧
      ((∃ ys, ys = pcs s.data.toList ∧ J ys W') ∨ (∃ pre, pre <+: pcs s.data.toList ∧ Jx pre W')) := by
  obtain ⟨S, hS⟩ : ∃ S, S = s.data.toList := ⟨_, rfl⟩
  have hlen : s.size = S.length := by rw [hS]; simp
  have hget : ∀ i (h : i < s.size) (h' : i < S.length), s[i] = S[i] := by intro i h h'; subst hS; rfl
  rw [← hS] at hY ⊢
  clear hS
  have HG := Lib.hid hget; clear hget
  have HLEN := Lib.hid hlen; clear hlen
  have HY := Lib.hid hY; clear hY
  have HJ := Lib.hid hJ; clear hJ
  refine callsIn_of_wp Tryz.func227 rfl trivial ?_ rfl
  simp only [Tryz.ntmps227, List.size_toArray, List.length_cons, List.length_nil, Nat.reduceAdd, Nat.reduceSub, Array.replicate_succ, Array.replicate_zero, List.push_toArray, List.append_toArray, List.nil_append, List.cons_append]
  gi_wp2
  gi_loopw [3] (fun i wr => ∃ (k : Nat) (pre : List Pc), k ≤ s.size ∧ i = .int .i64 k ∧ Hid (pcs S = pre ++ pcsG false (S.drop k)) ∧ J pre wr ∧ wr.cell? ⟨Bn, 0, none⟩ = some (.string s))
    (fun i _ => s.size - (intOf i).toNat)
  case atStart => exact ⟨0, [], Nat.zero_le _, rfl, rfl, h0, hBn⟩
  case round =>
    obtain ⟨k, pre, hk, rfl, hx, hJs, hc⟩ := hrel
    clear h0 hBn
    by_cases hlt : k < s.size
    · by_cases he : s[k] = 92
      · have hd : ((s[k].toNat : Int) == 92) = true := by rw [he]; rfl
        have HE : Hid (S[k]'(by rw [← HLEN.out]; exact hlt) = 92) := by unfold Hid; rw [← HG.out k hlt]; exact he
        have HE' : Hid (s[k] = 92) := he
        clear he
        have hca : ∀ o, (wr.alloc o).cell? ⟨Bn, 0, none⟩ = some (.string s) := fun o => (World.grownBy_alloc wr o none).cell hc (by simp)
        by_cases h2 : k + 1 < s.size
        · have hp := pcs_drop_esc S k (by rw [← HLEN.out]; exact h2) HE.out
          obtain ⟨W1, hW1⟩ : ∃ W1, W1 = (wr.alloc (.cells #[.int .u8 (s[k + 1].toNat : Int), .bool false, .bool false] 291)).drew := ⟨_, rfl⟩
          obtain ⟨x, hx'⟩ : ∃ x : Pc, x = ⟨s[k + 1], false, false⟩ := ⟨_, rfl⟩
          rw [← HG.out (k + 1) h2, ← hx'] at hp
          have hx2 : Hid (pcs S = (pre ++ [x]) ++ pcsG false (S.drop (k + 2))) := by unfold Hid; rw [hx.out, hp]; simp
          have hJ1 : J pre W1 := HJ.out pre wr W1 hJs (by rw [hW1]; exact grown_alloc_drew _ _ _)
          have hb1 : KeepsCell Bn wr W1 := KeepsCell.of_grown (by rw [hW1]; exact grown_alloc_drew _ _ _) hc
          obtain ⟨fn, tmps, assign, body, hy, hR⟩ := HY.out pre x W1 hJ1 (by rw [hx2.out]; simp)
          have hx3 : Hid (pre ++ [x] <+: pcs S) := ⟨_, hx2.out.symm⟩
          rw [hx', hW1] at hy
          rw [hW1] at hR hb1
          have HB := Lib.hid hb1; clear hb1
          clear hW1 hJ1 hp
          simp only [pcVal] at hy
          gi_wp2_with fail
          refine wpIn_wide.2 ?_
          go_region
          gi_wp2_with fail
          refine hR.mono ?_
          rintro e W3 (⟨rfl, hJ3, hk3⟩ | ⟨rfl, hJx3⟩)
          · gi_wp2
            go_roundw
            case rel => exact ⟨k + 2, pre ++ [x], by omega, by go_num, hx2, hJ3, ((HB.out).trans hk3).1.trans hc⟩
            case measure => simp [intOf]; omega
          · gi_wp2
            refine bodyPost_ret (results_none rfl _ _ _) rfl ?_
            exact ⟨⟨_, rfl⟩, .inr ⟨pre ++ [x], hx3.out, hJx3⟩⟩
        · have hp := pcs_drop_end S k (by rw [← HLEN.out]; omega) HE.out
          obtain ⟨W1, hW1⟩ : ∃ W1, W1 = (wr.alloc (.cells #[.int .u8 (s[k].toNat : Int), .bool ((s[k].toNat : Int) == 63), .bool ((s[k].toNat : Int) == 42)] 291)).drew := ⟨_, rfl⟩
          obtain ⟨x, hx'⟩ : ∃ x : Pc, x = ⟨s[k], (s[k].toNat : Int) == 63, (s[k].toNat : Int) == 42⟩ := ⟨_, rfl⟩
          have hx92 : x = ⟨92, false, false⟩ := by rw [hx', HE'.out]; rfl
          rw [← hx92] at hp
          have hx2 : Hid (pcs S = (pre ++ [x]) ++ pcsG false (S.drop (k + 1))) := by unfold Hid; rw [hx.out, hp]; simp
          clear hx92
          have hJ1 : J pre W1 := HJ.out pre wr W1 hJs (by rw [hW1]; exact grown_alloc_drew _ _ _)
          have hb1 : KeepsCell Bn wr W1 := KeepsCell.of_grown (by rw [hW1]; exact grown_alloc_drew _ _ _) hc
          obtain ⟨fn, tmps, assign, body, hy, hR⟩ := HY.out pre x W1 hJ1 (by rw [hx2.out]; simp)
          have hx3 : Hid (pre ++ [x] <+: pcs S) := ⟨_, hx2.out.symm⟩
          rw [hx', hW1] at hy
          rw [hW1] at hR hb1
          have HB := Lib.hid hb1; clear hb1
          clear hW1 hJ1 hp
          simp only [pcVal] at hy
          gi_wp2_with fail
          refine wpIn_wide.2 ?_
          go_region
          gi_wp2_with fail
          refine hR.mono ?_
          rintro e W3 (⟨rfl, hJ3, hk3⟩ | ⟨rfl, hJx3⟩)
          · gi_wp2
            go_roundw
            case rel => exact ⟨k + 1, pre ++ [x], by omega, by go_num, hx2, hJ3, ((HB.out).trans hk3).1.trans hc⟩
            case measure => simp [intOf]; omega
          · gi_wp2
            refine bodyPost_ret (results_none rfl _ _ _) rfl ?_
            exact ⟨⟨_, rfl⟩, .inr ⟨pre ++ [x], hx3.out, hJx3⟩⟩
      · have hd : ((s[k].toNat : Int) == 92) = false := by
          rw [beq_eq_false_iff_ne]; intro e; exact he (UInt8.toNat_inj.1 (by show s[k].toNat = 92; omega))
        have hp := pcs_drop_plain S k (by rw [← HLEN.out]; exact hlt) (by rw [← HG.out k hlt]; exact he)
        clear he
        have hca : ∀ o, (wr.alloc o).cell? ⟨Bn, 0, none⟩ = some (.string s) := fun o => (World.grownBy_alloc wr o none).cell hc (by simp)
        obtain ⟨W1, hW1⟩ : ∃ W1, W1 = (wr.alloc (.cells #[.int .u8 (s[k].toNat : Int), .bool ((s[k].toNat : Int) == 63), .bool ((s[k].toNat : Int) == 42)] 291)).drew := ⟨_, rfl⟩
        obtain ⟨x, hx'⟩ : ∃ x : Pc, x = ⟨s[k], (s[k].toNat : Int) == 63, (s[k].toNat : Int) == 42⟩ := ⟨_, rfl⟩
        rw [← HG.out k hlt, ← hx'] at hp
        have hx2 : Hid (pcs S = (pre ++ [x]) ++ pcsG false (S.drop (k + 1))) := by unfold Hid; rw [hx.out, hp]; simp
        have hJ1 : J pre W1 := HJ.out pre wr W1 hJs (by rw [hW1]; exact grown_alloc_drew _ _ _)
        have hb1 : KeepsCell Bn wr W1 := KeepsCell.of_grown (by rw [hW1]; exact grown_alloc_drew _ _ _) hc
        obtain ⟨fn, tmps, assign, body, hy, hR⟩ := HY.out pre x W1 hJ1 (by rw [hx2.out]; simp)
        have hx3 : Hid (pre ++ [x] <+: pcs S) := ⟨_, hx2.out.symm⟩
        rw [hx', hW1] at hy
        rw [hW1] at hR hb1
        have HB := Lib.hid hb1; clear hb1
        clear hW1 hJ1 hp
        simp only [pcVal] at hy
        gi_wp2_with fail
        refine wpIn_wide.2 ?_
        go_region
        gi_wp2_with fail
        refine hR.mono ?_
        rintro e W3 (⟨rfl, hJ3, hk3⟩ | ⟨rfl, hJx3⟩)
        · gi_wp2
          go_roundw
          case rel => exact ⟨k + 1, pre ++ [x], by omega, by go_num, hx2, hJ3, ((HB.out).trans hk3).1.trans hc⟩
          case measure => simp [intOf]; omega
        · gi_wp2
          refine bodyPost_ret (results_none rfl _ _ _) rfl ?_
          exact ⟨⟨_, rfl⟩, .inr ⟨pre ++ [x], hx3.out, hJx3⟩⟩
    · have hx4 : Hid (pre = pcs S) := by
        unfold Hid; rw [hx.out, List.drop_eq_nil_of_le (by rw [← HLEN.out]; omega)]; simp [pcsG]
      gi_wp2
      go_end0
      exact ⟨⟨_, rfl⟩, .inl ⟨pre, hx4.out, hJs⟩⟩

set_option maxHeartbeats 1000000 in
theorem pieces_in (n : Nat) (s : ByteArray) (w : World) :
    CallsIn Fence.wide n Tryz.prog 204 #[.string s] w fun e w' => e = .returned (.func (.func 227) #[] #[.pointer (some ⟨w.heap.size, 0, none⟩)]) ∧ w' = w.alloc (.cells #[.string s] 9) := by
  refine callsIn_wide.2 ?_
  go_enter Tryz.func204, Tryz.ntmps204
  go_wp2
  go_ret
  exact ⟨rfl, rfl⟩

theorem pieces_stops (n : Nat) (hn : 1 ≤ n) (Bn : Nat) (s : ByteArray) (hs : s.size ≤ 1000000) (w : World) (hBn : Bn < w.heap.size) (hc : w.cell? ⟨Bn, 0, none⟩ = some (.string s)) :
    SeqStopsK Fence.wide n Tryz.prog 227 #[.pointer (some ⟨Bn, 0, none⟩)] (fun x : Pc => #[pcVal x]) (KeepsCell Bn) (fun ys => ys = pcs s.data.toList) (fun pre => pre <+: pcs s.data.toList) (pcs s.data.toList).length w :=
  fun l J Jx W hW hJ _ hY h0 => pieces1_in n hn l Bn s hs J Jx hY (fun pre W W' h hg => hJ pre W W' none h hg (by simp)) W ((hW.cell (p := ⟨Bn, 0, none⟩) hBn).trans hc) h0
end Go.Proofs.YtpfbkdbblpppdaaGreatDoor
