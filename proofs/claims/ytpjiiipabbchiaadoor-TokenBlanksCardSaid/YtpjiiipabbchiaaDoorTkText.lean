/-
  DERIVED. (*cutter).text of token: the walk.
-/
import Derived.Test.YtpjiiipabbchiaaDoorTkSkip
import Derived.Deep.RegionHeld3
import Derived.Deep.AppendLies
namespace Go.Proofs.YtpjiiipabbchiaaDoor.Tk
open Go.RowKit

theorem infoB8 : (Tryd.prog.info? 5).map (fun i => (i.zero, i.size, i.bytes)) = some (some (.int .u8 0), 1, 1) := by kernel_rfl
theorem textL_cons {c : UInt8} (t : List UInt8) (h1 : c ≠ 34) (h2 : c ≠ 92) : textL (c :: t) = (textL t).map (fun p => (c :: p.1, p.2)) := by
  cases t with
  | nil => show (if c = 34 then _ else none) = none; rw [if_neg h1]
  | cons d t => rw [textL, if_neg h1, if_neg h2]
theorem textL_quote (t : List UInt8) : textL (34 :: t) = some ([], t) := by
  cases t with
  | nil => rfl
  | cons d t => rw [textL, if_pos rfl]
theorem textL_esc (d : UInt8) (t : List UInt8) : textL (92 :: d :: t) = (textL t).map (fun p => (d :: p.1, p.2)) := by rw [textL, if_neg (by decide), if_pos rfl]
theorem map_acc (acc : List UInt8) (c : UInt8) (o : Option (List UInt8 × List UInt8)) : (o.map (fun p => (c :: p.1, p.2))).map (fun p => (acc ++ p.1, p.2)) = o.map (fun p => ((acc ++ [c]) ++ p.1, p.2)) := by
  cases o with
  | none => rfl
  | some p => simp
theorem text_put {w W Wd w1 : World} {b n : Nat} {s : ByteArray} {v v' : Value} {L : List UInt8} {d : UInt8} (hb : b < w.heap.size) (hg : w.grownBy W (some b)) (hrd : Rdr W b s n) (hown : OwnB W w.heap.size 5 v L) (hd : Below W.heap.size W Wd) (hgrow : Wd.grownBy w1 v.ownBlock)
    (hown' : w1.ownsRow w.heap.size 5 1 v' (L.length + 1) (bcells L ++ [.int .u8 (d.toNat : Int)])) : Rdr w1 b s n ∧ OwnB w1 w.heap.size 5 v' (L ++ [d]) ∧ w.grownBy w1 (some b) := by
  have hne : ∀ k, k < w.heap.size → some k ≠ v.ownBlock := fun k hk e => by have := (World.ownsRow.lt hown k e.symm).1; omega
  have hszd : W.heap.size ≤ Wd.heap.size := hd.size
  have hbW : b < Wd.heap.size := Nat.lt_of_lt_of_le hrd.2.2.2 hszd
  have hblk : w1.heap[b]? = W.heap[b]? := (hgrow.block b hbW (hne b hb)).trans (hd.block b hrd.2.2.2)
  refine ⟨⟨(World.cell?_of_block (w := W) (a := ⟨b, 0, none⟩) hblk).trans hrd.1, (World.cell?_of_block (w := W) (a := ⟨b, 1, none⟩) hblk).trans hrd.2.1, (World.frozen?_of_block (w := W) (a := ⟨b, 1, none⟩) hblk).trans hrd.2.2.1, Nat.lt_of_lt_of_le hbW hgrow.size⟩, ?_, ?_⟩
  · unfold OwnB
    rw [bcells_append, List.length_append]
    exact hown'
  · have hsz : w.heap.size ≤ W.heap.size := hg.size
    exact ⟨hgrow.os.trans (hd.os.trans hg.os), hgrow.tape.trans (hd.tape.trans hg.tape), hgrow.output.trans (hd.output.trans hg.output), Nat.le_trans hsz (Nat.le_trans hszd hgrow.size), fun k hk hn => (hgrow.block k (by omega) (hne k hk)).trans ((hd.block k (by omega)).trans (hg.block k hk hn))⟩
theorem row_ne {w : World} {base e size n b : Nat} {v : Value} {l : List Value} (h : w.ownsRow base e size v n l) (hb : b < base) : v.ownBlock = none ∨ v.ownBlock ≠ some b := by
  cases hv : v.ownBlock with
  | none => exact .inl rfl
  | some k => exact .inr (fun e => by have := (World.ownsRow.lt h k hv).1; have := Option.some.inj e; omega)
/-- what 'text' answers -/
def TextPost (b : Nat) (s : ByteArray) (l : List UInt8) (w : World) (e : Ending) (w' : World) : Prop :=
  (match textL l with
    | none => e = .returned (.tuple #[.string ⟨#[]⟩, .bool false])
    | some p => e = .returned (.tuple #[.string ⟨p.1.toArray⟩, .bool true]) ∧ RdrL w' b s p.2) ∧ w.grownBy w' (some b)
theorem TextPost.none' {b : Nat} {s : ByteArray} {l : List UInt8} {w w' : World} (h : textL l = none) (g : w.grownBy w' (some b)) : TextPost b s l w (.returned (.tuple #[.string ⟨#[]⟩, .bool false])) w' := by
  unfold TextPost; rw [h]; exact ⟨rfl, g⟩
theorem TextPost.some' {b : Nat} {s : ByteArray} {l x r : List UInt8} {w w' : World} (h : textL l = some (x, r)) (hr : RdrL w' b s r) (g : w.grownBy w' (some b)) : TextPost b s l w (.returned (.tuple #[.string ⟨x.toArray⟩, .bool true])) w' := by
  unfold TextPost; rw [h]; exact ⟨⟨rfl, hr⟩, g⟩

set_option maxHeartbeats 8000000 in
set_option maxRecDepth 20000 in
theorem text_any (b : Nat) (s : ByteArray) (q : UInt8) (l : List UInt8) (w : World) (hs : s.size ≤ 100000) (h : RdrL w b s (q :: l)) :
    Calls Tryd.prog 39 #[.pointer (some ⟨b, 0, none⟩)] w (TextPost b s l w) := by
  obtain ⟨n0, hr0, hrd0⟩ := h
  obtain ⟨hlt0, -, hr1⟩ := hr0.cons
  have HR1 := Lib.hid hr1; have HRD0 := Lib.hid hrd0
  obtain ⟨c0, c1, f1, hb⟩ := hrd0
  obtain ⟨i0, hi, hz0, hz1, hz2⟩ := info_parts infoB8
  have HI := Lib.hid hi; have HZ0 := Lib.hid hz0; have HZ1 := Lib.hid hz1; have HZ2 := Lib.hid hz2
  clear hr0 hr1 hi hz0 hz1 hz2
  go_enter Tryd.func39, Tryd.ntmps39
  go_wp2_with fail
  go_loopw [4] (fun v wr => ∃ (l' acc : List UInt8), RdrL wr b s l' ∧ OwnB wr w.heap.size 5 v acc ∧ acc.length + l'.length ≤ s.size ∧ Hid (textL l = (textL l').map (fun p => (acc ++ p.1, p.2))) ∧ w.grownBy wr (some b)) (fun _ wr => s.size - posAt wr b)
  case atStart => exact ⟨l, [], ⟨n0 + 1, HR1.out, HRD0.out.step⟩, World.ownsRow_nil _ _ _ _, by have := HR1.out.1; simp only [List.length_nil]; omega, by unfold Hid; cases textL l <;> rfl, Go.Lib.grownBy_setB (World.grownBy.refl _ _) 1 _⟩
  case round =>
    clear c0 c1 f1
    obtain ⟨l', acc, hrl, hown, hal, heq, hg⟩ := hrel
    have hmeas := Lib.hid hrl.len
    obtain ⟨n, hre, hrd⟩ := hrl
    have HRD := Lib.hid hrd; have HOWN := Lib.hid hown; have HG := Lib.hid hg
    obtain ⟨c0, c1, f1, hbw⟩ := hrd
    cases l' with
    | nil =>
      obtain rfl := hre.nil
      have HFIN : Hid (textL l = none) := by unfold Hid; rw [heq.out]; rfl
      have h1 : decide ((s.size : Int) < (s.size : Int)) = false := decide_eq_false (by omega)
      clear hown hg hre heq
      go_wp2_with fail
      go_quiet (fail)
      go_wp2_with fail
      go_ret2
      exact TextPost.none' HFIN.out (Go.Lib.grownBy_below HG.out (below_drewN _ _))
    | cons c t =>
      obtain ⟨hlt, hc, hre1⟩ := hre.cons
      have HRE := Lib.hid hre; have HRE1 := Lib.hid hre1; have HC := Lib.hid hc
      have h1 : decide ((n : Int) < (s.size : Int)) = true := decide_eq_true (by omega)
      have i1 : (0 : Int) ≤ n := by omega
      have i2 : (n : Int) < s.size := by omega
      clear hown hg hre hre1 hc
      by_cases h34 : c = 34
      · have e1 : ((s[n].toNat : Int) == 34) = true := by rw [HC.out, h34]; rfl
        have HFIN : Hid (textL l = some (acc, t)) := by unfold Hid; rw [heq.out, h34, textL_quote]; simp
        clear heq h34
        go_wp2_with fail
        go_quiet (fail)
        obtain ⟨W1, hW1⟩ : ∃ W1, W1 = wr.drewN nq := ⟨_, rfl⟩
        rw [← hW1]
        have hbW1 : Below wr.heap.size wr W1 := by rw [hW1]; exact below_drewN _ _
        clear hW1 nq
        have hrd1 := HRD.out.below hbW1
        clear c0 c1 f1 hbw
        obtain ⟨c0, c1, f1, hbw⟩ := hrd1
        go_wp2_with fail
        go_quiet (fail)
        obtain ⟨W2, hW2⟩ : ∃ W2, W2 = W1.drewN nq := ⟨_, rfl⟩
        rw [← hW2]
        have hbW2 : Below W1.heap.size W1 W2 := by rw [hW2]; exact below_drewN _ _
        clear hW2 nq
        have hbW := bt hbW1 hbW2
        have hrd2 := HRD.out.below hbW
        have HOWN2 := Lib.hid (row_down HOWN.out hbW); have HG2 := Lib.hid (Go.Lib.grownBy_below HG.out hbW)
        have HRD2 := Lib.hid hrd2
        clear c0 c1 f1 hbw hbW1 hbW2 hbW
        obtain ⟨c0, c1, f1, hbw⟩ := hrd2
        go_upto_region 8 with fail
        have hown3 := (World.ownsRow.kept HOWN2.out (Go.Lib.grownBy_setB (World.grownBy.refl W2 (some b)) 1 (.int .i64 ((n : Int) + 1))) (row_ne HOWN2.out hb))
        have hcv := run_str_own hown3 Tryd.underlying45 Tryd.underlying5 Tryd.underlying9
        have HCV := Lib.hid hcv
        have HRD3 := Lib.hid HRD2.out.step
        clear hown3
        go_wp2_with fail
        go_ret2
        exact TextPost.some' HFIN.out ⟨n + 1, HRE1.out, HRD3.out⟩ (Go.Lib.grownBy_setB HG2.out 1 _)
      · have e1 : ((s[n].toNat : Int) == 34) = false := by
          rw [HC.out]
          exact beq_eq_false_iff_ne.2 (fun e => h34 (UInt8.toNat_inj.1 (Int.ofNat_inj.1 e)))
        by_cases h92 : c = 92
        · have e2 : ((s[n].toNat : Int) == 92) = true := by rw [HC.out, h92]; rfl
          cases t with
          | nil =>
            have hn1 := HRE1.out.nil
            have HFIN : Hid (textL l = none) := by unfold Hid; rw [heq.out, h92]; rfl
            have e3 : (((n : Int) + 1) == (s.size : Int)) = true := beq_iff_eq.2 (by omega)
            clear heq h34 h92 hn1
            go_wp2_with fail
            go_quiet (fail)
            obtain ⟨W1, hW1⟩ : ∃ W1, W1 = wr.drewN nq := ⟨_, rfl⟩
            rw [← hW1]
            have hbW1 : Below wr.heap.size wr W1 := by rw [hW1]; exact below_drewN _ _
            clear hW1 nq
            have hrd1 := HRD.out.below hbW1
            clear c0 c1 f1 hbw
            obtain ⟨c0, c1, f1, hbw⟩ := hrd1
            go_wp2_with fail
            go_quiet (fail)
            obtain ⟨W2, hW2⟩ : ∃ W2, W2 = W1.drewN nq := ⟨_, rfl⟩
            rw [← hW2]
            have hbW2 : Below W1.heap.size W1 W2 := by rw [hW2]; exact below_drewN _ _
            clear hW2 nq
            have hbW := bt hbW1 hbW2
            have hrd2 := HRD.out.below hbW
            have HOWN2 := Lib.hid (row_down HOWN.out hbW); have HG2 := Lib.hid (Go.Lib.grownBy_below HG.out hbW)
            have HRD2 := Lib.hid hrd2
            clear c0 c1 f1 hbw hbW1 hbW2 hbW
            obtain ⟨c0, c1, f1, hbw⟩ := hrd2
            go_wp2_with fail
            go_quiet (fail)
            go_wp2_with fail
            go_ret2
            exact TextPost.none' HFIN.out (Go.Lib.grownBy_below (Go.Lib.grownBy_setB HG2.out 1 _) (below_drewN _ _))
          | cons d t =>
            obtain ⟨hlt1, hc1, hre2⟩ := HRE1.out.cons
            have HRE2 := Lib.hid hre2
            have HEQ : Hid (textL l = (textL t).map (fun p => ((acc ++ [s[n + 1]]) ++ p.1, p.2))) := by unfold Hid; rw [heq.out, h92, hc1, textL_esc, map_acc]
            have HTL : Hid (t.length + 1 = (d :: t).length) := rfl
            simp only [List.length_cons] at hal
            clear heq h34 h92 hre2 hc1
            go_wp2_with fail
            go_quiet (fail)
            obtain ⟨W1, hW1⟩ : ∃ W1, W1 = wr.drewN nq := ⟨_, rfl⟩
            rw [← hW1]
            have hbW1 : Below wr.heap.size wr W1 := by rw [hW1]; exact below_drewN _ _
            clear hW1 nq
            have hrd1 := HRD.out.below hbW1
            clear c0 c1 f1 hbw
            obtain ⟨c0, c1, f1, hbw⟩ := hrd1
            go_wp2_with fail
            go_quiet (fail)
            obtain ⟨W2, hW2⟩ : ∃ W2, W2 = W1.drewN nq := ⟨_, rfl⟩
            rw [← hW2]
            have hbW2 : Below W1.heap.size W1 W2 := by rw [hW2]; exact below_drewN _ _
            clear hW2 nq
            have hbW := bt hbW1 hbW2
            have hrd2 := HRD.out.below hbW
            have HOWN2 := Lib.hid (row_down HOWN.out hbW); have HG2 := Lib.hid (Go.Lib.grownBy_below HG.out hbW)
            have HRD2 := Lib.hid hrd2
            clear c0 c1 f1 hbw hbW1 hbW2 hbW
            obtain ⟨c0, c1, f1, hbw⟩ := hrd2
            go_upto_region 11 with fail
            have hgs := Go.Lib.grownBy_setB (World.grownBy.refl W2 (some b)) 1 (.int .i64 ((n : Int) + 1))
            have hrd3 := HRD2.out.step
            have hown3 : OwnB (W2.setCell ⟨b, 1, none⟩ (.int .i64 ((n : Int) + 1))) w.heap.size 5 u4 acc := World.ownsRow.kept HOWN2.out hgs (row_ne HOWN2.out hb)
            have hg3 := Go.Lib.grownBy_setB HG2.out 1 (.int .i64 ((n : Int) + 1))
            obtain ⟨W3, hW3⟩ : ∃ W3, W3 = W2.setCell ⟨b, 1, none⟩ (.int .i64 ((n : Int) + 1)) := ⟨_, rfl⟩
            rw [← hW3] at hrd3 hown3 hg3 ⊢
            have HRD3 := Lib.hid hrd3; have HOWN3 := Lib.hid hown3; have HG3 := Lib.hid hg3
            clear hgs hown3 hg3 hW3 c0 c1 f1 hbw
            obtain ⟨c0, c1, f1, hbw⟩ := hrd3
            have c1' : W3.cell? ⟨b, 1, none⟩ = some (.int .i64 ((n : Int) + 1)) := c1
            have hne3 : (((n : Int) + 1) == (s.size : Int)) = false := beq_eq_false_iff_ne.2 (by omega)
            clear c1
            go_quiet (fail)
            obtain ⟨W4, hW4⟩ : ∃ W4, W4 = W3.drewN nq := ⟨_, rfl⟩
            rw [← hW4]
            have hbW4 : Below W3.heap.size W3 W4 := by rw [hW4]; exact below_drewN _ _
            clear hW4 nq
            have hrd4 := HRD3.out.below hbW4
            have HRD4 := Lib.hid hrd4; have HOWN4 := Lib.hid (row_down HOWN3.out hbW4); have HG4 := Lib.hid (Go.Lib.grownBy_below HG3.out hbW4)
            clear c0 c1' f1 hbw hbW4
            obtain ⟨c0, c1, f1, hbw⟩ := hrd4
            have c1' : W4.cell? ⟨b, 1, none⟩ = some (.int .i64 ((n : Int) + 1)) := c1
            clear c1
            have c1 := c1'
            clear c1'
            have i3 : (0 : Int) ≤ (n : Int) + 1 := by omega
            have i4 : (n : Int) + 1 < s.size := by omega
            have i5 : ((n : Int) + 1).toNat = n + 1 := by omega
            go_upto_region 13 with fail
            have hszd : w.heap.size ≤ W4.heap.size := HG4.out.size
            have hal2 : acc.length ≤ 100000 := by omega
            have hdr : Below W4.heap.size W4 (W4.alloc (.cells #[.int .u8 (s[n + 1].toNat : Int)] 5)).drew := Below.drew (ba (Below.refl _ _) _)
            have hownd : World.ownsRow (W4.alloc (.cells #[.int .u8 (s[n + 1].toNat : Int)] 5)).drew w.heap.size 5 1 u4 acc.length (bcells acc) := row_down HOWN4.out hdr
            have HDR := Lib.hid hdr; have HOD := Lib.hid hownd
            have nb : W4.heap.size ≠ b := World.new_ne W4 ⟨b, 0, none⟩ c0
            clear hdr hownd
            go_region_held3 (fun w' => w'.cell? ⟨b, 0, none⟩ = some (.string s) ∧ w'.cell? ⟨b, 1, none⟩ = some (.int .i64 ((n : Int) + 1))) (first | with_reducible exact ⟨c0, c1⟩ | exact ⟨hrd5.1, hrd5.2.1⟩ | go_keep) ((refine step_append_lies _ (by rfl) _ _ _ (by rfl) w.heap.size 5 i0 (.int .u8 0) 1 1 Tryd.underlying45 HI.out HZ0.out HZ1.out HZ2.out rfl (by omega) u4 acc.length (bcells acc) (by rfl) HOD.out ⟨W4.heap.size, 0, none⟩ 1 1 [.int .u8 (s[n + 1].toNat : Int)] (by rfl) (by rfl) (fun j u h => cell_one_new _ _ _ j u h) (by simp [Value.oneCell']) (by omega) (by unfold maxLen; omega) (by omega) (by simp; omega) (W4.heap.size + 1) (by simp) ?_; intro g cap w1 hown' hgrow _ _; obtain ⟨hrd5, hown5, hg5⟩ := text_put hb HG4.out HRD4.out HOWN4.out HDR.out hgrow hown'))
            all_goals
              have HRD5 := Lib.hid hrd5; have HOWN5 := Lib.hid hown5; have HG5 := Lib.hid hg5
              clear hown' hgrow hown5 hg5 c0 c1 f1 hbw
              obtain ⟨c0, c1, f1, hbw⟩ := hrd5
              go_wp2_with fail
              go_roundw
              case rel => exact ⟨t, acc ++ [s[n + 1]], ⟨n + 1 + 1, HRE2.out, HRD5.out.step⟩, World.ownsRow.kept HOWN5.out (Go.Lib.grownBy_setB (World.grownBy.refl w1 (some b)) 1 _) (row_ne HOWN5.out hb), by rw [List.length_append, List.length_singleton]; omega, HEQ.out, Go.Lib.grownBy_setB HG5.out 1 _⟩
              case measure =>
                have h2 := hmeas.out
                have h4 := HRD5.out.step.pos
                have h3 := HRE1.out.1
                simp only [List.length_cons] at h2
                try simp only [List.length_cons] at h3
                refine Nat.lt_of_le_of_lt (Nat.le_of_eq (congrArg (s.size - ·) h4)) ?_
                omega
        · have e2 : ((s[n].toNat : Int) == 92) = false := by
            rw [HC.out]
            exact beq_eq_false_iff_ne.2 (fun e => h92 (UInt8.toNat_inj.1 (Int.ofNat_inj.1 e)))
          have HEQ : Hid (textL l = (textL t).map (fun p => ((acc ++ [s[n]]) ++ p.1, p.2))) := by unfold Hid; rw [heq.out, HC.out, textL_cons t h34 h92, map_acc]
          simp only [List.length_cons] at hal
          clear heq h34 h92
          go_wp2_with fail
          go_quiet (fail)
          obtain ⟨W1, hW1⟩ : ∃ W1, W1 = wr.drewN nq := ⟨_, rfl⟩
          rw [← hW1]
          have hbW1 : Below wr.heap.size wr W1 := by rw [hW1]; exact below_drewN _ _
          clear hW1 nq
          have hrd1 := HRD.out.below hbW1
          clear c0 c1 f1 hbw
          obtain ⟨c0, c1, f1, hbw⟩ := hrd1
          go_wp2_with fail
          go_quiet (fail)
          obtain ⟨W2, hW2⟩ : ∃ W2, W2 = W1.drewN nq := ⟨_, rfl⟩
          rw [← hW2]
          have hbW2 : Below W1.heap.size W1 W2 := by rw [hW2]; exact below_drewN _ _
          clear hW2 nq
          have hbW := bt hbW1 hbW2
          have hrd2 := HRD.out.below hbW
          have HOWN2 := Lib.hid (row_down HOWN.out hbW); have HG2 := Lib.hid (Go.Lib.grownBy_below HG.out hbW)
          have HRD2 := Lib.hid hrd2
          clear c0 c1 f1 hbw hbW1 hbW2 hbW
          obtain ⟨c0, c1, f1, hbw⟩ := hrd2
          go_upto_region 13 with fail
          have hszd : w.heap.size ≤ W2.heap.size := HG2.out.size
          have hal2 : acc.length ≤ 100000 := by omega
          have hdr : Below W2.heap.size W2 (W2.alloc (.cells #[.int .u8 (s[n].toNat : Int)] 5)).drew := Below.drew (ba (Below.refl _ _) _)
          have hownd : World.ownsRow (W2.alloc (.cells #[.int .u8 (s[n].toNat : Int)] 5)).drew w.heap.size 5 1 u4 acc.length (bcells acc) := row_down HOWN2.out hdr
          have HDR := Lib.hid hdr; have HOD := Lib.hid hownd
          have nb : W2.heap.size ≠ b := World.new_ne W2 ⟨b, 0, none⟩ c0
          clear hdr hownd
          go_region_held3 (fun w' => w'.cell? ⟨b, 0, none⟩ = some (.string s) ∧ w'.cell? ⟨b, 1, none⟩ = some (.int .i64 (n : Int))) (first | with_reducible exact ⟨c0, c1⟩ | exact ⟨hrd5.1, hrd5.2.1⟩ | go_keep) ((refine step_append_lies _ (by rfl) _ _ _ (by rfl) w.heap.size 5 i0 (.int .u8 0) 1 1 Tryd.underlying45 HI.out HZ0.out HZ1.out HZ2.out rfl (by omega) u4 acc.length (bcells acc) (by rfl) HOD.out ⟨W2.heap.size, 0, none⟩ 1 1 [.int .u8 (s[n].toNat : Int)] (by rfl) (by rfl) (fun j u h => cell_one_new _ _ _ j u h) (by simp [Value.oneCell']) (by omega) (by unfold maxLen; omega) (by omega) (by simp; omega) (W2.heap.size + 1) (by simp) ?_; intro g cap w1 hown' hgrow _ _; obtain ⟨hrd5, hown5, hg5⟩ := text_put hb HG2.out HRD2.out HOWN2.out HDR.out hgrow hown'))
          all_goals
            have HRD5 := Lib.hid hrd5; have HOWN5 := Lib.hid hown5; have HG5 := Lib.hid hg5
            clear hown' hgrow hown5 hg5 c0 c1 f1 hbw
            obtain ⟨c0, c1, f1, hbw⟩ := hrd5
            go_wp2_with fail
            go_roundw
            case rel => exact ⟨t, acc ++ [s[n]], ⟨n + 1, HRE1.out, HRD5.out.step⟩, World.ownsRow.kept HOWN5.out (Go.Lib.grownBy_setB (World.grownBy.refl w1 (some b)) 1 _) (row_ne HOWN5.out hb), by rw [List.length_append, List.length_singleton]; omega, HEQ.out, Go.Lib.grownBy_setB HG5.out 1 _⟩
            case measure =>
              have h2 := hmeas.out
              have h4 := HRD5.out.step.pos
              have h3 := HRE1.out.1
              simp only [List.length_cons] at h2
              refine Nat.lt_of_le_of_lt (Nat.le_of_eq (congrArg (s.size - ·) h4)) ?_
              omega
end Go.Proofs.YtpjiiipabbchiaaDoor.Tk
