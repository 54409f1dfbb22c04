/-
  DERIVED. Merged of: ScRd11, ScRd12, ScRd13.
-/
import Derived.Test.YtlgbmnmoobpkkaaDoorRdB
import Derived.Test.YtlgbmnmoobpkkaaDoorRdC
import Derived.Test.YtlgbmnmoobpkkaaDoorScCmd1
namespace Go.Proofs.YtlgbmnmoobpkkaaDoor.Sc
open Go.RowKit
open Tk (Tok)

theorem word_range {tab : List Str} {l r : List Tok} {k : Nat} (h : wordP tab l = .ok (k, r)) : 0 < k ∧ k < tab.length := by
 unfold wordP at h
 cases l with
 | nil => cases h
 | cons t q =>
  have h' : (if t.kind = 1 ∧ 0 < idxW tab t.text then (.ok (idxW tab t.text, q) : PR Nat) else giveP (t :: q) 3) = .ok (k, r) := h
  split at h'
  ·rename_i hc
   cases h'
   refine ⟨hc.2, ?_⟩
   have := hc.2
   unfold idxW at this ⊢
   split at this
   ·rename_i h2; rw [if_pos h2]; exact h2
   ·omega
  ·cases h'
theorem test_every : ∀ n, TestN n
 | 0 => fun _ _ _ _ _ _ _ _ _ _ _ _ _ _ h => absurd h (Nat.not_lt_zero _)
 | n + 1 => fun dI d m b v F all l w hdI hm hn h hTab hl => by
  by_cases hg : 6 < d ∧ l ≠ []
  ·exact test_wrong n dI d m b v F all l w hdI hn h hTab (.inl hg)
  ·cases hw : wordP tstTab l with
   | error p => exact test_wrong n dI d m b v F all l w hdI hn h hTab (.inr ⟨hg, p.1, p.2, hw⟩)
   | ok p =>
    obtain ⟨k, r⟩ := p
    have hk := word_range hw
    have hk11 : k < 11 := hk.2
    have key : (k = 1 ∨ k = 2) ∨ k = 3 ∨ k = 4 ∨ k = 5 ∨ (k = 6 ∨ k = 7 ∨ k = 8) ∨ k = 9 ∨ k = 10 := by omega
    rcases key with hk | hk | hk | hk | hk | hk | hk
    ·exact test_bare_p n dI d m b k v F all l r w hdI hm hn h hTab hg hw hk
    ·exact test_not_p n dI d m b k v F all l r w hdI hm hn h hTab (test_every n) hl hg hw hk
    ·exact test_all4_p n dI d m b k v F all l r w hdI hm hn h hTab (test_every n) hl hg hw hk
    ·exact test_all5_p n dI d m b k v F all l r w hdI hm hn h hTab (test_every n) hl hg hw hk
    ·exact test_header_p n dI d m b k v F all l r w hdI hm hn h hTab hg hw hk
    ·exact test_exists_p n dI d m b k v F all l r w hdI hm hn h hTab hg hw hk
    ·exact test_size_p n dI d m b k v F all l r w hdI hm hn h hTab hg hw hk
/-! commands -/
def CmdR (K H : Nat) (c : Cmd) (w' : World) (e : Ending) : Prop := ∃ vs : List Value, e = .returned (.agg vs.toArray) ∧ (cCmd K).rep w' (fun x => H ≤ x) c vs
def CmdsR (K H : Nat) (cs : List Cmd) (w' : World) (e : Ending) : Prop := ∃ v : Value, e = .returned v ∧ SAt (cCmd K) w' (fun x => H ≤ x) v cs
def CommandN (n : Nat) : Prop := ∀ (dI : Int) (d b : Nat) (v : Value) (F : Dom) (all l : List Tok) (w : World), dI = d → d ≤ 7 → all.length ≤ 100000 → RL w b v F all l → Tabs w b → l.length < n →
  Calls Tryd.prog 19 #[.pointer (some ⟨b, 0, none⟩), .int .i64 dI] w (Ans (CmdR (n + 7) w.heap.size) b v F all w (commandP n d l))
def BranchN (n : Nat) : Prop := ∀ (dI : Int) (d b : Nat) (v : Value) (F : Dom) (all l : List Tok) (w : World), dI = d → d ≤ 6 → all.length ≤ 100000 → RL w b v F all l → Tabs w b → l.length < n →
  Calls Tryd.prog 35 #[.pointer (some ⟨b, 0, none⟩), .int .i64 dI] w (Ans (CmdR (n + 7) w.heap.size) b v F all w (branchP n d l))
theorem cmds_end {f : List Tok → PR Cmd} {m : Nat} {r r4 : List Tok} (h : eatP 125 r = some r4) : cmdsP f (m + 1) r = .ok ([], r4) := by rw [cmdsP, h]
theorem cmds_more {f : List Tok → PR Cmd} {m : Nat} {r : List Tok} (h : eatP 125 r = none) {β : Type} (g : List Cmd → List Tok → PR β) : bnd (cmdsP f (m + 1) r) g = bnd (f r) fun c q => bnd (cmdsP f m q) fun cs q2 => g (c :: cs) q2 := by
 rw [cmdsP, h]
 show bnd (bnd (f r) _) g = _
 rw [bnd_assoc]
 cases f r with
 | error p => rfl
 | ok p =>
  show bnd (bnd (cmdsP f m p.2) _) g = bnd (cmdsP f m p.2) _
  rw [bnd_assoc]; rfl
set_option maxHeartbeats 8000000 in
set_option maxRecDepth 20000 in
theorem block_any (n : Nat) (hC : CommandN n) (dI : Int) (d b : Nat) (v : Value) (F : Dom) (all l : List Tok) (w : World) (hdI : dI = d) (hd : d ≤ 7) (hn : all.length ≤ 100000) (h : RL w b v F all l) (hTab : Tabs w b) (hl : l.length ≤ n) :
  Calls Tryd.prog 57 #[.pointer (some ⟨b, 0, none⟩), .int .i64 dI] w (Ans (CmdsR (n + 7) w.heap.size) b v F all w (blockP (commandP n d) l)) := by
 obtain ⟨Rz, hRz⟩ : ∃ Rz, Rz = blockP (commandP n d) l := ⟨_, rfl⟩
 rw [← hRz]
 have HZ : Hid (Rz = bnd (mustP 123 l) fun _ r => cmdsP (commandP n d) (r.length + 1) r) := hRz
 have HM := Lib.hid (must_any b v F all l 123 w hn h)
 have hlm := less_must 123 l
 have hbl := h.lt
 have hll := h.len
 have HTAB := Lib.hid hTab; have HDI := Lib.hid hdI
 have HCC : Hid (∀ (V : World) (q : List Tok), RL V b v F all q → w.grownBy V (some b) → q.length < n → Calls Tryd.prog 19 #[.pointer (some ⟨b, 0, none⟩), .int .i64 dI] V (Ans (CmdR (n + 7) V.heap.size) b v F all V (commandP n d q))) := fun V q h1 h2 h3 => hC dI d b v F all q V hdI hd hn h1 (HTAB.out.below (grown_low h2 (Nat.le_of_lt hbl))) h3
 obtain ⟨i0, hi, hz0, hz1, hz2⟩ := info_three info_cmd
 have HI0 := Lib.hid hi; have HZ0 := Lib.hid hz0; have HZ1 := Lib.hid hz1; have HZ2 := Lib.hid hz2
 clear hRz h hTab hC hdI hi hz0 hz1 hz2
 go_enter Tryd.func57, Tryd.ntmps57
 cases hx : mustP 123 l with
 | error p =>
  obtain ⟨kk, c⟩ := p
  rw [hx] at HM HZ
  clear hx hlm
  go_wp2_with fail
  refine HM.out.mono ?_
  intro e w9 hp
  obtain ⟨ch, rfl, HCH, g9⟩ := hp.err
  have G9 := Lib.hid g9
  clear g9 hp
  go_wp2_with fail
  refine ⟨rfl, ?_⟩
  rw [HZ.out]
  exact ⟨by rw [HCH.out], G9.out⟩
 | ok p =>
  obtain ⟨u, r1⟩ := p
  rw [hx] at HM HZ hlm
  have hr1l : r1.length + 1 ≤ l.length := hlm
  have HZ1' : Hid (Rz = bnd (cmdsP (commandP n d) (r1.length + 1) r1) fun cs q => .ok ([] ++ cs, q)) := by
   unfold Hid; rw [HZ.out]
   show cmdsP (commandP n d) (r1.length + 1) r1 = _
   cases cmdsP (commandP n d) (r1.length + 1) r1 <;> rfl
  clear hx hlm HZ
  go_wp2_with fail
  refine HM.out.mono ?_
  intro e w3 hp
  obtain ⟨rfl, hr3, g3⟩ := hp
  have HR3 := Lib.hid hr3; have HG3 := Lib.hid g3
  clear hr3 g3 HM
  go_wp2_with fail
  go_loopw [5] (fun vo wr => ∃ (ps : Held Cmd) (rr : List Tok) (mm : Nat), RL wr b v F all rr ∧ ORow (cCmd (n + 7)) 49 wr w.heap.size (DmB w.heap.size wr vo) vo ps ∧ rr.length < mm ∧ ps.length + rr.length ≤ 100001 ∧ rr.length < n ∧ Hid (Rz = bnd (cmdsP (commandP n d) mm rr) fun cs q => .ok (ps.map Prod.fst ++ cs, q)) ∧ w.grownBy wr (some b)) (fun _ wr => all.length - posT wr b)
  case atStart => exact ⟨[], r1, r1.length + 1, HR3.out, ORow.nil _ _ _ _ _, Nat.lt_succ_self _, by show 0 + _ ≤ _; omega, by omega, HZ1'.out, HG3.out⟩
  case round =>
   obtain ⟨ps, rr, mm, hr, hrow, hmm, hpr, hrn, HQ, hg⟩ := hrel
   obtain ⟨Gt, ct, rfl⟩ := ORow.shape hrow
   obtain ⟨mm', rfl⟩ : ∃ mm', mm = mm' + 1 := ⟨mm - 1, by omega⟩
   have HR := Lib.hid hr; have HROW := Lib.hid hrow; have HG := Lib.hid hg
   have HE := Lib.hid (eat_any b v F all rr 125 wr hn hr)
   clear hr hrow hg
   go_wp2_with fail
   refine HE.out.mono ?_
   rintro e w4 (⟨r4, hr4, rfl, h4, g4⟩ | ⟨hr4, rfl, h4, hb4⟩)
   ·have HQ2 : Hid (Rz = .ok (ps.map Prod.fst, r4)) := by unfold Hid; rw [HQ.out, cmds_end hr4]; show Except.ok _ = _; rw [List.append_nil]
    have hrow4 := HROW.out.kept g4 (by
     by_cases e : (Value.slice Gt ps.length ct).ownBlock = none
     ·exact .inl e
     ·refine .inr fun e2 => ?_
      have := (HROW.out.1.lt b e2).1
      omega) (fun x e => by obtain rfl : b = x := Option.some.inj e; exact DmB_off hbl)
    have HS := Lib.hid (ORow.sat (F := fun x => w.heap.size ≤ x) hrow4 (fun x hx => hx) (fun x hx => hx.1))
    have H4 := Lib.hid h4; have G4 := Lib.hid (Go.Lib.grownBy_trans HG.out g4)
    have hlen9 : (ps.map Prod.fst).length = ps.length := List.length_map _
    clear hr4 h4 g4 hrow4 HE HQ
    go_wp2_with fail
    go_ret
    rw [HQ2.out]
    exact ⟨⟨_, rfl, HS.out⟩, H4.out, G4.out⟩
   ·have HQ2 := Lib.hid HQ.out
    rw [cmds_more hr4] at HQ2
    have hrow4 := HROW.out.down hb4
    have HROW4 := Lib.hid hrow4
    have G4 := Lib.hid (Go.Lib.grownBy_below HG.out hb4)
    have HSZ : Hid (wr.heap.size ≤ w4.heap.size) := hb4.size
    have hcc := HCC.out w4 rr h4 G4.out hrn
    have hls := less_command n d rr
    clear hr4 h4 hb4 hrow4 HE HQ
    cases hx : commandP n d rr with
    | error p =>
     obtain ⟨kk, c⟩ := p
     rw [hx] at hcc HQ2
     have HC1 := Lib.hid hcc
     clear hx hcc hls
     go_wp2_with fail
     refine HC1.out.mono ?_
     intro e w9 hp
     obtain ⟨ch, rfl, HCH, g9⟩ := hp.err
     have G9 := Lib.hid (Go.Lib.grownBy_trans G4.out g9)
     clear g9 hp
     go_wp2_with fail
     refine ⟨rfl, ?_⟩
     rw [HQ2.out]
     exact ⟨by rw [HCH.out], G9.out⟩
    | ok p =>
     obtain ⟨y, r5⟩ := p
     rw [hx] at hcc HQ2 hls
     have hr5l : r5.length + 1 ≤ rr.length := hls
     have HC1 := Lib.hid hcc
     have HQ3 : Hid (Rz = bnd (cmdsP (commandP n d) mm' r5) fun cs q => .ok (ps.map Prod.fst ++ (y :: cs), q)) := HQ2.out
     clear hx hcc hls HQ2
     go_wp2_with fail
     refine HC1.out.mono ?_
     intro e w5 hp
     obtain ⟨⟨vs1, rfl, hr1⟩, h5, g5⟩ := hp
     obtain ⟨k, G0, n0, c0, k1, m1, p1, G1, n1, c1, G2, n2, c2, o1, l1, G3, n3, c3, G4', n4, c4, G5, n5, c5, rfl⟩ := cmd_form12 hr1
     have hal5 := ba (Below.refl w5.heap.size w5) (.cells #[.int .i64 k, .slice G0 n0 c0, .int .i64 k1, .int .i64 m1, .int .i64 p1, .slice G1 n1 c1, .slice G2 n2 c2, .bool o1, .int .i64 l1, .slice G3 n3 c3, .slice G4' n4 c4, .slice G5 n5 c5] 49)
     have hrow5 := (HROW4.out.kept g5 (by
      by_cases e : (Value.slice Gt ps.length ct).ownBlock = none
      ·exact .inl e
      ·refine .inr fun e2 => ?_
       have := (HROW4.out.1.lt b e2).1
       omega) (fun x e => by obtain rfl : b = x := Option.some.inj e; exact DmB_off hbl)).down hal5
     have HX6 : Hid ((cCmd (n + 7)).rep (w5.alloc (.cells #[.int .i64 k, .slice G0 n0 c0, .int .i64 k1, .int .i64 m1, .int .i64 p1, .slice G1 n1 c1, .slice G2 n2 c2, .bool o1, .int .i64 l1, .slice G3 n3 c3, .slice G4' n4 c4, .slice G5 n5 c5] 49)) (fun x => wr.heap.size ≤ x ∧ x < (w5.alloc (.cells #[.int .i64 k, .slice G0 n0 c0, .int .i64 k1, .int .i64 m1, .int .i64 p1, .slice G1 n1 c1, .slice G2 n2 c2, .bool o1, .int .i64 l1, .slice G3 n3 c3, .slice G4' n4 c4, .slice G5 n5 c5] 49)).heap.size) y [.int .i64 k, .slice G0 n0 c0, .int .i64 k1, .int .i64 m1, .int .i64 p1, .slice G1 n1 c1, .slice G2 n2 c2, .bool o1, .int .i64 l1, .slice G3 n3 c3, .slice G4' n4 c4, .slice G5 n5 c5]) :=
      (cCmd (n + 7)).mono ((cCmd (n + 7)).stable (cmd_bd _ hr1) (Same.of_below hal5) hal5.size) (fun x hx => ⟨Nat.le_trans HSZ.out hx.1, by rw [World.size_alloc]; have := hx.2; omega⟩)
     have HR6 := Lib.hid hrow5
     have HOWN := Lib.hid hrow5.1
     have HAL := Lib.hid hal5
     have H5 := Lib.hid h5
     have HG5 := Lib.hid (Go.Lib.grownBy_trans G4.out g5)
     have hzz : wr.heap.size ≤ w5.heap.size := Nat.le_trans HSZ.out g5.size
     have hzw : w.heap.size ≤ w5.heap.size := HG5.out.size
     clear hr1 h5 g5 hal5 hrow5 HC1
     go_wp2_with (at_builtin; refine wpList_append_lies _ (by rfl) _ _ _ (by rfl) w.heap.size 49 i0 _ 12 192 Tryd.underlying23 HI0.out HZ0.out HZ1.out HZ2.out rfl (by omega) (.slice Gt ps.length ct) ps.length (hcells ps) (by rfl) HOWN.out ⟨w5.heap.size, 0, none⟩ 1 1 [.int .i64 k, .slice G0 n0 c0, .int .i64 k1, .int .i64 m1, .int .i64 p1, .slice G1 n1 c1, .slice G2 n2 c2, .bool o1, .int .i64 l1, .slice G3 n3 c3, .slice G4' n4 c4, .slice G5 n5 c5] (by rfl) (by rfl) (news_of w5 _ _) (by simp [Value.oneCell']) (by omega) (by unfold maxLen; omega) (by omega) (by simp; omega) (w5.heap.size + 1) (by simp) ?_)
     intro g6 cap6 w6 hown6 hgrow6 hat6 hlt6
     have hlo : ∀ x, (Value.slice Gt ps.length ct).ownBlock = some x → w.heap.size ≤ x := fun x e => (HROW.out.1.lt x e).1
     have hrow6 := rowB_more (wr := wr) HR6.out (by rw [World.size_alloc]; omega) HX6.out (fun x e => (HROW.out.1.lt x e).2) HG.out.size (H := w5.heap.size + 1) (by simp) hown6 hgrow6 hat6
     have HROW6 := Lib.hid hrow6
     have HG6 := Lib.hid (grown_row HG5.out HAL.out hgrow6 hlo)
     have HRL6 := Lib.hid ((H5.out.below HAL.out).grown hgrow6 (fun x e => ⟨by have := hlo x e; omega, fun hF => by have := HR.out.low x hF; have := hlo x e; omega⟩))
     have HME := Lib.hid (HR.out.meas HRL6.out (by omega))
     clear hown6 hgrow6 hat6 hlt6 hlo hrow6
     go_wp2_with fail
     go_roundw
     case rel => exact ⟨ps ++ [(y, _)], r5, mm', HRL6.out, HROW6.out, by omega, by rw [List.length_append]; show ps.length + 1 + _ ≤ _; omega, by omega, by unfold Hid; simp only [List.map_append, List.append_assoc]; exact HQ3.out, HG6.out⟩
     case measure => exact HME.out
end Go.Proofs.YtlgbmnmoobpkkaaDoor.Sc
namespace Go.Proofs.YtlgbmnmoobpkkaaDoor.Sc
open Go.RowKit
open Tk (Tok)

/-- on the way through 'branch', 'command': the reader, the command's variable T, the result's variable N -/
structure RC (w0 w : World) (b T N : Nat) (v : Value) (F : Dom) (all l : List Tok) (cs : List Value) : Prop where
 rd : RL w b v F all l
 t : Has w T cs
 res : Has w N res12
 gr : w0.grownBy w (some b)
 bN : b < N
 NT : N < T
 N0 : w0.heap.size ≤ N
theorem RC.next {w0 w w' : World} {b T N : Nat} {v : Value} {F : Dom} {all l l' : List Tok} {cs : List Value} (h : RC w0 w b T N v F all l cs) (hr : RL w' b v F all l') (g : w.grownBy w' (some b)) : RC w0 w' b T N v F all l' cs :=
 ⟨hr, h.t.kept g (fun e => by have := Option.some.inj e; have := h.bN; have := h.NT; omega), h.res.kept g (fun e => by have := Option.some.inj e; have := h.bN; omega), Go.Lib.grownBy_trans h.gr g, h.bN, h.NT, h.N0⟩
theorem RC.down {w0 w w' : World} {b T N : Nat} {v : Value} {F : Dom} {all l : List Tok} {cs : List Value} (h : RC w0 w b T N v F all l cs) (g : Below w.heap.size w w') : RC w0 w' b T N v F all l cs := h.next (h.rd.below g) (gBelow g b)
theorem RC.set {w0 w : World} {b T N i : Nat} {v : Value} {F : Dom} {all l : List Tok} {cs : List Value} (h : RC w0 w b T N v F all l cs) (u : Value) (hi : i < cs.length) : RC w0 (w.setCell ⟨T, i, none⟩ u) b T N v F all l (cs.set i u) :=
 ⟨rl_far h.rd (by have := h.bN; have := h.NT; omega) u, h.t.set' u hi, h.res.else' (by have := h.NT; omega) u, grown_far h.gr (by have := h.NT; have := h.N0; omega) u, h.bN, h.NT, h.N0⟩
theorem RC.step {w0 w : World} {b T N n : Nat} {v : Value} {F : Dom} {all l : List Tok} {t : Tok} {cs : List Value} (h : RC w0 w b T N v F all (t :: l) cs) (hn : TLeft all n (t :: l)) : RC w0 (w.setCell ⟨b, 1, none⟩ (.int .i64 ((n : Int) + 1))) b T N v F all l cs := by
 obtain ⟨n', a1, a2⟩ := h.rd
 obtain rfl : n' = n := by have := a1.1; have := hn.1; omega
 exact ⟨⟨n' + 1, a1.cons.2.2, a2.step⟩, h.t.else' (by have := h.bN; have := h.NT; omega) _, h.res.else' (by have := h.bN; omega) _, Go.Lib.grownBy_setB h.gr 1 (.int .i64 ((n' : Int) + 1)), h.bN, h.NT, h.N0⟩
theorem RC.TW {w0 w : World} {b T N : Nat} {v : Value} {F : Dom} {all l : List Tok} {cs : List Value} (h : RC w0 w b T N v F all l cs) : T < w.heap.size := h.t.2.2
theorem agg_put12 {w0 W : World} {b T N K : Nat} {v : Value} {F : Dom} {all l : List Tok} {c : Cmd} {a0 a1 a2 a3 a4 a5 a6 a7 a8 a9 a10 a11 : Value} (h : RC w0 W b T N v F all l [a0, a1, a2, a3, a4, a5, a6, a7, a8, a9, a10, a11]) (hr : (cCmd K).rep W (fun x => w0.heap.size ≤ x ∧ x ≠ N) c [a0, a1, a2, a3, a4, a5, a6, a7, a8, a9, a10, a11]) :
  Has (put12 W N a0 a1 a2 a3 a4 a5 a6 a7 a8 a9 a10 a11) N [a0, a1, a2, a3, a4, a5, a6, a7, a8, a9, a10, a11] ∧
  Ans (CmdR K w0.heap.size) b v F all w0 (.ok (c, l)) (.returned (.agg #[a0, a1, a2, a3, a4, a5, a6, a7, a8, a9, a10, a11])) (put12 W N a0 a1 a2 a3 a4 a5 a6 a7 a8 a9 a10 a11) := by
 refine ⟨put12_has h.res _ _ _ _ _ _ _ _ _ _ _ _, ⟨_, rfl, ?_⟩, ?_, ?_⟩
 ·exact (cCmd K).mono ((cCmd K).stable hr (fun x hx _ => put12_same hx.2 _ _ _ _ _ _ _ _ _ _ _ _) (put12_size _ _ _ _ _ _ _ _ _ _ _ _)) (fun x hx => hx.1)
 ·unfold put12
  have hb := h.bN
  exact rl_far (rl_far (rl_far (rl_far (rl_far (rl_far (rl_far (rl_far (rl_far (rl_far (rl_far (rl_far h.rd hb _) hb _) hb _) hb _) hb _) hb _) hb _) hb _) hb _) hb _) hb _) hb _
 ·unfold put12
  have h0 := h.N0
  exact grown_far (grown_far (grown_far (grown_far (grown_far (grown_far (grown_far (grown_far (grown_far (grown_far (grown_far (grown_far h.gr h0 _) h0 _) h0 _) h0 _) h0 _) h0 _) h0 _) h0 _) h0 _) h0 _) h0 _) h0 _
def Dm2 (N T : Nat) : Dom := fun x => N < x ∧ x < T
theorem rep_in {α : Type} {c : Cod α} {w w' : World} {b N T : Nat} {x : α} {vs : List Value} (h : c.rep w (Dm2 N T) x vs) (g : w.grownBy w' (some b)) (hb : b ≤ N) : c.rep w' (Dm2 N T) x vs :=
 c.stable h (Same.of_grown g (fun x e hF => by obtain rfl : b = x := Option.some.inj e; have := hF.1; omega)) g.size
theorem rep_inT {α : Type} {c : Cod α} {w : World} {i N T : Nat} {x : α} {vs : List Value} (h : c.rep w (Dm2 N T) x vs) (u : Value) : c.rep (w.setCell ⟨T, i, none⟩ u) (Dm2 N T) x vs :=
 c.stable h (fun x hx _ => Below.heap_setCell _ _ _ _ (by show x ≠ T; have := hx.2; omega)) (by simp [World.setCell])
theorem sat_in {α : Type} {c : Cod α} {w w' : World} {b N T : Nat} {v : Value} {xs : List α} (h : SAt c w (Dm2 N T) v xs) (g : w.grownBy w' (some b)) (hb : b ≤ N) : SAt c w' (Dm2 N T) v xs :=
 h.stable (Same.of_grown g (fun x e hF => by obtain rfl : b = x := Option.some.inj e; have := hF.1; omega)) g.size
theorem sat_inT {α : Type} {c : Cod α} {w : World} {i N T : Nat} {v : Value} {xs : List α} (h : SAt c w (Dm2 N T) v xs) (u : Value) : SAt c (w.setCell ⟨T, i, none⟩ u) (Dm2 N T) v xs :=
 h.stable (fun x hx _ => Below.heap_setCell _ _ _ _ (by show x ≠ T; have := hx.2; omega)) (by simp [World.setCell])
theorem sat_one_cmd {w : World} {F : Dom} {K : Nat} {t : Cmd} {vs : List Value} {ty : TypeId} (h : (cCmd K).rep w F t vs) : SAt (cCmd K) (w.alloc (.cells vs.toArray ty)) (fun b => F b ∨ b = w.heap.size) (.slice (some ⟨w.heap.size, 0, none⟩) 1 1) [t] := by
 refine ⟨_, 1, rfl, Nat.le_refl _, fun i y hi => ?_⟩
 have h0 : i = 0 := by have := (List.getElem?_eq_some_iff.1 hi).1; simp at this; omega
 subst h0
 obtain rfl : t = y := Option.some.inj hi
 have hb := ba (Below.refl w.heap.size w) (.cells vs.toArray ty)
 exact ⟨w.heap.size, 0, rfl, .inr rfl, by simp, vs, (cCmd K).mono ((cCmd K).stable h (Same.of_below hb) hb.size) (fun b hb => .inl hb), fun j u hj => by have := (Has.alloc w vs ty).1 j u hj; simpa using this⟩
/-- an If's value in memory: the test from H1 on, the commands from H2 on -/
theorem if_rep {n N T H0 : Nat} {w : World} {t : Tst} {ts : List Value} {th el : List Cmd} {vh ve : Value} (ht : (cTst 7).rep w (Dm2 N T) t ts) (hh : SAt (cCmd (n + 7)) w (Dm2 N T) vh th) (he : SAt (cCmd (n + 7)) w (fun x => T < x) ve el) (h0 : H0 ≤ N) (h1 : N < T) :
  (cCmd (n + 1 + 7)).rep w (fun x => H0 ≤ x ∧ x ≠ N) ⟨2, [], t, th, el⟩ (.int .i64 2 :: .slice none 0 0 :: (ts ++ [vh, ve])) := by
 have e : n + 1 + 7 = (n + 7) + 1 := by omega
 rw [e]
 refine ⟨.slice none 0 0, ts, vh, ve, rfl, SAt.nil _ _ _, ?_, hh.mono (fun x hx => ⟨by have := hx.1; omega, by have := hx.1; omega⟩), he.mono (fun x hx => ⟨by omega, by omega⟩)⟩
 exact (cTst (n + 7 + 1)).mono (tst_le (by omega) ht) (fun x hx => ⟨by have := hx.1; omega, by have := hx.1; omega⟩)
set_option maxHeartbeats 8000000 in
set_option maxRecDepth 20000 in
theorem branch_succ (n : Nat) (hC : CommandN n) (hB : BranchN n) : BranchN (n + 1) := by
 intro dI d b v F all l w hdI hd hn h hTab hl
 obtain ⟨Rz, hRz⟩ : ∃ Rz, Rz = branchP (n + 1) d l := ⟨_, rfl⟩
 rw [← hRz]
 rw [branchP] at hRz
 have HZ := Lib.hid hRz
 have hbl := h.lt
 have hal := ba (Below.refl w.heap.size w) (.cells #[.int .i64 0, .slice none 0 0, .int .i64 0, .int .i64 0, .int .i64 0, .slice none 0 0, .slice none 0 0, .bool false, .int .i64 0, .slice none 0 0, .slice none 0 0, .slice none 0 0] 49)
 have HRS := Lib.hid (Has.alloc w [.int .i64 0, .slice none 0 0, .int .i64 0, .int .i64 0, .int .i64 0, .slice none 0 0, .slice none 0 0, .bool false, .int .i64 0, .slice none 0 0, .slice none 0 0, .slice none 0 0] 49)
 have HAL := Lib.hid hal
 have h1 := h.below hal
 have hTab1 := hTab.down (Nat.le_of_lt hbl) hal
 have HT := Lib.hid (test_every (l.length + 1) 1 1 7 b v F all l _ rfl rfl hn h1 hTab1 (Nat.lt_succ_self _))
 have HTAB := Lib.hid hTab
 have hlt := less_test (l.length + 1) 1 l
 have HBK : Hid (∀ (V : World) (q : List Tok), RL V b v F all q → w.grownBy V (some b) → q.length ≤ n → Calls Tryd.prog 57 #[.pointer (some ⟨b, 0, none⟩), .int .i64 (dI + 1)] V (Ans (CmdsR (n + 7) V.heap.size) b v F all V (blockP (commandP n (d + 1)) q))) := fun V q h1 h2 h3 => block_any n hC (dI + 1) (d + 1) b v F all q V (by omega) (by omega) hn h1 (HTAB.out.below (grown_low h2 (Nat.le_of_lt hbl))) h3
 have HBR : Hid (∀ (V : World) (q : List Tok), RL V b v F all q → w.grownBy V (some b) → q.length < n → Calls Tryd.prog 35 #[.pointer (some ⟨b, 0, none⟩), .int .i64 dI] V (Ans (CmdR (n + 7) V.heap.size) b v F all V (branchP n d q))) := fun V q h1 h2 h3 => hB dI d b v F all q V hdI hd hn h1 (HTAB.out.below (grown_low h2 (Nat.le_of_lt hbl))) h3
 have hdw : IntKind.i64.wrap (dI + 1) = dI + 1 := IntWalk.i64_in _ (by omega)
 have hd0 : 0 ≤ dI := by omega
 have hd9 : dI ≤ 6 := by omega
 have hll := h.len
 clear hRz h hal h1 hTab1 hTab hC hB hdI
 go_enter Tryd.func35, Tryd.ntmps35
 cases hx : testP (l.length + 1) 1 l with
 | error p =>
  obtain ⟨kk, c⟩ := p
  rw [hx] at HT HZ
  clear hx hlt
  go_wp2_with fail
  refine HT.out.mono ?_
  intro e w9 hp
  obtain ⟨ch, rfl, HCH, g9⟩ := hp.err
  have G9 := Lib.hid (Go.Lib.grownBy_trans (gBelow HAL.out b) g9)
  clear g9 hp
  go_wp2_with fail
  refine ⟨rfl, ?_⟩
  rw [HZ.out]
  exact ⟨by rw [HCH.out], G9.out⟩
 | ok p =>
  obtain ⟨t, r1⟩ := p
  rw [hx] at HT HZ hlt
  have hr1l : r1.length + 1 ≤ l.length := hlt
  have HZ1 : Hid (Rz = bnd (blockP (commandP n (d + 1)) r1) (elseK (commandP n (d + 1)) (branchP n d) t)) := HZ.out
  clear hx hlt HZ
  go_wp2_with fail
  refine HT.out.mono ?_
  intro e w3 hp
  obtain ⟨⟨vs, rfl, hrep⟩, hr3, g3⟩ := hp
  obtain ⟨k1, m1, p1, G1, n1, c1', G2, n2, c2', o1, l1, G3, n3, c3', rfl⟩ := oct_form hrep
  have hg3 := Go.Lib.grownBy_trans (gBelow HAL.out b) g3
  have HH1 : (w.alloc (.cells #[.int .i64 0, .slice none 0 0, .int .i64 0, .int .i64 0, .int .i64 0, .slice none 0 0, .slice none 0 0, .bool false, .int .i64 0, .slice none 0 0, .slice none 0 0, .slice none 0 0] 49)).heap.size = w.heap.size + 1 := World.size_alloc _ _
  have HREP3 : Hid ((cTst 7).rep w3 (Dm2 w.heap.size w3.heap.size) t [.int .i64 k1, .int .i64 m1, .int .i64 p1, .slice G1 n1 c1', .slice G2 n2 c2', .bool o1, .int .i64 l1, .slice G3 n3 c3']) := (cTst 7).mono (tst_bd 7 hrep) (fun x hx => ⟨by have := hx.1; omega, hx.2⟩)
  have hN3 : Has w3 w.heap.size res12 := HRS.out.kept g3 (fun e => by have := Option.some.inj e; omega)
  have HN3 := Lib.hid hN3; have HG3 := Lib.hid hg3; have HR3 := Lib.hid hr3
  have HSZ3 : Hid (w.heap.size + 1 ≤ w3.heap.size) := by have := g3.size; rw [World.size_alloc] at this; exact this
  have hB1 := HBK.out w3 r1 hr3 hg3 (by omega)
  have hlb := less_block (less_command n (d + 1)) r1
  clear HH1 hrep hr3 g3 hg3 hN3 HT HRS HAL
  cases hx : blockP (commandP n (d + 1)) r1 with
  | error p =>
   obtain ⟨kk, c⟩ := p
   rw [hx] at hB1 HZ1
   have HB1 := Lib.hid hB1
   clear hx hlb hB1
   go_wp2_with fail
   refine HB1.out.mono ?_
   intro e w9 hp
   obtain ⟨ch, rfl, HCH, g9⟩ := hp.err
   have G9 := Lib.hid (Go.Lib.grownBy_trans HG3.out g9)
   clear g9 hp
   go_wp2_with fail
   refine ⟨rfl, ?_⟩
   rw [HZ1.out]
   exact ⟨by rw [HCH.out], G9.out⟩
  | ok p =>
   obtain ⟨th, r2⟩ := p
   rw [hx] at hB1 HZ1 hlb
   have hr2l : r2.length + 2 ≤ r1.length := hlb
   have HB1 := Lib.hid hB1
   have HZ2 : Hid (Rz = elseK (commandP n (d + 1)) (branchP n d) t th r2) := HZ1.out
   clear hx hlb hB1 HZ1
   go_wp2_with fail
   refine HB1.out.mono ?_
   intro e w4 hp
   obtain ⟨⟨v4, rfl, hs4⟩, hr4, g4⟩ := hp
   obtain ⟨Gh, ch, rfl, -⟩ := hs4.form
   obtain ⟨nh, hnh⟩ : ∃ nh, nh = th.length := ⟨_, rfl⟩
   rw [← hnh] at hs4 ⊢
   have HNH := Lib.hid hnh
   have hal4 := ba (Below.refl w4.heap.size w4) (.cells #[.int .i64 2, .slice none 0 0, .int .i64 k1, .int .i64 m1, .int .i64 p1, .slice G1 n1 c1', .slice G2 n2 c2', .bool o1, .int .i64 l1, .slice G3 n3 c3', .slice Gh nh ch, .slice none 0 0] 49)
   have hrep4 : (cTst 7).rep w4 (Dm2 w.heap.size w4.heap.size) t [.int .i64 k1, .int .i64 m1, .int .i64 p1, .slice G1 n1 c1', .slice G2 n2 c2', .bool o1, .int .i64 l1, .slice G3 n3 c3'] := (cTst 7).mono (rep_in HREP3.out g4 (by omega)) (fun x hx => ⟨hx.1, Nat.lt_of_lt_of_le hx.2 g4.size⟩)
   have hth4 : SAt (cCmd (n + 7)) w4 (Dm2 w.heap.size w4.heap.size) (.slice Gh nh ch) th := (SAt.bd (fun _ _ hr => cmd_bd _ hr) hs4).mono (fun x hx => ⟨by have := hx.1; have := HSZ3.out; omega, hx.2⟩)
   have hH0 : RC w (w4.alloc (.cells #[.int .i64 2, .slice none 0 0, .int .i64 k1, .int .i64 m1, .int .i64 p1, .slice G1 n1 c1', .slice G2 n2 c2', .bool o1, .int .i64 l1, .slice G3 n3 c3', .slice Gh nh ch, .slice none 0 0] 49)) b w4.heap.size w.heap.size v F all r2 [.int .i64 2, .slice none 0 0, .int .i64 k1, .int .i64 m1, .int .i64 p1, .slice G1 n1 c1', .slice G2 n2 c2', .bool o1, .int .i64 l1, .slice G3 n3 c3', .slice Gh nh ch, .slice none 0 0] :=
    ⟨hr4.below hal4, Has.alloc w4 _ _, (HN3.out.kept g4 (fun e => by have := Option.some.inj e; omega)).down hal4, Go.Lib.grownBy_below (Go.Lib.grownBy_trans HG3.out g4) hal4, hbl, by have := g4.size; have := HSZ3.out; omega, Nat.le_refl _⟩
   have H0 : Hid (RC w (w4.alloc (.cells #[.int .i64 2, .slice none 0 0, .int .i64 k1, .int .i64 m1, .int .i64 p1, .slice G1 n1 c1', .slice G2 n2 c2', .bool o1, .int .i64 l1, .slice G3 n3 c3', .slice Gh nh ch, .slice none 0 0] 49)) b w4.heap.size w.heap.size v F all r2 [.int .i64 2, .slice none 0 0, .int .i64 k1, .int .i64 m1, .int .i64 p1, .slice G1 n1 c1', .slice G2 n2 c2', .bool o1, .int .i64 l1, .slice G3 n3 c3', .slice Gh nh ch, .slice none 0 0] ∧ (cTst 7).rep (w4.alloc (.cells #[.int .i64 2, .slice none 0 0, .int .i64 k1, .int .i64 m1, .int .i64 p1, .slice G1 n1 c1', .slice G2 n2 c2', .bool o1, .int .i64 l1, .slice G3 n3 c3', .slice Gh nh ch, .slice none 0 0] 49)) (Dm2 w.heap.size w4.heap.size) t [.int .i64 k1, .int .i64 m1, .int .i64 p1, .slice G1 n1 c1', .slice G2 n2 c2', .bool o1, .int .i64 l1, .slice G3 n3 c3'] ∧ SAt (cCmd (n + 7)) (w4.alloc (.cells #[.int .i64 2, .slice none 0 0, .int .i64 k1, .int .i64 m1, .int .i64 p1, .slice G1 n1 c1', .slice G2 n2 c2', .bool o1, .int .i64 l1, .slice G3 n3 c3', .slice Gh nh ch, .slice none 0 0] 49)) (Dm2 w.heap.size w4.heap.size) (.slice Gh nh ch) th) :=
    ⟨hH0, (cTst 7).stable hrep4 (Same.of_below hal4) hal4.size, hth4.down hal4⟩
   clear hs4 hr4 g4 hal4 hrep4 hth4 hH0 hnh HB1
   go_upto_region 2 with fail
   refine wp_at (R := fun W => RC w W b w4.heap.size w.heap.size v F all r2 [.int .i64 2, .slice none 0 0, .int .i64 k1, .int .i64 m1, .int .i64 p1, .slice G1 n1 c1', .slice G2 n2 c2', .bool o1, .int .i64 l1, .slice G3 n3 c3', .slice Gh nh ch, .slice none 0 0] ∧ (cTst 7).rep W (Dm2 w.heap.size w4.heap.size) t [.int .i64 k1, .int .i64 m1, .int .i64 p1, .slice G1 n1 c1', .slice G2 n2 c2', .bool o1, .int .i64 l1, .slice G3 n3 c3'] ∧ SAt (cCmd (n + 7)) W (Dm2 w.heap.size w4.heap.size) (.slice Gh nh ch) th) H0.out (fun W hW => ?_)
   clear H0
   generalize hT4 : w4.heap.size = T at hW ⊢
   clear hT4
   obtain ⟨N, hN⟩ : ∃ N, N = w.heap.size := ⟨_, rfl⟩
   have HNN := Lib.hid hN
   rw [← hN] at hW ⊢
   clear hN
   obtain ⟨hW, hTe, hTh⟩ := hW
   have HTE := Lib.hid hTe; have HTHN := Lib.hid hTh
   have HW := Lib.hid hW
   have hNT := hW.NT; have hbN := hW.bN
   obtain ⟨pz, hl1, hr1⟩ := hW.rd
   have HI1 : Hid (Calls Tryd.prog 58 #[.pointer (some ⟨b, 0, none⟩), .int .i64 1, .string ⟨#[101, 108, 115, 105, 102]⟩] W fun e w' => e = .returned (.bool (isP 1 elsifW r2)) ∧ Below W.heap.size W w') := is_any b pz _ F all r2 1 elsifW W hn hl1 hr1
   have HI2 : Hid (∀ V, RT V b v F all pz → Calls Tryd.prog 58 #[.pointer (some ⟨b, 0, none⟩), .int .i64 1, .string ⟨#[101, 108, 115, 101]⟩] V fun e w' => e = .returned (.bool (isP 1 elseW r2)) ∧ Below V.heap.size V w') := fun V hV => is_any b pz _ F all r2 1 elseW V hn hl1 hV
   have HL1 := Lib.hid hl1; have HR1 := Lib.hid hr1
   have hp1 : pz ≤ 100000 := by have := hl1.1; omega
   have HCI := Lib.hid (isP_cons (k := 1) (s := elsifW) (l := r2)); have HCE := Lib.hid (isP_cons (k := 1) (s := elseW) (l := r2))
   have HZ3 : Hid (Rz = if isP 1 elsifW r2 = true then bnd (branchP n d r2.tail) fun c r => .ok (⟨2, [], t, th, [c]⟩, r) else if isP 1 elseW r2 = true then bnd (blockP (commandP n (d + 1)) r2.tail) fun el r => .ok (⟨2, [], t, th, el⟩, r) else .ok (⟨2, [], t, th, []⟩, r2)) := HZ2.out
   obtain ⟨qi, hqi⟩ : ∃ qi, qi = isP 1 elsifW r2 := ⟨_, rfl⟩
   obtain ⟨qe, hqe⟩ : ∃ qe, qe = isP 1 elseW r2 := ⟨_, rfl⟩
   rw [← hqi] at HI1 HCI HZ3
   rw [← hqe] at HI2 HCE HZ3
   clear hW hTe hTh hl1 hr1 hqi hqe HZ2
   cases qi with
   | true =>
    obtain ⟨tt, q, rfl, -, -⟩ := HCI.out rfl
    rw [List.length_cons] at hr2l
    have HZ4 : Hid (Rz = bnd (branchP n d q) fun c r => .ok (⟨2, [], t, th, [c]⟩, r)) := by unfold Hid; rw [HZ3.out, if_pos rfl]; rfl
    clear HZ3
    go_wp2_with fail
    refine HI1.out.mono ?_
    rintro e w5 ⟨rfl, hb5⟩
    have hr5 := HR1.out.below hb5
    have cc1 := hr5.c1
    have ff1 := hr5.f1
    have hV := (HW.out.down hb5).step HL1.out
    have g5 := Go.Lib.grownBy_setB (gBelow hb5 b) 1 (.int .i64 ((pz : Int) + 1))
    have HV := Lib.hid hV
    have HTE5 := Lib.hid (rep_in HTE.out g5 (Nat.le_of_lt hbN)); have HTH5 := Lib.hid (sat_in HTHN.out g5 (Nat.le_of_lt hbN))
    have hB5 := HBR.out _ q hV.rd hV.gr (by omega)
    have HSZ5 : Hid (T < (w5.setCell ⟨b, 1, none⟩ (.int .i64 ((pz : Int) + 1))).heap.size) := hV.TW
    clear hb5 hr5 hV g5 HI1 HI2 HTE HTHN
    cases hx : branchP n d q with
    | error p =>
     obtain ⟨kk, c⟩ := p
     rw [hx] at hB5 HZ4
     have HB5 := Lib.hid hB5
     clear hx hB5
     go_wp2_with fail
     refine HB5.out.mono ?_
     intro e w9 hp
     obtain ⟨ch, rfl, HCH, g9⟩ := hp.err
     have G9 := Lib.hid (Go.Lib.grownBy_trans HV.out.gr g9)
     clear g9 hp
     go_wp2_with fail
     refine ⟨rfl, ?_⟩
     rw [HZ4.out]
     exact ⟨by rw [HCH.out], G9.out⟩
    | ok p =>
     obtain ⟨y, r6⟩ := p
     rw [hx] at hB5 HZ4
     have HB5 := Lib.hid hB5
     have HZ5 : Hid (Rz = .ok (⟨2, [], t, th, [y]⟩, r6)) := HZ4.out
     clear hx hB5 HZ4
     go_wp2_with fail
     refine HB5.out.mono ?_
     intro e w6 hp
     obtain ⟨⟨vs6, rfl, hr6⟩, h6, g6⟩ := hp
     obtain ⟨k, G0, n0, c0, kq, mq, pq, Gq1, nq1, cq1, Gq2, nq2, cq2, oq, lq, Gq3, nq3, cq3, G4', n4, c4, G5, n5, c5, rfl⟩ := cmd_form12 hr6
     have hal6 := ba (Below.refl w6.heap.size w6) (.cells #[.int .i64 k, .slice G0 n0 c0, .int .i64 kq, .int .i64 mq, .int .i64 pq, .slice Gq1 nq1 cq1, .slice Gq2 nq2 cq2, .bool oq, .int .i64 lq, .slice Gq3 nq3 cq3, .slice G4' n4 c4, .slice G5 n5 c5] 49)
     have hw6 := (HV.out.next h6 g6).down hal6
     have e11' := hw6.t.1 11 _ rfl
     have f11' := hw6.t.2.1 11 (by simp)
     have hz6 := g6.size
     have hsa := (sat_one_cmd (ty := 49) hr6).mono (F' := fun x => T < x) (fun x hx => by have := HSZ5.out; rcases hx with hx | hx <;> omega)
     have HW9 := Lib.hid (hw6.set (i := 11) (.slice (some ⟨w6.heap.size, 0, none⟩) 1 1) (by simp))
     have HREP := Lib.hid (if_rep (n := n) (H0 := w.heap.size) (rep_inT (i := 11) ((cTst 7).stable (rep_in HTE5.out g6 (Nat.le_of_lt hbN)) (Same.of_below hal6) hal6.size) (.slice (some ⟨w6.heap.size, 0, none⟩) 1 1)) (sat_inT ((sat_in HTH5.out g6 (Nat.le_of_lt hbN)).down hal6) _) (sat_set (H := T + 1) hsa (Nat.lt_succ_self _) _) (by rw [HNN.out]; exact Nat.le_refl _) hNT)
     clear hr6 h6 g6 hal6 hw6 hsa hz6 HB5
     go_upto_region 8 with fail
     generalize w6.heap.size = X at HW9 HREP ⊢
     clear e11' f11'
     obtain ⟨e0, e1, e2, e3, e4, e5, e6, e7, e8, e9, e10, e11⟩ := has_12 HW9.out.t
     obtain ⟨r0, r1, r2, r3, r4, r5, r6, r7, r8, r9, r10, r11⟩ := has_12 HW9.out.res
     have f0 := HW9.out.res.2.1 0 (by simp [res12]); have f1 := HW9.out.res.2.1 1 (by simp [res12]); have f2 := HW9.out.res.2.1 2 (by simp [res12]); have f3 := HW9.out.res.2.1 3 (by simp [res12]); have f4 := HW9.out.res.2.1 4 (by simp [res12]); have f5 := HW9.out.res.2.1 5 (by simp [res12]); have f6 := HW9.out.res.2.1 6 (by simp [res12]); have f7 := HW9.out.res.2.1 7 (by simp [res12]); have f8 := HW9.out.res.2.1 8 (by simp [res12]); have f9 := HW9.out.res.2.1 9 (by simp [res12]); have f10 := HW9.out.res.2.1 10 (by simp [res12]); have f11 := HW9.out.res.2.1 11 (by simp [res12])
     have hfin := agg_put12 HW9.out HREP.out
     obtain ⟨x0, x1, x2, x3, x4, x5, x6, x7, x8, x9, x10, x11⟩ := has_12 hfin.1
     have HANS := Lib.hid hfin.2
     unfold put12 at x0 x1 x2 x3 x4 x5 x6 x7 x8 x9 x10 x11 HANS
     clear hfin
     go_wp2_with fail
     refine bodyPost_ret (v := .agg #[.int .i64 2, .slice none 0 0, .int .i64 k1, .int .i64 m1, .int .i64 p1, .slice G1 n1 c1', .slice G2 n2 c2', .bool o1, .int .i64 l1, .slice G3 n3 c3', .slice Gh nh ch, .slice (some ⟨X, 0, none⟩) 1 1]) ?_ rfl ?_
     ·simp [results, Tryd.results35, go_sem, x0, x1, x2, x3, x4, x5, x6, x7, x8, x9, x10, x11]
     ·rw [HZ5.out]; exact HANS.out
   | false =>
    cases qe with
    | true =>
     obtain ⟨tt, q, rfl, -, -⟩ := HCE.out rfl
     rw [List.length_cons] at hr2l
     have HZ4 : Hid (Rz = bnd (blockP (commandP n (d + 1)) q) fun el r => .ok (⟨2, [], t, th, el⟩, r)) := by unfold Hid; rw [HZ3.out, if_neg (by decide), if_pos rfl]; rfl
     clear HZ3
     go_wp2_with fail
     refine HI1.out.mono ?_
     rintro e w5 ⟨rfl, hb5⟩
     have hr5 := HR1.out.below hb5
     have HR5 := Lib.hid hr5
     have HI3 := Lib.hid (HI2.out _ hr5)
     have HB5' := Lib.hid hb5
     clear hb5 hr5 HI1 HI2
     go_wp2_with fail
     refine HI3.out.mono ?_
     rintro e w7 ⟨rfl, hb7⟩
     have hr7 := HR5.out.below hb7
     have cc1 := hr7.c1
     have ff1 := hr7.f1
     have hV := ((HW.out.down HB5'.out).down hb7).step HL1.out
     have g5 := Go.Lib.grownBy_setB (gBelow (bt HB5'.out hb7) b) 1 (.int .i64 ((pz : Int) + 1))
     have HV := Lib.hid hV
     have HTE5 := Lib.hid (rep_in HTE.out g5 (Nat.le_of_lt hbN)); have HTH5 := Lib.hid (sat_in HTHN.out g5 (Nat.le_of_lt hbN))
     have hB5 := HBK.out _ q hV.rd hV.gr (by omega)
     have HSZ5 : Hid (T < (w7.setCell ⟨b, 1, none⟩ (.int .i64 ((pz : Int) + 1))).heap.size) := hV.TW
     clear hb7 hr7 hV g5 HI3 HB5' HTE HTHN
     cases hx : blockP (commandP n (d + 1)) q with
     | error p =>
      obtain ⟨kk, c⟩ := p
      rw [hx] at hB5 HZ4
      have HB5 := Lib.hid hB5
      clear hx hB5
      go_wp2_with fail
      refine HB5.out.mono ?_
      intro e w9 hp
      obtain ⟨ch, rfl, HCH, g9⟩ := hp.err
      have G9 := Lib.hid (Go.Lib.grownBy_trans HV.out.gr g9)
      clear g9 hp
      go_wp2_with fail
      refine ⟨rfl, ?_⟩
      rw [HZ4.out]
      exact ⟨by rw [HCH.out], G9.out⟩
     | ok p =>
      obtain ⟨el, r6⟩ := p
      rw [hx] at hB5 HZ4
      have HB5 := Lib.hid hB5
      have HZ5 : Hid (Rz = .ok (⟨2, [], t, th, el⟩, r6)) := HZ4.out
      clear hx hB5 HZ4
      go_wp2_with fail
      refine HB5.out.mono ?_
      intro e w6 hp
      obtain ⟨⟨v6, rfl, hs6⟩, h6, g6⟩ := hp
      obtain ⟨Ge, ce, rfl, -⟩ := hs6.form
      obtain ⟨ne, hne⟩ : ∃ ne, ne = el.length := ⟨_, rfl⟩
      rw [← hne] at hs6 ⊢
      have hw6 := HV.out.next h6 g6
      have e11' := hw6.t.1 11 _ rfl
      have f11' := hw6.t.2.1 11 (by simp)
      have hsa := hs6.mono (F' := fun x => T < x) (fun x hx => by have := HSZ5.out; omega)
      have HW9 := Lib.hid (hw6.set (i := 11) (.slice Ge ne ce) (by simp))
      have HREP := Lib.hid (if_rep (n := n) (H0 := w.heap.size) (rep_inT (i := 11) (rep_in HTE5.out g6 (Nat.le_of_lt hbN)) (.slice Ge ne ce)) (sat_inT (sat_in HTH5.out g6 (Nat.le_of_lt hbN)) _) (sat_set (H := T + 1) hsa (Nat.lt_succ_self _) _) (by rw [HNN.out]; exact Nat.le_refl _) hNT)
      clear hs6 h6 g6 hw6 hsa hne HB5
      go_upto_region 8 with fail
      clear e11' f11'
      obtain ⟨e0, e1, e2, e3, e4, e5, e6, e7, e8, e9, e10, e11⟩ := has_12 HW9.out.t
      obtain ⟨r0, r1, r2, r3, r4, r5, r6, r7, r8, r9, r10, r11⟩ := has_12 HW9.out.res
      have f0 := HW9.out.res.2.1 0 (by simp [res12]); have f1 := HW9.out.res.2.1 1 (by simp [res12]); have f2 := HW9.out.res.2.1 2 (by simp [res12]); have f3 := HW9.out.res.2.1 3 (by simp [res12]); have f4 := HW9.out.res.2.1 4 (by simp [res12]); have f5 := HW9.out.res.2.1 5 (by simp [res12]); have f6 := HW9.out.res.2.1 6 (by simp [res12]); have f7 := HW9.out.res.2.1 7 (by simp [res12]); have f8 := HW9.out.res.2.1 8 (by simp [res12]); have f9 := HW9.out.res.2.1 9 (by simp [res12]); have f10 := HW9.out.res.2.1 10 (by simp [res12]); have f11 := HW9.out.res.2.1 11 (by simp [res12])
      have hfin := agg_put12 HW9.out HREP.out
      obtain ⟨x0, x1, x2, x3, x4, x5, x6, x7, x8, x9, x10, x11⟩ := has_12 hfin.1
      have HANS := Lib.hid hfin.2
      unfold put12 at x0 x1 x2 x3 x4 x5 x6 x7 x8 x9 x10 x11 HANS
      clear hfin
      go_wp2_with fail
      refine bodyPost_ret (v := .agg #[.int .i64 2, .slice none 0 0, .int .i64 k1, .int .i64 m1, .int .i64 p1, .slice G1 n1 c1', .slice G2 n2 c2', .bool o1, .int .i64 l1, .slice G3 n3 c3', .slice Gh nh ch, .slice Ge ne ce]) ?_ rfl ?_
      ·simp [results, Tryd.results35, go_sem, x0, x1, x2, x3, x4, x5, x6, x7, x8, x9, x10, x11]
      ·rw [HZ5.out]; exact HANS.out
    | false =>
     have HZ5 : Hid (Rz = .ok (⟨2, [], t, th, []⟩, r2)) := by unfold Hid; rw [HZ3.out, if_neg (by decide), if_neg (by decide)]
     clear HZ3
     go_wp2_with fail
     refine HI1.out.mono ?_
     rintro e w5 ⟨rfl, hb5⟩
     have hr5 := HR1.out.below hb5
     have HI3 := Lib.hid (HI2.out _ hr5)
     have HB5' := Lib.hid hb5
     clear hb5 hr5 HI1 HI2
     go_wp2_with fail
     refine HI3.out.mono ?_
     rintro e w7 ⟨rfl, hb7⟩
     have HW9 := Lib.hid ((HW.out.down HB5'.out).down hb7)
     have g7 := gBelow (bt HB5'.out hb7) b
     have HREP := Lib.hid (if_rep (n := n) (H0 := w.heap.size) (rep_in HTE.out g7 (Nat.le_of_lt hbN)) (sat_in HTHN.out g7 (Nat.le_of_lt hbN)) (SAt.nil _ _ _) (by rw [HNN.out]; exact Nat.le_refl _) hNT)
     clear hb7 g7 HI3 HB5'
     go_upto_region 8 with fail
     obtain ⟨e0, e1, e2, e3, e4, e5, e6, e7, e8, e9, e10, e11⟩ := has_12 HW9.out.t
     obtain ⟨r0, r1, r2, r3, r4, r5, r6, r7, r8, r9, r10, r11⟩ := has_12 HW9.out.res
     have f0 := HW9.out.res.2.1 0 (by simp [res12]); have f1 := HW9.out.res.2.1 1 (by simp [res12]); have f2 := HW9.out.res.2.1 2 (by simp [res12]); have f3 := HW9.out.res.2.1 3 (by simp [res12]); have f4 := HW9.out.res.2.1 4 (by simp [res12]); have f5 := HW9.out.res.2.1 5 (by simp [res12]); have f6 := HW9.out.res.2.1 6 (by simp [res12]); have f7 := HW9.out.res.2.1 7 (by simp [res12]); have f8 := HW9.out.res.2.1 8 (by simp [res12]); have f9 := HW9.out.res.2.1 9 (by simp [res12]); have f10 := HW9.out.res.2.1 10 (by simp [res12]); have f11 := HW9.out.res.2.1 11 (by simp [res12])
     have hfin := agg_put12 HW9.out HREP.out
     obtain ⟨x0, x1, x2, x3, x4, x5, x6, x7, x8, x9, x10, x11⟩ := has_12 hfin.1
     have HANS := Lib.hid hfin.2
     unfold put12 at x0 x1 x2 x3 x4 x5 x6 x7 x8 x9 x10 x11 HANS
     clear hfin
     go_wp2_with fail
     refine bodyPost_ret (v := .agg #[.int .i64 2, .slice none 0 0, .int .i64 k1, .int .i64 m1, .int .i64 p1, .slice G1 n1 c1', .slice G2 n2 c2', .bool o1, .int .i64 l1, .slice G3 n3 c3', .slice Gh nh ch, .slice none 0 0]) ?_ rfl ?_
     ·simp [results, Tryd.results35, go_sem, x0, x1, x2, x3, x4, x5, x6, x7, x8, x9, x10, x11]
     ·rw [HZ5.out]; exact HANS.out
end Go.Proofs.YtlgbmnmoobpkkaaDoor.Sc
namespace Go.Proofs.YtlgbmnmoobpkkaaDoor.Sc
open Go.RowKit
open Tk (Tok)

set_option maxHeartbeats 8000000 in
set_option maxRecDepth 20000 in
theorem command_wrong (n : Nat) (dI : Int) (d K b : Nat) (v : Value) (F : Dom) (all l : List Tok) (w : World) (hdI : dI = d) (hn : all.length ≤ 100000) (h : RL w b v F all l) (hTab : Tabs w b)
  (hbad : (6 < d ∧ l ≠ []) ∨ (¬ (6 < d ∧ l ≠ []) ∧ ∃ k c, wordP cmdTab l = .error (k, c))) :
  Calls Tryd.prog 19 #[.pointer (some ⟨b, 0, none⟩), .int .i64 dI] w (Ans (CmdR K w.heap.size) b v F all w (commandP (n + 1) d l)) := by
 obtain ⟨Rz, hRz⟩ : ∃ Rz, Rz = commandP (n + 1) d l := ⟨_, rfl⟩
 rw [← hRz]
 rw [commandP] at hRz
 have hal := ba (Below.refl w.heap.size w) (.cells #[.int .i64 0, .slice none 0 0, .int .i64 0, .int .i64 0, .int .i64 0, .slice none 0 0, .slice none 0 0, .bool false, .int .i64 0, .slice none 0 0, .slice none 0 0, .slice none 0 0] 49)
 have HAL := Lib.hid hal
 have h1 := h.below hal
 obtain ⟨p, hl0, hr⟩ := h1
 obtain ⟨G, cap, rfl, hlen, hf⟩ := hr.facts hl0
 have c0 := hr.c0
 have c1 := hr.c1
 have hpos : (0 : Int) ≤ p := by omega
 have HR := Lib.hid hr; have HL := Lib.hid hl0
 rcases hbad with ⟨hd, hl⟩ | ⟨hd, k, c, hw⟩
 ·rw [if_pos ⟨hd, hl⟩] at hRz
  have hq : decide (6 < dI) = true := decide_eq_true (by omega)
  have hlp : 0 < l.length := List.length_pos_iff.2 hl
  have hq2 : decide (p < all.length) = true := decide_eq_true (by omega)
  have HRZ : Hid (Rz = .error (l.length, if l.length = 0 then 4 else 1)) := by unfold Hid; rw [hRz, if_neg (by omega)]
  clear hRz hal h hl0 hr hf hlen hd hl hlp hdI
  go_enter Tryd.func19, Tryd.ntmps19
  go_wp2_with fail
  go_quiet (fail)
  go_wp2_with fail
  refine (give_any b p _ F all l 1 _ (by decide) hn HL.out (HR.out.below (belowDrewN _ nq))).mono ?_
  rintro e w2 ⟨ch, rfl, HCH, hb2⟩
  have HB2 := Lib.hid (bt (bt HAL.out (belowDrewN _ nq)) hb2)
  clear hb2
  go_wp2_with fail
  refine ⟨rfl, ?_⟩
  rw [HRZ.out]
  exact ⟨by rw [HCH.out], gBelow HB2.out b⟩
 ·rw [if_neg hd, hw] at hRz
  have HRZ : Hid (Rz = .error (k, c)) := hRz
  have hwt := fun W (hb : Below (w.alloc (.cells #[.int .i64 0, .slice none 0 0, .int .i64 0, .int .i64 0, .int .i64 0, .slice none 0 0, .slice none 0 0, .bool false, .int .i64 0, .slice none 0 0, .slice none 0 0, .slice none 0 0] 49)).heap.size (w.alloc (.cells #[.int .i64 0, .slice none 0 0, .int .i64 0, .int .i64 0, .int .i64 0, .slice none 0 0, .slice none 0 0, .bool false, .int .i64 0, .slice none 0 0, .slice none 0 0, .slice none 0 0] 49)) W) => word_tok b 0 cmdTab 11 (.slice G all.length cap) F all l W hn ⟨p, hl0, hr.below hb⟩ ((hTab.down (Nat.le_of_lt h.lt) (bt hal hb)).c) hTab.low.2.1 rfl (by decide)
  rw [hw] at hwt
  have HWT := Lib.hid hwt
  have hways : (decide (6 < dI) = false) ∨ (decide (6 < dI) = true ∧ decide (p < all.length) = false) := by
   by_cases h6 : 6 < dI
   ·refine .inr ⟨decide_eq_true h6, decide_eq_false ?_⟩
    have : l = [] := by
     by_cases e : l = []
     ·exact e
     ·exact absurd ⟨by omega, e⟩ hd
    rw [this] at hlen; simp at hlen; omega
   ·exact .inl (decide_eq_false h6)
  clear hRz hal h hl0 hr hf hlen hd hdI hw hwt
  rcases hways with q1 | ⟨q1, q2⟩
  all_goals
   go_enter Tryd.func19, Tryd.ntmps19
   go_wp2_with fail
   go_quiet (fail)
   go_wp2_with fail
   refine (HWT.out _ (belowDrewN _ nq)).mono ?_
   intro e w2 hp
   obtain ⟨ch, rfl, HCH, g2⟩ := hp.err
   have G2 := Lib.hid (Go.Lib.grownBy_trans (gBelow (bt HAL.out (belowDrewN _ nq)) b) g2)
   clear g2 hp
   go_wp2_with fail
   refine ⟨rfl, ?_⟩
   rw [HRZ.out]
   exact ⟨by rw [HCH.out], G2.out⟩
/-- a command's value that holds no others -/
theorem plain_rep {K N H0 : Nat} {w : World} {k : Int} {tx : List Str} {vx : Value} (hx : SAt cStr w (fun x => N < x) vx tx) (h0 : H0 ≤ N) : (cCmd (K + 1)).rep w (fun x => H0 ≤ x ∧ x ≠ N) ⟨k, tx, T0, [], []⟩ [.int .i64 k, vx, .int .i64 0, .int .i64 0, .int .i64 0, .slice none 0 0, .slice none 0 0, .bool false, .int .i64 0, .slice none 0 0, .slice none 0 0, .slice none 0 0] :=
 ⟨vx, [.int .i64 0, .int .i64 0, .int .i64 0, .slice none 0 0, .slice none 0 0, .bool false, .int .i64 0, .slice none 0 0], _, _, rfl, hx.mono (fun x hx => ⟨by omega, by omega⟩), ⟨_, _, _, rfl, SAt.nil _ _ _, SAt.nil _ _ _, SAt.nil _ _ _⟩, SAt.nil _ _ _, SAt.nil _ _ _⟩

set_option maxHeartbeats 8000000 in
set_option maxRecDepth 20000 in
theorem command_if (n : Nat) (dI : Int) (d b k : Nat) (v : Value) (F : Dom) (all l r : List Tok) (w : World) (hdI : dI = d) (hn : all.length ≤ 100000) (h : RL w b v F all l) (hTab : Tabs w b) (hB : BranchN n) (hl : l.length < n + 1)
  (hg : ¬ (6 < d ∧ l ≠ [])) (hw : wordP cmdTab l = .ok (k, r)) (hk : k = 2) :
  Calls Tryd.prog 19 #[.pointer (some ⟨b, 0, none⟩), .int .i64 dI] w (Ans (CmdR (n + 1 + 7) w.heap.size) b v F all w (commandP (n + 1) d l)) := by
 obtain ⟨Rz, hRz⟩ : ∃ Rz, Rz = commandP (n + 1) d l := ⟨_, rfl⟩
 rw [← hRz]
 rw [commandP, if_neg hg, hw] at hRz
 have HRZ : Hid (Rz = cmdK (branchP n d) k r) := hRz
 have hl0 : l ≠ [] := by rintro rfl; cases hw
 have hd6 : d ≤ 6 := by
  by_cases e : 6 < d
  ·exact absurd ⟨e, hl0⟩ hg
  ·omega
 have hal := ba (Below.refl w.heap.size w) (.cells #[.int .i64 0, .slice none 0 0, .int .i64 0, .int .i64 0, .int .i64 0, .slice none 0 0, .slice none 0 0, .bool false, .int .i64 0, .slice none 0 0, .slice none 0 0, .slice none 0 0] 49)
 have HAL := Lib.hid hal
 have hbl := h.lt
 have hres := Has.alloc w [.int .i64 0, .slice none 0 0, .int .i64 0, .int .i64 0, .int .i64 0, .slice none 0 0, .slice none 0 0, .bool false, .int .i64 0, .slice none 0 0, .slice none 0 0, .slice none 0 0] 49
 have HRS := Lib.hid hres
 have h1 := h.below hal
 have hTab1 := hTab.down (Nat.le_of_lt hbl) hal
 obtain ⟨p, hl1, hr1⟩ := h1
 obtain ⟨G, cap, rfl, hlen, -⟩ := hr1.facts hl1
 have c0 := hr1.c0
 have c1 := hr1.c1
 have hpos : (0 : Int) ≤ p := by omega
 have hwt := fun W (hb : Below (w.alloc (.cells #[.int .i64 0, .slice none 0 0, .int .i64 0, .int .i64 0, .int .i64 0, .slice none 0 0, .slice none 0 0, .bool false, .int .i64 0, .slice none 0 0, .slice none 0 0, .slice none 0 0] 49)).heap.size (w.alloc (.cells #[.int .i64 0, .slice none 0 0, .int .i64 0, .int .i64 0, .int .i64 0, .slice none 0 0, .slice none 0 0, .bool false, .int .i64 0, .slice none 0 0, .slice none 0 0, .slice none 0 0] 49)) W) => word_tok b 0 cmdTab 11 (.slice G all.length cap) F all l W hn ⟨p, hl1, hr1.below hb⟩ ((hTab1.down (Nat.le_of_lt hr1.lt) hb).c) hTab.low.2.1 rfl (by decide)
 have hls := less_word cmdTab l
 rw [hw] at hwt hls
 have hrl : r.length + 1 ≤ l.length := hls
 have HWT := Lib.hid hwt
 have HTAB := Lib.hid hTab
 have q1 : decide (6 < dI) = false := decide_eq_false (by omega)
 have HDI := Lib.hid hdI
 clear hRz hal h hl1 hr1 hlen hg hw hwt hls hres hTab hTab1 hl0 hdI
 have HBR : Hid (∀ (V : World) (q : List Tok), RL V b (.slice G all.length cap) F all q → w.grownBy V (some b) → q.length < n → Calls Tryd.prog 35 #[.pointer (some ⟨b, 0, none⟩), .int .i64 dI] V (Ans (CmdR (n + 7) V.heap.size) b (.slice G all.length cap) F all V (branchP n d q))) := fun V q h1 h2 h3 => hB dI d b _ F all q V HDI.out hd6 hn h1 (HTAB.out.below (grown_low h2 (Nat.le_of_lt hbl))) h3
 clear hB
 subst hk
 go_enter Tryd.func19, Tryd.ntmps19
 go_wp2_with fail
 go_quiet (fail)
 go_wp2_with fail
 refine (HWT.out _ (belowDrewN _ nq)).mono ?_
 intro e w2 hp
 obtain ⟨he, hr2, g2⟩ := hp
 have he' : e = .returned (.int .i64 2) := he
 subst he'
 have H0 : Hid (RC w (w2.alloc (.cells #[.int .i64 2, .slice none 0 0, .int .i64 0, .int .i64 0, .int .i64 0, .slice none 0 0, .slice none 0 0, .bool false, .int .i64 0, .slice none 0 0, .slice none 0 0, .slice none 0 0] 49)) b w2.heap.size w.heap.size (.slice G all.length cap) F all r [.int .i64 2, .slice none 0 0, .int .i64 0, .int .i64 0, .int .i64 0, .slice none 0 0, .slice none 0 0, .bool false, .int .i64 0, .slice none 0 0, .slice none 0 0, .slice none 0 0]) := by
  have hb2 := ba (Below.refl w2.heap.size w2) (.cells #[.int .i64 2, .slice none 0 0, .int .i64 0, .int .i64 0, .int .i64 0, .slice none 0 0, .slice none 0 0, .bool false, .int .i64 0, .slice none 0 0, .slice none 0 0, .slice none 0 0] 49)
  have g3 := Go.Lib.grownBy_trans (gBelow (bt HAL.out (belowDrewN _ nq)) b) g2
  have hr9 : Has w2 w.heap.size res12 := (HRS.out.down (belowDrewN _ nq)).kept g2 (fun e => by have := Option.some.inj e; omega)
  exact ⟨hr2.below hb2, Has.alloc w2 _ _, hr9.down hb2, Go.Lib.grownBy_below g3 hb2, hbl, hr9.2.2, Nat.le_refl _⟩
 clear he hr2 g2 HWT HAL HRS c0 c1
 go_upto_region 4 with fail
 refine wp_at (R := fun W => RC w W b w2.heap.size w.heap.size (.slice G all.length cap) F all r [.int .i64 2, .slice none 0 0, .int .i64 0, .int .i64 0, .int .i64 0, .slice none 0 0, .slice none 0 0, .bool false, .int .i64 0, .slice none 0 0, .slice none 0 0, .slice none 0 0]) H0.out (fun W hW => ?_)
 clear H0
 generalize w2.heap.size = T at hW ⊢
 obtain ⟨N, hN⟩ : ∃ N, N = w.heap.size := ⟨_, rfl⟩
 rw [← hN] at hW ⊢
 have HN := Lib.hid hN
 clear hN
 obtain ⟨e0, e1, e2, e3, e4, e5, e6, e7, e8, e9, e10, e11⟩ := has_12 hW.t
 have HW := Lib.hid hW
 clear hW
 have hB5 := HBR.out W r HW.out.rd HW.out.gr (by omega)
 have HZ : Hid (Rz = branchP n d r) := HRZ.out
 clear HRZ
 cases hx : branchP n d r with
 | error p =>
  obtain ⟨kk, c⟩ := p
  rw [hx] at hB5 HZ
  have HB5 := Lib.hid hB5
  clear hx hB5
  go_wp2_with fail
  refine HB5.out.mono ?_
  intro e w9 hp
  obtain ⟨ch, rfl, HCH, g9⟩ := hp.err
  have G9 := Lib.hid (Go.Lib.grownBy_trans HW.out.gr g9)
  clear g9 hp
  go_wp2_with fail
  refine ⟨rfl, ?_⟩
  rw [HZ.out]
  exact ⟨by rw [HCH.out], G9.out⟩
 | ok p =>
  obtain ⟨y, r6⟩ := p
  rw [hx] at hB5 HZ
  have HB5 := Lib.hid hB5
  clear hx hB5
  go_wp2_with fail
  refine HB5.out.mono ?_
  intro e w6 hp
  obtain ⟨⟨vs6, rfl, hr6⟩, h6, g6⟩ := hp
  obtain ⟨k, G0, n0, c0, kq, mq, pq, Gq1, nq1, cq1, Gq2, nq2, cq2, oq, lq, Gq3, nq3, cq3, G4', n4, c4, G5, n5, c5, rfl⟩ := cmd_form12 hr6
  have hw6 := HW.out.next h6 g6
  have hWN : N < W.heap.size := HW.out.res.2.2
  obtain ⟨r0, r1, r2, r3, r4, r5, r6', r7, r8, r9, r10, r11⟩ := has_12 hw6.res
  have f0 := hw6.res.2.1 0 (by simp [res12]); have f1 := hw6.res.2.1 1 (by simp [res12]); have f2 := hw6.res.2.1 2 (by simp [res12]); have f3 := hw6.res.2.1 3 (by simp [res12]); have f4 := hw6.res.2.1 4 (by simp [res12]); have f5 := hw6.res.2.1 5 (by simp [res12]); have f6 := hw6.res.2.1 6 (by simp [res12]); have f7 := hw6.res.2.1 7 (by simp [res12]); have f8 := hw6.res.2.1 8 (by simp [res12]); have f9 := hw6.res.2.1 9 (by simp [res12]); have f10 := hw6.res.2.1 10 (by simp [res12]); have f11 := hw6.res.2.1 11 (by simp [res12])
  have hp9 := put12_has hw6.res (.int .i64 k) (.slice G0 n0 c0) (.int .i64 kq) (.int .i64 mq) (.int .i64 pq) (.slice Gq1 nq1 cq1) (.slice Gq2 nq2 cq2) (.bool oq) (.int .i64 lq) (.slice Gq3 nq3 cq3) (.slice G4' n4 c4) (.slice G5 n5 c5)
  have hans : Ans (CmdR (n + 1 + 7) w.heap.size) b (.slice G all.length cap) F all w (.ok (y, r6)) (.returned (.agg #[.int .i64 k, .slice G0 n0 c0, .int .i64 kq, .int .i64 mq, .int .i64 pq, .slice Gq1 nq1 cq1, .slice Gq2 nq2 cq2, .bool oq, .int .i64 lq, .slice Gq3 nq3 cq3, .slice G4' n4 c4, .slice G5 n5 c5])) (put12 w6 N (.int .i64 k) (.slice G0 n0 c0) (.int .i64 kq) (.int .i64 mq) (.int .i64 pq) (.slice Gq1 nq1 cq1) (.slice Gq2 nq2 cq2) (.bool oq) (.int .i64 lq) (.slice Gq3 nq3 cq3) (.slice G4' n4 c4) (.slice G5 n5 c5)) := by
   refine ⟨⟨_, rfl, ?_⟩, ?_, ?_⟩
   ·have hN0 := HW.out.N0
    exact (cCmd (n + 1 + 7)).mono ((cCmd (n + 1 + 7)).stable (cmd_le (by omega) hr6) (fun x hx _ => put12_same (by have : W.heap.size ≤ x := hx; omega) _ _ _ _ _ _ _ _ _ _ _ _) (put12_size _ _ _ _ _ _ _ _ _ _ _ _)) (fun x hx => by have : W.heap.size ≤ x := hx; omega)
   ·unfold put12
    have hb := hw6.bN
    exact rl_far (rl_far (rl_far (rl_far (rl_far (rl_far (rl_far (rl_far (rl_far (rl_far (rl_far (rl_far h6 hb _) hb _) hb _) hb _) hb _) hb _) hb _) hb _) hb _) hb _) hb _) hb _
   ·unfold put12
    have h0 := hw6.N0
    exact grown_far (grown_far (grown_far (grown_far (grown_far (grown_far (grown_far (grown_far (grown_far (grown_far (grown_far (grown_far hw6.gr h0 _) h0 _) h0 _) h0 _) h0 _) h0 _) h0 _) h0 _) h0 _) h0 _) h0 _) h0 _
  obtain ⟨x0, x1, x2, x3, x4, x5, x6, x7, x8, x9, x10, x11⟩ := has_12 hp9
  have HANS := Lib.hid hans
  unfold put12 at x0 x1 x2 x3 x4 x5 x6 x7 x8 x9 x10 x11 HANS
  clear hr6 h6 g6 hw6 hp9 hans HB5 e0 e1 e2 e3 e4 e5 e6 e7 e8 e9 e10 e11
  go_wp2_with fail
  refine bodyPost_ret (v := .agg #[.int .i64 k, .slice G0 n0 c0, .int .i64 kq, .int .i64 mq, .int .i64 pq, .slice Gq1 nq1 cq1, .slice Gq2 nq2 cq2, .bool oq, .int .i64 lq, .slice Gq3 nq3 cq3, .slice G4' n4 c4, .slice G5 n5 c5]) ?_ rfl ?_
  ·simp [results, Tryd.results19, go_sem, x0, x1, x2, x3, x4, x5, x6, x7, x8, x9, x10, x11]
  ·rw [HZ.out]; exact HANS.out

set_option maxHeartbeats 8000000 in
set_option maxRecDepth 20000 in
theorem command_bare (n : Nat) (dI : Int) (d b k : Nat) (v : Value) (F : Dom) (all l r : List Tok) (w : World) (hdI : dI = d) (hn : all.length ≤ 100000) (h : RL w b v F all l) (hTab : Tabs w b) 
  (hg : ¬ (6 < d ∧ l ≠ [])) (hw : wordP cmdTab l = .ok (k, r)) (hk : k = 3 ∨ k = 4 ∨ k = 10) :
  Calls Tryd.prog 19 #[.pointer (some ⟨b, 0, none⟩), .int .i64 dI] w (Ans (CmdR (n + 1 + 7) w.heap.size) b v F all w (commandP (n + 1) d l)) := by
 obtain ⟨Rz, hRz⟩ : ∃ Rz, Rz = commandP (n + 1) d l := ⟨_, rfl⟩
 rw [← hRz]
 rw [commandP, if_neg hg, hw] at hRz
 have HRZ : Hid (Rz = cmdK (branchP n d) k r) := hRz
 have hl0 : l ≠ [] := by rintro rfl; cases hw
 have hd6 : d ≤ 6 := by
  by_cases e : 6 < d
  ·exact absurd ⟨e, hl0⟩ hg
  ·omega
 have hal := ba (Below.refl w.heap.size w) (.cells #[.int .i64 0, .slice none 0 0, .int .i64 0, .int .i64 0, .int .i64 0, .slice none 0 0, .slice none 0 0, .bool false, .int .i64 0, .slice none 0 0, .slice none 0 0, .slice none 0 0] 49)
 have HAL := Lib.hid hal
 have hbl := h.lt
 have hres := Has.alloc w [.int .i64 0, .slice none 0 0, .int .i64 0, .int .i64 0, .int .i64 0, .slice none 0 0, .slice none 0 0, .bool false, .int .i64 0, .slice none 0 0, .slice none 0 0, .slice none 0 0] 49
 have HRS := Lib.hid hres
 have h1 := h.below hal
 have hTab1 := hTab.down (Nat.le_of_lt hbl) hal
 obtain ⟨p, hl1, hr1⟩ := h1
 obtain ⟨G, cap, rfl, hlen, -⟩ := hr1.facts hl1
 have c0 := hr1.c0
 have c1 := hr1.c1
 have hpos : (0 : Int) ≤ p := by omega
 have hwt := fun W (hb : Below (w.alloc (.cells #[.int .i64 0, .slice none 0 0, .int .i64 0, .int .i64 0, .int .i64 0, .slice none 0 0, .slice none 0 0, .bool false, .int .i64 0, .slice none 0 0, .slice none 0 0, .slice none 0 0] 49)).heap.size (w.alloc (.cells #[.int .i64 0, .slice none 0 0, .int .i64 0, .int .i64 0, .int .i64 0, .slice none 0 0, .slice none 0 0, .bool false, .int .i64 0, .slice none 0 0, .slice none 0 0, .slice none 0 0] 49)) W) => word_tok b 0 cmdTab 11 (.slice G all.length cap) F all l W hn ⟨p, hl1, hr1.below hb⟩ ((hTab1.down (Nat.le_of_lt hr1.lt) hb).c) hTab.low.2.1 rfl (by decide)
 have hls := less_word cmdTab l
 rw [hw] at hwt hls
 have hrl : r.length + 1 ≤ l.length := hls
 have HWT := Lib.hid hwt
 have HTAB := Lib.hid hTab
 have q1 : decide (6 < dI) = false := decide_eq_false (by omega)
 have HDI := Lib.hid hdI
 clear hRz hal h hl1 hr1 hlen hg hw hwt hls hres hTab hTab1 hl0 hdI
 rcases hk with rfl | rfl | rfl
 ·go_enter Tryd.func19, Tryd.ntmps19
  go_wp2_with fail
  go_quiet (fail)
  go_wp2_with fail
  refine (HWT.out _ (belowDrewN _ nq)).mono ?_
  intro e w2 hp
  obtain ⟨he, hr2, g2⟩ := hp
  have he' : e = .returned (.int .i64 3) := he
  subst he'
  have H0 : Hid (RC w (w2.alloc (.cells #[.int .i64 3, .slice none 0 0, .int .i64 0, .int .i64 0, .int .i64 0, .slice none 0 0, .slice none 0 0, .bool false, .int .i64 0, .slice none 0 0, .slice none 0 0, .slice none 0 0] 49)) b w2.heap.size w.heap.size (.slice G all.length cap) F all r [.int .i64 3, .slice none 0 0, .int .i64 0, .int .i64 0, .int .i64 0, .slice none 0 0, .slice none 0 0, .bool false, .int .i64 0, .slice none 0 0, .slice none 0 0, .slice none 0 0]) := by
   have hb2 := ba (Below.refl w2.heap.size w2) (.cells #[.int .i64 3, .slice none 0 0, .int .i64 0, .int .i64 0, .int .i64 0, .slice none 0 0, .slice none 0 0, .bool false, .int .i64 0, .slice none 0 0, .slice none 0 0, .slice none 0 0] 49)
   have g3 := Go.Lib.grownBy_trans (gBelow (bt HAL.out (belowDrewN _ nq)) b) g2
   have hr9 : Has w2 w.heap.size res12 := (HRS.out.down (belowDrewN _ nq)).kept g2 (fun e => by have := Option.some.inj e; omega)
   exact ⟨hr2.below hb2, Has.alloc w2 _ _, hr9.down hb2, Go.Lib.grownBy_below g3 hb2, hbl, hr9.2.2, Nat.le_refl _⟩
  clear he hr2 g2 HWT HAL HRS c0 c1
  go_upto_region 4 with fail
  refine wp_at (R := fun W => RC w W b w2.heap.size w.heap.size (.slice G all.length cap) F all r [.int .i64 3, .slice none 0 0, .int .i64 0, .int .i64 0, .int .i64 0, .slice none 0 0, .slice none 0 0, .bool false, .int .i64 0, .slice none 0 0, .slice none 0 0, .slice none 0 0]) H0.out (fun W hW => ?_)
  clear H0
  generalize w2.heap.size = T at hW ⊢
  obtain ⟨N, hN⟩ : ∃ N, N = w.heap.size := ⟨_, rfl⟩
  rw [← hN] at hW ⊢
  have HN := Lib.hid hN
  clear hN
  obtain ⟨e0, e1, e2, e3, e4, e5, e6, e7, e8, e9, e10, e11⟩ := has_12 hW.t
  have HW := Lib.hid hW
  clear hW
  have HZ : Hid (Rz = bnd (mustP 59 r) fun _ r => .ok (⟨3, [], T0, [], []⟩, r)) := HRZ.out
  clear HRZ
  have HMU := Lib.hid (must_any b (.slice G all.length cap) F all r 59 W hn HW.out.rd)
  cases hx : mustP 59 r with
  | error p =>
   obtain ⟨kk, c⟩ := p
   rw [hx] at HMU HZ
   clear hx
   go_wp2_with fail
   refine HMU.out.mono ?_
   intro e w9 hp
   obtain ⟨ch, rfl, HCH, g9⟩ := hp.err
   have G9 := Lib.hid (Go.Lib.grownBy_trans HW.out.gr g9)
   clear g9 hp
   go_wp2_with fail
   refine ⟨rfl, ?_⟩
   rw [HZ.out]
   exact ⟨by rw [HCH.out], G9.out⟩
  | ok p =>
   obtain ⟨u9, r9⟩ := p
   rw [hx] at HMU HZ
   have HZ9 : Hid (Rz = .ok (⟨3, [], T0, [], []⟩, r9)) := HZ.out
   clear hx
   go_wp2_with fail
   refine HMU.out.mono ?_
   intro e w9 hp
   obtain ⟨rfl, hr9, g9⟩ := hp
   have HW9 := Lib.hid (HW.out.next hr9 g9)
   have HREP : Hid ((cCmd (n + 1 + 7)).rep w9 (fun x => w.heap.size ≤ x ∧ x ≠ N) ⟨3, [], T0, [], []⟩ [.int .i64 3, .slice none 0 0, .int .i64 0, .int .i64 0, .int .i64 0, .slice none 0 0, .slice none 0 0, .bool false, .int .i64 0, .slice none 0 0, .slice none 0 0, .slice none 0 0]) := plain_rep (K := n + 7) (SAt.nil _ _ _) HW.out.N0
   clear hr9 g9 HMU
   go_upto_region 16 with fail
   obtain ⟨e0, e1, e2, e3, e4, e5, e6, e7, e8, e9, e10, e11⟩ := has_12 HW9.out.t
   obtain ⟨r0, r1, r2, r3, r4, r5, r6, r7, r8, r9, r10, r11⟩ := has_12 HW9.out.res
   have f0 := HW9.out.res.2.1 0 (by simp [res12]); have f1 := HW9.out.res.2.1 1 (by simp [res12]); have f2 := HW9.out.res.2.1 2 (by simp [res12]); have f3 := HW9.out.res.2.1 3 (by simp [res12]); have f4 := HW9.out.res.2.1 4 (by simp [res12]); have f5 := HW9.out.res.2.1 5 (by simp [res12]); have f6 := HW9.out.res.2.1 6 (by simp [res12]); have f7 := HW9.out.res.2.1 7 (by simp [res12]); have f8 := HW9.out.res.2.1 8 (by simp [res12]); have f9 := HW9.out.res.2.1 9 (by simp [res12]); have f10 := HW9.out.res.2.1 10 (by simp [res12]); have f11 := HW9.out.res.2.1 11 (by simp [res12])
   have hfin := agg_put12 HW9.out HREP.out
   obtain ⟨x0, x1, x2, x3, x4, x5, x6, x7, x8, x9, x10, x11⟩ := has_12 hfin.1
   have HANS := Lib.hid hfin.2
   unfold put12 at x0 x1 x2 x3 x4 x5 x6 x7 x8 x9 x10 x11 HANS
   clear hfin
   go_wp2_with fail
   refine bodyPost_ret (v := .agg #[.int .i64 3, .slice none 0 0, .int .i64 0, .int .i64 0, .int .i64 0, .slice none 0 0, .slice none 0 0, .bool false, .int .i64 0, .slice none 0 0, .slice none 0 0, .slice none 0 0]) ?_ rfl ?_
   ·simp [results, Tryd.results19, go_sem, x0, x1, x2, x3, x4, x5, x6, x7, x8, x9, x10, x11]
   ·rw [HZ9.out]; exact HANS.out

 ·go_enter Tryd.func19, Tryd.ntmps19
  go_wp2_with fail
  go_quiet (fail)
  go_wp2_with fail
  refine (HWT.out _ (belowDrewN _ nq)).mono ?_
  intro e w2 hp
  obtain ⟨he, hr2, g2⟩ := hp
  have he' : e = .returned (.int .i64 4) := he
  subst he'
  have H0 : Hid (RC w (w2.alloc (.cells #[.int .i64 4, .slice none 0 0, .int .i64 0, .int .i64 0, .int .i64 0, .slice none 0 0, .slice none 0 0, .bool false, .int .i64 0, .slice none 0 0, .slice none 0 0, .slice none 0 0] 49)) b w2.heap.size w.heap.size (.slice G all.length cap) F all r [.int .i64 4, .slice none 0 0, .int .i64 0, .int .i64 0, .int .i64 0, .slice none 0 0, .slice none 0 0, .bool false, .int .i64 0, .slice none 0 0, .slice none 0 0, .slice none 0 0]) := by
   have hb2 := ba (Below.refl w2.heap.size w2) (.cells #[.int .i64 4, .slice none 0 0, .int .i64 0, .int .i64 0, .int .i64 0, .slice none 0 0, .slice none 0 0, .bool false, .int .i64 0, .slice none 0 0, .slice none 0 0, .slice none 0 0] 49)
   have g3 := Go.Lib.grownBy_trans (gBelow (bt HAL.out (belowDrewN _ nq)) b) g2
   have hr9 : Has w2 w.heap.size res12 := (HRS.out.down (belowDrewN _ nq)).kept g2 (fun e => by have := Option.some.inj e; omega)
   exact ⟨hr2.below hb2, Has.alloc w2 _ _, hr9.down hb2, Go.Lib.grownBy_below g3 hb2, hbl, hr9.2.2, Nat.le_refl _⟩
  clear he hr2 g2 HWT HAL HRS c0 c1
  go_upto_region 4 with fail
  refine wp_at (R := fun W => RC w W b w2.heap.size w.heap.size (.slice G all.length cap) F all r [.int .i64 4, .slice none 0 0, .int .i64 0, .int .i64 0, .int .i64 0, .slice none 0 0, .slice none 0 0, .bool false, .int .i64 0, .slice none 0 0, .slice none 0 0, .slice none 0 0]) H0.out (fun W hW => ?_)
  clear H0
  generalize w2.heap.size = T at hW ⊢
  obtain ⟨N, hN⟩ : ∃ N, N = w.heap.size := ⟨_, rfl⟩
  rw [← hN] at hW ⊢
  have HN := Lib.hid hN
  clear hN
  obtain ⟨e0, e1, e2, e3, e4, e5, e6, e7, e8, e9, e10, e11⟩ := has_12 hW.t
  have HW := Lib.hid hW
  clear hW
  have HZ : Hid (Rz = bnd (mustP 59 r) fun _ r => .ok (⟨4, [], T0, [], []⟩, r)) := HRZ.out
  clear HRZ
  have HMU := Lib.hid (must_any b (.slice G all.length cap) F all r 59 W hn HW.out.rd)
  cases hx : mustP 59 r with
  | error p =>
   obtain ⟨kk, c⟩ := p
   rw [hx] at HMU HZ
   clear hx
   go_wp2_with fail
   refine HMU.out.mono ?_
   intro e w9 hp
   obtain ⟨ch, rfl, HCH, g9⟩ := hp.err
   have G9 := Lib.hid (Go.Lib.grownBy_trans HW.out.gr g9)
   clear g9 hp
   go_wp2_with fail
   refine ⟨rfl, ?_⟩
   rw [HZ.out]
   exact ⟨by rw [HCH.out], G9.out⟩
  | ok p =>
   obtain ⟨u9, r9⟩ := p
   rw [hx] at HMU HZ
   have HZ9 : Hid (Rz = .ok (⟨4, [], T0, [], []⟩, r9)) := HZ.out
   clear hx
   go_wp2_with fail
   refine HMU.out.mono ?_
   intro e w9 hp
   obtain ⟨rfl, hr9, g9⟩ := hp
   have HW9 := Lib.hid (HW.out.next hr9 g9)
   have HREP : Hid ((cCmd (n + 1 + 7)).rep w9 (fun x => w.heap.size ≤ x ∧ x ≠ N) ⟨4, [], T0, [], []⟩ [.int .i64 4, .slice none 0 0, .int .i64 0, .int .i64 0, .int .i64 0, .slice none 0 0, .slice none 0 0, .bool false, .int .i64 0, .slice none 0 0, .slice none 0 0, .slice none 0 0]) := plain_rep (K := n + 7) (SAt.nil _ _ _) HW.out.N0
   clear hr9 g9 HMU
   go_upto_region 16 with fail
   obtain ⟨e0, e1, e2, e3, e4, e5, e6, e7, e8, e9, e10, e11⟩ := has_12 HW9.out.t
   obtain ⟨r0, r1, r2, r3, r4, r5, r6, r7, r8, r9, r10, r11⟩ := has_12 HW9.out.res
   have f0 := HW9.out.res.2.1 0 (by simp [res12]); have f1 := HW9.out.res.2.1 1 (by simp [res12]); have f2 := HW9.out.res.2.1 2 (by simp [res12]); have f3 := HW9.out.res.2.1 3 (by simp [res12]); have f4 := HW9.out.res.2.1 4 (by simp [res12]); have f5 := HW9.out.res.2.1 5 (by simp [res12]); have f6 := HW9.out.res.2.1 6 (by simp [res12]); have f7 := HW9.out.res.2.1 7 (by simp [res12]); have f8 := HW9.out.res.2.1 8 (by simp [res12]); have f9 := HW9.out.res.2.1 9 (by simp [res12]); have f10 := HW9.out.res.2.1 10 (by simp [res12]); have f11 := HW9.out.res.2.1 11 (by simp [res12])
   have hfin := agg_put12 HW9.out HREP.out
   obtain ⟨x0, x1, x2, x3, x4, x5, x6, x7, x8, x9, x10, x11⟩ := has_12 hfin.1
   have HANS := Lib.hid hfin.2
   unfold put12 at x0 x1 x2 x3 x4 x5 x6 x7 x8 x9 x10 x11 HANS
   clear hfin
   go_wp2_with fail
   refine bodyPost_ret (v := .agg #[.int .i64 4, .slice none 0 0, .int .i64 0, .int .i64 0, .int .i64 0, .slice none 0 0, .slice none 0 0, .bool false, .int .i64 0, .slice none 0 0, .slice none 0 0, .slice none 0 0]) ?_ rfl ?_
   ·simp [results, Tryd.results19, go_sem, x0, x1, x2, x3, x4, x5, x6, x7, x8, x9, x10, x11]
   ·rw [HZ9.out]; exact HANS.out

 ·go_enter Tryd.func19, Tryd.ntmps19
  go_wp2_with fail
  go_quiet (fail)
  go_wp2_with fail
  refine (HWT.out _ (belowDrewN _ nq)).mono ?_
  intro e w2 hp
  obtain ⟨he, hr2, g2⟩ := hp
  have he' : e = .returned (.int .i64 10) := he
  subst he'
  have H0 : Hid (RC w (w2.alloc (.cells #[.int .i64 10, .slice none 0 0, .int .i64 0, .int .i64 0, .int .i64 0, .slice none 0 0, .slice none 0 0, .bool false, .int .i64 0, .slice none 0 0, .slice none 0 0, .slice none 0 0] 49)) b w2.heap.size w.heap.size (.slice G all.length cap) F all r [.int .i64 10, .slice none 0 0, .int .i64 0, .int .i64 0, .int .i64 0, .slice none 0 0, .slice none 0 0, .bool false, .int .i64 0, .slice none 0 0, .slice none 0 0, .slice none 0 0]) := by
   have hb2 := ba (Below.refl w2.heap.size w2) (.cells #[.int .i64 10, .slice none 0 0, .int .i64 0, .int .i64 0, .int .i64 0, .slice none 0 0, .slice none 0 0, .bool false, .int .i64 0, .slice none 0 0, .slice none 0 0, .slice none 0 0] 49)
   have g3 := Go.Lib.grownBy_trans (gBelow (bt HAL.out (belowDrewN _ nq)) b) g2
   have hr9 : Has w2 w.heap.size res12 := (HRS.out.down (belowDrewN _ nq)).kept g2 (fun e => by have := Option.some.inj e; omega)
   exact ⟨hr2.below hb2, Has.alloc w2 _ _, hr9.down hb2, Go.Lib.grownBy_below g3 hb2, hbl, hr9.2.2, Nat.le_refl _⟩
  clear he hr2 g2 HWT HAL HRS c0 c1
  go_upto_region 4 with fail
  refine wp_at (R := fun W => RC w W b w2.heap.size w.heap.size (.slice G all.length cap) F all r [.int .i64 10, .slice none 0 0, .int .i64 0, .int .i64 0, .int .i64 0, .slice none 0 0, .slice none 0 0, .bool false, .int .i64 0, .slice none 0 0, .slice none 0 0, .slice none 0 0]) H0.out (fun W hW => ?_)
  clear H0
  generalize w2.heap.size = T at hW ⊢
  obtain ⟨N, hN⟩ : ∃ N, N = w.heap.size := ⟨_, rfl⟩
  rw [← hN] at hW ⊢
  have HN := Lib.hid hN
  clear hN
  obtain ⟨e0, e1, e2, e3, e4, e5, e6, e7, e8, e9, e10, e11⟩ := has_12 hW.t
  have HW := Lib.hid hW
  clear hW
  have HZ : Hid (Rz = bnd (mustP 59 r) fun _ r => .ok (⟨10, [], T0, [], []⟩, r)) := HRZ.out
  clear HRZ
  have HMU := Lib.hid (must_any b (.slice G all.length cap) F all r 59 W hn HW.out.rd)
  cases hx : mustP 59 r with
  | error p =>
   obtain ⟨kk, c⟩ := p
   rw [hx] at HMU HZ
   clear hx
   go_wp2_with fail
   refine HMU.out.mono ?_
   intro e w9 hp
   obtain ⟨ch, rfl, HCH, g9⟩ := hp.err
   have G9 := Lib.hid (Go.Lib.grownBy_trans HW.out.gr g9)
   clear g9 hp
   go_wp2_with fail
   refine ⟨rfl, ?_⟩
   rw [HZ.out]
   exact ⟨by rw [HCH.out], G9.out⟩
  | ok p =>
   obtain ⟨u9, r9⟩ := p
   rw [hx] at HMU HZ
   have HZ9 : Hid (Rz = .ok (⟨10, [], T0, [], []⟩, r9)) := HZ.out
   clear hx
   go_wp2_with fail
   refine HMU.out.mono ?_
   intro e w9 hp
   obtain ⟨rfl, hr9, g9⟩ := hp
   have HW9 := Lib.hid (HW.out.next hr9 g9)
   have HREP : Hid ((cCmd (n + 1 + 7)).rep w9 (fun x => w.heap.size ≤ x ∧ x ≠ N) ⟨10, [], T0, [], []⟩ [.int .i64 10, .slice none 0 0, .int .i64 0, .int .i64 0, .int .i64 0, .slice none 0 0, .slice none 0 0, .bool false, .int .i64 0, .slice none 0 0, .slice none 0 0, .slice none 0 0]) := plain_rep (K := n + 7) (SAt.nil _ _ _) HW.out.N0
   clear hr9 g9 HMU
   go_upto_region 16 with fail
   obtain ⟨e0, e1, e2, e3, e4, e5, e6, e7, e8, e9, e10, e11⟩ := has_12 HW9.out.t
   obtain ⟨r0, r1, r2, r3, r4, r5, r6, r7, r8, r9, r10, r11⟩ := has_12 HW9.out.res
   have f0 := HW9.out.res.2.1 0 (by simp [res12]); have f1 := HW9.out.res.2.1 1 (by simp [res12]); have f2 := HW9.out.res.2.1 2 (by simp [res12]); have f3 := HW9.out.res.2.1 3 (by simp [res12]); have f4 := HW9.out.res.2.1 4 (by simp [res12]); have f5 := HW9.out.res.2.1 5 (by simp [res12]); have f6 := HW9.out.res.2.1 6 (by simp [res12]); have f7 := HW9.out.res.2.1 7 (by simp [res12]); have f8 := HW9.out.res.2.1 8 (by simp [res12]); have f9 := HW9.out.res.2.1 9 (by simp [res12]); have f10 := HW9.out.res.2.1 10 (by simp [res12]); have f11 := HW9.out.res.2.1 11 (by simp [res12])
   have hfin := agg_put12 HW9.out HREP.out
   obtain ⟨x0, x1, x2, x3, x4, x5, x6, x7, x8, x9, x10, x11⟩ := has_12 hfin.1
   have HANS := Lib.hid hfin.2
   unfold put12 at x0 x1 x2 x3 x4 x5 x6 x7 x8 x9 x10 x11 HANS
   clear hfin
   go_wp2_with fail
   refine bodyPost_ret (v := .agg #[.int .i64 10, .slice none 0 0, .int .i64 0, .int .i64 0, .int .i64 0, .slice none 0 0, .slice none 0 0, .bool false, .int .i64 0, .slice none 0 0, .slice none 0 0, .slice none 0 0]) ?_ rfl ?_
   ·simp [results, Tryd.results19, go_sem, x0, x1, x2, x3, x4, x5, x6, x7, x8, x9, x10, x11]
   ·rw [HZ9.out]; exact HANS.out


set_option maxHeartbeats 8000000 in
set_option maxRecDepth 20000 in
theorem command_list (n : Nat) (dI : Int) (d b k : Nat) (v : Value) (F : Dom) (all l r : List Tok) (w : World) (hdI : dI = d) (hn : all.length ≤ 100000) (h : RL w b v F all l) (hTab : Tabs w b) 
  (hg : ¬ (6 < d ∧ l ≠ [])) (hw : wordP cmdTab l = .ok (k, r)) (hk : k = 1 ∨ k = 8 ∨ k = 9) :
  Calls Tryd.prog 19 #[.pointer (some ⟨b, 0, none⟩), .int .i64 dI] w (Ans (CmdR (n + 1 + 7) w.heap.size) b v F all w (commandP (n + 1) d l)) := by
 obtain ⟨Rz, hRz⟩ : ∃ Rz, Rz = commandP (n + 1) d l := ⟨_, rfl⟩
 rw [← hRz]
 rw [commandP, if_neg hg, hw] at hRz
 have HRZ : Hid (Rz = cmdK (branchP n d) k r) := hRz
 have hl0 : l ≠ [] := by rintro rfl; cases hw
 have hd6 : d ≤ 6 := by
  by_cases e : 6 < d
  ·exact absurd ⟨e, hl0⟩ hg
  ·omega
 have hal := ba (Below.refl w.heap.size w) (.cells #[.int .i64 0, .slice none 0 0, .int .i64 0, .int .i64 0, .int .i64 0, .slice none 0 0, .slice none 0 0, .bool false, .int .i64 0, .slice none 0 0, .slice none 0 0, .slice none 0 0] 49)
 have HAL := Lib.hid hal
 have hbl := h.lt
 have hres := Has.alloc w [.int .i64 0, .slice none 0 0, .int .i64 0, .int .i64 0, .int .i64 0, .slice none 0 0, .slice none 0 0, .bool false, .int .i64 0, .slice none 0 0, .slice none 0 0, .slice none 0 0] 49
 have HRS := Lib.hid hres
 have h1 := h.below hal
 have hTab1 := hTab.down (Nat.le_of_lt hbl) hal
 obtain ⟨p, hl1, hr1⟩ := h1
 obtain ⟨G, cap, rfl, hlen, -⟩ := hr1.facts hl1
 have c0 := hr1.c0
 have c1 := hr1.c1
 have hpos : (0 : Int) ≤ p := by omega
 have hwt := fun W (hb : Below (w.alloc (.cells #[.int .i64 0, .slice none 0 0, .int .i64 0, .int .i64 0, .int .i64 0, .slice none 0 0, .slice none 0 0, .bool false, .int .i64 0, .slice none 0 0, .slice none 0 0, .slice none 0 0] 49)).heap.size (w.alloc (.cells #[.int .i64 0, .slice none 0 0, .int .i64 0, .int .i64 0, .int .i64 0, .slice none 0 0, .slice none 0 0, .bool false, .int .i64 0, .slice none 0 0, .slice none 0 0, .slice none 0 0] 49)) W) => word_tok b 0 cmdTab 11 (.slice G all.length cap) F all l W hn ⟨p, hl1, hr1.below hb⟩ ((hTab1.down (Nat.le_of_lt hr1.lt) hb).c) hTab.low.2.1 rfl (by decide)
 have hls := less_word cmdTab l
 rw [hw] at hwt hls
 have hrl : r.length + 1 ≤ l.length := hls
 have HWT := Lib.hid hwt
 have HTAB := Lib.hid hTab
 have q1 : decide (6 < dI) = false := decide_eq_false (by omega)
 have HDI := Lib.hid hdI
 clear hRz hal h hl1 hr1 hlen hg hw hwt hls hres hTab hTab1 hl0 hdI
 rcases hk with rfl | rfl | rfl
 ·go_enter Tryd.func19, Tryd.ntmps19
  go_wp2_with fail
  go_quiet (fail)
  go_wp2_with fail
  refine (HWT.out _ (belowDrewN _ nq)).mono ?_
  intro e w2 hp
  obtain ⟨he, hr2, g2⟩ := hp
  have he' : e = .returned (.int .i64 1) := he
  subst he'
  have H0 : Hid (RC w (w2.alloc (.cells #[.int .i64 1, .slice none 0 0, .int .i64 0, .int .i64 0, .int .i64 0, .slice none 0 0, .slice none 0 0, .bool false, .int .i64 0, .slice none 0 0, .slice none 0 0, .slice none 0 0] 49)) b w2.heap.size w.heap.size (.slice G all.length cap) F all r [.int .i64 1, .slice none 0 0, .int .i64 0, .int .i64 0, .int .i64 0, .slice none 0 0, .slice none 0 0, .bool false, .int .i64 0, .slice none 0 0, .slice none 0 0, .slice none 0 0]) := by
   have hb2 := ba (Below.refl w2.heap.size w2) (.cells #[.int .i64 1, .slice none 0 0, .int .i64 0, .int .i64 0, .int .i64 0, .slice none 0 0, .slice none 0 0, .bool false, .int .i64 0, .slice none 0 0, .slice none 0 0, .slice none 0 0] 49)
   have g3 := Go.Lib.grownBy_trans (gBelow (bt HAL.out (belowDrewN _ nq)) b) g2
   have hr9 : Has w2 w.heap.size res12 := (HRS.out.down (belowDrewN _ nq)).kept g2 (fun e => by have := Option.some.inj e; omega)
   exact ⟨hr2.below hb2, Has.alloc w2 _ _, hr9.down hb2, Go.Lib.grownBy_below g3 hb2, hbl, hr9.2.2, Nat.le_refl _⟩
  clear he hr2 g2 HWT HAL HRS c0 c1
  go_upto_region 4 with fail
  refine wp_at (R := fun W => RC w W b w2.heap.size w.heap.size (.slice G all.length cap) F all r [.int .i64 1, .slice none 0 0, .int .i64 0, .int .i64 0, .int .i64 0, .slice none 0 0, .slice none 0 0, .bool false, .int .i64 0, .slice none 0 0, .slice none 0 0, .slice none 0 0]) H0.out (fun W hW => ?_)
  clear H0
  generalize w2.heap.size = T at hW ⊢
  obtain ⟨N, hN⟩ : ∃ N, N = w.heap.size := ⟨_, rfl⟩
  rw [← hN] at hW ⊢
  have HN := Lib.hid hN
  clear hN
  obtain ⟨e0, e1, e2, e3, e4, e5, e6, e7, e8, e9, e10, e11⟩ := has_12 hW.t
  have HW := Lib.hid hW
  clear hW
  have HL := Lib.hid (list_tok b (.slice G all.length cap) F all r W hn HW.out.rd)
  have HZ : Hid (Rz = bnd (listP r) fun ts r => bnd (mustP 59 r) fun _ r => .ok (⟨1, ts, T0, [], []⟩, r)) := HRZ.out
  clear HRZ
  cases hx : listP r with
  | error p =>
   obtain ⟨kk, c⟩ := p
   rw [hx] at HL HZ
   clear hx
   go_wp2_with fail
   refine HL.out.mono ?_
   intro e w9 hp
   obtain ⟨ch, rfl, HCH, g9⟩ := hp.err
   have G9 := Lib.hid (Go.Lib.grownBy_trans HW.out.gr g9)
   clear g9 hp
   go_wp2_with fail
   refine ⟨rfl, ?_⟩
   rw [HZ.out]
   exact ⟨by rw [HCH.out], G9.out⟩
  | ok p =>
   obtain ⟨ns, r5⟩ := p
   rw [hx] at HL HZ
   have HZ2 : Hid (Rz = bnd (mustP 59 r5) fun _ r => .ok (⟨1, ns, T0, [], []⟩, r)) := HZ.out
   clear hx HZ
   go_wp2_with fail
   refine HL.out.mono ?_
   intro e w4 hp
   obtain ⟨⟨v4, rfl, hs4⟩, hr4, g4⟩ := hp
   obtain ⟨Gn, cn, rfl, -⟩ := hs4.form
   have hw4 := HW.out.next hr4 g4
   have e1' := hw4.t.1 1 _ rfl
   have f1' := hw4.t.2.1 1 (by simp)
   have hTW := HW.out.TW
   have HW5 := Lib.hid (hw4.set (i := 1) (.slice Gn ns.length cn) (by simp))
   have HS5 := Lib.hid (sat_set (i := 1) hs4 hTW (.slice Gn ns.length cn))
   clear hs4 hr4 g4 hw4 HL e0 e1 e2 e3 e4 e5 e6 e7 e8 e9 e10 e11
   have HMU := Lib.hid (must_any b (.slice G all.length cap) F all r5 59 _ hn HW5.out.rd)
   cases hx : mustP 59 r5 with
   | error p =>
    obtain ⟨kk, c⟩ := p
    rw [hx] at HMU HZ2
    clear hx
    go_wp2_with fail
    refine HMU.out.mono ?_
    intro e w9 hp
    obtain ⟨ch, rfl, HCH, g9⟩ := hp.err
    have G9 := Lib.hid (Go.Lib.grownBy_trans HW5.out.gr g9)
    clear g9 hp
    go_wp2_with fail
    refine ⟨rfl, ?_⟩
    rw [HZ2.out]
    exact ⟨by rw [HCH.out], G9.out⟩
   | ok p =>
    obtain ⟨u9, r9⟩ := p
    rw [hx] at HMU HZ2
    have HZ9 : Hid (Rz = .ok (⟨1, ns, T0, [], []⟩, r9)) := HZ2.out
    clear hx
    go_wp2_with fail
    refine HMU.out.mono ?_
    intro e w9 hp
    obtain ⟨rfl, hr9, g9⟩ := hp
    have HW9 := Lib.hid (HW5.out.next hr9 g9)
    have HREP : Hid ((cCmd (n + 1 + 7)).rep w9 (fun x => w.heap.size ≤ x ∧ x ≠ N) ⟨1, ns, T0, [], []⟩ [.int .i64 1, .slice Gn ns.length cn, .int .i64 0, .int .i64 0, .int .i64 0, .slice none 0 0, .slice none 0 0, .bool false, .int .i64 0, .slice none 0 0, .slice none 0 0, .slice none 0 0]) := plain_rep (K := n + 7) ((sat_read HS5.out g9 (by have := HW.out.bN; have := HW.out.NT; omega)).mono (fun x hx => by have : W.heap.size ≤ x := hx; have := HW.out.NT; omega)) HW5.out.N0
    clear hr9 g9 HMU
    go_upto_region 16 with fail
    obtain ⟨e0, e1, e2, e3, e4, e5, e6, e7, e8, e9, e10, e11⟩ := has_12 HW9.out.t
    obtain ⟨r0, r1, r2, r3, r4, r5, r6, r7, r8, r9, r10, r11⟩ := has_12 HW9.out.res
    have f0 := HW9.out.res.2.1 0 (by simp [res12]); have f1 := HW9.out.res.2.1 1 (by simp [res12]); have f2 := HW9.out.res.2.1 2 (by simp [res12]); have f3 := HW9.out.res.2.1 3 (by simp [res12]); have f4 := HW9.out.res.2.1 4 (by simp [res12]); have f5 := HW9.out.res.2.1 5 (by simp [res12]); have f6 := HW9.out.res.2.1 6 (by simp [res12]); have f7 := HW9.out.res.2.1 7 (by simp [res12]); have f8 := HW9.out.res.2.1 8 (by simp [res12]); have f9 := HW9.out.res.2.1 9 (by simp [res12]); have f10 := HW9.out.res.2.1 10 (by simp [res12]); have f11 := HW9.out.res.2.1 11 (by simp [res12])
    have hfin := agg_put12 HW9.out HREP.out
    obtain ⟨x0, x1, x2, x3, x4, x5, x6, x7, x8, x9, x10, x11⟩ := has_12 hfin.1
    have HANS := Lib.hid hfin.2
    unfold put12 at x0 x1 x2 x3 x4 x5 x6 x7 x8 x9 x10 x11 HANS
    clear hfin
    go_wp2_with fail
    refine bodyPost_ret (v := .agg #[.int .i64 1, .slice Gn ns.length cn, .int .i64 0, .int .i64 0, .int .i64 0, .slice none 0 0, .slice none 0 0, .bool false, .int .i64 0, .slice none 0 0, .slice none 0 0, .slice none 0 0]) ?_ rfl ?_
    ·simp [results, Tryd.results19, go_sem, x0, x1, x2, x3, x4, x5, x6, x7, x8, x9, x10, x11]
    ·rw [HZ9.out]; exact HANS.out

 ·go_enter Tryd.func19, Tryd.ntmps19
  go_wp2_with fail
  go_quiet (fail)
  go_wp2_with fail
  refine (HWT.out _ (belowDrewN _ nq)).mono ?_
  intro e w2 hp
  obtain ⟨he, hr2, g2⟩ := hp
  have he' : e = .returned (.int .i64 8) := he
  subst he'
  have H0 : Hid (RC w (w2.alloc (.cells #[.int .i64 8, .slice none 0 0, .int .i64 0, .int .i64 0, .int .i64 0, .slice none 0 0, .slice none 0 0, .bool false, .int .i64 0, .slice none 0 0, .slice none 0 0, .slice none 0 0] 49)) b w2.heap.size w.heap.size (.slice G all.length cap) F all r [.int .i64 8, .slice none 0 0, .int .i64 0, .int .i64 0, .int .i64 0, .slice none 0 0, .slice none 0 0, .bool false, .int .i64 0, .slice none 0 0, .slice none 0 0, .slice none 0 0]) := by
   have hb2 := ba (Below.refl w2.heap.size w2) (.cells #[.int .i64 8, .slice none 0 0, .int .i64 0, .int .i64 0, .int .i64 0, .slice none 0 0, .slice none 0 0, .bool false, .int .i64 0, .slice none 0 0, .slice none 0 0, .slice none 0 0] 49)
   have g3 := Go.Lib.grownBy_trans (gBelow (bt HAL.out (belowDrewN _ nq)) b) g2
   have hr9 : Has w2 w.heap.size res12 := (HRS.out.down (belowDrewN _ nq)).kept g2 (fun e => by have := Option.some.inj e; omega)
   exact ⟨hr2.below hb2, Has.alloc w2 _ _, hr9.down hb2, Go.Lib.grownBy_below g3 hb2, hbl, hr9.2.2, Nat.le_refl _⟩
  clear he hr2 g2 HWT HAL HRS c0 c1
  go_upto_region 4 with fail
  refine wp_at (R := fun W => RC w W b w2.heap.size w.heap.size (.slice G all.length cap) F all r [.int .i64 8, .slice none 0 0, .int .i64 0, .int .i64 0, .int .i64 0, .slice none 0 0, .slice none 0 0, .bool false, .int .i64 0, .slice none 0 0, .slice none 0 0, .slice none 0 0]) H0.out (fun W hW => ?_)
  clear H0
  generalize w2.heap.size = T at hW ⊢
  obtain ⟨N, hN⟩ : ∃ N, N = w.heap.size := ⟨_, rfl⟩
  rw [← hN] at hW ⊢
  have HN := Lib.hid hN
  clear hN
  obtain ⟨e0, e1, e2, e3, e4, e5, e6, e7, e8, e9, e10, e11⟩ := has_12 hW.t
  have HW := Lib.hid hW
  clear hW
  have HL := Lib.hid (list_tok b (.slice G all.length cap) F all r W hn HW.out.rd)
  have HZ : Hid (Rz = bnd (listP r) fun ts r => bnd (mustP 59 r) fun _ r => .ok (⟨8, ts, T0, [], []⟩, r)) := HRZ.out
  clear HRZ
  cases hx : listP r with
  | error p =>
   obtain ⟨kk, c⟩ := p
   rw [hx] at HL HZ
   clear hx
   go_wp2_with fail
   refine HL.out.mono ?_
   intro e w9 hp
   obtain ⟨ch, rfl, HCH, g9⟩ := hp.err
   have G9 := Lib.hid (Go.Lib.grownBy_trans HW.out.gr g9)
   clear g9 hp
   go_wp2_with fail
   refine ⟨rfl, ?_⟩
   rw [HZ.out]
   exact ⟨by rw [HCH.out], G9.out⟩
  | ok p =>
   obtain ⟨ns, r5⟩ := p
   rw [hx] at HL HZ
   have HZ2 : Hid (Rz = bnd (mustP 59 r5) fun _ r => .ok (⟨8, ns, T0, [], []⟩, r)) := HZ.out
   clear hx HZ
   go_wp2_with fail
   refine HL.out.mono ?_
   intro e w4 hp
   obtain ⟨⟨v4, rfl, hs4⟩, hr4, g4⟩ := hp
   obtain ⟨Gn, cn, rfl, -⟩ := hs4.form
   have hw4 := HW.out.next hr4 g4
   have e1' := hw4.t.1 1 _ rfl
   have f1' := hw4.t.2.1 1 (by simp)
   have hTW := HW.out.TW
   have HW5 := Lib.hid (hw4.set (i := 1) (.slice Gn ns.length cn) (by simp))
   have HS5 := Lib.hid (sat_set (i := 1) hs4 hTW (.slice Gn ns.length cn))
   clear hs4 hr4 g4 hw4 HL e0 e1 e2 e3 e4 e5 e6 e7 e8 e9 e10 e11
   have HMU := Lib.hid (must_any b (.slice G all.length cap) F all r5 59 _ hn HW5.out.rd)
   cases hx : mustP 59 r5 with
   | error p =>
    obtain ⟨kk, c⟩ := p
    rw [hx] at HMU HZ2
    clear hx
    go_wp2_with fail
    refine HMU.out.mono ?_
    intro e w9 hp
    obtain ⟨ch, rfl, HCH, g9⟩ := hp.err
    have G9 := Lib.hid (Go.Lib.grownBy_trans HW5.out.gr g9)
    clear g9 hp
    go_wp2_with fail
    refine ⟨rfl, ?_⟩
    rw [HZ2.out]
    exact ⟨by rw [HCH.out], G9.out⟩
   | ok p =>
    obtain ⟨u9, r9⟩ := p
    rw [hx] at HMU HZ2
    have HZ9 : Hid (Rz = .ok (⟨8, ns, T0, [], []⟩, r9)) := HZ2.out
    clear hx
    go_wp2_with fail
    refine HMU.out.mono ?_
    intro e w9 hp
    obtain ⟨rfl, hr9, g9⟩ := hp
    have HW9 := Lib.hid (HW5.out.next hr9 g9)
    have HREP : Hid ((cCmd (n + 1 + 7)).rep w9 (fun x => w.heap.size ≤ x ∧ x ≠ N) ⟨8, ns, T0, [], []⟩ [.int .i64 8, .slice Gn ns.length cn, .int .i64 0, .int .i64 0, .int .i64 0, .slice none 0 0, .slice none 0 0, .bool false, .int .i64 0, .slice none 0 0, .slice none 0 0, .slice none 0 0]) := plain_rep (K := n + 7) ((sat_read HS5.out g9 (by have := HW.out.bN; have := HW.out.NT; omega)).mono (fun x hx => by have : W.heap.size ≤ x := hx; have := HW.out.NT; omega)) HW5.out.N0
    clear hr9 g9 HMU
    go_upto_region 16 with fail
    obtain ⟨e0, e1, e2, e3, e4, e5, e6, e7, e8, e9, e10, e11⟩ := has_12 HW9.out.t
    obtain ⟨r0, r1, r2, r3, r4, r5, r6, r7, r8, r9, r10, r11⟩ := has_12 HW9.out.res
    have f0 := HW9.out.res.2.1 0 (by simp [res12]); have f1 := HW9.out.res.2.1 1 (by simp [res12]); have f2 := HW9.out.res.2.1 2 (by simp [res12]); have f3 := HW9.out.res.2.1 3 (by simp [res12]); have f4 := HW9.out.res.2.1 4 (by simp [res12]); have f5 := HW9.out.res.2.1 5 (by simp [res12]); have f6 := HW9.out.res.2.1 6 (by simp [res12]); have f7 := HW9.out.res.2.1 7 (by simp [res12]); have f8 := HW9.out.res.2.1 8 (by simp [res12]); have f9 := HW9.out.res.2.1 9 (by simp [res12]); have f10 := HW9.out.res.2.1 10 (by simp [res12]); have f11 := HW9.out.res.2.1 11 (by simp [res12])
    have hfin := agg_put12 HW9.out HREP.out
    obtain ⟨x0, x1, x2, x3, x4, x5, x6, x7, x8, x9, x10, x11⟩ := has_12 hfin.1
    have HANS := Lib.hid hfin.2
    unfold put12 at x0 x1 x2 x3 x4 x5 x6 x7 x8 x9 x10 x11 HANS
    clear hfin
    go_wp2_with fail
    refine bodyPost_ret (v := .agg #[.int .i64 8, .slice Gn ns.length cn, .int .i64 0, .int .i64 0, .int .i64 0, .slice none 0 0, .slice none 0 0, .bool false, .int .i64 0, .slice none 0 0, .slice none 0 0, .slice none 0 0]) ?_ rfl ?_
    ·simp [results, Tryd.results19, go_sem, x0, x1, x2, x3, x4, x5, x6, x7, x8, x9, x10, x11]
    ·rw [HZ9.out]; exact HANS.out

 ·go_enter Tryd.func19, Tryd.ntmps19
  go_wp2_with fail
  go_quiet (fail)
  go_wp2_with fail
  refine (HWT.out _ (belowDrewN _ nq)).mono ?_
  intro e w2 hp
  obtain ⟨he, hr2, g2⟩ := hp
  have he' : e = .returned (.int .i64 9) := he
  subst he'
  have H0 : Hid (RC w (w2.alloc (.cells #[.int .i64 9, .slice none 0 0, .int .i64 0, .int .i64 0, .int .i64 0, .slice none 0 0, .slice none 0 0, .bool false, .int .i64 0, .slice none 0 0, .slice none 0 0, .slice none 0 0] 49)) b w2.heap.size w.heap.size (.slice G all.length cap) F all r [.int .i64 9, .slice none 0 0, .int .i64 0, .int .i64 0, .int .i64 0, .slice none 0 0, .slice none 0 0, .bool false, .int .i64 0, .slice none 0 0, .slice none 0 0, .slice none 0 0]) := by
   have hb2 := ba (Below.refl w2.heap.size w2) (.cells #[.int .i64 9, .slice none 0 0, .int .i64 0, .int .i64 0, .int .i64 0, .slice none 0 0, .slice none 0 0, .bool false, .int .i64 0, .slice none 0 0, .slice none 0 0, .slice none 0 0] 49)
   have g3 := Go.Lib.grownBy_trans (gBelow (bt HAL.out (belowDrewN _ nq)) b) g2
   have hr9 : Has w2 w.heap.size res12 := (HRS.out.down (belowDrewN _ nq)).kept g2 (fun e => by have := Option.some.inj e; omega)
   exact ⟨hr2.below hb2, Has.alloc w2 _ _, hr9.down hb2, Go.Lib.grownBy_below g3 hb2, hbl, hr9.2.2, Nat.le_refl _⟩
  clear he hr2 g2 HWT HAL HRS c0 c1
  go_upto_region 4 with fail
  refine wp_at (R := fun W => RC w W b w2.heap.size w.heap.size (.slice G all.length cap) F all r [.int .i64 9, .slice none 0 0, .int .i64 0, .int .i64 0, .int .i64 0, .slice none 0 0, .slice none 0 0, .bool false, .int .i64 0, .slice none 0 0, .slice none 0 0, .slice none 0 0]) H0.out (fun W hW => ?_)
  clear H0
  generalize w2.heap.size = T at hW ⊢
  obtain ⟨N, hN⟩ : ∃ N, N = w.heap.size := ⟨_, rfl⟩
  rw [← hN] at hW ⊢
  have HN := Lib.hid hN
  clear hN
  obtain ⟨e0, e1, e2, e3, e4, e5, e6, e7, e8, e9, e10, e11⟩ := has_12 hW.t
  have HW := Lib.hid hW
  clear hW
  have HL := Lib.hid (list_tok b (.slice G all.length cap) F all r W hn HW.out.rd)
  have HZ : Hid (Rz = bnd (listP r) fun ts r => bnd (mustP 59 r) fun _ r => .ok (⟨9, ts, T0, [], []⟩, r)) := HRZ.out
  clear HRZ
  cases hx : listP r with
  | error p =>
   obtain ⟨kk, c⟩ := p
   rw [hx] at HL HZ
   clear hx
   go_wp2_with fail
   refine HL.out.mono ?_
   intro e w9 hp
   obtain ⟨ch, rfl, HCH, g9⟩ := hp.err
   have G9 := Lib.hid (Go.Lib.grownBy_trans HW.out.gr g9)
   clear g9 hp
   go_wp2_with fail
   refine ⟨rfl, ?_⟩
   rw [HZ.out]
   exact ⟨by rw [HCH.out], G9.out⟩
  | ok p =>
   obtain ⟨ns, r5⟩ := p
   rw [hx] at HL HZ
   have HZ2 : Hid (Rz = bnd (mustP 59 r5) fun _ r => .ok (⟨9, ns, T0, [], []⟩, r)) := HZ.out
   clear hx HZ
   go_wp2_with fail
   refine HL.out.mono ?_
   intro e w4 hp
   obtain ⟨⟨v4, rfl, hs4⟩, hr4, g4⟩ := hp
   obtain ⟨Gn, cn, rfl, -⟩ := hs4.form
   have hw4 := HW.out.next hr4 g4
   have e1' := hw4.t.1 1 _ rfl
   have f1' := hw4.t.2.1 1 (by simp)
   have hTW := HW.out.TW
   have HW5 := Lib.hid (hw4.set (i := 1) (.slice Gn ns.length cn) (by simp))
   have HS5 := Lib.hid (sat_set (i := 1) hs4 hTW (.slice Gn ns.length cn))
   clear hs4 hr4 g4 hw4 HL e0 e1 e2 e3 e4 e5 e6 e7 e8 e9 e10 e11
   have HMU := Lib.hid (must_any b (.slice G all.length cap) F all r5 59 _ hn HW5.out.rd)
   cases hx : mustP 59 r5 with
   | error p =>
    obtain ⟨kk, c⟩ := p
    rw [hx] at HMU HZ2
    clear hx
    go_wp2_with fail
    refine HMU.out.mono ?_
    intro e w9 hp
    obtain ⟨ch, rfl, HCH, g9⟩ := hp.err
    have G9 := Lib.hid (Go.Lib.grownBy_trans HW5.out.gr g9)
    clear g9 hp
    go_wp2_with fail
    refine ⟨rfl, ?_⟩
    rw [HZ2.out]
    exact ⟨by rw [HCH.out], G9.out⟩
   | ok p =>
    obtain ⟨u9, r9⟩ := p
    rw [hx] at HMU HZ2
    have HZ9 : Hid (Rz = .ok (⟨9, ns, T0, [], []⟩, r9)) := HZ2.out
    clear hx
    go_wp2_with fail
    refine HMU.out.mono ?_
    intro e w9 hp
    obtain ⟨rfl, hr9, g9⟩ := hp
    have HW9 := Lib.hid (HW5.out.next hr9 g9)
    have HREP : Hid ((cCmd (n + 1 + 7)).rep w9 (fun x => w.heap.size ≤ x ∧ x ≠ N) ⟨9, ns, T0, [], []⟩ [.int .i64 9, .slice Gn ns.length cn, .int .i64 0, .int .i64 0, .int .i64 0, .slice none 0 0, .slice none 0 0, .bool false, .int .i64 0, .slice none 0 0, .slice none 0 0, .slice none 0 0]) := plain_rep (K := n + 7) ((sat_read HS5.out g9 (by have := HW.out.bN; have := HW.out.NT; omega)).mono (fun x hx => by have : W.heap.size ≤ x := hx; have := HW.out.NT; omega)) HW5.out.N0
    clear hr9 g9 HMU
    go_upto_region 16 with fail
    obtain ⟨e0, e1, e2, e3, e4, e5, e6, e7, e8, e9, e10, e11⟩ := has_12 HW9.out.t
    obtain ⟨r0, r1, r2, r3, r4, r5, r6, r7, r8, r9, r10, r11⟩ := has_12 HW9.out.res
    have f0 := HW9.out.res.2.1 0 (by simp [res12]); have f1 := HW9.out.res.2.1 1 (by simp [res12]); have f2 := HW9.out.res.2.1 2 (by simp [res12]); have f3 := HW9.out.res.2.1 3 (by simp [res12]); have f4 := HW9.out.res.2.1 4 (by simp [res12]); have f5 := HW9.out.res.2.1 5 (by simp [res12]); have f6 := HW9.out.res.2.1 6 (by simp [res12]); have f7 := HW9.out.res.2.1 7 (by simp [res12]); have f8 := HW9.out.res.2.1 8 (by simp [res12]); have f9 := HW9.out.res.2.1 9 (by simp [res12]); have f10 := HW9.out.res.2.1 10 (by simp [res12]); have f11 := HW9.out.res.2.1 11 (by simp [res12])
    have hfin := agg_put12 HW9.out HREP.out
    obtain ⟨x0, x1, x2, x3, x4, x5, x6, x7, x8, x9, x10, x11⟩ := has_12 hfin.1
    have HANS := Lib.hid hfin.2
    unfold put12 at x0 x1 x2 x3 x4 x5 x6 x7 x8 x9 x10 x11 HANS
    clear hfin
    go_wp2_with fail
    refine bodyPost_ret (v := .agg #[.int .i64 9, .slice Gn ns.length cn, .int .i64 0, .int .i64 0, .int .i64 0, .slice none 0 0, .slice none 0 0, .bool false, .int .i64 0, .slice none 0 0, .slice none 0 0, .slice none 0 0]) ?_ rfl ?_
    ·simp [results, Tryd.results19, go_sem, x0, x1, x2, x3, x4, x5, x6, x7, x8, x9, x10, x11]
    ·rw [HZ9.out]; exact HANS.out


set_option maxHeartbeats 8000000 in
set_option maxRecDepth 20000 in
theorem command_text (n : Nat) (dI : Int) (d b k : Nat) (v : Value) (F : Dom) (all l r : List Tok) (w : World) (hdI : dI = d) (hn : all.length ≤ 100000) (h : RL w b v F all l) (hTab : Tabs w b) 
  (hg : ¬ (6 < d ∧ l ≠ [])) (hw : wordP cmdTab l = .ok (k, r)) (hk : k = 5 ∨ k = 6 ∨ k = 7) :
  Calls Tryd.prog 19 #[.pointer (some ⟨b, 0, none⟩), .int .i64 dI] w (Ans (CmdR (n + 1 + 7) w.heap.size) b v F all w (commandP (n + 1) d l)) := by
 obtain ⟨Rz, hRz⟩ : ∃ Rz, Rz = commandP (n + 1) d l := ⟨_, rfl⟩
 rw [← hRz]
 rw [commandP, if_neg hg, hw] at hRz
 have HRZ : Hid (Rz = cmdK (branchP n d) k r) := hRz
 have hl0 : l ≠ [] := by rintro rfl; cases hw
 have hd6 : d ≤ 6 := by
  by_cases e : 6 < d
  ·exact absurd ⟨e, hl0⟩ hg
  ·omega
 have hal := ba (Below.refl w.heap.size w) (.cells #[.int .i64 0, .slice none 0 0, .int .i64 0, .int .i64 0, .int .i64 0, .slice none 0 0, .slice none 0 0, .bool false, .int .i64 0, .slice none 0 0, .slice none 0 0, .slice none 0 0] 49)
 have HAL := Lib.hid hal
 have hbl := h.lt
 have hres := Has.alloc w [.int .i64 0, .slice none 0 0, .int .i64 0, .int .i64 0, .int .i64 0, .slice none 0 0, .slice none 0 0, .bool false, .int .i64 0, .slice none 0 0, .slice none 0 0, .slice none 0 0] 49
 have HRS := Lib.hid hres
 have h1 := h.below hal
 have hTab1 := hTab.down (Nat.le_of_lt hbl) hal
 obtain ⟨p, hl1, hr1⟩ := h1
 obtain ⟨G, cap, rfl, hlen, -⟩ := hr1.facts hl1
 have c0 := hr1.c0
 have c1 := hr1.c1
 have hpos : (0 : Int) ≤ p := by omega
 have hwt := fun W (hb : Below (w.alloc (.cells #[.int .i64 0, .slice none 0 0, .int .i64 0, .int .i64 0, .int .i64 0, .slice none 0 0, .slice none 0 0, .bool false, .int .i64 0, .slice none 0 0, .slice none 0 0, .slice none 0 0] 49)).heap.size (w.alloc (.cells #[.int .i64 0, .slice none 0 0, .int .i64 0, .int .i64 0, .int .i64 0, .slice none 0 0, .slice none 0 0, .bool false, .int .i64 0, .slice none 0 0, .slice none 0 0, .slice none 0 0] 49)) W) => word_tok b 0 cmdTab 11 (.slice G all.length cap) F all l W hn ⟨p, hl1, hr1.below hb⟩ ((hTab1.down (Nat.le_of_lt hr1.lt) hb).c) hTab.low.2.1 rfl (by decide)
 have hls := less_word cmdTab l
 rw [hw] at hwt hls
 have hrl : r.length + 1 ≤ l.length := hls
 have HWT := Lib.hid hwt
 have HTAB := Lib.hid hTab
 have q1 : decide (6 < dI) = false := decide_eq_false (by omega)
 have HDI := Lib.hid hdI
 clear hRz hal h hl1 hr1 hlen hg hw hwt hls hres hTab hTab1 hl0 hdI
 rcases hk with rfl | rfl | rfl
 ·go_enter Tryd.func19, Tryd.ntmps19
  go_wp2_with fail
  go_quiet (fail)
  go_wp2_with fail
  refine (HWT.out _ (belowDrewN _ nq)).mono ?_
  intro e w2 hp
  obtain ⟨he, hr2, g2⟩ := hp
  have he' : e = .returned (.int .i64 5) := he
  subst he'
  have H0 : Hid (RC w (w2.alloc (.cells #[.int .i64 5, .slice none 0 0, .int .i64 0, .int .i64 0, .int .i64 0, .slice none 0 0, .slice none 0 0, .bool false, .int .i64 0, .slice none 0 0, .slice none 0 0, .slice none 0 0] 49)) b w2.heap.size w.heap.size (.slice G all.length cap) F all r [.int .i64 5, .slice none 0 0, .int .i64 0, .int .i64 0, .int .i64 0, .slice none 0 0, .slice none 0 0, .bool false, .int .i64 0, .slice none 0 0, .slice none 0 0, .slice none 0 0]) := by
   have hb2 := ba (Below.refl w2.heap.size w2) (.cells #[.int .i64 5, .slice none 0 0, .int .i64 0, .int .i64 0, .int .i64 0, .slice none 0 0, .slice none 0 0, .bool false, .int .i64 0, .slice none 0 0, .slice none 0 0, .slice none 0 0] 49)
   have g3 := Go.Lib.grownBy_trans (gBelow (bt HAL.out (belowDrewN _ nq)) b) g2
   have hr9 : Has w2 w.heap.size res12 := (HRS.out.down (belowDrewN _ nq)).kept g2 (fun e => by have := Option.some.inj e; omega)
   exact ⟨hr2.below hb2, Has.alloc w2 _ _, hr9.down hb2, Go.Lib.grownBy_below g3 hb2, hbl, hr9.2.2, Nat.le_refl _⟩
  clear he hr2 g2 HWT HAL HRS c0 c1
  go_upto_region 4 with fail
  refine wp_at (R := fun W => RC w W b w2.heap.size w.heap.size (.slice G all.length cap) F all r [.int .i64 5, .slice none 0 0, .int .i64 0, .int .i64 0, .int .i64 0, .slice none 0 0, .slice none 0 0, .bool false, .int .i64 0, .slice none 0 0, .slice none 0 0, .slice none 0 0]) H0.out (fun W hW => ?_)
  clear H0
  generalize w2.heap.size = T at hW ⊢
  obtain ⟨N, hN⟩ : ∃ N, N = w.heap.size := ⟨_, rfl⟩
  rw [← hN] at hW ⊢
  have HN := Lib.hid hN
  clear hN
  obtain ⟨e0, e1, e2, e3, e4, e5, e6, e7, e8, e9, e10, e11⟩ := has_12 hW.t
  have HW := Lib.hid hW
  clear hW
  have HL := Lib.hid (next_tok b (.slice G all.length cap) F all r 4 W hn HW.out.rd)
  have HZ : Hid (Rz = bnd (nextP 4 r) fun t r => bnd (mustP 59 r) fun _ r => .ok (⟨5, [t.text], T0, [], []⟩, r)) := HRZ.out
  clear HRZ
  cases hx : nextP 4 r with
  | error p =>
   obtain ⟨kk, c⟩ := p
   rw [hx] at HL HZ
   clear hx
   go_wp2_with fail
   refine HL.out.mono ?_
   intro e w9 hp
   obtain ⟨ch, rfl, HCH, g9⟩ := hp.err
   have G9 := Lib.hid (Go.Lib.grownBy_trans HW.out.gr g9)
   clear g9 hp
   go_wp2_with fail
   refine ⟨rfl, ?_⟩
   rw [HZ.out]
   exact ⟨by rw [HCH.out], G9.out⟩
  | ok p =>
   obtain ⟨⟨kt, st, nt⟩, r5⟩ := p
   rw [hx] at HL HZ
   have HZ2 : Hid (Rz = bnd (mustP 59 r5) fun _ r => .ok (⟨5, [st], T0, [], []⟩, r)) := HZ.out
   have hfld := fun w => tok_text kt nt ⟨st.toArray⟩ w
   clear hx HZ
   go_wp2_with fail
   refine HL.out.mono ?_
   intro e w4 hp
   obtain ⟨rfl, hr4, g4⟩ := hp
   have hal := ba (Below.refl w4.heap.size w4) (.cells #[.string ⟨st.toArray⟩] 9)
   have hw4 := (HW.out.next hr4 g4).down hal
   have e1' := hw4.t.1 1 _ rfl
   have f1' := hw4.t.2.1 1 (by simp)
   have hTW := HW.out.TW
   have hT4 : W.heap.size ≤ w4.heap.size := g4.size
   have HW5 := Lib.hid (hw4.set (i := 1) (.slice (some ⟨w4.heap.size, 0, none⟩) 1 1) (by simp))
   have HS5 := Lib.hid (sat_set (i := 1) (sat_str (F := fun x => W.heap.size ≤ x) (Has.alloc w4 [.string ⟨st.toArray⟩] 9) hT4) hTW (.slice (some ⟨w4.heap.size, 0, none⟩) 1 1))
   clear hr4 g4 hal hw4 HL hT4 e0 e1 e2 e3 e4 e5 e6 e7 e8 e9 e10 e11
   go_upto_region 15 with fail
   generalize w4.heap.size = X at HW5 HS5 ⊢
   have HMU := Lib.hid (must_any b (.slice G all.length cap) F all r5 59 _ hn HW5.out.rd)
   cases hx : mustP 59 r5 with
   | error p =>
    obtain ⟨kk, c⟩ := p
    rw [hx] at HMU HZ2
    clear hx
    go_wp2_with fail
    refine HMU.out.mono ?_
    intro e w9 hp
    obtain ⟨ch, rfl, HCH, g9⟩ := hp.err
    have G9 := Lib.hid (Go.Lib.grownBy_trans HW5.out.gr g9)
    clear g9 hp
    go_wp2_with fail
    refine ⟨rfl, ?_⟩
    rw [HZ2.out]
    exact ⟨by rw [HCH.out], G9.out⟩
   | ok p =>
    obtain ⟨u9, r9⟩ := p
    rw [hx] at HMU HZ2
    have HZ9 : Hid (Rz = .ok (⟨5, [st], T0, [], []⟩, r9)) := HZ2.out
    clear hx
    go_wp2_with fail
    refine HMU.out.mono ?_
    intro e w9 hp
    obtain ⟨rfl, hr9, g9⟩ := hp
    have HW9 := Lib.hid (HW5.out.next hr9 g9)
    have HREP : Hid ((cCmd (n + 1 + 7)).rep w9 (fun x => w.heap.size ≤ x ∧ x ≠ N) ⟨5, [st], T0, [], []⟩ [.int .i64 5, .slice (some ⟨X, 0, none⟩) 1 1, .int .i64 0, .int .i64 0, .int .i64 0, .slice none 0 0, .slice none 0 0, .bool false, .int .i64 0, .slice none 0 0, .slice none 0 0, .slice none 0 0]) := plain_rep (K := n + 7) ((sat_read HS5.out g9 (by have := HW.out.bN; have := HW.out.NT; omega)).mono (fun x hx => by have : W.heap.size ≤ x := hx; have := HW.out.NT; omega)) HW5.out.N0
    clear hr9 g9 HMU
    go_upto_region 16 with fail
    obtain ⟨e0, e1, e2, e3, e4, e5, e6, e7, e8, e9, e10, e11⟩ := has_12 HW9.out.t
    obtain ⟨r0, r1, r2, r3, r4, r5, r6, r7, r8, r9, r10, r11⟩ := has_12 HW9.out.res
    have f0 := HW9.out.res.2.1 0 (by simp [res12]); have f1 := HW9.out.res.2.1 1 (by simp [res12]); have f2 := HW9.out.res.2.1 2 (by simp [res12]); have f3 := HW9.out.res.2.1 3 (by simp [res12]); have f4 := HW9.out.res.2.1 4 (by simp [res12]); have f5 := HW9.out.res.2.1 5 (by simp [res12]); have f6 := HW9.out.res.2.1 6 (by simp [res12]); have f7 := HW9.out.res.2.1 7 (by simp [res12]); have f8 := HW9.out.res.2.1 8 (by simp [res12]); have f9 := HW9.out.res.2.1 9 (by simp [res12]); have f10 := HW9.out.res.2.1 10 (by simp [res12]); have f11 := HW9.out.res.2.1 11 (by simp [res12])
    have hfin := agg_put12 HW9.out HREP.out
    obtain ⟨x0, x1, x2, x3, x4, x5, x6, x7, x8, x9, x10, x11⟩ := has_12 hfin.1
    have HANS := Lib.hid hfin.2
    unfold put12 at x0 x1 x2 x3 x4 x5 x6 x7 x8 x9 x10 x11 HANS
    clear hfin
    go_wp2_with fail
    refine bodyPost_ret (v := .agg #[.int .i64 5, .slice (some ⟨X, 0, none⟩) 1 1, .int .i64 0, .int .i64 0, .int .i64 0, .slice none 0 0, .slice none 0 0, .bool false, .int .i64 0, .slice none 0 0, .slice none 0 0, .slice none 0 0]) ?_ rfl ?_
    ·simp [results, Tryd.results19, go_sem, x0, x1, x2, x3, x4, x5, x6, x7, x8, x9, x10, x11]
    ·rw [HZ9.out]; exact HANS.out

 ·go_enter Tryd.func19, Tryd.ntmps19
  go_wp2_with fail
  go_quiet (fail)
  go_wp2_with fail
  refine (HWT.out _ (belowDrewN _ nq)).mono ?_
  intro e w2 hp
  obtain ⟨he, hr2, g2⟩ := hp
  have he' : e = .returned (.int .i64 6) := he
  subst he'
  have H0 : Hid (RC w (w2.alloc (.cells #[.int .i64 6, .slice none 0 0, .int .i64 0, .int .i64 0, .int .i64 0, .slice none 0 0, .slice none 0 0, .bool false, .int .i64 0, .slice none 0 0, .slice none 0 0, .slice none 0 0] 49)) b w2.heap.size w.heap.size (.slice G all.length cap) F all r [.int .i64 6, .slice none 0 0, .int .i64 0, .int .i64 0, .int .i64 0, .slice none 0 0, .slice none 0 0, .bool false, .int .i64 0, .slice none 0 0, .slice none 0 0, .slice none 0 0]) := by
   have hb2 := ba (Below.refl w2.heap.size w2) (.cells #[.int .i64 6, .slice none 0 0, .int .i64 0, .int .i64 0, .int .i64 0, .slice none 0 0, .slice none 0 0, .bool false, .int .i64 0, .slice none 0 0, .slice none 0 0, .slice none 0 0] 49)
   have g3 := Go.Lib.grownBy_trans (gBelow (bt HAL.out (belowDrewN _ nq)) b) g2
   have hr9 : Has w2 w.heap.size res12 := (HRS.out.down (belowDrewN _ nq)).kept g2 (fun e => by have := Option.some.inj e; omega)
   exact ⟨hr2.below hb2, Has.alloc w2 _ _, hr9.down hb2, Go.Lib.grownBy_below g3 hb2, hbl, hr9.2.2, Nat.le_refl _⟩
  clear he hr2 g2 HWT HAL HRS c0 c1
  go_upto_region 4 with fail
  refine wp_at (R := fun W => RC w W b w2.heap.size w.heap.size (.slice G all.length cap) F all r [.int .i64 6, .slice none 0 0, .int .i64 0, .int .i64 0, .int .i64 0, .slice none 0 0, .slice none 0 0, .bool false, .int .i64 0, .slice none 0 0, .slice none 0 0, .slice none 0 0]) H0.out (fun W hW => ?_)
  clear H0
  generalize w2.heap.size = T at hW ⊢
  obtain ⟨N, hN⟩ : ∃ N, N = w.heap.size := ⟨_, rfl⟩
  rw [← hN] at hW ⊢
  have HN := Lib.hid hN
  clear hN
  obtain ⟨e0, e1, e2, e3, e4, e5, e6, e7, e8, e9, e10, e11⟩ := has_12 hW.t
  have HW := Lib.hid hW
  clear hW
  have HL := Lib.hid (next_tok b (.slice G all.length cap) F all r 4 W hn HW.out.rd)
  have HZ : Hid (Rz = bnd (nextP 4 r) fun t r => bnd (mustP 59 r) fun _ r => .ok (⟨6, [t.text], T0, [], []⟩, r)) := HRZ.out
  clear HRZ
  cases hx : nextP 4 r with
  | error p =>
   obtain ⟨kk, c⟩ := p
   rw [hx] at HL HZ
   clear hx
   go_wp2_with fail
   refine HL.out.mono ?_
   intro e w9 hp
   obtain ⟨ch, rfl, HCH, g9⟩ := hp.err
   have G9 := Lib.hid (Go.Lib.grownBy_trans HW.out.gr g9)
   clear g9 hp
   go_wp2_with fail
   refine ⟨rfl, ?_⟩
   rw [HZ.out]
   exact ⟨by rw [HCH.out], G9.out⟩
  | ok p =>
   obtain ⟨⟨kt, st, nt⟩, r5⟩ := p
   rw [hx] at HL HZ
   have HZ2 : Hid (Rz = bnd (mustP 59 r5) fun _ r => .ok (⟨6, [st], T0, [], []⟩, r)) := HZ.out
   have hfld := fun w => tok_text kt nt ⟨st.toArray⟩ w
   clear hx HZ
   go_wp2_with fail
   refine HL.out.mono ?_
   intro e w4 hp
   obtain ⟨rfl, hr4, g4⟩ := hp
   have hal := ba (Below.refl w4.heap.size w4) (.cells #[.string ⟨st.toArray⟩] 9)
   have hw4 := (HW.out.next hr4 g4).down hal
   have e1' := hw4.t.1 1 _ rfl
   have f1' := hw4.t.2.1 1 (by simp)
   have hTW := HW.out.TW
   have hT4 : W.heap.size ≤ w4.heap.size := g4.size
   have HW5 := Lib.hid (hw4.set (i := 1) (.slice (some ⟨w4.heap.size, 0, none⟩) 1 1) (by simp))
   have HS5 := Lib.hid (sat_set (i := 1) (sat_str (F := fun x => W.heap.size ≤ x) (Has.alloc w4 [.string ⟨st.toArray⟩] 9) hT4) hTW (.slice (some ⟨w4.heap.size, 0, none⟩) 1 1))
   clear hr4 g4 hal hw4 HL hT4 e0 e1 e2 e3 e4 e5 e6 e7 e8 e9 e10 e11
   go_upto_region 15 with fail
   generalize w4.heap.size = X at HW5 HS5 ⊢
   have HMU := Lib.hid (must_any b (.slice G all.length cap) F all r5 59 _ hn HW5.out.rd)
   cases hx : mustP 59 r5 with
   | error p =>
    obtain ⟨kk, c⟩ := p
    rw [hx] at HMU HZ2
    clear hx
    go_wp2_with fail
    refine HMU.out.mono ?_
    intro e w9 hp
    obtain ⟨ch, rfl, HCH, g9⟩ := hp.err
    have G9 := Lib.hid (Go.Lib.grownBy_trans HW5.out.gr g9)
    clear g9 hp
    go_wp2_with fail
    refine ⟨rfl, ?_⟩
    rw [HZ2.out]
    exact ⟨by rw [HCH.out], G9.out⟩
   | ok p =>
    obtain ⟨u9, r9⟩ := p
    rw [hx] at HMU HZ2
    have HZ9 : Hid (Rz = .ok (⟨6, [st], T0, [], []⟩, r9)) := HZ2.out
    clear hx
    go_wp2_with fail
    refine HMU.out.mono ?_
    intro e w9 hp
    obtain ⟨rfl, hr9, g9⟩ := hp
    have HW9 := Lib.hid (HW5.out.next hr9 g9)
    have HREP : Hid ((cCmd (n + 1 + 7)).rep w9 (fun x => w.heap.size ≤ x ∧ x ≠ N) ⟨6, [st], T0, [], []⟩ [.int .i64 6, .slice (some ⟨X, 0, none⟩) 1 1, .int .i64 0, .int .i64 0, .int .i64 0, .slice none 0 0, .slice none 0 0, .bool false, .int .i64 0, .slice none 0 0, .slice none 0 0, .slice none 0 0]) := plain_rep (K := n + 7) ((sat_read HS5.out g9 (by have := HW.out.bN; have := HW.out.NT; omega)).mono (fun x hx => by have : W.heap.size ≤ x := hx; have := HW.out.NT; omega)) HW5.out.N0
    clear hr9 g9 HMU
    go_upto_region 16 with fail
    obtain ⟨e0, e1, e2, e3, e4, e5, e6, e7, e8, e9, e10, e11⟩ := has_12 HW9.out.t
    obtain ⟨r0, r1, r2, r3, r4, r5, r6, r7, r8, r9, r10, r11⟩ := has_12 HW9.out.res
    have f0 := HW9.out.res.2.1 0 (by simp [res12]); have f1 := HW9.out.res.2.1 1 (by simp [res12]); have f2 := HW9.out.res.2.1 2 (by simp [res12]); have f3 := HW9.out.res.2.1 3 (by simp [res12]); have f4 := HW9.out.res.2.1 4 (by simp [res12]); have f5 := HW9.out.res.2.1 5 (by simp [res12]); have f6 := HW9.out.res.2.1 6 (by simp [res12]); have f7 := HW9.out.res.2.1 7 (by simp [res12]); have f8 := HW9.out.res.2.1 8 (by simp [res12]); have f9 := HW9.out.res.2.1 9 (by simp [res12]); have f10 := HW9.out.res.2.1 10 (by simp [res12]); have f11 := HW9.out.res.2.1 11 (by simp [res12])
    have hfin := agg_put12 HW9.out HREP.out
    obtain ⟨x0, x1, x2, x3, x4, x5, x6, x7, x8, x9, x10, x11⟩ := has_12 hfin.1
    have HANS := Lib.hid hfin.2
    unfold put12 at x0 x1 x2 x3 x4 x5 x6 x7 x8 x9 x10 x11 HANS
    clear hfin
    go_wp2_with fail
    refine bodyPost_ret (v := .agg #[.int .i64 6, .slice (some ⟨X, 0, none⟩) 1 1, .int .i64 0, .int .i64 0, .int .i64 0, .slice none 0 0, .slice none 0 0, .bool false, .int .i64 0, .slice none 0 0, .slice none 0 0, .slice none 0 0]) ?_ rfl ?_
    ·simp [results, Tryd.results19, go_sem, x0, x1, x2, x3, x4, x5, x6, x7, x8, x9, x10, x11]
    ·rw [HZ9.out]; exact HANS.out

 ·go_enter Tryd.func19, Tryd.ntmps19
  go_wp2_with fail
  go_quiet (fail)
  go_wp2_with fail
  refine (HWT.out _ (belowDrewN _ nq)).mono ?_
  intro e w2 hp
  obtain ⟨he, hr2, g2⟩ := hp
  have he' : e = .returned (.int .i64 7) := he
  subst he'
  have H0 : Hid (RC w (w2.alloc (.cells #[.int .i64 7, .slice none 0 0, .int .i64 0, .int .i64 0, .int .i64 0, .slice none 0 0, .slice none 0 0, .bool false, .int .i64 0, .slice none 0 0, .slice none 0 0, .slice none 0 0] 49)) b w2.heap.size w.heap.size (.slice G all.length cap) F all r [.int .i64 7, .slice none 0 0, .int .i64 0, .int .i64 0, .int .i64 0, .slice none 0 0, .slice none 0 0, .bool false, .int .i64 0, .slice none 0 0, .slice none 0 0, .slice none 0 0]) := by
   have hb2 := ba (Below.refl w2.heap.size w2) (.cells #[.int .i64 7, .slice none 0 0, .int .i64 0, .int .i64 0, .int .i64 0, .slice none 0 0, .slice none 0 0, .bool false, .int .i64 0, .slice none 0 0, .slice none 0 0, .slice none 0 0] 49)
   have g3 := Go.Lib.grownBy_trans (gBelow (bt HAL.out (belowDrewN _ nq)) b) g2
   have hr9 : Has w2 w.heap.size res12 := (HRS.out.down (belowDrewN _ nq)).kept g2 (fun e => by have := Option.some.inj e; omega)
   exact ⟨hr2.below hb2, Has.alloc w2 _ _, hr9.down hb2, Go.Lib.grownBy_below g3 hb2, hbl, hr9.2.2, Nat.le_refl _⟩
  clear he hr2 g2 HWT HAL HRS c0 c1
  go_upto_region 4 with fail
  refine wp_at (R := fun W => RC w W b w2.heap.size w.heap.size (.slice G all.length cap) F all r [.int .i64 7, .slice none 0 0, .int .i64 0, .int .i64 0, .int .i64 0, .slice none 0 0, .slice none 0 0, .bool false, .int .i64 0, .slice none 0 0, .slice none 0 0, .slice none 0 0]) H0.out (fun W hW => ?_)
  clear H0
  generalize w2.heap.size = T at hW ⊢
  obtain ⟨N, hN⟩ : ∃ N, N = w.heap.size := ⟨_, rfl⟩
  rw [← hN] at hW ⊢
  have HN := Lib.hid hN
  clear hN
  obtain ⟨e0, e1, e2, e3, e4, e5, e6, e7, e8, e9, e10, e11⟩ := has_12 hW.t
  have HW := Lib.hid hW
  clear hW
  have HL := Lib.hid (next_tok b (.slice G all.length cap) F all r 4 W hn HW.out.rd)
  have HZ : Hid (Rz = bnd (nextP 4 r) fun t r => bnd (mustP 59 r) fun _ r => .ok (⟨7, [t.text], T0, [], []⟩, r)) := HRZ.out
  clear HRZ
  cases hx : nextP 4 r with
  | error p =>
   obtain ⟨kk, c⟩ := p
   rw [hx] at HL HZ
   clear hx
   go_wp2_with fail
   refine HL.out.mono ?_
   intro e w9 hp
   obtain ⟨ch, rfl, HCH, g9⟩ := hp.err
   have G9 := Lib.hid (Go.Lib.grownBy_trans HW.out.gr g9)
   clear g9 hp
   go_wp2_with fail
   refine ⟨rfl, ?_⟩
   rw [HZ.out]
   exact ⟨by rw [HCH.out], G9.out⟩
  | ok p =>
   obtain ⟨⟨kt, st, nt⟩, r5⟩ := p
   rw [hx] at HL HZ
   have HZ2 : Hid (Rz = bnd (mustP 59 r5) fun _ r => .ok (⟨7, [st], T0, [], []⟩, r)) := HZ.out
   have hfld := fun w => tok_text kt nt ⟨st.toArray⟩ w
   clear hx HZ
   go_wp2_with fail
   refine HL.out.mono ?_
   intro e w4 hp
   obtain ⟨rfl, hr4, g4⟩ := hp
   have hal := ba (Below.refl w4.heap.size w4) (.cells #[.string ⟨st.toArray⟩] 9)
   have hw4 := (HW.out.next hr4 g4).down hal
   have e1' := hw4.t.1 1 _ rfl
   have f1' := hw4.t.2.1 1 (by simp)
   have hTW := HW.out.TW
   have hT4 : W.heap.size ≤ w4.heap.size := g4.size
   have HW5 := Lib.hid (hw4.set (i := 1) (.slice (some ⟨w4.heap.size, 0, none⟩) 1 1) (by simp))
   have HS5 := Lib.hid (sat_set (i := 1) (sat_str (F := fun x => W.heap.size ≤ x) (Has.alloc w4 [.string ⟨st.toArray⟩] 9) hT4) hTW (.slice (some ⟨w4.heap.size, 0, none⟩) 1 1))
   clear hr4 g4 hal hw4 HL hT4 e0 e1 e2 e3 e4 e5 e6 e7 e8 e9 e10 e11
   go_upto_region 15 with fail
   generalize w4.heap.size = X at HW5 HS5 ⊢
   have HMU := Lib.hid (must_any b (.slice G all.length cap) F all r5 59 _ hn HW5.out.rd)
   cases hx : mustP 59 r5 with
   | error p =>
    obtain ⟨kk, c⟩ := p
    rw [hx] at HMU HZ2
    clear hx
    go_wp2_with fail
    refine HMU.out.mono ?_
    intro e w9 hp
    obtain ⟨ch, rfl, HCH, g9⟩ := hp.err
    have G9 := Lib.hid (Go.Lib.grownBy_trans HW5.out.gr g9)
    clear g9 hp
    go_wp2_with fail
    refine ⟨rfl, ?_⟩
    rw [HZ2.out]
    exact ⟨by rw [HCH.out], G9.out⟩
   | ok p =>
    obtain ⟨u9, r9⟩ := p
    rw [hx] at HMU HZ2
    have HZ9 : Hid (Rz = .ok (⟨7, [st], T0, [], []⟩, r9)) := HZ2.out
    clear hx
    go_wp2_with fail
    refine HMU.out.mono ?_
    intro e w9 hp
    obtain ⟨rfl, hr9, g9⟩ := hp
    have HW9 := Lib.hid (HW5.out.next hr9 g9)
    have HREP : Hid ((cCmd (n + 1 + 7)).rep w9 (fun x => w.heap.size ≤ x ∧ x ≠ N) ⟨7, [st], T0, [], []⟩ [.int .i64 7, .slice (some ⟨X, 0, none⟩) 1 1, .int .i64 0, .int .i64 0, .int .i64 0, .slice none 0 0, .slice none 0 0, .bool false, .int .i64 0, .slice none 0 0, .slice none 0 0, .slice none 0 0]) := plain_rep (K := n + 7) ((sat_read HS5.out g9 (by have := HW.out.bN; have := HW.out.NT; omega)).mono (fun x hx => by have : W.heap.size ≤ x := hx; have := HW.out.NT; omega)) HW5.out.N0
    clear hr9 g9 HMU
    go_upto_region 16 with fail
    obtain ⟨e0, e1, e2, e3, e4, e5, e6, e7, e8, e9, e10, e11⟩ := has_12 HW9.out.t
    obtain ⟨r0, r1, r2, r3, r4, r5, r6, r7, r8, r9, r10, r11⟩ := has_12 HW9.out.res
    have f0 := HW9.out.res.2.1 0 (by simp [res12]); have f1 := HW9.out.res.2.1 1 (by simp [res12]); have f2 := HW9.out.res.2.1 2 (by simp [res12]); have f3 := HW9.out.res.2.1 3 (by simp [res12]); have f4 := HW9.out.res.2.1 4 (by simp [res12]); have f5 := HW9.out.res.2.1 5 (by simp [res12]); have f6 := HW9.out.res.2.1 6 (by simp [res12]); have f7 := HW9.out.res.2.1 7 (by simp [res12]); have f8 := HW9.out.res.2.1 8 (by simp [res12]); have f9 := HW9.out.res.2.1 9 (by simp [res12]); have f10 := HW9.out.res.2.1 10 (by simp [res12]); have f11 := HW9.out.res.2.1 11 (by simp [res12])
    have hfin := agg_put12 HW9.out HREP.out
    obtain ⟨x0, x1, x2, x3, x4, x5, x6, x7, x8, x9, x10, x11⟩ := has_12 hfin.1
    have HANS := Lib.hid hfin.2
    unfold put12 at x0 x1 x2 x3 x4 x5 x6 x7 x8 x9 x10 x11 HANS
    clear hfin
    go_wp2_with fail
    refine bodyPost_ret (v := .agg #[.int .i64 7, .slice (some ⟨X, 0, none⟩) 1 1, .int .i64 0, .int .i64 0, .int .i64 0, .slice none 0 0, .slice none 0 0, .bool false, .int .i64 0, .slice none 0 0, .slice none 0 0, .slice none 0 0]) ?_ rfl ?_
    ·simp [results, Tryd.results19, go_sem, x0, x1, x2, x3, x4, x5, x6, x7, x8, x9, x10, x11]
    ·rw [HZ9.out]; exact HANS.out

theorem both_every : ∀ n, CommandN n ∧ BranchN n
 | 0 => ⟨fun _ _ _ _ _ _ _ _ _ _ _ _ _ h => absurd h (Nat.not_lt_zero _), fun _ _ _ _ _ _ _ _ _ _ _ _ _ h => absurd h (Nat.not_lt_zero _)⟩
 | n + 1 => by
  have ih := both_every n
  refine ⟨fun dI d b v F all l w hdI hd hn h hTab hl => ?_, branch_succ n ih.1 ih.2⟩
  by_cases hg : 6 < d ∧ l ≠ []
  ·exact command_wrong n dI d _ b v F all l w hdI hn h hTab (.inl hg)
  ·cases hw : wordP cmdTab l with
   | error p => exact command_wrong n dI d _ b v F all l w hdI hn h hTab (.inr ⟨hg, p.1, p.2, hw⟩)
   | ok p =>
    obtain ⟨k, r⟩ := p
    have hk := word_range hw
    have hk11 : k < 11 := hk.2
    have key : k = 2 ∨ (k = 3 ∨ k = 4 ∨ k = 10) ∨ (k = 1 ∨ k = 8 ∨ k = 9) ∨ (k = 5 ∨ k = 6 ∨ k = 7) := by omega
    rcases key with hk | hk | hk | hk
    ·exact command_if n dI d b k v F all l r w hdI hn h hTab ih.2 hl hg hw hk
    ·exact command_bare n dI d b k v F all l r w hdI hn h hTab hg hw hk
    ·exact command_list n dI d b k v F all l r w hdI hn h hTab hg hw hk
    ·exact command_text n dI d b k v F all l r w hdI hn h hTab hg hw hk
end Go.Proofs.YtlgbmnmoobpkkaaDoor.Sc
