/- On the way. -/
import Derived.Test.YtmkppkjikifdlaaGreatDoorTScRdA
set_option linter.unusedVariables false
set_option linter.unusedSimpArgs false
set_option maxHeartbeats 8000000
set_option maxRecDepth 20000
namespace Go.Proofs.YtmkppkjikifdlaaGreatDoor.Sc
open Go.RowKit
open Tk (Tok)
theorem word_range {tab : List Str} {l r : List Tok} {k : Nat} (h : wordP tab l = .ok (k, r)) : 0 < k ∧ k < tab.length := by
 unfold wordP at h
 cases l with
 | nil => cases h
 | cons t q =>
  have h' : (if t.kind = 1 ∧ 0 < idxW tab t.text then (.ok (idxW tab t.text, q) : PR Nat) else giveP (t :: q) 3) = .ok (k, r) := h
  split at h'
  ·rename_i hc
   cases h'
   refine ⟨hc.2, ?_⟩
   have := hc.2
   unfold idxW at this ⊢
   split at this
   ·rename_i h2; rw [if_pos h2]; exact h2
   ·omega
  ·cases h'
theorem test_every : ∀ n, TestN n
 | 0 => fun _ _ _ _ _ _ _ _ _ _ _ _ _ _ h => absurd h (Nat.not_lt_zero _)
 | n + 1 => fun dI d m b v F all l w hdI hm hn h hTab hl => by
  by_cases hg : 6 < d ∧ l ≠ []
  ·exact test_wrong n dI d m b v F all l w hdI hn h hTab (.inl hg)
  ·cases hw : wordP tstTab l with
   | error p => exact test_wrong n dI d m b v F all l w hdI hn h hTab (.inr ⟨hg, p.1, p.2, hw⟩)
   | ok p =>
    obtain ⟨k, r⟩ := p
    have hk := word_range hw
    have hk11 : k < 11 := hk.2
    have key : (k = 1 ∨ k = 2) ∨ k = 3 ∨ k = 4 ∨ k = 5 ∨ (k = 6 ∨ k = 7 ∨ k = 8) ∨ k = 9 ∨ k = 10 := by omega
    rcases key with hk | hk | hk | hk | hk | hk | hk
    ·exact test_bare_p n dI d m b k v F all l r w hdI hm hn h hTab hg hw hk
    ·exact test_not_p n dI d m b k v F all l r w hdI hm hn h hTab (test_every n) hl hg hw hk
    ·exact test_all_p n dI d m b k v F all l r w hdI hm hn h hTab (test_every n) hl hg hw (.inl hk)
    ·exact test_all_p n dI d m b k v F all l r w hdI hm hn h hTab (test_every n) hl hg hw (.inr hk)
    ·exact test_header_p n dI d m b k v F all l r w hdI hm hn h hTab hg hw hk
    ·exact test_exists_p n dI d m b k v F all l r w hdI hm hn h hTab hg hw hk
    ·exact test_size_p n dI d m b k v F all l r w hdI hm hn h hTab hg hw hk
def CmdR (K H : Nat) (c : Cmd) (w' : World) (e : Ending) : Prop := ∃ vs : List Value, e = .returned (.agg vs.toArray) ∧ (cCmd K).rep w' (fun x => H ≤ x) c vs
def CmdsR (K H : Nat) (cs : List Cmd) (w' : World) (e : Ending) : Prop := ∃ v : Value, e = .returned v ∧ SAt (cCmd K) w' (fun x => H ≤ x) v cs
def CommandN (n : Nat) : Prop := ∀ (dI : Int) (d b : Nat) (v : Value) (F : Dom) (all l : List Tok) (w : World), dI = d → d ≤ 7 → all.length ≤ 100000 → RL w b v F all l → Tabs w b → l.length < n →
    Calls Tryz.prog 75 #[.pointer (some ⟨b, 0, none⟩), .int .i64 dI] w (Ans (CmdR (n + 7) w.heap.size) b v F all w (commandP n d l))
def BranchN (n : Nat) : Prop := ∀ (dI : Int) (d b : Nat) (v : Value) (F : Dom) (all l : List Tok) (w : World), dI = d → d ≤ 6 → all.length ≤ 100000 → RL w b v F all l → Tabs w b → l.length < n →
    Calls Tryz.prog 109 #[.pointer (some ⟨b, 0, none⟩), .int .i64 dI] w (Ans (CmdR (n + 7) w.heap.size) b v F all w (branchP n d l))
theorem cmds_end {f : List Tok → PR Cmd} {m : Nat} {r r4 : List Tok} (h : eatP 125 r = some r4) : cmdsP f (m + 1) r = .ok ([], r4) := by rw [cmdsP, h]
theorem cmds_more {f : List Tok → PR Cmd} {m : Nat} {r : List Tok} (h : eatP 125 r = none) {β : Type} (g : List Cmd → List Tok → PR β) : bnd (cmdsP f (m + 1) r) g = bnd (f r) fun c q => bnd (cmdsP f m q) fun cs q2 => g (c :: cs) q2 := by
 rw [cmdsP, h]
 show bnd (bnd (f r) _) g = _
 rw [bnd_assoc]
 cases f r with
 | error p => rfl
 | ok p =>
  show bnd (bnd (cmdsP f m p.2) _) g = bnd (cmdsP f m p.2) _
  rw [bnd_assoc]; rfl
theorem block_any (n : Nat) (hC : CommandN n) (dI : Int) (d b : Nat) (v : Value) (F : Dom) (all l : List Tok) (w : World) (hdI : dI = d) (hd : d ≤ 7) (hn : all.length ≤ 100000) (h : RL w b v F all l) (hTab : Tabs w b) (hl : l.length ≤ n) :
    Calls Tryz.prog 134 #[.pointer (some ⟨b, 0, none⟩), .int .i64 dI] w (Ans (CmdsR (n + 7) w.heap.size) b v F all w (blockP (commandP n d) l)) := by
 obtain ⟨Rz, hRz⟩ : ∃ Rz, Rz = blockP (commandP n d) l := ⟨_, rfl⟩
 rw [← hRz]
 have HZ : Hid (Rz = bnd (mustP 123 l) fun _ r => cmdsP (commandP n d) (r.length + 1) r) := hRz
 have HM := Lib.hid (must_any b v F all l 123 w hn h)
 have hlm := less_must 123 l
 have hbl := h.lt
 have hll := h.len
 have HTAB := Lib.hid hTab; have HDI := Lib.hid hdI
 have HCC : Hid (∀ (V : World) (q : List Tok), RL V b v F all q → w.grownBy V (some b) → q.length < n → Calls Tryz.prog 75 #[.pointer (some ⟨b, 0, none⟩), .int .i64 dI] V (Ans (CmdR (n + 7) V.heap.size) b v F all V (commandP n d q))) := fun V q h1 h2 h3 => hC dI d b v F all q V hdI hd hn h1 (HTAB.out.below (grown_low h2 (Nat.le_of_lt hbl))) h3
 obtain ⟨i0, hi, hz0, hz1, hz2⟩ := info_three info_cmd
 have HI0 := Lib.hid hi; have HZ0 := Lib.hid hz0; have HZ1 := Lib.hid hz1; have HZ2 := Lib.hid hz2
 clear hRz h hTab hC hdI hi hz0 hz1 hz2
 go_enter Tryz.func134, Tryz.ntmps134
 cases hx : mustP 123 l with
 | error p =>
  obtain ⟨kk, c⟩ := p
  rw [hx] at HM HZ
  clear hx hlm
  go_wp2_with fail
  refine HM.out.mono ?_
  intro e w9 hp
  obtain ⟨ch, rfl, HCH, g9⟩ := hp.err
  have G9 := Lib.hid g9
  clear g9 hp
  go_wp2_with fail
  refine ⟨rfl, ?_⟩
  rw [HZ.out]
  exact ⟨by rw [HCH.out], G9.out⟩
 | ok p =>
  obtain ⟨u, r1⟩ := p
  rw [hx] at HM HZ hlm
  have hr1l : r1.length + 1 ≤ l.length := hlm
  have HZ1' : Hid (Rz = bnd (cmdsP (commandP n d) (r1.length + 1) r1) fun cs q => .ok ([] ++ cs, q)) := by
   unfold Hid; rw [HZ.out]
   show cmdsP (commandP n d) (r1.length + 1) r1 = _
   cases cmdsP (commandP n d) (r1.length + 1) r1 <;> rfl
  clear hx hlm HZ
  go_wp2_with fail
  refine HM.out.mono ?_
  intro e w3 hp
  obtain ⟨rfl, hr3, g3⟩ := hp
  have HR3 := Lib.hid hr3; have HG3 := Lib.hid g3
  clear hr3 g3 HM
  go_wp2_with fail
  go_loopw [5] (fun vo wr => ∃ (ps : Held Cmd) (rr : List Tok) (mm : Nat), RL wr b v F all rr ∧ ORow (cCmd (n + 7)) 160 wr w.heap.size (DmB w.heap.size wr vo) vo ps ∧ rr.length < mm ∧ ps.length + rr.length ≤ 100001 ∧ rr.length < n ∧ Hid (Rz = bnd (cmdsP (commandP n d) mm rr) fun cs q => .ok (ps.map Prod.fst ++ cs, q)) ∧ w.grownBy wr (some b)) (fun _ wr => all.length - posT wr b)
  case atStart => exact ⟨[], r1, r1.length + 1, HR3.out, ORow.nil _ _ _ _ _, Nat.lt_succ_self _, by show 0 + _ ≤ _; omega, by omega, HZ1'.out, HG3.out⟩
  case round =>
   obtain ⟨ps, rr, mm, hr, hrow, hmm, hpr, hrn, HQ, hg⟩ := hrel
   obtain ⟨Gt, ct, rfl⟩ := ORow.shape hrow
   obtain ⟨mm', rfl⟩ : ∃ mm', mm = mm' + 1 := ⟨mm - 1, by omega⟩
   have HR := Lib.hid hr; have HROW := Lib.hid hrow; have HG := Lib.hid hg
   have HE := Lib.hid (eat_any b v F all rr 125 wr hn hr)
   clear hr hrow hg
   go_wp2_with fail
   refine HE.out.mono ?_
   rintro e w4 (⟨r4, hr4, rfl, h4, g4⟩ | ⟨hr4, rfl, h4, hb4⟩)
   ·have HQ2 : Hid (Rz = .ok (ps.map Prod.fst, r4)) := by unfold Hid; rw [HQ.out, cmds_end hr4]; show Except.ok _ = _; rw [List.append_nil]
    have hrow4 := HROW.out.kept g4 (by
     by_cases e : (Value.slice Gt ps.length ct).ownBlock = none
     ·exact .inl e
     ·refine .inr fun e2 => ?_
      have := (HROW.out.1.lt b e2).1
      omega) (fun x e => by obtain rfl : b = x := Option.some.inj e; exact DmB_off hbl)
    have HS := Lib.hid (ORow.sat (F := fun x => w.heap.size ≤ x) hrow4 (fun x hx => hx) (fun x hx => hx.1))
    have H4 := Lib.hid h4; have G4 := Lib.hid (Go.Lib.grownBy_trans HG.out g4)
    have hlen9 : (ps.map Prod.fst).length = ps.length := List.length_map _
    clear hr4 h4 g4 hrow4 HE HQ
    go_wp2_with fail
    go_ret
    rw [HQ2.out]
    exact ⟨⟨_, rfl, HS.out⟩, H4.out, G4.out⟩
   ·have HQ2 := Lib.hid HQ.out
    rw [cmds_more hr4] at HQ2
    have hrow4 := HROW.out.down hb4
    have HROW4 := Lib.hid hrow4
    have G4 := Lib.hid (Go.Lib.grownBy_below HG.out hb4)
    have HSZ : Hid (wr.heap.size ≤ w4.heap.size) := hb4.size
    have hcc := HCC.out w4 rr h4 G4.out hrn
    have hls := less_command n d rr
    clear hr4 h4 hb4 hrow4 HE HQ
    cases hx : commandP n d rr with
    | error p =>
     obtain ⟨kk, c⟩ := p
     rw [hx] at hcc HQ2
     have HC1 := Lib.hid hcc
     clear hx hcc hls
     go_wp2_with fail
     refine HC1.out.mono ?_
     intro e w9 hp
     obtain ⟨ch, rfl, HCH, g9⟩ := hp.err
     have G9 := Lib.hid (Go.Lib.grownBy_trans G4.out g9)
     clear g9 hp
     go_wp2_with fail
     refine ⟨rfl, ?_⟩
     rw [HQ2.out]
     exact ⟨by rw [HCH.out], G9.out⟩
    | ok p =>
     obtain ⟨y, r5⟩ := p
     rw [hx] at hcc HQ2 hls
     have hr5l : r5.length + 1 ≤ rr.length := hls
     have HC1 := Lib.hid hcc
     have HQ3 : Hid (Rz = bnd (cmdsP (commandP n d) mm' r5) fun cs q => .ok (ps.map Prod.fst ++ (y :: cs), q)) := HQ2.out
     clear hx hcc hls HQ2
     go_wp2_with fail
     refine HC1.out.mono ?_
     intro e w5 hp
     obtain ⟨⟨vs1, rfl, hr1⟩, h5, g5⟩ := hp
     obtain ⟨k, G0, n0, c0, k1, m1, p1, G1, n1, c1, G2, n2, c2, o1, l1, G3, n3, c3, G4', n4, c4, G5, n5, c5, rfl⟩ := cmd_form12 hr1
     have hal5 := ba (Below.refl w5.heap.size w5) (.cells #[.int .i64 k, .slice G0 n0 c0, .int .i64 k1, .int .i64 m1, .int .i64 p1, .slice G1 n1 c1, .slice G2 n2 c2, .bool o1, .int .i64 l1, .slice G3 n3 c3, .slice G4' n4 c4, .slice G5 n5 c5] 160)
     have hrow5 := (HROW4.out.kept g5 (by
      by_cases e : (Value.slice Gt ps.length ct).ownBlock = none
      ·exact .inl e
      ·refine .inr fun e2 => ?_
       have := (HROW4.out.1.lt b e2).1
       omega) (fun x e => by obtain rfl : b = x := Option.some.inj e; exact DmB_off hbl)).down hal5
     have HX6 : Hid ((cCmd (n + 7)).rep (w5.alloc (.cells #[.int .i64 k, .slice G0 n0 c0, .int .i64 k1, .int .i64 m1, .int .i64 p1, .slice G1 n1 c1, .slice G2 n2 c2, .bool o1, .int .i64 l1, .slice G3 n3 c3, .slice G4' n4 c4, .slice G5 n5 c5] 160)) (fun x => wr.heap.size ≤ x ∧ x < (w5.alloc (.cells #[.int .i64 k, .slice G0 n0 c0, .int .i64 k1, .int .i64 m1, .int .i64 p1, .slice G1 n1 c1, .slice G2 n2 c2, .bool o1, .int .i64 l1, .slice G3 n3 c3, .slice G4' n4 c4, .slice G5 n5 c5] 160)).heap.size) y [.int .i64 k, .slice G0 n0 c0, .int .i64 k1, .int .i64 m1, .int .i64 p1, .slice G1 n1 c1, .slice G2 n2 c2, .bool o1, .int .i64 l1, .slice G3 n3 c3, .slice G4' n4 c4, .slice G5 n5 c5]) :=
      (cCmd (n + 7)).mono ((cCmd (n + 7)).stable (cmd_bd _ hr1) (Same.of_below hal5) hal5.size) (fun x hx => ⟨Nat.le_trans HSZ.out hx.1, by rw [World.size_alloc]; have := hx.2; omega⟩)
     have HR6 := Lib.hid hrow5
     have HOWN := Lib.hid hrow5.1
     have HAL := Lib.hid hal5
     have H5 := Lib.hid h5
     have HG5 := Lib.hid (Go.Lib.grownBy_trans G4.out g5)
     have hzz : wr.heap.size ≤ w5.heap.size := Nat.le_trans HSZ.out g5.size
     have hzw : w.heap.size ≤ w5.heap.size := HG5.out.size
     clear hr1 h5 g5 hal5 hrow5 HC1
     go_wp2_with (at_builtin; refine wpList_append_lies _ (by rfl) _ _ _ (by rfl) w.heap.size 160 i0 _ 12 192 Tryz.underlying90 HI0.out HZ0.out HZ1.out HZ2.out rfl (by omega) (.slice Gt ps.length ct) ps.length (hcells ps) (by rfl) HOWN.out ⟨w5.heap.size, 0, none⟩ 1 1 [.int .i64 k, .slice G0 n0 c0, .int .i64 k1, .int .i64 m1, .int .i64 p1, .slice G1 n1 c1, .slice G2 n2 c2, .bool o1, .int .i64 l1, .slice G3 n3 c3, .slice G4' n4 c4, .slice G5 n5 c5] (by rfl) (by rfl) (news_of w5 _ _) (by simp [Value.oneCell']) (by omega) (by unfold maxLen; omega) (by omega) (by simp; omega) (w5.heap.size + 1) (by simp) ?_)
     intro g6 cap6 w6 hown6 hgrow6 hat6 hlt6
     have hlo : ∀ x, (Value.slice Gt ps.length ct).ownBlock = some x → w.heap.size ≤ x := fun x e => (HROW.out.1.lt x e).1
     have hrow6 := rowB_more (wr := wr) HR6.out (by rw [World.size_alloc]; omega) HX6.out (fun x e => (HROW.out.1.lt x e).2) HG.out.size (H := w5.heap.size + 1) (by simp) hown6 hgrow6 hat6
     have HROW6 := Lib.hid hrow6
     have HG6 := Lib.hid (grown_row HG5.out HAL.out hgrow6 hlo)
     have HRL6 := Lib.hid ((H5.out.below HAL.out).grown hgrow6 (fun x e => ⟨by have := hlo x e; omega, fun hF => by have := HR.out.low x hF; have := hlo x e; omega⟩))
     have HME := Lib.hid (HR.out.meas HRL6.out (by omega))
     clear hown6 hgrow6 hat6 hlt6 hlo hrow6
     go_wp2_with fail
     go_roundw
     case rel => exact ⟨ps ++ [(y, _)], r5, mm', HRL6.out, HROW6.out, by omega, by rw [List.length_append]; show ps.length + 1 + _ ≤ _; omega, by omega, by unfold Hid; simp only [List.map_append, List.append_assoc]; exact HQ3.out, HG6.out⟩
     case measure => exact HME.out
end Go.Proofs.YtmkppkjikifdlaaGreatDoor.Sc
