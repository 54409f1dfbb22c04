/- On the way. -/
import Derived.Test.YtmkppkjikifdlaaGreatDoorTScRd11
import Derived.Test.YtmkppkjikifdlaaGreatDoorTScCmd1
set_option linter.unusedVariables false
set_option linter.unusedSimpArgs false
set_option maxHeartbeats 8000000
set_option maxRecDepth 20000
namespace Go.Proofs.YtmkppkjikifdlaaGreatDoor.Sc
open Go.RowKit
open Tk (Tok)
structure RC (w0 w : World) (b T N : Nat) (v : Value) (F : Dom) (all l : List Tok) (cs : List Value) : Prop where
 rd : RL w b v F all l
 t : Has w T cs
 res : Has w N res12
 gr : w0.grownBy w (some b)
 bN : b < N
 NT : N < T
 N0 : w0.heap.size ≤ N
theorem RC.next {w0 w w' : World} {b T N : Nat} {v : Value} {F : Dom} {all l l' : List Tok} {cs : List Value} (h : RC w0 w b T N v F all l cs) (hr : RL w' b v F all l') (g : w.grownBy w' (some b)) : RC w0 w' b T N v F all l' cs :=
 ⟨hr, h.t.kept g (fun e => by have := Option.some.inj e; have := h.bN; have := h.NT; omega), h.res.kept g (fun e => by have := Option.some.inj e; have := h.bN; omega), Go.Lib.grownBy_trans h.gr g, h.bN, h.NT, h.N0⟩
theorem RC.down {w0 w w' : World} {b T N : Nat} {v : Value} {F : Dom} {all l : List Tok} {cs : List Value} (h : RC w0 w b T N v F all l cs) (g : Below w.heap.size w w') : RC w0 w' b T N v F all l cs := h.next (h.rd.below g) (gBelow g b)
theorem RC.set {w0 w : World} {b T N i : Nat} {v : Value} {F : Dom} {all l : List Tok} {cs : List Value} (h : RC w0 w b T N v F all l cs) (u : Value) (hi : i < cs.length) : RC w0 (w.setCell ⟨T, i, none⟩ u) b T N v F all l (cs.set i u) :=
 ⟨rl_far h.rd (by have := h.bN; have := h.NT; omega) u, h.t.set' u hi, h.res.else' (by have := h.NT; omega) u, grown_far h.gr (by have := h.NT; have := h.N0; omega) u, h.bN, h.NT, h.N0⟩
theorem RC.step {w0 w : World} {b T N n : Nat} {v : Value} {F : Dom} {all l : List Tok} {t : Tok} {cs : List Value} (h : RC w0 w b T N v F all (t :: l) cs) (hn : TLeft all n (t :: l)) : RC w0 (w.setCell ⟨b, 1, none⟩ (.int .i64 ((n : Int) + 1))) b T N v F all l cs := by
 obtain ⟨n', a1, a2⟩ := h.rd
 obtain rfl : n' = n := by have := a1.1; have := hn.1; omega
 exact ⟨⟨n' + 1, a1.cons.2.2, a2.step⟩, h.t.else' (by have := h.bN; have := h.NT; omega) _, h.res.else' (by have := h.bN; omega) _, Go.Lib.grownBy_setB h.gr 1 (.int .i64 ((n' : Int) + 1)), h.bN, h.NT, h.N0⟩
theorem RC.TW {w0 w : World} {b T N : Nat} {v : Value} {F : Dom} {all l : List Tok} {cs : List Value} (h : RC w0 w b T N v F all l cs) : T < w.heap.size := h.t.2.2
theorem agg_put12 {w0 W : World} {b T N K : Nat} {v : Value} {F : Dom} {all l : List Tok} {c : Cmd} {a0 a1 a2 a3 a4 a5 a6 a7 a8 a9 a10 a11 : Value} (h : RC w0 W b T N v F all l [a0, a1, a2, a3, a4, a5, a6, a7, a8, a9, a10, a11]) (hr : (cCmd K).rep W (fun x => w0.heap.size ≤ x ∧ x ≠ N) c [a0, a1, a2, a3, a4, a5, a6, a7, a8, a9, a10, a11]) :
    Has (put12 W N a0 a1 a2 a3 a4 a5 a6 a7 a8 a9 a10 a11) N [a0, a1, a2, a3, a4, a5, a6, a7, a8, a9, a10, a11] ∧
    Ans (CmdR K w0.heap.size) b v F all w0 (.ok (c, l)) (.returned (.agg #[a0, a1, a2, a3, a4, a5, a6, a7, a8, a9, a10, a11])) (put12 W N a0 a1 a2 a3 a4 a5 a6 a7 a8 a9 a10 a11) := by
 refine ⟨put12_has h.res _ _ _ _ _ _ _ _ _ _ _ _, ⟨_, rfl, ?_⟩, ?_, ?_⟩
 ·exact (cCmd K).mono ((cCmd K).stable hr (fun x hx _ => put12_same hx.2 _ _ _ _ _ _ _ _ _ _ _ _) (put12_size _ _ _ _ _ _ _ _ _ _ _ _)) (fun x hx => hx.1)
 ·unfold put12
  have hb := h.bN
  exact rl_far (rl_far (rl_far (rl_far (rl_far (rl_far (rl_far (rl_far (rl_far (rl_far (rl_far (rl_far h.rd hb _) hb _) hb _) hb _) hb _) hb _) hb _) hb _) hb _) hb _) hb _) hb _
 ·unfold put12
  have h0 := h.N0
  exact grown_far (grown_far (grown_far (grown_far (grown_far (grown_far (grown_far (grown_far (grown_far (grown_far (grown_far (grown_far h.gr h0 _) h0 _) h0 _) h0 _) h0 _) h0 _) h0 _) h0 _) h0 _) h0 _) h0 _) h0 _
def Dm2 (N T : Nat) : Dom := fun x => N < x ∧ x < T
theorem rep_in {α : Type} {c : Cod α} {w w' : World} {b N T : Nat} {x : α} {vs : List Value} (h : c.rep w (Dm2 N T) x vs) (g : w.grownBy w' (some b)) (hb : b ≤ N) : c.rep w' (Dm2 N T) x vs :=
 c.stable h (Same.of_grown g (fun x e hF => by obtain rfl : b = x := Option.some.inj e; have := hF.1; omega)) g.size
theorem rep_inT {α : Type} {c : Cod α} {w : World} {i N T : Nat} {x : α} {vs : List Value} (h : c.rep w (Dm2 N T) x vs) (u : Value) : c.rep (w.setCell ⟨T, i, none⟩ u) (Dm2 N T) x vs :=
 c.stable h (fun x hx _ => Below.heap_setCell _ _ _ _ (by show x ≠ T; have := hx.2; omega)) (by simp [World.setCell])
theorem sat_in {α : Type} {c : Cod α} {w w' : World} {b N T : Nat} {v : Value} {xs : List α} (h : SAt c w (Dm2 N T) v xs) (g : w.grownBy w' (some b)) (hb : b ≤ N) : SAt c w' (Dm2 N T) v xs :=
 h.stable (Same.of_grown g (fun x e hF => by obtain rfl : b = x := Option.some.inj e; have := hF.1; omega)) g.size
theorem sat_inT {α : Type} {c : Cod α} {w : World} {i N T : Nat} {v : Value} {xs : List α} (h : SAt c w (Dm2 N T) v xs) (u : Value) : SAt c (w.setCell ⟨T, i, none⟩ u) (Dm2 N T) v xs :=
 h.stable (fun x hx _ => Below.heap_setCell _ _ _ _ (by show x ≠ T; have := hx.2; omega)) (by simp [World.setCell])
theorem sat_one_cmd {w : World} {F : Dom} {K : Nat} {t : Cmd} {vs : List Value} {ty : TypeId} (h : (cCmd K).rep w F t vs) : SAt (cCmd K) (w.alloc (.cells vs.toArray ty)) (fun b => F b ∨ b = w.heap.size) (.slice (some ⟨w.heap.size, 0, none⟩) 1 1) [t] := by
 refine ⟨_, 1, rfl, Nat.le_refl _, fun i y hi => ?_⟩
 have h0 : i = 0 := by have := (List.getElem?_eq_some_iff.1 hi).1; simp at this; omega
 subst h0
 obtain rfl : t = y := Option.some.inj hi
 have hb := ba (Below.refl w.heap.size w) (.cells vs.toArray ty)
 exact ⟨w.heap.size, 0, rfl, .inr rfl, by simp, vs, (cCmd K).mono ((cCmd K).stable h (Same.of_below hb) hb.size) (fun b hb => .inl hb), fun j u hj => by have := (Has.alloc w vs ty).1 j u hj; simpa using this⟩
theorem if_rep {n N T H0 : Nat} {w : World} {t : Tst} {ts : List Value} {th el : List Cmd} {vh ve : Value} (ht : (cTst 7).rep w (Dm2 N T) t ts) (hh : SAt (cCmd (n + 7)) w (Dm2 N T) vh th) (he : SAt (cCmd (n + 7)) w (fun x => T < x) ve el) (h0 : H0 ≤ N) (h1 : N < T) :
    (cCmd (n + 1 + 7)).rep w (fun x => H0 ≤ x ∧ x ≠ N) ⟨2, [], t, th, el⟩ (.int .i64 2 :: .slice none 0 0 :: (ts ++ [vh, ve])) := by
 have e : n + 1 + 7 = (n + 7) + 1 := by omega
 rw [e]
 refine ⟨.slice none 0 0, ts, vh, ve, rfl, SAt.nil _ _ _, ?_, hh.mono (fun x hx => ⟨by have := hx.1; omega, by have := hx.1; omega⟩), he.mono (fun x hx => ⟨by omega, by omega⟩)⟩
 exact (cTst (n + 7 + 1)).mono (tst_le (by omega) ht) (fun x hx => ⟨by have := hx.1; omega, by have := hx.1; omega⟩)
theorem branch_succ (n : Nat) (hC : CommandN n) (hB : BranchN n) : BranchN (n + 1) := by
 intro dI d b v F all l w hdI hd hn h hTab hl
 obtain ⟨Rz, hRz⟩ : ∃ Rz, Rz = branchP (n + 1) d l := ⟨_, rfl⟩
 rw [← hRz]
 rw [branchP] at hRz
 have HZ := Lib.hid hRz
 have hbl := h.lt
 have hal := ba (Below.refl w.heap.size w) (.cells #[.int .i64 0, .slice none 0 0, .int .i64 0, .int .i64 0, .int .i64 0, .slice none 0 0, .slice none 0 0, .bool false, .int .i64 0, .slice none 0 0, .slice none 0 0, .slice none 0 0] 160)
 have HRS := Lib.hid (Has.alloc w [.int .i64 0, .slice none 0 0, .int .i64 0, .int .i64 0, .int .i64 0, .slice none 0 0, .slice none 0 0, .bool false, .int .i64 0, .slice none 0 0, .slice none 0 0, .slice none 0 0] 160)
 have HAL := Lib.hid hal
 have h1 := h.below hal
 have hTab1 := hTab.down (Nat.le_of_lt hbl) hal
 have HT := Lib.hid (test_every (l.length + 1) 1 1 7 b v F all l _ rfl rfl hn h1 hTab1 (Nat.lt_succ_self _))
 have HTAB := Lib.hid hTab
 have hlt := less_test (l.length + 1) 1 l
 have HBK : Hid (∀ (V : World) (q : List Tok), RL V b v F all q → w.grownBy V (some b) → q.length ≤ n → Calls Tryz.prog 134 #[.pointer (some ⟨b, 0, none⟩), .int .i64 (dI + 1)] V (Ans (CmdsR (n + 7) V.heap.size) b v F all V (blockP (commandP n (d + 1)) q))) := fun V q h1 h2 h3 => block_any n hC (dI + 1) (d + 1) b v F all q V (by omega) (by omega) hn h1 (HTAB.out.below (grown_low h2 (Nat.le_of_lt hbl))) h3
 have HBR : Hid (∀ (V : World) (q : List Tok), RL V b v F all q → w.grownBy V (some b) → q.length < n → Calls Tryz.prog 109 #[.pointer (some ⟨b, 0, none⟩), .int .i64 dI] V (Ans (CmdR (n + 7) V.heap.size) b v F all V (branchP n d q))) := fun V q h1 h2 h3 => hB dI d b v F all q V hdI hd hn h1 (HTAB.out.below (grown_low h2 (Nat.le_of_lt hbl))) h3
 have hdw : IntKind.i64.wrap (dI + 1) = dI + 1 := IntWalk.i64_in _ (by omega)
 have hd0 : 0 ≤ dI := by omega
 have hd9 : dI ≤ 6 := by omega
 have hll := h.len
 clear hRz h hal h1 hTab1 hTab hC hB hdI
 go_enter Tryz.func109, Tryz.ntmps109
 cases hx : testP (l.length + 1) 1 l with
 | error p =>
  obtain ⟨kk, c⟩ := p
  rw [hx] at HT HZ
  clear hx hlt
  go_wp2_with fail
  refine HT.out.mono ?_
  intro e w9 hp
  obtain ⟨ch, rfl, HCH, g9⟩ := hp.err
  have G9 := Lib.hid (Go.Lib.grownBy_trans (gBelow HAL.out b) g9)
  clear g9 hp
  go_wp2_with fail
  refine ⟨rfl, ?_⟩
  rw [HZ.out]
  exact ⟨by rw [HCH.out], G9.out⟩
 | ok p =>
  obtain ⟨t, r1⟩ := p
  rw [hx] at HT HZ hlt
  have hr1l : r1.length + 1 ≤ l.length := hlt
  have HZ1 : Hid (Rz = bnd (blockP (commandP n (d + 1)) r1) (elseK (commandP n (d + 1)) (branchP n d) t)) := HZ.out
  clear hx hlt HZ
  go_wp2_with fail
  refine HT.out.mono ?_
  intro e w3 hp
  obtain ⟨⟨vs, rfl, hrep⟩, hr3, g3⟩ := hp
  obtain ⟨k1, m1, p1, G1, n1, c1', G2, n2, c2', o1, l1, G3, n3, c3', rfl⟩ := oct_form hrep
  have hg3 := Go.Lib.grownBy_trans (gBelow HAL.out b) g3
  have HH1 : (w.alloc (.cells #[.int .i64 0, .slice none 0 0, .int .i64 0, .int .i64 0, .int .i64 0, .slice none 0 0, .slice none 0 0, .bool false, .int .i64 0, .slice none 0 0, .slice none 0 0, .slice none 0 0] 160)).heap.size = w.heap.size + 1 := World.size_alloc _ _
  have HREP3 : Hid ((cTst 7).rep w3 (Dm2 w.heap.size w3.heap.size) t [.int .i64 k1, .int .i64 m1, .int .i64 p1, .slice G1 n1 c1', .slice G2 n2 c2', .bool o1, .int .i64 l1, .slice G3 n3 c3']) := (cTst 7).mono (tst_bd 7 hrep) (fun x hx => ⟨by have := hx.1; omega, hx.2⟩)
  have hN3 : Has w3 w.heap.size res12 := HRS.out.kept g3 (fun e => by have := Option.some.inj e; omega)
  have HN3 := Lib.hid hN3; have HG3 := Lib.hid hg3; have HR3 := Lib.hid hr3
  have HSZ3 : Hid (w.heap.size + 1 ≤ w3.heap.size) := by have := g3.size; rw [World.size_alloc] at this; exact this
  have hB1 := HBK.out w3 r1 hr3 hg3 (by omega)
  have hlb := less_block (less_command n (d + 1)) r1
  clear HH1 hrep hr3 g3 hg3 hN3 HT HRS HAL
  cases hx : blockP (commandP n (d + 1)) r1 with
  | error p =>
   obtain ⟨kk, c⟩ := p
   rw [hx] at hB1 HZ1
   have HB1 := Lib.hid hB1
   clear hx hlb hB1
   go_wp2_with fail
   refine HB1.out.mono ?_
   intro e w9 hp
   obtain ⟨ch, rfl, HCH, g9⟩ := hp.err
   have G9 := Lib.hid (Go.Lib.grownBy_trans HG3.out g9)
   clear g9 hp
   go_wp2_with fail
   refine ⟨rfl, ?_⟩
   rw [HZ1.out]
   exact ⟨by rw [HCH.out], G9.out⟩
  | ok p =>
   obtain ⟨th, r2⟩ := p
   rw [hx] at hB1 HZ1 hlb
   have hr2l : r2.length + 2 ≤ r1.length := hlb
   have HB1 := Lib.hid hB1
   have HZ2 : Hid (Rz = elseK (commandP n (d + 1)) (branchP n d) t th r2) := HZ1.out
   clear hx hlb hB1 HZ1
   go_wp2_with fail
   refine HB1.out.mono ?_
   intro e w4 hp
   obtain ⟨⟨v4, rfl, hs4⟩, hr4, g4⟩ := hp
   obtain ⟨Gh, ch, rfl, -⟩ := hs4.form
   obtain ⟨nh, hnh⟩ : ∃ nh, nh = th.length := ⟨_, rfl⟩
   rw [← hnh] at hs4 ⊢
   have HNH := Lib.hid hnh
   have hal4 := ba (Below.refl w4.heap.size w4) (.cells #[.int .i64 2, .slice none 0 0, .int .i64 k1, .int .i64 m1, .int .i64 p1, .slice G1 n1 c1', .slice G2 n2 c2', .bool o1, .int .i64 l1, .slice G3 n3 c3', .slice Gh nh ch, .slice none 0 0] 160)
   have hrep4 : (cTst 7).rep w4 (Dm2 w.heap.size w4.heap.size) t [.int .i64 k1, .int .i64 m1, .int .i64 p1, .slice G1 n1 c1', .slice G2 n2 c2', .bool o1, .int .i64 l1, .slice G3 n3 c3'] := (cTst 7).mono (rep_in HREP3.out g4 (by omega)) (fun x hx => ⟨hx.1, Nat.lt_of_lt_of_le hx.2 g4.size⟩)
   have hth4 : SAt (cCmd (n + 7)) w4 (Dm2 w.heap.size w4.heap.size) (.slice Gh nh ch) th := (SAt.bd (fun _ _ hr => cmd_bd _ hr) hs4).mono (fun x hx => ⟨by have := hx.1; have := HSZ3.out; omega, hx.2⟩)
   have hH0 : RC w (w4.alloc (.cells #[.int .i64 2, .slice none 0 0, .int .i64 k1, .int .i64 m1, .int .i64 p1, .slice G1 n1 c1', .slice G2 n2 c2', .bool o1, .int .i64 l1, .slice G3 n3 c3', .slice Gh nh ch, .slice none 0 0] 160)) b w4.heap.size w.heap.size v F all r2 [.int .i64 2, .slice none 0 0, .int .i64 k1, .int .i64 m1, .int .i64 p1, .slice G1 n1 c1', .slice G2 n2 c2', .bool o1, .int .i64 l1, .slice G3 n3 c3', .slice Gh nh ch, .slice none 0 0] :=
    ⟨hr4.below hal4, Has.alloc w4 _ _, (HN3.out.kept g4 (fun e => by have := Option.some.inj e; omega)).down hal4, Go.Lib.grownBy_below (Go.Lib.grownBy_trans HG3.out g4) hal4, hbl, by have := g4.size; have := HSZ3.out; omega, Nat.le_refl _⟩
   have H0 : Hid (RC w (w4.alloc (.cells #[.int .i64 2, .slice none 0 0, .int .i64 k1, .int .i64 m1, .int .i64 p1, .slice G1 n1 c1', .slice G2 n2 c2', .bool o1, .int .i64 l1, .slice G3 n3 c3', .slice Gh nh ch, .slice none 0 0] 160)) b w4.heap.size w.heap.size v F all r2 [.int .i64 2, .slice none 0 0, .int .i64 k1, .int .i64 m1, .int .i64 p1, .slice G1 n1 c1', .slice G2 n2 c2', .bool o1, .int .i64 l1, .slice G3 n3 c3', .slice Gh nh ch, .slice none 0 0] ∧ (cTst 7).rep (w4.alloc (.cells #[.int .i64 2, .slice none 0 0, .int .i64 k1, .int .i64 m1, .int .i64 p1, .slice G1 n1 c1', .slice G2 n2 c2', .bool o1, .int .i64 l1, .slice G3 n3 c3', .slice Gh nh ch, .slice none 0 0] 160)) (Dm2 w.heap.size w4.heap.size) t [.int .i64 k1, .int .i64 m1, .int .i64 p1, .slice G1 n1 c1', .slice G2 n2 c2', .bool o1, .int .i64 l1, .slice G3 n3 c3'] ∧ SAt (cCmd (n + 7)) (w4.alloc (.cells #[.int .i64 2, .slice none 0 0, .int .i64 k1, .int .i64 m1, .int .i64 p1, .slice G1 n1 c1', .slice G2 n2 c2', .bool o1, .int .i64 l1, .slice G3 n3 c3', .slice Gh nh ch, .slice none 0 0] 160)) (Dm2 w.heap.size w4.heap.size) (.slice Gh nh ch) th) :=
    ⟨hH0, (cTst 7).stable hrep4 (Same.of_below hal4) hal4.size, hth4.down hal4⟩
   clear hs4 hr4 g4 hal4 hrep4 hth4 hH0 hnh HB1
   go_upto_region 2 with fail
   refine wp_at (R := fun W => RC w W b w4.heap.size w.heap.size v F all r2 [.int .i64 2, .slice none 0 0, .int .i64 k1, .int .i64 m1, .int .i64 p1, .slice G1 n1 c1', .slice G2 n2 c2', .bool o1, .int .i64 l1, .slice G3 n3 c3', .slice Gh nh ch, .slice none 0 0] ∧ (cTst 7).rep W (Dm2 w.heap.size w4.heap.size) t [.int .i64 k1, .int .i64 m1, .int .i64 p1, .slice G1 n1 c1', .slice G2 n2 c2', .bool o1, .int .i64 l1, .slice G3 n3 c3'] ∧ SAt (cCmd (n + 7)) W (Dm2 w.heap.size w4.heap.size) (.slice Gh nh ch) th) H0.out (fun W hW => ?_)
   clear H0
   generalize hT4 : w4.heap.size = T at hW ⊢
   clear hT4
   obtain ⟨N, hN⟩ : ∃ N, N = w.heap.size := ⟨_, rfl⟩
   have HNN := Lib.hid hN
   rw [← hN] at hW ⊢
   clear hN
   obtain ⟨hW, hTe, hTh⟩ := hW
   have HTE := Lib.hid hTe; have HTHN := Lib.hid hTh
   have HW := Lib.hid hW
   have hNT := hW.NT; have hbN := hW.bN
   obtain ⟨pz, hl1, hr1⟩ := hW.rd
   have HI1 : Hid (Calls Tryz.prog 135 #[.pointer (some ⟨b, 0, none⟩), .int .i64 1, .string ⟨#[101, 108, 115, 105, 102]⟩] W fun e w' => e = .returned (.bool (isP 1 elsifW r2)) ∧ Below W.heap.size W w') := is_any b pz _ F all r2 1 elsifW W hn hl1 hr1
   have HI2 : Hid (∀ V, RT V b v F all pz → Calls Tryz.prog 135 #[.pointer (some ⟨b, 0, none⟩), .int .i64 1, .string ⟨#[101, 108, 115, 101]⟩] V fun e w' => e = .returned (.bool (isP 1 elseW r2)) ∧ Below V.heap.size V w') := fun V hV => is_any b pz _ F all r2 1 elseW V hn hl1 hV
   have HL1 := Lib.hid hl1; have HR1 := Lib.hid hr1
   have hp1 : pz ≤ 100000 := by have := hl1.1; omega
   have HCI := Lib.hid (isP_cons (k := 1) (s := elsifW) (l := r2)); have HCE := Lib.hid (isP_cons (k := 1) (s := elseW) (l := r2))
   have HZ3 : Hid (Rz = if isP 1 elsifW r2 = true then bnd (branchP n d r2.tail) fun c r => .ok (⟨2, [], t, th, [c]⟩, r) else if isP 1 elseW r2 = true then bnd (blockP (commandP n (d + 1)) r2.tail) fun el r => .ok (⟨2, [], t, th, el⟩, r) else .ok (⟨2, [], t, th, []⟩, r2)) := HZ2.out
   obtain ⟨qi, hqi⟩ : ∃ qi, qi = isP 1 elsifW r2 := ⟨_, rfl⟩
   obtain ⟨qe, hqe⟩ : ∃ qe, qe = isP 1 elseW r2 := ⟨_, rfl⟩
   rw [← hqi] at HI1 HCI HZ3
   rw [← hqe] at HI2 HCE HZ3
   clear hW hTe hTh hl1 hr1 hqi hqe HZ2
   cases qi with
   | true =>
    obtain ⟨tt, q, rfl, -, -⟩ := HCI.out rfl
    rw [List.length_cons] at hr2l
    have HZ4 : Hid (Rz = bnd (branchP n d q) fun c r => .ok (⟨2, [], t, th, [c]⟩, r)) := by unfold Hid; rw [HZ3.out, if_pos rfl]; rfl
    clear HZ3
    go_wp2_with fail
    refine HI1.out.mono ?_
    rintro e w5 ⟨rfl, hb5⟩
    have hr5 := HR1.out.below hb5
    have cc1 := hr5.c1
    have ff1 := hr5.f1
    have hV := (HW.out.down hb5).step HL1.out
    have g5 := Go.Lib.grownBy_setB (gBelow hb5 b) 1 (.int .i64 ((pz : Int) + 1))
    have HV := Lib.hid hV
    have HTE5 := Lib.hid (rep_in HTE.out g5 (Nat.le_of_lt hbN)); have HTH5 := Lib.hid (sat_in HTHN.out g5 (Nat.le_of_lt hbN))
    have hB5 := HBR.out _ q hV.rd hV.gr (by omega)
    have HSZ5 : Hid (T < (w5.setCell ⟨b, 1, none⟩ (.int .i64 ((pz : Int) + 1))).heap.size) := hV.TW
    clear hb5 hr5 hV g5 HI1 HI2 HTE HTHN
    cases hx : branchP n d q with
    | error p =>
     obtain ⟨kk, c⟩ := p
     rw [hx] at hB5 HZ4
     have HB5 := Lib.hid hB5
     clear hx hB5
     go_wp2_with fail
     refine HB5.out.mono ?_
     intro e w9 hp
     obtain ⟨ch, rfl, HCH, g9⟩ := hp.err
     have G9 := Lib.hid (Go.Lib.grownBy_trans HV.out.gr g9)
     clear g9 hp
     go_wp2_with fail
     refine ⟨rfl, ?_⟩
     rw [HZ4.out]
     exact ⟨by rw [HCH.out], G9.out⟩
    | ok p =>
     obtain ⟨y, r6⟩ := p
     rw [hx] at hB5 HZ4
     have HB5 := Lib.hid hB5
     have HZ5 : Hid (Rz = .ok (⟨2, [], t, th, [y]⟩, r6)) := HZ4.out
     clear hx hB5 HZ4
     go_wp2_with fail
     refine HB5.out.mono ?_
     intro e w6 hp
     obtain ⟨⟨vs6, rfl, hr6⟩, h6, g6⟩ := hp
     obtain ⟨k, G0, n0, c0, kq, mq, pq, Gq1, nq1, cq1, Gq2, nq2, cq2, oq, lq, Gq3, nq3, cq3, G4', n4, c4, G5, n5, c5, rfl⟩ := cmd_form12 hr6
     have hal6 := ba (Below.refl w6.heap.size w6) (.cells #[.int .i64 k, .slice G0 n0 c0, .int .i64 kq, .int .i64 mq, .int .i64 pq, .slice Gq1 nq1 cq1, .slice Gq2 nq2 cq2, .bool oq, .int .i64 lq, .slice Gq3 nq3 cq3, .slice G4' n4 c4, .slice G5 n5 c5] 160)
     have hw6 := (HV.out.next h6 g6).down hal6
     have e11' := hw6.t.1 11 _ rfl
     have f11' := hw6.t.2.1 11 (by simp)
     have hz6 := g6.size
     have hsa := (sat_one_cmd (ty := 160) hr6).mono (F' := fun x => T < x) (fun x hx => by have := HSZ5.out; rcases hx with hx | hx <;> omega)
     have HW9 := Lib.hid (hw6.set (i := 11) (.slice (some ⟨w6.heap.size, 0, none⟩) 1 1) (by simp))
     have HREP := Lib.hid (if_rep (n := n) (H0 := w.heap.size) (rep_inT (i := 11) ((cTst 7).stable (rep_in HTE5.out g6 (Nat.le_of_lt hbN)) (Same.of_below hal6) hal6.size) (.slice (some ⟨w6.heap.size, 0, none⟩) 1 1)) (sat_inT ((sat_in HTH5.out g6 (Nat.le_of_lt hbN)).down hal6) _) (sat_set (H := T + 1) hsa (Nat.lt_succ_self _) _) (by rw [HNN.out]; exact Nat.le_refl _) hNT)
     clear hr6 h6 g6 hal6 hw6 hsa hz6 HB5
     go_upto_region 8 with fail
     generalize w6.heap.size = X at HW9 HREP ⊢
     clear e11' f11'
     obtain ⟨e0, e1, e2, e3, e4, e5, e6, e7, e8, e9, e10, e11⟩ := has_12 HW9.out.t
     obtain ⟨r0, r1, r2, r3, r4, r5, r6, r7, r8, r9, r10, r11⟩ := has_12 HW9.out.res
     have f0 := HW9.out.res.2.1 0 (by simp [res12]); have f1 := HW9.out.res.2.1 1 (by simp [res12]); have f2 := HW9.out.res.2.1 2 (by simp [res12]); have f3 := HW9.out.res.2.1 3 (by simp [res12]); have f4 := HW9.out.res.2.1 4 (by simp [res12]); have f5 := HW9.out.res.2.1 5 (by simp [res12]); have f6 := HW9.out.res.2.1 6 (by simp [res12]); have f7 := HW9.out.res.2.1 7 (by simp [res12]); have f8 := HW9.out.res.2.1 8 (by simp [res12]); have f9 := HW9.out.res.2.1 9 (by simp [res12]); have f10 := HW9.out.res.2.1 10 (by simp [res12]); have f11 := HW9.out.res.2.1 11 (by simp [res12])
     have hfin := agg_put12 HW9.out HREP.out
     obtain ⟨x0, x1, x2, x3, x4, x5, x6, x7, x8, x9, x10, x11⟩ := has_12 hfin.1
     have HANS := Lib.hid hfin.2
     unfold put12 at x0 x1 x2 x3 x4 x5 x6 x7 x8 x9 x10 x11 HANS
     clear hfin
     go_wp2_with fail
     refine bodyPost_ret (v := .agg #[.int .i64 2, .slice none 0 0, .int .i64 k1, .int .i64 m1, .int .i64 p1, .slice G1 n1 c1', .slice G2 n2 c2', .bool o1, .int .i64 l1, .slice G3 n3 c3', .slice Gh nh ch, .slice (some ⟨X, 0, none⟩) 1 1]) ?_ rfl ?_
     ·simp [results, Tryz.results109, go_sem, x0, x1, x2, x3, x4, x5, x6, x7, x8, x9, x10, x11]
     ·rw [HZ5.out]; exact HANS.out
   | false =>
    cases qe with
    | true =>
     obtain ⟨tt, q, rfl, -, -⟩ := HCE.out rfl
     rw [List.length_cons] at hr2l
     have HZ4 : Hid (Rz = bnd (blockP (commandP n (d + 1)) q) fun el r => .ok (⟨2, [], t, th, el⟩, r)) := by unfold Hid; rw [HZ3.out, if_neg (by decide), if_pos rfl]; rfl
     clear HZ3
     go_wp2_with fail
     refine HI1.out.mono ?_
     rintro e w5 ⟨rfl, hb5⟩
     have hr5 := HR1.out.below hb5
     have HR5 := Lib.hid hr5
     have HI3 := Lib.hid (HI2.out _ hr5)
     have HB5' := Lib.hid hb5
     clear hb5 hr5 HI1 HI2
     go_wp2_with fail
     refine HI3.out.mono ?_
     rintro e w7 ⟨rfl, hb7⟩
     have hr7 := HR5.out.below hb7
     have cc1 := hr7.c1
     have ff1 := hr7.f1
     have hV := ((HW.out.down HB5'.out).down hb7).step HL1.out
     have g5 := Go.Lib.grownBy_setB (gBelow (bt HB5'.out hb7) b) 1 (.int .i64 ((pz : Int) + 1))
     have HV := Lib.hid hV
     have HTE5 := Lib.hid (rep_in HTE.out g5 (Nat.le_of_lt hbN)); have HTH5 := Lib.hid (sat_in HTHN.out g5 (Nat.le_of_lt hbN))
     have hB5 := HBK.out _ q hV.rd hV.gr (by omega)
     have HSZ5 : Hid (T < (w7.setCell ⟨b, 1, none⟩ (.int .i64 ((pz : Int) + 1))).heap.size) := hV.TW
     clear hb7 hr7 hV g5 HI3 HB5' HTE HTHN
     cases hx : blockP (commandP n (d + 1)) q with
     | error p =>
      obtain ⟨kk, c⟩ := p
      rw [hx] at hB5 HZ4
      have HB5 := Lib.hid hB5
      clear hx hB5
      go_wp2_with fail
      refine HB5.out.mono ?_
      intro e w9 hp
      obtain ⟨ch, rfl, HCH, g9⟩ := hp.err
      have G9 := Lib.hid (Go.Lib.grownBy_trans HV.out.gr g9)
      clear g9 hp
      go_wp2_with fail
      refine ⟨rfl, ?_⟩
      rw [HZ4.out]
      exact ⟨by rw [HCH.out], G9.out⟩
     | ok p =>
      obtain ⟨el, r6⟩ := p
      rw [hx] at hB5 HZ4
      have HB5 := Lib.hid hB5
      have HZ5 : Hid (Rz = .ok (⟨2, [], t, th, el⟩, r6)) := HZ4.out
      clear hx hB5 HZ4
      go_wp2_with fail
      refine HB5.out.mono ?_
      intro e w6 hp
      obtain ⟨⟨v6, rfl, hs6⟩, h6, g6⟩ := hp
      obtain ⟨Ge, ce, rfl, -⟩ := hs6.form
      obtain ⟨ne, hne⟩ : ∃ ne, ne = el.length := ⟨_, rfl⟩
      rw [← hne] at hs6 ⊢
      have hw6 := HV.out.next h6 g6
      have e11' := hw6.t.1 11 _ rfl
      have f11' := hw6.t.2.1 11 (by simp)
      have hsa := hs6.mono (F' := fun x => T < x) (fun x hx => by have := HSZ5.out; omega)
      have HW9 := Lib.hid (hw6.set (i := 11) (.slice Ge ne ce) (by simp))
      have HREP := Lib.hid (if_rep (n := n) (H0 := w.heap.size) (rep_inT (i := 11) (rep_in HTE5.out g6 (Nat.le_of_lt hbN)) (.slice Ge ne ce)) (sat_inT (sat_in HTH5.out g6 (Nat.le_of_lt hbN)) _) (sat_set (H := T + 1) hsa (Nat.lt_succ_self _) _) (by rw [HNN.out]; exact Nat.le_refl _) hNT)
      clear hs6 h6 g6 hw6 hsa hne HB5
      go_upto_region 8 with fail
      clear e11' f11'
      obtain ⟨e0, e1, e2, e3, e4, e5, e6, e7, e8, e9, e10, e11⟩ := has_12 HW9.out.t
      obtain ⟨r0, r1, r2, r3, r4, r5, r6, r7, r8, r9, r10, r11⟩ := has_12 HW9.out.res
      have f0 := HW9.out.res.2.1 0 (by simp [res12]); have f1 := HW9.out.res.2.1 1 (by simp [res12]); have f2 := HW9.out.res.2.1 2 (by simp [res12]); have f3 := HW9.out.res.2.1 3 (by simp [res12]); have f4 := HW9.out.res.2.1 4 (by simp [res12]); have f5 := HW9.out.res.2.1 5 (by simp [res12]); have f6 := HW9.out.res.2.1 6 (by simp [res12]); have f7 := HW9.out.res.2.1 7 (by simp [res12]); have f8 := HW9.out.res.2.1 8 (by simp [res12]); have f9 := HW9.out.res.2.1 9 (by simp [res12]); have f10 := HW9.out.res.2.1 10 (by simp [res12]); have f11 := HW9.out.res.2.1 11 (by simp [res12])
      have hfin := agg_put12 HW9.out HREP.out
      obtain ⟨x0, x1, x2, x3, x4, x5, x6, x7, x8, x9, x10, x11⟩ := has_12 hfin.1
      have HANS := Lib.hid hfin.2
      unfold put12 at x0 x1 x2 x3 x4 x5 x6 x7 x8 x9 x10 x11 HANS
      clear hfin
      go_wp2_with fail
      refine bodyPost_ret (v := .agg #[.int .i64 2, .slice none 0 0, .int .i64 k1, .int .i64 m1, .int .i64 p1, .slice G1 n1 c1', .slice G2 n2 c2', .bool o1, .int .i64 l1, .slice G3 n3 c3', .slice Gh nh ch, .slice Ge ne ce]) ?_ rfl ?_
      ·simp [results, Tryz.results109, go_sem, x0, x1, x2, x3, x4, x5, x6, x7, x8, x9, x10, x11]
      ·rw [HZ5.out]; exact HANS.out
    | false =>
     have HZ5 : Hid (Rz = .ok (⟨2, [], t, th, []⟩, r2)) := by unfold Hid; rw [HZ3.out, if_neg (by decide), if_neg (by decide)]
     clear HZ3
     go_wp2_with fail
     refine HI1.out.mono ?_
     rintro e w5 ⟨rfl, hb5⟩
     have hr5 := HR1.out.below hb5
     have HI3 := Lib.hid (HI2.out _ hr5)
     have HB5' := Lib.hid hb5
     clear hb5 hr5 HI1 HI2
     go_wp2_with fail
     refine HI3.out.mono ?_
     rintro e w7 ⟨rfl, hb7⟩
     have HW9 := Lib.hid ((HW.out.down HB5'.out).down hb7)
     have g7 := gBelow (bt HB5'.out hb7) b
     have HREP := Lib.hid (if_rep (n := n) (H0 := w.heap.size) (rep_in HTE.out g7 (Nat.le_of_lt hbN)) (sat_in HTHN.out g7 (Nat.le_of_lt hbN)) (SAt.nil _ _ _) (by rw [HNN.out]; exact Nat.le_refl _) hNT)
     clear hb7 g7 HI3 HB5'
     go_upto_region 8 with fail
     obtain ⟨e0, e1, e2, e3, e4, e5, e6, e7, e8, e9, e10, e11⟩ := has_12 HW9.out.t
     obtain ⟨r0, r1, r2, r3, r4, r5, r6, r7, r8, r9, r10, r11⟩ := has_12 HW9.out.res
     have f0 := HW9.out.res.2.1 0 (by simp [res12]); have f1 := HW9.out.res.2.1 1 (by simp [res12]); have f2 := HW9.out.res.2.1 2 (by simp [res12]); have f3 := HW9.out.res.2.1 3 (by simp [res12]); have f4 := HW9.out.res.2.1 4 (by simp [res12]); have f5 := HW9.out.res.2.1 5 (by simp [res12]); have f6 := HW9.out.res.2.1 6 (by simp [res12]); have f7 := HW9.out.res.2.1 7 (by simp [res12]); have f8 := HW9.out.res.2.1 8 (by simp [res12]); have f9 := HW9.out.res.2.1 9 (by simp [res12]); have f10 := HW9.out.res.2.1 10 (by simp [res12]); have f11 := HW9.out.res.2.1 11 (by simp [res12])
     have hfin := agg_put12 HW9.out HREP.out
     obtain ⟨x0, x1, x2, x3, x4, x5, x6, x7, x8, x9, x10, x11⟩ := has_12 hfin.1
     have HANS := Lib.hid hfin.2
     unfold put12 at x0 x1 x2 x3 x4 x5 x6 x7 x8 x9 x10 x11 HANS
     clear hfin
     go_wp2_with fail
     refine bodyPost_ret (v := .agg #[.int .i64 2, .slice none 0 0, .int .i64 k1, .int .i64 m1, .int .i64 p1, .slice G1 n1 c1', .slice G2 n2 c2', .bool o1, .int .i64 l1, .slice G3 n3 c3', .slice Gh nh ch, .slice none 0 0]) ?_ rfl ?_
     ·simp [results, Tryz.results109, go_sem, x0, x1, x2, x3, x4, x5, x6, x7, x8, x9, x10, x11]
     ·rw [HZ5.out]; exact HANS.out
end Go.Proofs.YtmkppkjikifdlaaGreatDoor.Sc
