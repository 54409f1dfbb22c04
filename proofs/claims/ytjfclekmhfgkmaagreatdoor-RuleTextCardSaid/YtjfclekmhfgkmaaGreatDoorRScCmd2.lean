/- On the way. -/
import Derived.Test.YtjfclekmhfgkmaaGreatDoorRScCmd1
import Derived.Test.YtjfclekmhfgkmaaGreatDoorRScWrote
set_option linter.unusedVariables false
set_option linter.unusedSimpArgs false
set_option maxHeartbeats 8000000
set_option maxRecDepth 20000
namespace Go.Proofs.YtjfclekmhfgkmaaGreatDoor.Sc
open Go.RowKit
open Tk (Tok)
theorem tst_eight {K : Nat} {w : World} {F : Dom} {t : Tst} {vs : List Value} (h : (cTst K).rep w F t vs) : ∃ k m p G1 n1 c1 G2 n2 c2 o l G3 n3 c3, vs = [.int .i64 k, .int .i64 m, .int .i64 p, .slice G1 n1 c1, .slice G2 n2 c2, .bool o, .int .i64 l, .slice G3 n3 c3] := by
 obtain ⟨_, Gn, cn, Gk, ck, Gt, ct, -, rfl, -⟩ := tst_open h
 exact ⟨_, _, _, _, _, _, _, _, _, _, _, _, _, _, rfl⟩
structure CI (w W : World) (S C : Nat) (xs cv : List Value) : Prop where
 cb : CB0 w W S xs
 c : Has W C cv
theorem CI.down {w W V : World} {S C : Nat} {xs cv : List Value} (h : CI w W S C xs cv) (hb : Below W.heap.size W V) : CI w V S C xs cv := ⟨h.cb.down hb, h.c.down hb⟩
theorem CI.put {w W : World} {S C i : Nat} {xs cv : List Value} (h : CI w W S C xs cv) (hC : S + 1 < C) (hS : w.heap.size ≤ S) (u : Value) (hi : i < cv.length) : CI w (W.setCell ⟨C, i, none⟩ u) S C xs (cv.set i u) := ⟨h.cb.put hC hS i u, h.c.set' u hi⟩
def askV (G : Option Addr) (n c : Nat) : Value := if n = 0 then .slice none 0 0 else .slice G 1 c
theorem ask_rep {n : Nat} {w : World} {F : Dom} {x : Stk} {G : Option Addr} {c : Nat} (hv : SAt (cStk n) w F (.slice G x.subs.length c) x.subs) (hb : Bd x) (hc : x.subs.length ≤ c) : (cStk (n + 1)).rep w F (askS x) (stkC (askS x) (askV G x.subs.length c)) := by
 refine ⟨⟨askV G x.subs.length c, rfl, ?_⟩, ⟨hb.a, hb.b, hb.a, hb.s, hb.t, ?_⟩⟩
 ·show SAt (cStk n) w F _ (x.subs.take 1)
  unfold askV
  split
  ·rename_i h
   rw [List.eq_nil_of_length_eq_zero h]
   exact SAt.nil _ _ _
  ·exact hv.take 1 c (by omega) (by omega)
 ·show (x.subs.take 1).length ≤ _
  rw [List.length_take]; omega
theorem cmds_none (m K : Nat) (n : Nat) (d : Int) (hIH : CmdAt m K d) (G : Option Addr) (c : Nat) (w : World) : Calls Tryz.prog 10 #[.slice G 0 c, .int .i64 d] w (CmdsPost (cmdsS m []) K w) :=
 commands_any m K n [] _ d (fun _ => True) w hIH ⟨G, c, rfl, Nat.zero_le _, fun i x h => by simp at h⟩ (by simp)
theorem cmd_rep {K : Nat} {W : World} {F : Dom} {t : Tst} {th el : List Cmd} {ts : List Value} {vh ve : Value} (ht : (cTst 6).rep W F t ts) (h1 : SAt (cCmd K) W F vh th) (h2 : SAt (cCmd K) W F ve el) : (cCmd (K + 7)).rep W F ⟨2, [], t, th, el⟩ (.int .i64 2 :: .slice none 0 0 :: (ts ++ [vh, ve])) :=
 ⟨.slice none 0 0, ts, vh, ve, rfl, SAt.nil _ _ _, tst_le (by omega) ht, cmds_le (by omega) h1, cmds_le (by omega) h2⟩
theorem rep_put {W : World} {C i : Nat} {u : Value} {t : Tst} {ts : List Value} (h : (cTst 6).rep W (fun b => C < b) t ts) : (cTst 6).rep (W.setCell ⟨C, i, none⟩ u) (fun b => C < b) t ts :=
 (cTst 6).stable h (fun b hb _ => Below.heap_setCell _ _ _ _ (by show b ≠ C; omega)) (by simp [World.setCell])
theorem sat_put {K : Nat} {W : World} {C i : Nat} {u v : Value} {l : List Cmd} (h : SAt (cCmd K) W (fun b => C < b) v l) : SAt (cCmd K) (W.setCell ⟨C, i, none⟩ u) (fun b => C < b) v l :=
 h.stable (fun b hb _ => Below.heap_setCell _ _ _ _ (by show b ≠ C; omega)) (by simp [World.setCell])
theorem ci_test {w W : World} {S C : Nat} {xs : List Value} {t : Tst} {a0 a1 a2 a3 a4 a5 a6 a7 a8 a9 a10 a11 t0 t1 t2 t3 t4 t5 t6 t7 : Value} (h : CI w W S C xs [a0, a1, a2, a3, a4, a5, a6, a7, a8, a9, a10, a11]) (hC : S + 1 < C) (hS : w.heap.size ≤ S) (hr : (cTst 6).rep W (fun b => C < b) t [t0, t1, t2, t3, t4, t5, t6, t7]) :
    CI w ((((((((W.setCell ⟨C, 2, none⟩ t0).setCell ⟨C, 3, none⟩ t1).setCell ⟨C, 4, none⟩ t2).setCell ⟨C, 5, none⟩ t3).setCell ⟨C, 6, none⟩ t4).setCell ⟨C, 7, none⟩ t5).setCell ⟨C, 8, none⟩ t6).setCell ⟨C, 9, none⟩ t7) S C xs [a0, a1, t0, t1, t2, t3, t4, t5, t6, t7, a10, a11] ∧
    (cTst 6).rep ((((((((W.setCell ⟨C, 2, none⟩ t0).setCell ⟨C, 3, none⟩ t1).setCell ⟨C, 4, none⟩ t2).setCell ⟨C, 5, none⟩ t3).setCell ⟨C, 6, none⟩ t4).setCell ⟨C, 7, none⟩ t5).setCell ⟨C, 8, none⟩ t6).setCell ⟨C, 9, none⟩ t7) (fun b => C < b) t [t0, t1, t2, t3, t4, t5, t6, t7] := by
 have h2 := h.put hC hS (i := 2) t0 (by simp)
 have h3 := h2.put hC hS (i := 3) t1 (by simp)
 have h4 := h3.put hC hS (i := 4) t2 (by simp)
 have h5 := h4.put hC hS (i := 5) t3 (by simp)
 have h6 := h5.put hC hS (i := 6) t4 (by simp)
 have h7 := h6.put hC hS (i := 7) t5 (by simp)
 have h8 := h7.put hC hS (i := 8) t6 (by simp)
 have h9 := h8.put hC hS (i := 9) t7 (by simp)
 refine ⟨h9, (cTst 6).stable hr (fun b hb _ => ?_) (by simp [World.setCell])⟩
 have hne : b ≠ C := by omega
 rw [Below.heap_setCell _ _ _ _ hne, Below.heap_setCell _ _ _ _ hne, Below.heap_setCell _ _ _ _ hne, Below.heap_setCell _ _ _ _ hne, Below.heap_setCell _ _ _ _ hne, Below.heap_setCell _ _ _ _ hne, Below.heap_setCell _ _ _ _ hne, Below.heap_setCell _ _ _ _ hne]
theorem cmd_if (m K n : Nat) (x : Stk) (v : Value) (d : Int) (F : Dom) (w : World) (hIH : CmdAt m K (d + 1)) (hv : SAt (cStk n) w F v x.subs) (hb : Bd x) (h : kindC x = 2) (hd : 0 ≤ d ∧ d ≤ 1) :
    Calls Tryz.prog 25 #[.agg (stkC x v).toArray, .int .i64 d] w (CmdPost (cmdS (m + 1) x) (K + 7) w) := by
 have HPK : Hid (∀ w, Calls Tryz.prog 43 #[.int .i64 x.kind, .int .i64 12] w fun e w' => e = .returned (.int .i64 (pick x.kind 12)) ∧ w = w') := fun w => picked_any x.kind 12 w hb.k.1 hb.k.2 (by omega) (by omega)
 have hp := pick_lt_int x.kind 12 (by omega)
 have hkd : kindC x = kTab.getD (pick x.kind 12) 0 := rfl
 rw [h] at hkd
 obtain ⟨p, hpp⟩ : ∃ p, p = pick x.kind 12 := ⟨_, rfl⟩
 rw [← hpp] at HPK hp hkd
 obtain ⟨G, c, rfl, hlc⟩ := hv.form
 have hcc : cmdS (m + 1) x = ⟨2, [], testS 2 (askS x), cmdsS m (x.subs.take (halfS x)), cmdsS m (x.subs.drop (halfS x))⟩ := by rw [cmdS, if_pos h]; rfl
 obtain ⟨cc, hc2⟩ : ∃ cc, cc = cmdS (m + 1) x := ⟨_, rfl⟩
 rw [← hc2] at hcc ⊢
 have HCC := Lib.hid hcc
 have HCS := Lib.hid (cb_start w (stkC x (.slice G x.subs.length c)) 72 40)
 have HTC : Hid (∀ w', Below w.heap.size w w' → Calls Tryz.prog 44 #[.agg #[.int .i64 x.a, .int .i64 x.b, .int .i64 x.a, .string ⟨x.s.toArray⟩, .string ⟨x.t.toArray⟩, askV G x.subs.length c], .int .i64 1] w' (TestPost (testS 2 (askS x)) 6 w')) := fun w' hb' => by
  have := test_all 2 (by omega) (n + 1) (askS x) _ F w' ((cStk (n + 1)).stable (ask_rep hv hb hlc) (Same.of_below hb') hb'.size)
  exact this
 have hhalf : halfS x = (x.subs.length + 1) / 2 := rfl
 obtain ⟨hf, hhf⟩ : ∃ hf, hf = halfS x := ⟨_, rfl⟩
 rw [← hhf] at hhalf HCC
 have hnl := hb.n
 have HC0 := Lib.hid (fun (G : Option Addr) (c : Nat) (w : World) => cmds_none m K n (d + 1) hIH G c w)
 have HC1 : Hid (∀ w', Below w.heap.size w w' → Calls Tryz.prog 10 #[.slice G hf c, .int .i64 (d + 1)] w' (CmdsPost (cmdsS m (x.subs.take hf)) K w')) := fun w' hb' =>
  commands_any m K n (x.subs.take hf) _ (d + 1) F w' hIH ((hv.down hb').take hf c (by omega) (by omega)) (by rw [List.length_take]; omega)
 have HC2 : Hid (∀ g off, G = some ⟨g, off, none⟩ → ∀ w', Below w.heap.size w w' → Calls Tryz.prog 10 #[.slice (some ⟨g, off + hf * 6, none⟩) (x.subs.length - hf) (c - hf), .int .i64 (d + 1)] w' (CmdsPost (cmdsS m (x.subs.drop hf)) K w')) := by
  intro g off hG w' hb'
  subst hG
  exact commands_any m K n (x.subs.drop hf) _ (d + 1) F w' hIH ((hv.down hb').drop hf (c - hf) (by omega) (by omega)) (by rw [List.length_drop]; omega)
 have hgg : x.subs.length = 0 ∨ (0 < x.subs.length ∧ ∃ g off, G = some ⟨g, off, none⟩) := by
  rcases Nat.eq_zero_or_pos x.subs.length with h0 | h0
  ·exact .inl h0
  ·obtain ⟨g, off, _, hG, -⟩ := hv.get 0 h0
   exact .inr ⟨h0, g, off, hG⟩
 have hsub0 : x.subs.length = 0 → cmdsS m (x.subs.take hf) = cmdsS m [] ∧ cmdsS m (x.subs.drop hf) = cmdsS m [] := fun h0 => by rw [List.eq_nil_of_length_eq_zero h0]; simp
 have hd0 : x.subs.length ≤ hf → cmdsS m (x.subs.drop hf) = cmdsS m [] := fun h0 => by rw [List.drop_eq_nil_of_le h0]
 obtain ⟨tq, htq⟩ : ∃ tq, tq = testS 2 (askS x) := ⟨_, rfl⟩
 obtain ⟨th, hth⟩ : ∃ th, th = cmdsS m (x.subs.take hf) := ⟨_, rfl⟩
 obtain ⟨el, hel⟩ : ∃ el, el = cmdsS m (x.subs.drop hf) := ⟨_, rfl⟩
 rw [← htq] at HCC HTC
 rw [← hth] at HCC HC1 hsub0
 rw [← hel] at HCC HC2 hsub0 hd0
 have HSUB := Lib.hid hsub0
 have HD0 := Lib.hid hd0
 obtain ⟨xk, xa, xb, xs, xt, xsub⟩ := x
 simp only [stkC] at *
 obtain ⟨ns, hns⟩ : ∃ ns, ns = xsub.length := ⟨_, rfl⟩
 rw [← hns] at HCS HTC HC2 hgg HSUB HD0 hhalf hnl hlc ⊢
 have i1 : (0 : Int) ≤ p := by omega
 have i2 : (p : Int) < 12 := by omega
 have gK : Hid (∀ W : World, (W.alloc (.cells kTabV.toArray 3)).cell? ⟨W.heap.size, p, none⟩ = some (.int .i64 2)) := fun W => (Has.alloc W kTabV 3).1 p _ (by rw [hkd]; exact kTabV_at p (by omega))
 obtain ⟨S, hSe⟩ : ∃ S, S = w.heap.size := ⟨_, rfl⟩
 rw [← hSe] at HCS
 have HSE := Lib.hid hSe.symm
 obtain ⟨hd1, hd2⟩ := hd
 clear hSe hpp hp hb hkd hcc hc2 h hv hhf htq hth hel hsub0 hIH hns hd0
 go_enter Tryz.func25, Tryz.ntmps25
 go_upto_region 1 with fail
 rw [HSE.out]
 refine wp_at (R := fun W => CB0 w W S _) HCS.out (fun W hW => ?_)
 go_cut [5] (fun kx wx => kx = .int .i64 2 ∧ CB0 w wx S [.int .i64 xk, .int .i64 xa, .int .i64 xb, .string ⟨xs.toArray⟩, .string ⟨xt.toArray⟩, .slice G ns c])
 case first =>
  have hal := ba (Below.refl W.heap.size W) (.cells kTabV.toArray 3)
  obtain ⟨c0, c1, c2, c3, c4, c5⟩ := has_six (hW.down hal).stick
  have g1 := gK.out W
  have HW := Lib.hid (hW.down hal)
  clear hW hal
  unfold kTabV at c0 c1 c2 c3 c4 c5 g1
  go_wp2_with (go_at_call 43; refine (HPK.out _).mono ?_; rintro e w' ⟨rfl, rfl⟩)
  go_meet
  case rel => exact ⟨rfl, HW.out⟩
 case rest =>
  obtain ⟨rfl, hW0⟩ := hcut
  clear hW gK HPK i1 i2 HCS
  have hS2 : w.heap.size ≤ S := by rw [HSE.out]; exact Nat.le_refl _
  have hSC : S + 1 < wc.heap.size := hW0.res.2.2
  have HW0 := Lib.hid hW0
  clear hW0
  go_upto_block 0 with fail
  refine wp_at (R := fun W => CI w W S wc.heap.size [.int .i64 xk, .int .i64 xa, .int .i64 xb, .string ⟨xs.toArray⟩, .string ⟨xt.toArray⟩, .slice G ns c] _) ⟨HW0.out.down (ba (Below.refl _ _) _), Has.alloc wc _ _⟩ (fun W hW => ?_)
  clear HW0
  generalize wc.heap.size = C at hW hSC ⊢
  have HWC := Lib.hid hW
  clear hW
  go_cut [] (fun wx => CmdNew w S C (K + 7) [.int .i64 xk, .int .i64 xa, .int .i64 xb, .string ⟨xs.toArray⟩, .string ⟨xt.toArray⟩, .slice G ns c] cc wx)
  case rest =>
   obtain ⟨vs, hT', hC', hR'⟩ := hcut
   obtain ⟨k9, G0, n0, c0, k1, m1, p1, G1, n1, c1, G2, n2, c2, o1, l1, G3, n3, c3, G4, n4, c4, G5, n5, c5, rfl⟩ := cmd_form12 hR'
   obtain ⟨e0, e1, e2, e3, e4, e5, e6, e7, e8, e9, e10, e11⟩ := has_12 hC'
   obtain ⟨r0, r1, r2, r3, r4, r5, r6, r7, r8, r9, r10, r11⟩ := has_12 hT'.res
   have g0 := hT'.res.2.1 0 (by simp [res12])
   have g1 := hT'.res.2.1 1 (by simp [res12])
   have g2 := hT'.res.2.1 2 (by simp [res12])
   have g3 := hT'.res.2.1 3 (by simp [res12])
   have g4 := hT'.res.2.1 4 (by simp [res12])
   have g5 := hT'.res.2.1 5 (by simp [res12])
   have g6 := hT'.res.2.1 6 (by simp [res12])
   have g7 := hT'.res.2.1 7 (by simp [res12])
   have g8 := hT'.res.2.1 8 (by simp [res12])
   have g9 := hT'.res.2.1 9 (by simp [res12])
   have g10 := hT'.res.2.1 10 (by simp [res12])
   have g11 := hT'.res.2.1 11 (by simp [res12])
   have HT' := Lib.hid hT'; have HR' := Lib.hid hR'
   clear hT' hC' hR'
   go_wp2_with fail
   refine cmd_end ?_ ?_ HT'.out hS2 HR'.out
   ·rfl
   ·rfl
  case first =>
   obtain ⟨s0, s1, s2, s3, s4, s5⟩ := has_six HWC.out.cb.stick
   rcases hgg with h0 | ⟨h0, g, off, rfl⟩
   ·subst h0
    have hdw : IntKind.i64.wrap (d + 1) = d + 1 := IntWalk.i64_in _ (by omega)
    have hal := ba (Below.refl W.heap.size W) (.cells #[.int .i64 xa, .int .i64 xb, .int .i64 xa, .string ⟨xs.toArray⟩, .string ⟨xt.toArray⟩, .slice none 0 0] 72)
    have HT2 := Lib.hid (HTC.out _ (bt HWC.out.cb.bel hal))
    have HW2 := Lib.hid (HWC.out.down hal)
    unfold askV at HT2
    rw [if_pos rfl] at HT2
    obtain ⟨hth, hel⟩ := HSUB.out rfl
    have HTH := Lib.hid hth; have HEL := Lib.hid hel
    obtain ⟨y0, y1, y2, y3, y4, y5⟩ := has_six HW2.out.cb.stick
    clear hal HWC hth hel
    go_wp2_with fail
    refine HT2.out.mono ?_
    intro e w3 h3
    obtain ⟨ts, rfl, hrt, hb3⟩ := h3
    obtain ⟨tk, tm, tp, G1, n1, c1, G2, n2, c2, tv, tl, G3, n3, c3, rfl⟩ := tst_eight hrt
    have HW3 := Lib.hid (HW2.out.down hb3)
    have hrt2 := (cTst 6).mono hrt (F' := fun b => C < b) (fun b hb => by have := HW2.out.c.2.2; omega)
    have HRT := Lib.hid hrt2
    clear hrt hb3 hrt2 HT2 HW2 s0 s1 s2 s3 s4 s5 y0 y1 y2 y3 y4 y5
    obtain ⟨y0, y1, y2, y3, y4, y5⟩ := has_six HW3.out.cb.stick
    obtain ⟨e0, e1, e2, e3, e4, e5, e6, e7, e8, e9, e10, e11⟩ := has_12 HW3.out.c
    obtain ⟨f0, f1, f2, f3, f4, f5, f6, f7, f8, f9, f10, f11⟩ := has_free HW3.out.c
    have hz3 : C < w3.heap.size := HW3.out.c.2.2
    go_upto_region 11 with fail
    refine wp_at (R := fun W4 => CI w W4 S C [.int .i64 xk, .int .i64 xa, .int .i64 xb, .string ⟨xs.toArray⟩, .string ⟨xt.toArray⟩, .slice G 0 c] [.int .i64 2, .slice none 0 0, .int .i64 tk, .int .i64 tm, .int .i64 tp, .slice G1 n1 c1, .slice G2 n2 c2, .bool tv, .int .i64 tl, .slice G3 n3 c3, .slice none 0 0, .slice none 0 0] ∧ (cTst 6).rep W4 (fun b => C < b) tq [.int .i64 tk, .int .i64 tm, .int .i64 tp, .slice G1 n1 c1, .slice G2 n2 c2, .bool tv, .int .i64 tl, .slice G3 n3 c3]) (ci_test HW3.out hSC hS2 HRT.out) (fun W4 hW4 => ?_)
    obtain ⟨hW4, hr4⟩ := hW4
    clear HW3 HRT y0 y1 y2 y3 y4 y5 e0 e1 e2 e3 e4 e5 e6 e7 e8 e9 e10 e11 f0 f1 f2 f3 f4 f5 f6 f7 f8 f9 f10 f11 hz3
    obtain ⟨y0, y1, y2, y3, y4, y5⟩ := has_six hW4.cb.stick
    have HW4 := Lib.hid hW4; have HR4 := Lib.hid hr4
    have HCA := Lib.hid (HC0.out G c W4)
    clear hW4 hr4
    go_wp2_with fail
    refine HCA.out.mono ?_
    intro e w5 h5
    obtain ⟨vh, rfl, hsh, hb5⟩ := h5
    rw [← HTH.out] at hsh
    obtain ⟨Gh, ch, rfl, -⟩ := hsh.form
    have hci5 := HW4.out.down hb5
    have hC5 : C < W4.heap.size := HW4.out.c.2.2
    have HSH := Lib.hid (hsh.mono (F' := fun b => C < b) (fun b hb => by omega)); have HW5 := Lib.hid hci5; have HR5 := Lib.hid ((cTst 6).stable HR4.out (Same.of_below hb5) hb5.size)
    obtain ⟨y0', y1', y2', y3', y4', y5'⟩ := has_six hci5.cb.stick
    obtain ⟨e0, e1, e2, e3, e4, e5, e6, e7, e8, e9, e10, e11⟩ := has_12 hci5.c
    obtain ⟨f0, f1, f2, f3, f4, f5, f6, f7, f8, f9, f10, f11⟩ := has_free hci5.c
    have hz5 : C < w5.heap.size := hci5.c.2.2
    clear hsh hci5 hb5 HCA HW4 HR4 y0 y1 y2 y3 y4 y5 hC5
    go_upto_region 12 with fail
    refine wp_at (R := fun W6 => CI w W6 S C [.int .i64 xk, .int .i64 xa, .int .i64 xb, .string ⟨xs.toArray⟩, .string ⟨xt.toArray⟩, .slice G 0 c] [.int .i64 2, .slice none 0 0, .int .i64 tk, .int .i64 tm, .int .i64 tp, .slice G1 n1 c1, .slice G2 n2 c2, .bool tv, .int .i64 tl, .slice G3 n3 c3, .slice Gh th.length ch, .slice none 0 0] ∧ (cTst 6).rep W6 (fun b => C < b) tq [.int .i64 tk, .int .i64 tm, .int .i64 tp, .slice G1 n1 c1, .slice G2 n2 c2, .bool tv, .int .i64 tl, .slice G3 n3 c3] ∧ SAt (cCmd K) W6 (fun b => C < b) (.slice Gh th.length ch) th) ⟨HW5.out.put hSC hS2 _ (by simp), rep_put HR5.out, sat_put HSH.out⟩ (fun W6 hW6 => ?_)
    obtain ⟨hW6, hr6, hs6⟩ := hW6
    clear HW5 HR5 HSH y0' y1' y2' y3' y4' y5' e0 e1 e2 e3 e4 e5 e6 e7 e8 e9 e10 e11 f0 f1 f2 f3 f4 f5 f6 f7 f8 f9 f10 f11 hz5
    obtain ⟨y0, y1, y2, y3, y4, y5⟩ := has_six hW6.cb.stick
    have HW6 := Lib.hid hW6; have HR6 := Lib.hid hr6; have HS6 := Lib.hid hs6
    clear hW6 hr6 hs6
    go_wp2_with fail
    refine (HC0.out _ _ _).mono ?_
    intro e w7 h7
    obtain ⟨ve, rfl, hse, hb7⟩ := h7
    rw [← HEL.out] at hse
    obtain ⟨Ge, ce, rfl, -⟩ := hse.form
    have hci7 := HW6.out.down hb7
    have hC7 : C < W6.heap.size := HW6.out.c.2.2
    have HSE2 := Lib.hid (hse.mono (F' := fun b => C < b) (fun b hb => by omega)); have HW7 := Lib.hid hci7; have HR7 := Lib.hid ((cTst 6).stable HR6.out (Same.of_below hb7) hb7.size); have HS7 := Lib.hid (HS6.out.down hb7)
    obtain ⟨e0, e1, e2, e3, e4, e5, e6, e7, e8, e9, e10, e11⟩ := has_12 hci7.c
    obtain ⟨f0, f1, f2, f3, f4, f5, f6, f7, f8, f9, f10, f11⟩ := has_free hci7.c
    have hz7 : C < w7.heap.size := hci7.c.2.2
    clear hse hci7 hb7 HW6 HR6 HS6 y0 y1 y2 y3 y4 y5 hC7
    go_wp2_with fail
    go_meet
    case rel =>
     rw [HCC.out]
     have hci8 := HW7.out.put hSC hS2 (i := 11) (.slice Ge el.length ce) (by simp)
     exact ⟨_, hci8.cb, hci8.c, (cCmd (K + 7)).mono (cmd_rep (rep_put HR7.out) (sat_put HS7.out) (sat_put HSE2.out)) (fun b (hb : C < b) => by show S + 1 < b; omega)⟩
   ·have hdw : IntKind.i64.wrap (d + 1) = d + 1 := IntWalk.i64_in _ (by omega)
    have hc1 : ns ≤ c := hlc
    have i1 : (0 : Int) < ns := by omega
    have i2 : 1 ≤ c := by omega
    have j1 : IntKind.i64.wrap ((ns : Int) + 1) = (ns : Int) + 1 := IntWalk.i64_in _ (by omega)
    have j2 : ((ns : Int) + 1) / 2 = (hf : Int) := by omega
    have j3 : Int.tdiv ((ns : Int) + 1) 2 = (hf : Int) := by rw [Int.tdiv_eq_ediv_of_nonneg (by omega)]; exact j2
    have j4 : hf ≤ ns := by omega
    have j5 : IntKind.i64.wrap (hf : Int) = (hf : Int) := IntWalk.i64_in _ (by omega)
    have j6 : hf ≤ c := by omega
    clear hhalf
    have hal := ba (Below.refl W.heap.size W) (.cells #[.int .i64 xa, .int .i64 xb, .int .i64 xa, .string ⟨xs.toArray⟩, .string ⟨xt.toArray⟩, .slice none 0 0] 72)
    have HW1 := Lib.hid (HWC.out.down hal)
    have HQ := Lib.hid (Has.alloc W [.int .i64 xa, .int .i64 xb, .int .i64 xa, .string ⟨xs.toArray⟩, .string ⟨xt.toArray⟩, .slice none 0 0] 72)
    have hCW : C < W.heap.size := HWC.out.c.2.2
    obtain ⟨y0, y1, y2, y3, y4, y5⟩ := has_six HW1.out.cb.stick
    clear hal
    go_upto_region 10 with fail
    refine wp_at (R := fun W2 => CI w W2 S C [.int .i64 xk, .int .i64 xa, .int .i64 xb, .string ⟨xs.toArray⟩, .string ⟨xt.toArray⟩, .slice (some ⟨g, off, none⟩) ns c] [.int .i64 2, .slice none 0 0, .int .i64 0, .int .i64 0, .int .i64 0, .slice none 0 0, .slice none 0 0, .bool false, .int .i64 0, .slice none 0 0, .slice none 0 0, .slice none 0 0] ∧ Has W2 W.heap.size [.int .i64 xa, .int .i64 xb, .int .i64 xa, .string ⟨xs.toArray⟩, .string ⟨xt.toArray⟩, .slice (some ⟨g, off, none⟩) 1 c]) ⟨HWC.out.down (ba (Below.refl _ _) _), Has.alloc W _ _⟩ (fun W2 hW2 => ?_)
    clear HW1 HQ y0 y1 y2 y3 y4 y5 s0 s1 s2 s3 s4 s5
    obtain ⟨hW2, hQ⟩ := hW2
    obtain ⟨q0, q1, q2, q3, q4, q5⟩ := has_six hQ
    have HT2 := Lib.hid (HTC.out _ hW2.cb.bel)
    unfold askV at HT2
    rw [if_neg (by omega)] at HT2
    have HW2 := Lib.hid hW2
    clear hW2 hQ HWC
    go_wp2_with fail
    refine HT2.out.mono ?_
    intro e w3 h3
    obtain ⟨ts, rfl, hrt, hb3⟩ := h3
    obtain ⟨tk, tm, tp, G1, n1, c1, G2, n2, c2, tv, tl, G3, n3, c3, rfl⟩ := tst_eight hrt
    have HW3 := Lib.hid (HW2.out.down hb3)
    have hrt2 := (cTst 6).mono hrt (F' := fun b => C < b) (fun b hb => by have := HW2.out.c.2.2; omega)
    have HRT := Lib.hid hrt2
    clear hrt hb3 hrt2 HT2 HW2 q0 q1 q2 q3 q4 q5
    obtain ⟨y0, y1, y2, y3, y4, y5⟩ := has_six HW3.out.cb.stick
    obtain ⟨e0, e1, e2, e3, e4, e5, e6, e7, e8, e9, e10, e11⟩ := has_12 HW3.out.c
    obtain ⟨f0, f1, f2, f3, f4, f5, f6, f7, f8, f9, f10, f11⟩ := has_free HW3.out.c
    have hz3 : C < w3.heap.size := HW3.out.c.2.2
    go_upto_region 11 with fail
    refine wp_at (R := fun W4 => CI w W4 S C [.int .i64 xk, .int .i64 xa, .int .i64 xb, .string ⟨xs.toArray⟩, .string ⟨xt.toArray⟩, .slice (some ⟨g, off, none⟩) ns c] [.int .i64 2, .slice none 0 0, .int .i64 tk, .int .i64 tm, .int .i64 tp, .slice G1 n1 c1, .slice G2 n2 c2, .bool tv, .int .i64 tl, .slice G3 n3 c3, .slice none 0 0, .slice none 0 0] ∧ (cTst 6).rep W4 (fun b => C < b) tq [.int .i64 tk, .int .i64 tm, .int .i64 tp, .slice G1 n1 c1, .slice G2 n2 c2, .bool tv, .int .i64 tl, .slice G3 n3 c3]) (ci_test HW3.out hSC hS2 HRT.out) (fun W4 hW4 => ?_)
    obtain ⟨hW4, hr4⟩ := hW4
    clear HW3 HRT y0 y1 y2 y3 y4 y5 e0 e1 e2 e3 e4 e5 e6 e7 e8 e9 e10 e11 f0 f1 f2 f3 f4 f5 f6 f7 f8 f9 f10 f11 hz3
    obtain ⟨y0, y1, y2, y3, y4, y5⟩ := has_six hW4.cb.stick
    have HW4 := Lib.hid hW4; have HR4 := Lib.hid hr4
    have HCA := Lib.hid (HC1.out W4 hW4.cb.bel)
    clear hW4 hr4
    go_wp2_with fail
    refine HCA.out.mono ?_
    intro e w5 h5
    obtain ⟨vh, rfl, hsh, hb5⟩ := h5
    obtain ⟨Gh, ch, rfl, -⟩ := hsh.form
    have hci5 := HW4.out.down hb5
    have hC5 : C < W4.heap.size := HW4.out.c.2.2
    have HSH := Lib.hid (hsh.mono (F' := fun b => C < b) (fun b hb => by omega)); have HW5 := Lib.hid hci5; have HR5 := Lib.hid ((cTst 6).stable HR4.out (Same.of_below hb5) hb5.size)
    obtain ⟨y0', y1', y2', y3', y4', y5'⟩ := has_six hci5.cb.stick
    obtain ⟨e0, e1, e2, e3, e4, e5, e6, e7, e8, e9, e10, e11⟩ := has_12 hci5.c
    obtain ⟨f0, f1, f2, f3, f4, f5, f6, f7, f8, f9, f10, f11⟩ := has_free hci5.c
    have hz5 : C < w5.heap.size := hci5.c.2.2
    clear hsh hci5 hb5 HCA HW4 HR4 y0 y1 y2 y3 y4 y5 hC5
    go_upto_region 12 with fail
    refine wp_at (R := fun W6 => CI w W6 S C [.int .i64 xk, .int .i64 xa, .int .i64 xb, .string ⟨xs.toArray⟩, .string ⟨xt.toArray⟩, .slice (some ⟨g, off, none⟩) ns c] [.int .i64 2, .slice none 0 0, .int .i64 tk, .int .i64 tm, .int .i64 tp, .slice G1 n1 c1, .slice G2 n2 c2, .bool tv, .int .i64 tl, .slice G3 n3 c3, .slice Gh th.length ch, .slice none 0 0] ∧ (cTst 6).rep W6 (fun b => C < b) tq [.int .i64 tk, .int .i64 tm, .int .i64 tp, .slice G1 n1 c1, .slice G2 n2 c2, .bool tv, .int .i64 tl, .slice G3 n3 c3] ∧ SAt (cCmd K) W6 (fun b => C < b) (.slice Gh th.length ch) th) ⟨HW5.out.put hSC hS2 _ (by simp), rep_put HR5.out, sat_put HSH.out⟩ (fun W6 hW6 => ?_)
    obtain ⟨hW6, hr6, hs6⟩ := hW6
    clear HW5 HR5 HSH y0' y1' y2' y3' y4' y5' e0 e1 e2 e3 e4 e5 e6 e7 e8 e9 e10 e11 f0 f1 f2 f3 f4 f5 f6 f7 f8 f9 f10 f11 hz5
    obtain ⟨y0, y1, y2, y3, y4, y5⟩ := has_six hW6.cb.stick
    have HW6 := Lib.hid hW6; have HR6 := Lib.hid hr6; have HS6 := Lib.hid hs6
    clear hW6 hr6 hs6
    by_cases hcf : hf < c
    ·have kc1 : (hf : Int) < c := by omega
     go_wp2_with fail
     refine (HC2.out g off rfl _ HW6.out.cb.bel).mono ?_
     intro e w7 h7
     obtain ⟨ve, rfl, hse, hb7⟩ := h7
     obtain ⟨Ge, ce, rfl, -⟩ := hse.form
     have hci7 := HW6.out.down hb7
     have hC7 : C < W6.heap.size := HW6.out.c.2.2
     have HSE2 := Lib.hid (hse.mono (F' := fun b => C < b) (fun b hb => by omega)); have HW7 := Lib.hid hci7; have HR7 := Lib.hid ((cTst 6).stable HR6.out (Same.of_below hb7) hb7.size); have HS7 := Lib.hid (HS6.out.down hb7)
     obtain ⟨e0, e1, e2, e3, e4, e5, e6, e7, e8, e9, e10, e11⟩ := has_12 hci7.c
     obtain ⟨f0, f1, f2, f3, f4, f5, f6, f7, f8, f9, f10, f11⟩ := has_free hci7.c
     have hz7 : C < w7.heap.size := hci7.c.2.2
     clear hse hci7 hb7 HW6 HR6 HS6 y0 y1 y2 y3 y4 y5 hC7
     go_wp2_with fail
     go_meet
     case rel =>
      rw [HCC.out]
      have hci8 := HW7.out.put hSC hS2 (i := 11) (.slice Ge el.length ce) (by simp)
      exact ⟨_, hci8.cb, hci8.c, (cCmd (K + 7)).mono (cmd_rep (rep_put HR7.out) (sat_put HS7.out) (sat_put HSE2.out)) (fun b (hb : C < b) => by show S + 1 < b; omega)⟩
    ·obtain rfl : ns = hf := by omega
     obtain rfl : c = ns := by omega
     go_wp2_with fail
     refine (HC0.out _ _ _).mono ?_
     intro e w7 h7
     obtain ⟨ve, rfl, hse, hb7⟩ := h7
     rw [← HD0.out (Nat.le_refl _)] at hse
     obtain ⟨Ge, ce, rfl, -⟩ := hse.form
     have hci7 := HW6.out.down hb7
     have hC7 : C < W6.heap.size := HW6.out.c.2.2
     have HSE2 := Lib.hid (hse.mono (F' := fun b => C < b) (fun b hb => by omega)); have HW7 := Lib.hid hci7; have HR7 := Lib.hid ((cTst 6).stable HR6.out (Same.of_below hb7) hb7.size); have HS7 := Lib.hid (HS6.out.down hb7)
     obtain ⟨e0, e1, e2, e3, e4, e5, e6, e7, e8, e9, e10, e11⟩ := has_12 hci7.c
     obtain ⟨f0, f1, f2, f3, f4, f5, f6, f7, f8, f9, f10, f11⟩ := has_free hci7.c
     have hz7 : C < w7.heap.size := hci7.c.2.2
     clear hse hci7 hb7 HW6 HR6 HS6 y0 y1 y2 y3 y4 y5 hC7
     go_wp2_with fail
     go_meet
     case rel =>
      rw [HCC.out]
      have hci8 := HW7.out.put hSC hS2 (i := 11) (.slice Ge el.length ce) (by simp)
      exact ⟨_, hci8.cb, hci8.c, (cCmd (K + 7)).mono (cmd_rep (rep_put HR7.out) (sat_put HS7.out) (sat_put HSE2.out)) (fun b (hb : C < b) => by show S + 1 < b; omega)⟩
end Go.Proofs.YtjfclekmhfgkmaaGreatDoor.Sc
