/- On the way. -/
import Derived.Test.YtmkppkjikifdlaaGreatDoorTScMem
import Derived.Deep.DeepCutAuto
import Derived.Deep.CutBlock
set_option linter.unusedVariables false
set_option linter.unusedSimpArgs false
set_option maxHeartbeats 8000000
set_option maxRecDepth 20000
namespace Go.Proofs.YtmkppkjikifdlaaGreatDoor.Sc
open Go.RowKit
open Tk (Tok)
theorem bare_t0 (Gn Gk Gt : Option Addr) (cn ck ct : Nat) (w : World) :
    Calls Tryz.prog 160 #[.agg #[.int .i64 0, .int .i64 0, .int .i64 0, .slice Gn 0 cn, .slice Gk 0 ck, .bool false, .int .i64 0, .slice Gt 0 ct]] w fun e w' => e = .returned (.bool true) ∧ Below w.heap.size w w' := by
 go_enter Tryz.func160, Tryz.ntmps160
 go_wp2_with fail
 go_ret
 exact ⟨rfl, (Below.refl _ _).alloc (Nat.le_refl _) _⟩
def ChkT (n : Nat) : Prop := ∀ (t : Tst) (d : Nat) (vs : List Value) (F : Dom) (w : World), (cTst n).rep w F t vs → FormT t → d ≤ 1000 → (wT t).length ≤ 1000000 →
    Calls Tryz.prog 159 #[.agg vs.toArray, .int .i64 d] w fun e w' => e = .returned (.int .i64 (if fitT d t = true then 0 else 1)) ∧ Below w.heap.size w w'
theorem checkTest_deep (n : Nat) (t : Tst) (d : Nat) (vs : List Value) (F : Dom) (w : World) (h : (cTst n).rep w F t vs) (hF : FormT t) (hd : d ≤ 1000) (h6 : 6 < d) :
    Calls Tryz.prog 159 #[.agg vs.toArray, .int .i64 d] w fun e w' => e = .returned (.int .i64 1) ∧ Below w.heap.size w w' := by
 have hk := hF.one.kind
 obtain ⟨m, Gn, cn, Gk, ck, Gt, ct, -, rfl, -⟩ := tst_open h
 obtain ⟨k, mt, p, ns, ks, o, l, ts⟩ := t
 simp only [tstC] at hk ⊢
 clear h hF
 generalize ns.length = nn; generalize ks.length = nk; generalize ts.length = nt
 have h1 := hk.1; have h2 := hk.2
 have hd6 : (6 : Int) < (d : Int) := by omega
 clear hk
 go_enter Tryz.func159, Tryz.ntmps159
 go_wp2_with fail
 go_ret
 exact ⟨rfl, (Below.refl _ _).alloc (Nat.le_refl _) _⟩
theorem len0' {α : Type} {l : List α} (h : l.length = 0) : l = [] := List.eq_nil_of_length_eq_zero h
theorem chk_leaf (k mt p l : Int) (o : Bool) (nn nk : Nat) (d : Nat) (Gn : Option Addr) (cn : Nat) (Gk : Option Addr) (ck : Nat) (Gt : Option Addr) (ct : Nat) (w : World) (h1 : Form1 k mt p nn nk o l 0) (h3 : ¬ (3 ≤ k ∧ k ≤ 5)) (hd : d ≤ 6) :
    Calls Tryz.prog 159 #[.agg #[.int .i64 k, .int .i64 mt, .int .i64 p, .slice Gn nn cn, .slice Gk nk ck, .bool o, .int .i64 l, .slice Gt 0 ct], .int .i64 d] w fun e w' => e = .returned (.int .i64 0) ∧ Below w.heap.size w w' := by
 have hd6 : (d : Int) ≤ 6 := by omega
 clear hd
 rcases h1 with ⟨hk | hk, rfl, rfl, rfl, rfl, rfl, rfl, -⟩ | ⟨hk, -⟩ | ⟨hk, -⟩ | ⟨hk, ⟨hm1, hm3⟩, rfl, h4, h5, rfl, rfl, -⟩ | ⟨hk | hk, ⟨hm1, hm3⟩, ⟨hp1, hp3⟩, h4, h5, rfl, rfl, -⟩ | ⟨hk, rfl, rfl, h4, rfl, rfl, rfl, -⟩ | ⟨hk, rfl, rfl, rfl, rfl, ⟨hl1, hl3⟩, -⟩
 rotate_left 2
 ·omega
 ·omega
 all_goals
  clear h3
  subst hk
  go_enter Tryz.func159, Tryz.ntmps159
  go_wp2_with fail
 any_goals
  (go_region
   go_wp2_with fail)
 all_goals
  go_loopw [183] (fun v wr => v = .int .i64 0 ∧ Below w.heap.size w wr) (fun _ _ => 0)
  case atStart => exact ⟨rfl, by first | exact ba (ba (Below.refl _ _) _) _ | exact Below.drew (ba (ba (Below.refl _ _) _) _)⟩
  case round =>
   obtain ⟨rfl, hb⟩ := hrel
   go_wp2_with fail
   go_ret
   exact ⟨rfl, hb⟩
def UpTo {α : Type} (p : α → Bool) (l : List α) (j : Nat) : Prop := ∀ i a, l[i]? = some a → i < j → p a = true
theorem UpTo.zero {α : Type} (p : α → Bool) (l : List α) : UpTo p l 0 := fun _ _ _ h => absurd h (Nat.not_lt_zero _)
theorem UpTo.succ {α : Type} {p : α → Bool} {l : List α} {j : Nat} (h : UpTo p l j) {hj : j < l.length} (hp : p l[j] = true) : UpTo p l (j + 1) := by
 intro i a hi hlt
 rcases Nat.lt_or_ge i j with h3 | h3
 ·exact h i a hi h3
 ·obtain rfl : i = j := by omega
  rw [List.getElem?_eq_getElem hj] at hi
  exact Option.some.inj hi ▸ hp
theorem UpTo.all {α : Type} {p : α → Bool} {l : List α} (h : UpTo p l l.length) : l.all p = true := List.all_eq_true.2 fun t ht => by
 obtain ⟨i, hi, rfl⟩ := List.getElem_of_mem ht; exact h i _ (List.getElem?_eq_getElem hi) hi
theorem chk_take (w : World) (vs : List Value) (t : TypeId) : Has (w.alloc (.cells vs.toArray t)) w.heap.size vs ∧ Below w.heap.size w (w.alloc (.cells vs.toArray t)) := ⟨Has.alloc w vs t, ba (Below.refl _ _) _⟩
theorem chk_sub (n : Nat) (IH : ChkT n) (k : Int) (ts : List Tst) (d : Nat) (Gn : Option Addr) (cn : Nat) (Gk : Option Addr) (ck : Nat) (Gt : Option Addr) (ct : Nat) (F : Dom) (w : World) (h1 : (k = 3 ∧ ts.length = 1) ∨ ((k = 4 ∨ k = 5) ∧ 0 < ts.length)) (hT : SAt (cTst n) w F (.slice Gt ts.length ct) ts) (hF : ∀ t ∈ ts, FormT t ∧ (wT t).length ≤ 1000000) (hd : d ≤ 6) (hlen : ts.length ≤ 1000000) :
    Calls Tryz.prog 159 #[.agg #[.int .i64 k, .int .i64 0, .int .i64 0, .slice Gn 0 cn, .slice Gk 0 ck, .bool false, .int .i64 0, .slice Gt ts.length ct], .int .i64 d] w fun e w' => e = .returned (.int .i64 (if ts.all (fitT (d + 1)) = true then 0 else 1)) ∧ Below w.heap.size w w' := by
 have hd6 : (d : Int) ≤ 6 := by omega
 have IHH := Lib.hid IH; have HF := Lib.hid hF; have HT := Lib.hid hT
 obtain ⟨nt, hnt⟩ : ∃ nt, nt = ts.length := ⟨_, rfl⟩
 rw [← hnt] at h1 HT ⊢
 have h2 : (k = 3 ∧ ((nt : Int) == 1) = true ∧ 0 < nt) ∨ (k = 4 ∧ ((nt : Int) == 1) = true ∧ 0 < nt) ∨ (k = 4 ∧ ((nt : Int) == 1) = false ∧ 0 < nt) ∨ (k = 5 ∧ ((nt : Int) == 1) = true ∧ 0 < nt) ∨ (k = 5 ∧ ((nt : Int) == 1) = false ∧ 0 < nt) := by
  simp only [beq_iff_eq, beq_eq_false_iff_ne]
  omega
 have HNT := Lib.hid hnt
 obtain ⟨r, hr⟩ : ∃ r : Int, r = (if ts.all (fitT (d + 1)) = true then 0 else 1) := ⟨_, rfl⟩
 rw [← hr]
 have HR := Lib.hid hr
 clear hF hT IH h1 hnt hd hr
 rcases h2 with ⟨rfl, h8, h9⟩ | ⟨rfl, h8, h9⟩ | ⟨rfl, h8, h9⟩ | ⟨rfl, h8, h9⟩ | ⟨rfl, h8, h9⟩
 all_goals
  go_enter Tryz.func159, Tryz.ntmps159
  go_wp2_with fail
  go_loopw [183] (fun v wr => ∃ j : Nat, v = .int .i64 j ∧ j ≤ ts.length ∧ UpTo (fitT (d + 1)) ts j ∧ Below w.heap.size w wr) (fun v _ => ts.length - (intOf v).toNat)
  case atStart => exact ⟨0, rfl, Nat.zero_le _, UpTo.zero _ _, ba (ba (Below.refl _ _) _) _⟩
  case round =>
   obtain ⟨j, rfl, hj, hall, hb⟩ := hrel
   by_cases hlt : j < ts.length
   ·obtain ⟨g, off, Ga, ca, Gb, cb, Gc, cc, rfl, hrep, c0, c1, c2, c3, c4, c5, c6, c7⟩ := tst_get HT.out (Same.of_below hb) hb.size j hlt
    obtain ⟨t, ht⟩ : ∃ t, t = ts[j] := ⟨_, rfl⟩
    have hFt : FormT t ∧ (wT t).length ≤ 1000000 := by rw [ht]; exact HF.out _ (List.getElem_mem hlt)
    rw [← ht] at hrep c0 c1 c2 c3 c4 c5 c6 c7
    have HTE := Lib.hid ht
    have hk := chk_take wr (tstC t (.slice Ga t.names.length ca) (.slice Gb t.keys.length cb) (.slice Gc t.tests.length cc)) 158
    have HB1 := Lib.hid (bt hb hk.2)
    have HC := Lib.hid (IHH.out t (d + 1) _ F _ ((cTst n).stable hrep (Same.of_below hk.2) hk.2.size) hFt.1 (by omega) hFt.2)
    have hjn : (j : Int) < nt := by rw [HNT.out]; omega
    have HLT := Lib.hid hlt
    obtain ⟨f, hf⟩ : ∃ f, f = fitT (d + 1) t := ⟨_, rfl⟩
    rw [← hf] at HC
    have HFE := Lib.hid hf
    clear hrep hb ht hFt hf hk hj
    go_wp2_with fail
    refine HC.out.mono ?_
    rintro e w5 ⟨rfl, hb5⟩
    have HB5 := Lib.hid (bt HB1.out hb5)
    clear hb5 HC HB1 c0 c1 c2 c3 c4 c5 c6 c7
    cases f
    ·have hr : r = 1 := by
      rw [HR.out, if_neg]
      intro hh
      have := List.all_eq_true.1 hh _ (List.getElem_mem HLT.out)
      rw [← HTE.out, ← HFE.out] at this
      cases this
     subst hr
     go_wp2_with fail
     go_ret
     exact ⟨rfl, HB5.out⟩
    ·go_wp2_with fail
     go_roundw
     case rel => exact ⟨j + 1, by go_num, HLT.out, hall.succ (HTE.out ▸ HFE.out.symm), HB5.out⟩
     case measure => have := HLT.out; simp [intOf]; omega
   ·obtain rfl : j = ts.length := by omega
    have hr : r = 0 := by
     rw [HR.out, if_pos hall.all]
    subst hr
    have hjn : (ts.length : Int) = nt := by rw [HNT.out]
    go_wp2_with fail
    go_ret
    exact ⟨rfl, hb⟩
theorem chkT_all : ∀ n, ChkT n
 | 0 => fun t d vs F w h _ _ _ => h.elim
 | n + 1 => by
  intro t d vs F w h hF hd hsm
  obtain ⟨hs1, -, -, hs4⟩ := wT_subs hF
  by_cases h6 : 6 < d
  ·have he : fitT d t = false := by rw [fitT_eq, decide_eq_false (by omega)]; rfl
   rw [he]
   exact checkTest_deep (n + 1) t d vs F w h hF hd h6
  ·obtain ⟨m, Gn, cn, Gk, ck, Gt, ct, hm, rfl, -, -, hT⟩ := tst_open h
   obtain rfl : n = m := by omega
   have hFa := fun s hs => (⟨hF.all s hs, by have := hs4 s hs; omega⟩ : FormT s ∧ (wT s).length ≤ 1000000)
   have hln : t.tests.length ≤ 1000000 := by omega
   clear hs1 hs4 hsm
   have h1 := hF.one
   have hfit := fitT_eq d t
   rw [decide_eq_true (by omega : d ≤ 6), Bool.true_and] at hfit
   rw [hfit]
   obtain ⟨k, mt, p, ns, ks, o, l, ts⟩ := t
   simp only [tstC] at *
   by_cases h3 : 3 ≤ k ∧ k ≤ 5
   ·have h5 : mt = 0 ∧ p = 0 ∧ ns.length = 0 ∧ ks.length = 0 ∧ o = false ∧ l = 0 ∧ ((k = 3 ∧ ts.length = 1) ∨ ((k = 4 ∨ k = 5) ∧ 0 < ts.length)) := by
     unfold Form1 at h1
     rcases h1 with h1 | ⟨rfl, rfl, rfl, h4, h5, rfl, rfl, h8⟩ | ⟨hk, rfl, rfl, h4, h5, rfl, rfl, h8⟩ | h1 | h1 | h1 | h1
     ·omega
     ·exact ⟨rfl, rfl, h4, h5, rfl, rfl, .inl ⟨rfl, h8⟩⟩
     ·exact ⟨rfl, rfl, h4, h5, rfl, rfl, .inr ⟨hk, h8⟩⟩
     all_goals omega
    obtain ⟨rfl, rfl, h4, h5, rfl, rfl, h8⟩ := h5
    rw [h4, h5]
    exact chk_sub n (chkT_all n) k ts d Gn cn Gk ck Gt ct F w h8 hT hFa (by omega) hln
   ·have h8 : ts.length = 0 := by unfold Form1 at h1; omega
    obtain rfl := len0' h8
    exact chk_leaf k mt p l o ns.length ks.length d Gn cn Gk ck Gt ct w h1 h3 (by omega)
def ChkC (n : Nat) : Prop := ∀ (c : Cmd) (d : Nat) (vs : List Value) (F : Dom) (w : World), (cCmd n).rep w F c vs → FormC c → d ≤ 1000 → (wC c).length ≤ 1000000 →
    Calls Tryz.prog 137 #[.agg vs.toArray, .int .i64 d] w fun e w' => e = .returned (.int .i64 (if fitC d c = true then 0 else 1)) ∧ Below w.heap.size w w'
def ChkA (n : Nat) : Prop := ∀ (cs : List Cmd) (d : Nat) (v : Value) (F : Dom) (w : World), SAt (cCmd n) w F v cs → (∀ c ∈ cs, FormC c) → d ≤ 1000 → (cs.flatMap wC).length ≤ 1000000 →
    Calls Tryz.prog 113 #[v, .int .i64 d] w fun e w' => e = .returned (.int .i64 (if cs.all (fitC d) = true then 0 else 1)) ∧ Below w.heap.size w w'
theorem chkA_of (n : Nat) (IH : ChkC n) : ChkA n := by
 intro cs d v F w hv hF hd hsm
 obtain ⟨Gt, ct, rfl, -⟩ := hv.form
 obtain ⟨hl1, hl2⟩ := flatC_len cs
 have hF' := fun c hc => (⟨hF c hc, by have := hl2 c hc; omega⟩ : FormC c ∧ (wC c).length ≤ 1000000)
 have hln : cs.length ≤ 1000000 := by omega
 have IHH := Lib.hid IH; have HF := Lib.hid hF'; have HT := Lib.hid hv
 obtain ⟨nt, hnt⟩ : ∃ nt, nt = cs.length := ⟨_, rfl⟩
 rw [← hnt] at HT ⊢
 have HNT := Lib.hid hnt
 obtain ⟨r, hr⟩ : ∃ r : Int, r = (if cs.all (fitC d) = true then 0 else 1) := ⟨_, rfl⟩
 rw [← hr]
 have HR := Lib.hid hr
 clear hF hF' IH hnt hr hl1 hl2 hsm hv
 go_enter Tryz.func113, Tryz.ntmps113
 go_wp2_with fail
 go_loopw [10] (fun v wr => ∃ j : Nat, v = .int .i64 j ∧ j ≤ cs.length ∧ UpTo (fitC d) cs j ∧ Below w.heap.size w wr) (fun v _ => cs.length - (intOf v).toNat)
 case atStart => exact ⟨0, rfl, Nat.zero_le _, UpTo.zero _ _, Below.refl _ _⟩
 case round =>
  obtain ⟨j, rfl, hj, hall, hb⟩ := hrel
  by_cases hlt : j < cs.length
  ·obtain ⟨g, off, Gx, cx, Gn, cn, Gk, ck, Gs, cs', Gh, ch, Ge, ce, rfl, hrep, c0, c1, ⟨c2, c3, c4, c5, c6, c7, c8, c9⟩, c10, c11⟩ := cmd_get HT.out (Same.of_below hb) hb.size j hlt
   obtain ⟨c, hc⟩ : ∃ c, c = cs[j] := ⟨_, rfl⟩
   have hFt : FormC c ∧ (wC c).length ≤ 1000000 := by rw [hc]; exact HF.out _ (List.getElem_mem hlt)
   rw [← hc] at hrep c0 c1 c2 c3 c4 c5 c6 c7 c8 c9 c10 c11
   have HTE := Lib.hid hc
   have hk := chk_take wr (cmdC c (.slice Gx c.texts.length cx) (tstC c.test (.slice Gn c.test.names.length cn) (.slice Gk c.test.keys.length ck) (.slice Gs c.test.tests.length cs')) (.slice Gh c.thn.length ch) (.slice Ge c.els.length ce)) 160
   have HB1 := Lib.hid (bt hb hk.2)
   have HC := Lib.hid (IHH.out c d _ F _ ((cCmd n).stable hrep (Same.of_below hk.2) hk.2.size) hFt.1 hd hFt.2)
   have hjn : (j : Int) < nt := by rw [HNT.out]; omega
   have HLT := Lib.hid hlt
   obtain ⟨f, hf⟩ : ∃ f, f = fitC d c := ⟨_, rfl⟩
   rw [← hf] at HC
   have HFE := Lib.hid hf
   clear hrep hb hc hFt hf hk hj
   go_wp2_with fail
   refine HC.out.mono ?_
   rintro e w5 ⟨rfl, hb5⟩
   have HB5 := Lib.hid (bt HB1.out hb5)
   clear hb5 HC HB1 c0 c1 c2 c3 c4 c5 c6 c7 c8 c9 c10 c11
   cases f
   ·have hr : r = 1 := by
     rw [HR.out, if_neg]
     intro hh
     have := List.all_eq_true.1 hh _ (List.getElem_mem HLT.out)
     rw [← HTE.out, ← HFE.out] at this
     cases this
    subst hr
    go_wp2_with fail
    go_ret
    exact ⟨rfl, HB5.out⟩
   ·go_wp2_with fail
    go_roundw
    case rel => exact ⟨j + 1, by go_num, HLT.out, hall.succ (HTE.out ▸ HFE.out.symm), HB5.out⟩
    case measure => have := HLT.out; simp [intOf]; omega
  ·obtain rfl : j = cs.length := by omega
   have hr : r = 0 := by
    rw [HR.out, if_pos hall.all]
   subst hr
   have hjn : (cs.length : Int) = nt := by rw [HNT.out]
   go_wp2_with fail
   go_ret
   exact ⟨rfl, hb⟩
theorem has_twelve {w : World} {b : Nat} {a0 a1 a2 a3 a4 a5 a6 a7 a8 a9 a10 a11 : Value} (h : Has w b [a0, a1, a2, a3, a4, a5, a6, a7, a8, a9, a10, a11]) : w.cell? ⟨b, 0, none⟩ = some a0 ∧ w.cell? ⟨b, 1, none⟩ = some a1 ∧ (w.cell? ⟨b, 2, none⟩ = some a2 ∧ w.cell? ⟨b, 3, none⟩ = some a3 ∧ w.cell? ⟨b, 4, none⟩ = some a4 ∧ w.cell? ⟨b, 5, none⟩ = some a5 ∧ w.cell? ⟨b, 6, none⟩ = some a6 ∧ w.cell? ⟨b, 7, none⟩ = some a7 ∧ w.cell? ⟨b, 8, none⟩ = some a8 ∧ w.cell? ⟨b, 9, none⟩ = some a9) ∧ w.cell? ⟨b, 10, none⟩ = some a10 ∧ w.cell? ⟨b, 11, none⟩ = some a11 :=
 ⟨h.1 0 _ rfl, h.1 1 _ rfl, ⟨h.1 2 _ rfl, h.1 3 _ rfl, h.1 4 _ rfl, h.1 5 _ rfl, h.1 6 _ rfl, h.1 7 _ rfl, h.1 8 _ rfl, h.1 9 _ rfl⟩, h.1 10 _ rfl, h.1 11 _ rfl⟩
theorem chk_plain (k : Int) (nx d : Nat) (Gx : Option Addr) (cx : Nat) (Gn : Option Addr) (cn : Nat) (Gk : Option Addr) (ck : Nat) (Gt : Option Addr) (ct : Nat) (Gh : Option Addr) (ch : Nat) (Ge : Option Addr) (ce : Nat) (w : World) (h1 : Form2 k nx) (h2 : k ≠ 2) (hd : d ≤ 6) :
    Calls Tryz.prog 137 #[.agg #[.int .i64 k, .slice Gx nx cx, .int .i64 0, .int .i64 0, .int .i64 0, .slice Gn 0 cn, .slice Gk 0 ck, .bool false, .int .i64 0, .slice Gt 0 ct, .slice Gh 0 ch, .slice Ge 0 ce], .int .i64 d] w fun e w' => e = .returned (.int .i64 0) ∧ Below w.heap.size w w' := by
 have hd6 : (d : Int) ≤ 6 := by omega
 clear hd
 rcases h1 with ⟨hk | hk | hk, h8⟩ | ⟨hk | hk | hk, h8⟩ | ⟨hk | hk | hk | hk, h8⟩
 rotate_left 6
 ·omega
 all_goals
  subst hk
  clear h2
  try subst h8
  go_enter Tryz.func137, Tryz.ntmps137
  go_wp2_with (go_at_call 160; refine (bare_t0 Gn Gk Gt cn ck ct _).mono ?_; rintro e w5 ⟨rfl, hb5⟩; obtain ⟨-, -, -, c10, c11⟩ := has_twelve ((Has.alloc w _ 160).down hb5))
  go_ret
  exact ⟨rfl, bt (ba (Below.refl _ _) _) hb5⟩
def ResI (r : Int) (w : World) (e : Ending) (w' : World) : Prop := e = .returned (.int .i64 r) ∧ Below w.heap.size w w'
theorem els_cases (el : List Cmd) : (∃ c, el = [c] ∧ c.kind = 2 ∧ isElsif el = true) ∨ (isElsif el = false ∧ ((∃ c, el = [c] ∧ c.kind ≠ 2) ∨ el.length ≠ 1)) := by
 match el with
 | [] => exact .inr ⟨rfl, .inr (by simp)⟩
 | [c] =>
  by_cases h : c.kind = 2
  ·exact .inl ⟨c, rfl, h, by simp [isElsif, h]⟩
  ·exact .inr ⟨by simp [isElsif, h], .inl ⟨c, rfl, h⟩⟩
 | c :: d :: l => exact .inr ⟨rfl, .inr (by simp)⟩
theorem chk_deep (c : Cmd) (d : Nat) (vs : List Value) (n : Nat) (F : Dom) (w : World) (h : (cCmd n).rep w F c vs) (hF : FormC c) (h6 : 6 < d) :
    Calls Tryz.prog 137 #[.agg vs.toArray, .int .i64 d] w fun e w' => e = .returned (.int .i64 1) ∧ Below w.heap.size w w' := by
 have hk := hF.kind
 obtain ⟨m, Gx, cx, Gn, cn, Gk, ck, Gt, ct, Gh, ch, Ge, ce, hm, rfl, -⟩ := cmd_open h
 obtain ⟨k, tx, t, th, el⟩ := c
 simp only [cmdC, tstC] at hk ⊢
 clear h hF
 have h1 := hk.1; have h2 := hk.2
 have hd6 : (6 : Int) < (d : Int) := by omega
 clear hk hm
 go_enter Tryz.func137, Tryz.ntmps137
 go_wp2_with fail
 go_ret
 exact ⟨rfl, (Below.refl _ _).alloc (Nat.le_refl _) _⟩
theorem chk_if (n : Nat) (IC : ChkC n) (IA : ChkA n) (c : Cmd) (d : Nat) (vs : List Value) (F : Dom) (w : World) (h : (cCmd (n + 1)).rep w F c vs) (hF : FormC c) (h2 : c.kind = 2) (hd : d ≤ 6) (hsm : (wC c).length ≤ 1000000) :
    Calls Tryz.prog 137 #[.agg vs.toArray, .int .i64 d] w (ResI (if fitC d c = true then 0 else 1) w) := by
 obtain ⟨m, Gx, cx, Gn, cn, Gk, ck, Gt, ct, Gh, ch, Ge, ce, hm, rfl, -, hT, hH, hE⟩ := cmd_open h
 obtain rfl : n = m := by omega
 obtain ⟨hx, hf⟩ := (FormC.iff c).1 hF
 obtain ⟨-, hs⟩ := wC_subs hF
 obtain ⟨hs1, hs2, hs3⟩ := hs h2
 have hx0 : c.texts.length = 0 := by unfold Form2 at hx; omega
 rcases hf with ⟨-, fT, fH, fE⟩ | ⟨h, -⟩
 ·have hfit : fitC d c = (fitT 1 c.test && c.thn.all (fitC (d + 1)) && (if isElsif c.els = true then c.els.all (fitC d) else c.els.all (fitC (d + 1)))) := by
   rw [fitC_eq, decide_eq_true hd, if_pos h2, Bool.true_and]
  rw [hfit]
  obtain ⟨k, tx, t, th, el⟩ := c
  simp only [cmdC, tstC] at *
  subst h2
  rw [hx0]
  have hA := Has.alloc w [.int .i64 2, .slice Gx 0 cx, .int .i64 t.kind, .int .i64 t.mat, .int .i64 t.part, .slice Gn t.names.length cn, .slice Gk t.keys.length ck, .bool t.over, .int .i64 t.limit, .slice Gt t.tests.length ct, .slice Gh th.length ch, .slice Ge el.length ce] 160
  have hB := ba (Below.refl _ w) (.cells #[.int .i64 2, .slice Gx 0 cx, .int .i64 t.kind, .int .i64 t.mat, .int .i64 t.part, .slice Gn t.names.length cn, .slice Gk t.keys.length ck, .bool t.over, .int .i64 t.limit, .slice Gt t.tests.length ct, .slice Gh th.length ch, .slice Ge el.length ce] 160)
  have H1 := Lib.hid (chkT_all (n + 1) t 1 _ F _ ((cTst (n + 1)).stable hT (Same.of_below hB) hB.size) fT (by omega) (by omega))
  have H2 := Lib.hid (fun (wr : World) (hb : Below w.heap.size w wr) => IA th (d + 1) _ F wr (hH.down hb) fH (by omega) (by omega))
  have H3 := Lib.hid (fun (wr : World) (hb : Below w.heap.size w wr) => IA el (d + 1) _ F wr (hE.down hb) fE (by omega) (by omega))
  have HE := Lib.hid hE; have HFE := Lib.hid fE
  have HA := Lib.hid hA; have HB := Lib.hid hB
  have hd6 : (d : Int) ≤ 6 := by omega
  have HS3 := Lib.hid hs3; have HSM := Lib.hid hsm
  clear hT hH hE fT fH fE h hF hsm hs1 hs2 hs3 hx hA hB hfit hx0 hm
  obtain ⟨f1, hf1⟩ : ∃ f, f = fitT 1 t := ⟨_, rfl⟩
  obtain ⟨f2, hf2⟩ : ∃ f, f = th.all (fitC (d + 1)) := ⟨_, rfl⟩
  rw [← hf1, ← hf2]
  rw [← hf1] at H1; rw [← hf2] at H2
  obtain ⟨r, hr⟩ : ∃ r : Int, r = (if (f1 && f2 && (if isElsif el = true then el.all (fitC d) else el.all (fitC (d + 1)))) = true then 0 else 1) := ⟨_, rfl⟩
  rw [← hr]
  have HR := Lib.hid hr
  obtain ⟨ne, hne⟩ : ∃ ne, ne = el.length := ⟨_, rfl⟩
  rw [← hne] at HE HA HB H1 H3 ⊢
  have HNE := Lib.hid hne
  clear hf1 hf2 hr hne
  go_enter Tryz.func137, Tryz.ntmps137
  go_wp2_with fail
  refine H1.out.mono ?_
  rintro e w5 ⟨rfl, hb5⟩
  have hA5 := HA.out.down hb5
  have HB5 := Lib.hid (bt HB.out hb5)
  obtain ⟨-, -, -, c10, c11⟩ := has_twelve hA5
  have HA5 := Lib.hid hA5
  clear hb5 H1 HB HA hA5
  cases f1
  ·obtain rfl : r = 1 := HR.out
   go_wp2_with fail
   go_ret
   exact ⟨rfl, HB5.out⟩
  ·go_wp2_with fail
   refine (H2.out _ HB5.out).mono ?_
   rintro e w6 ⟨rfl, hb6⟩
   obtain ⟨-, -, -, -, e11⟩ := has_twelve (HA5.out.down hb6)
   have HB6 := Lib.hid (bt HB5.out hb6)
   clear hb6 H2 HB5 HA5 c10 c11
   cases f2
   ·obtain rfl : r = 1 := HR.out
    go_wp2_with fail
    go_ret
    exact ⟨rfl, HB6.out⟩
   ·rcases els_cases el with ⟨c0, rfl, hk2, he⟩ | ⟨he, ⟨c0, rfl, hk2⟩ | hne⟩
    ·obtain ⟨g, off, Gx', cx', Gn', cn', Gk', ck', Gs', cs', Gh', ch', Ge', ce', rfl, hrep, d0, d1, ⟨d2, d3, d4, d5, d6, d7, d8, d9⟩, d10, d11⟩ := cmd_get HE.out (Same.of_below HB6.out) HB6.out.size 0 (by simp)
     have q1 : ((ne : Int) == 1) = true := by rw [HNE.out]; rfl
     have q2 : 0 < ne := by rw [HNE.out]; simp
     have H4 := Lib.hid (IC c0 d _ F _ hrep (HFE.out c0 (List.mem_singleton_self _)) (by omega) (by have := HS3.out; have := HSM.out; simp at *; omega))
     have hr2 : r = if fitC d c0 = true then 0 else 1 := by rw [HR.out, he]; simp
     rw [← hr2] at H4
     have hk : ((c0.kind : Int) == 2) = true := beq_iff_eq.2 hk2
     simp only [List.getElem_cons_zero, Nat.zero_mul, Nat.add_zero] at d0 d1 d2 d3 d4 d5 d6 d7 d8 d9 d10 d11 H4
     clear hk2 hr2 he HE HFE hrep H3 HR
     go_wp2_with fail
     refine H4.out.mono ?_
     rintro e w7 ⟨rfl, hb7⟩
     go_wp2_with fail
     go_ret
     exact ⟨rfl, bt HB6.out hb7⟩
    ·obtain ⟨g, off, Gx', cx', Gn', cn', Gk', ck', Gs', cs', Gh', ch', Ge', ce', rfl, hrep, d0, -⟩ := cmd_get HE.out (Same.of_below HB6.out) HB6.out.size 0 (by simp)
     have H4 := Lib.hid (H3.out w6 HB6.out)
     have hr2 : r = if [c0].all (fitC (d + 1)) = true then 0 else 1 := by rw [HR.out, he]; rfl
     rw [← hr2] at H4
     simp only [List.getElem_cons_zero, Nat.zero_mul, Nat.add_zero] at d0
     have hk : ((c0.kind : Int) == 2) = false := beq_eq_false_iff_ne.2 hk2
     have q1 : ((ne : Int) == 1) = true := by rw [HNE.out]; rfl
     have q2 : 0 < ne := by rw [HNE.out]; simp
     clear hr2 he HE HFE hrep H3 HR hk2
     go_wp2_with fail
     refine H4.out.mono ?_
     rintro e w7 ⟨rfl, hb7⟩
     go_wp2_with fail
     go_ret
     exact ⟨rfl, bt HB6.out hb7⟩
    ·have H4 := Lib.hid (H3.out w6 HB6.out)
     have hr2 : r = if el.all (fitC (d + 1)) = true then 0 else 1 := by rw [HR.out, he]; rfl
     rw [← hr2] at H4
     have hk : ((ne : Int) == 1) = false := beq_eq_false_iff_ne.2 (by rw [HNE.out]; omega)
     clear hr2 he HE HFE H3 HR hne
     go_wp2_with fail
     refine H4.out.mono ?_
     rintro e w7 ⟨rfl, hb7⟩
     go_wp2_with fail
     go_ret
     exact ⟨rfl, bt HB6.out hb7⟩
 ·exact absurd h2 h
theorem chkC_all : ∀ n, ChkC n
 | 0 => fun c d vs F w h _ _ _ => h.elim
 | n + 1 => by
  intro c d vs F w h hF hd hsm
  by_cases h6 : 6 < d
  ·have he : fitC d c = false := by rw [fitC_eq, decide_eq_false (by omega)]; rfl
   rw [he]
   exact chk_deep c d vs (n + 1) F w h hF h6
  ·by_cases h2 : c.kind = 2
   ·exact chk_if n (chkC_all n) (chkA_of n (chkC_all n)) c d vs F w h hF h2 (by omega) hsm
   ·have he : fitC d c = true := by rw [fitC_eq, decide_eq_true (by omega), if_neg h2]; rfl
    rw [he]
    obtain ⟨m, Gx, cx, Gn, cn, Gk, ck, Gt, ct, Gh, ch, Ge, ce, hm, rfl, -⟩ := cmd_open h
    obtain ⟨h1, h3 | ⟨-, ht, hth, hel⟩⟩ := (FormC.iff c).1 hF
    ·exact absurd h3.1 h2
    ·obtain ⟨k, tx, t, th, el⟩ := c
     simp only at ht hth hel h2 h1
     subst ht hth hel
     exact chk_plain k tx.length d Gx cx Gn cn Gk ck Gt ct Gh ch Ge ce w h1 h2 (by omega)
theorem chkA_all (n : Nat) : ChkA n := chkA_of n (chkC_all n)
end Go.Proofs.YtmkppkjikifdlaaGreatDoor.Sc
