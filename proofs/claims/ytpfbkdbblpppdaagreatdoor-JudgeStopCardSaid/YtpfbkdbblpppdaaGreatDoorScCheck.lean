/-
  DERIVED. bare, checkTest, checkAll, check of script: the walks.
-/
import Derived.Test.YtpfbkdbblpppdaaGreatDoorScMem
import Derived.Deep.DeepCutAuto
import Derived.Deep.CutBlock
set_option linter.unusedVariables false
set_option linter.unusedSimpArgs false
namespace Go.Proofs.YtpfbkdbblpppdaaGreatDoor.Sc
open Go.RowKit
open Tk (Tok)

theorem fit_int (b : Bool) : Ending.returned (Value.int .i64 (if b = true then 0 else 1)) = .returned (.int .i64 (if b = true then 0 else 1)) := rfl
theorem bare_t0 (Gn Gk Gt : Option Addr) (cn ck ct : Nat) (w : World) :
    Calls Tryz.prog 179 #[.agg #[.int .i64 0, .int .i64 0, .int .i64 0, .slice Gn 0 cn, .slice Gk 0 ck, .bool false, .int .i64 0, .slice Gt 0 ct]] w fun e w' => e = .returned (.bool true) ∧ Below w.heap.size w w' := by
  go_enter Tryz.func179, Tryz.ntmps179
  go_wp2_with fail
  go_ret
  exact ⟨rfl, (Below.refl _ _).alloc (Nat.le_refl _) _⟩
def ChkT (n : Nat) : Prop := ∀ (t : Tst) (d : Nat) (vs : List Value) (F : Dom) (w : World), (cTst n).rep w F t vs → FormT t → d ≤ 1000 → (wT t).length ≤ 1000000 →
    Calls Tryz.prog 178 #[.agg vs.toArray, .int .i64 d] w fun e w' => e = .returned (.int .i64 (if fitT d t = true then 0 else 1)) ∧ Below w.heap.size w w'
set_option maxHeartbeats 8000000 in
set_option maxRecDepth 20000 in
theorem checkTest_deep (n : Nat) (t : Tst) (d : Nat) (vs : List Value) (F : Dom) (w : World) (h : (cTst n).rep w F t vs) (hF : FormT t) (hd : d ≤ 1000) (h6 : 6 < d) :
    Calls Tryz.prog 178 #[.agg vs.toArray, .int .i64 d] w fun e w' => e = .returned (.int .i64 1) ∧ Below w.heap.size w w' := by
  have hk := hF.one.kind
  obtain ⟨m, Gn, cn, Gk, ck, Gt, ct, -, rfl, -⟩ := tst_open h
  obtain ⟨k, mt, p, ns, ks, o, l, ts⟩ := t
  simp only [tstC] at hk ⊢
  clear h hF
  generalize ns.length = nn; generalize ks.length = nk; generalize ts.length = nt
  have h1 := hk.1; have h2 := hk.2
  have hd6 : (6 : Int) < (d : Int) := by omega
  clear hk
  go_enter Tryz.func178, Tryz.ntmps178
  go_wp2_with fail
  go_ret
  exact ⟨rfl, (Below.refl _ _).alloc (Nat.le_refl _) _⟩
theorem fit_all {d : Nat} {ts : List Tst} (h : ∀ i (h : i < ts.length), fitT (d + 1) ts[i] = true) : ts.all (fitT (d + 1)) = true := List.all_eq_true.2 fun t ht => by
  obtain ⟨i, hi, rfl⟩ := List.getElem_of_mem ht; exact h i hi
theorem len0' {α : Type} {l : List α} (h : l.length = 0) : l = [] := List.eq_nil_of_length_eq_zero h
set_option maxHeartbeats 8000000 in
set_option maxRecDepth 20000 in
/-- a test that asks for no other ones -/
theorem chk_leaf (k mt p l : Int) (o : Bool) (nn nk : Nat) (d : Nat) (Gn : Option Addr) (cn : Nat) (Gk : Option Addr) (ck : Nat) (Gt : Option Addr) (ct : Nat) (w : World) (h1 : Form1 k mt p nn nk o l 0) (h3 : ¬ (3 ≤ k ∧ k ≤ 5)) (hd : d ≤ 6) :
    Calls Tryz.prog 178 #[.agg #[.int .i64 k, .int .i64 mt, .int .i64 p, .slice Gn nn cn, .slice Gk nk ck, .bool o, .int .i64 l, .slice Gt 0 ct], .int .i64 d] w fun e w' => e = .returned (.int .i64 0) ∧ Below w.heap.size w w' := by
  have hd6 : (d : Int) ≤ 6 := by omega
  clear hd
  rcases h1 with ⟨hk | hk, rfl, rfl, rfl, rfl, rfl, rfl, -⟩ | ⟨hk, -⟩ | ⟨hk, -⟩ | ⟨hk, ⟨hm1, hm3⟩, rfl, h4, h5, rfl, rfl, -⟩ | ⟨hk | hk, ⟨hm1, hm3⟩, ⟨hp1, hp3⟩, h4, h5, rfl, rfl, -⟩ | ⟨hk, rfl, rfl, h4, rfl, rfl, rfl, -⟩ | ⟨hk, rfl, rfl, rfl, rfl, ⟨hl1, hl3⟩, -⟩
  rotate_left 2
  · omega
  · omega
  all_goals
    clear h3
    subst hk
    go_enter Tryz.func178, Tryz.ntmps178
    go_wp2_with fail
  any_goals
    (go_region
     go_wp2_with fail)
  all_goals
    go_loopw [183] (fun v wr => v = .int .i64 0 ∧ Below w.heap.size w wr) (fun _ _ => 0)
    case atStart => exact ⟨rfl, by first | exact ba (ba (Below.refl _ _) _) _ | exact Below.drew (ba (ba (Below.refl _ _) _) _)⟩
    case round =>
      obtain ⟨rfl, hb⟩ := hrel
      go_wp2_with fail
      go_ret
      exact ⟨rfl, hb⟩
/-- 'p holds of the first j' -/
def UpTo {α : Type} (p : α → Bool) (l : List α) (j : Nat) : Prop := ∀ i a, l[i]? = some a → i < j → p a = true
theorem UpTo.zero {α : Type} (p : α → Bool) (l : List α) : UpTo p l 0 := fun _ _ _ h => absurd h (Nat.not_lt_zero _)
theorem UpTo.succ {α : Type} {p : α → Bool} {l : List α} {j : Nat} (h : UpTo p l j) {hj : j < l.length} (hp : p l[j] = true) : UpTo p l (j + 1) := by
  intro i a hi hlt
  rcases Nat.lt_or_ge i j with h3 | h3
  · exact h i a hi h3
  · obtain rfl : i = j := by omega
    rw [List.getElem?_eq_getElem hj] at hi
    exact Option.some.inj hi ▸ hp
theorem UpTo.all {α : Type} {p : α → Bool} {l : List α} (h : UpTo p l l.length) : l.all p = true := List.all_eq_true.2 fun t ht => by
  obtain ⟨i, hi, rfl⟩ := List.getElem_of_mem ht; exact h i _ (List.getElem?_eq_getElem hi) hi
/-- element j read and kept in a block of its own -/
theorem chk_take (w : World) (vs : List Value) (t : TypeId) : Has (w.alloc (.cells vs.toArray t)) w.heap.size vs ∧ Below w.heap.size w (w.alloc (.cells vs.toArray t)) := ⟨Has.alloc w vs t, ba (Below.refl _ _) _⟩
set_option maxHeartbeats 8000000 in
set_option maxRecDepth 20000 in
theorem chk_sub (n : Nat) (IH : ChkT n) (k : Int) (ts : List Tst) (d : Nat) (Gn : Option Addr) (cn : Nat) (Gk : Option Addr) (ck : Nat) (Gt : Option Addr) (ct : Nat) (F : Dom) (w : World) (h1 : (k = 3 ∧ ts.length = 1) ∨ ((k = 4 ∨ k = 5) ∧ 0 < ts.length)) (hT : SAt (cTst n) w F (.slice Gt ts.length ct) ts) (hF : ∀ t ∈ ts, FormT t ∧ (wT t).length ≤ 1000000) (hd : d ≤ 6) (hlen : ts.length ≤ 1000000) :
    Calls Tryz.prog 178 #[.agg #[.int .i64 k, .int .i64 0, .int .i64 0, .slice Gn 0 cn, .slice Gk 0 ck, .bool false, .int .i64 0, .slice Gt ts.length ct], .int .i64 d] w fun e w' => e = .returned (.int .i64 (if ts.all (fitT (d + 1)) = true then 0 else 1)) ∧ Below w.heap.size w w' := by
  have hd6 : (d : Int) ≤ 6 := by omega
  have IHH := Lib.hid IH; have HF := Lib.hid hF; have HT := Lib.hid hT
  obtain ⟨nt, hnt⟩ : ∃ nt, nt = ts.length := ⟨_, rfl⟩
  rw [← hnt] at h1 HT ⊢
  have h2 : (k = 3 ∧ ((nt : Int) == 1) = true ∧ 0 < nt) ∨ (k = 4 ∧ ((nt : Int) == 1) = true ∧ 0 < nt) ∨ (k = 4 ∧ ((nt : Int) == 1) = false ∧ 0 < nt) ∨ (k = 5 ∧ ((nt : Int) == 1) = true ∧ 0 < nt) ∨ (k = 5 ∧ ((nt : Int) == 1) = false ∧ 0 < nt) := by
    simp only [beq_iff_eq, beq_eq_false_iff_ne]
    omega
  have HNT := Lib.hid hnt
  obtain ⟨r, hr⟩ : ∃ r : Int, r = (if ts.all (fitT (d + 1)) = true then 0 else 1) := ⟨_, rfl⟩
  rw [← hr]
  have HR := Lib.hid hr
  clear hF hT IH h1 hnt hd hr
  rcases h2 with ⟨rfl, h8, h9⟩ | ⟨rfl, h8, h9⟩ | ⟨rfl, h8, h9⟩ | ⟨rfl, h8, h9⟩ | ⟨rfl, h8, h9⟩
  all_goals
    go_enter Tryz.func178, Tryz.ntmps178
    go_wp2_with fail
    go_loopw [183] (fun v wr => ∃ j : Nat, v = .int .i64 j ∧ j ≤ ts.length ∧ UpTo (fitT (d + 1)) ts j ∧ Below w.heap.size w wr) (fun v _ => ts.length - (intOf v).toNat)
    case atStart => exact ⟨0, rfl, Nat.zero_le _, UpTo.zero _ _, ba (ba (Below.refl _ _) _) _⟩
    case round =>
      obtain ⟨j, rfl, hj, hall, hb⟩ := hrel
      by_cases hlt : j < ts.length
      · obtain ⟨g, off, Ga, ca, Gb, cb, Gc, cc, rfl, hrep, c0, c1, c2, c3, c4, c5, c6, c7⟩ := tst_get HT.out (Same.of_below hb) hb.size j hlt
        obtain ⟨t, ht⟩ : ∃ t, t = ts[j] := ⟨_, rfl⟩
        have hFt : FormT t ∧ (wT t).length ≤ 1000000 := by rw [ht]; exact HF.out _ (List.getElem_mem hlt)
        rw [← ht] at hrep c0 c1 c2 c3 c4 c5 c6 c7
        have HTE := Lib.hid ht
        have hk := chk_take wr (tstC t (.slice Ga t.names.length ca) (.slice Gb t.keys.length cb) (.slice Gc t.tests.length cc)) 40
        have HB1 := Lib.hid (bt hb hk.2)
        have HC := Lib.hid (IHH.out t (d + 1) _ F _ ((cTst n).stable hrep (Same.of_below hk.2) hk.2.size) hFt.1 (by omega) hFt.2)
        have hjn : (j : Int) < nt := by rw [HNT.out]; omega
        have HLT := Lib.hid hlt
        obtain ⟨f, hf⟩ : ∃ f, f = fitT (d + 1) t := ⟨_, rfl⟩
        rw [← hf] at HC
        have HFE := Lib.hid hf
        clear hrep hb ht hFt hf hk hj
        go_wp2_with fail
        refine HC.out.mono ?_
        rintro e w5 ⟨rfl, hb5⟩
        have HB5 := Lib.hid (bt HB1.out hb5)
        clear hb5 HC HB1 c0 c1 c2 c3 c4 c5 c6 c7
        cases f
        · have hr : r = 1 := by
            rw [HR.out, if_neg]
            intro hh
            have := List.all_eq_true.1 hh _ (List.getElem_mem HLT.out)
            rw [← HTE.out, ← HFE.out] at this
            cases this
          subst hr
          go_wp2_with fail
          go_ret
          exact ⟨rfl, HB5.out⟩
        · go_wp2_with fail
          go_roundw
          case rel => exact ⟨j + 1, by go_num, HLT.out, hall.succ (HTE.out ▸ HFE.out.symm), HB5.out⟩
          case measure => have := HLT.out; simp [intOf]; omega
      · obtain rfl : j = ts.length := by omega
        have hr : r = 0 := by
          rw [HR.out, if_pos hall.all]
        subst hr
        have hjn : (ts.length : Int) = nt := by rw [HNT.out]
        go_wp2_with fail
        go_ret
        exact ⟨rfl, hb⟩
theorem chkT_all : ∀ n, ChkT n
  | 0 => fun t d vs F w h _ _ _ => h.elim
  | n + 1 => by
    intro t d vs F w h hF hd hsm
    obtain ⟨hs1, -, -, hs4⟩ := wT_subs hF
    by_cases h6 : 6 < d
    · have he : fitT d t = false := by rw [fitT_eq, decide_eq_false (by omega)]; rfl
      rw [he]
      exact checkTest_deep (n + 1) t d vs F w h hF hd h6
    · obtain ⟨m, Gn, cn, Gk, ck, Gt, ct, hm, rfl, -, -, hT⟩ := tst_open h
      obtain rfl : n = m := by omega
      have hFa := fun s hs => (⟨hF.all s hs, by have := hs4 s hs; omega⟩ : FormT s ∧ (wT s).length ≤ 1000000)
      have hln : t.tests.length ≤ 1000000 := by omega
      clear hs1 hs4 hsm
      have h1 := hF.one
      have hfit := fitT_eq d t
      rw [decide_eq_true (by omega : d ≤ 6), Bool.true_and] at hfit
      rw [hfit]
      obtain ⟨k, mt, p, ns, ks, o, l, ts⟩ := t
      simp only [tstC] at *
      by_cases h3 : 3 ≤ k ∧ k ≤ 5
      · have h5 : mt = 0 ∧ p = 0 ∧ ns.length = 0 ∧ ks.length = 0 ∧ o = false ∧ l = 0 ∧ ((k = 3 ∧ ts.length = 1) ∨ ((k = 4 ∨ k = 5) ∧ 0 < ts.length)) := by
          unfold Form1 at h1
          rcases h1 with h1 | ⟨rfl, rfl, rfl, h4, h5, rfl, rfl, h8⟩ | ⟨hk, rfl, rfl, h4, h5, rfl, rfl, h8⟩ | h1 | h1 | h1 | h1
          · omega
          · exact ⟨rfl, rfl, h4, h5, rfl, rfl, .inl ⟨rfl, h8⟩⟩
          · exact ⟨rfl, rfl, h4, h5, rfl, rfl, .inr ⟨hk, h8⟩⟩
          all_goals omega
        obtain ⟨rfl, rfl, h4, h5, rfl, rfl, h8⟩ := h5
        rw [h4, h5]
        exact chk_sub n (chkT_all n) k ts d Gn cn Gk ck Gt ct F w h8 hT hFa (by omega) hln
      · have h8 : ts.length = 0 := by unfold Form1 at h1; omega
        obtain rfl := len0' h8
        exact chk_leaf k mt p l o ns.length ks.length d Gn cn Gk ck Gt ct w h1 h3 (by omega)
end Go.Proofs.YtpfbkdbblpppdaaGreatDoor.Sc
