/- On the way. -/
import Derived.Test.YtjfclekmhfgkmaaGreatDoorRScStk
import Derived.Test.YtjfclekmhfgkmaaGreatDoorRScCmd2
import Derived.Test.YtjfclekmhfgkmaaGreatDoorRScW
import Derived.Test.YtjfclekmhfgkmaaGreatDoorRScWrote
import Derived.Test.YtjfclekmhfgkmaaGreatDoorRows
import Derived.Test.YtjfclekmhfgkmaaGreatDoorRLift
import Derived.Test.YtjfclekmhfgkmaaGreatDoorRName
import Derived.Test.YtjfclekmhfgkmaaGreatDoorRJgC
import Derived.Test.YtjfclekmhfgkmaaGreatDoorRScMem
import Derived.Test.YtjfclekmhfgkmaaGreatDoorRKtA
import Derived.Test.YtjfclekmhfgkmaaGreatDoorRFlags
import Derived.Test.YtjfclekmhfgkmaaGreatDoorRScPut
import Derived.IntWalk
import Derived.Maps.Own
import Derived.Maps.OwnSet
import Derived.StringKeys
import Derived.WalkKit
import Derived.Deep.DeepCutAuto
import Derived.Deep.CutBlock
set_option linter.unusedVariables false
set_option linter.unusedSimpArgs false
set_option maxHeartbeats 8000000
set_option maxRecDepth 20000
namespace Go.Proofs.YtjfclekmhfgkmaaGreatDoor.Sc
open Tk (Tok)
theorem listT_two : ∀ l : List Str, l.length ≤ 2 → (listT l).length ≤ 5
 | [], _ => by decide
 | [s], _ => by show 1 ≤ 5; decide
 | [s, t], _ => by show 5 ≤ 5; decide
theorem leafS_two (k : Int) (x : Stk) : (leafS k x).names.length ≤ 2 ∧ (leafS k x).keys.length ≤ 2 := by
 have hk : (keysS x).length ≤ 2 := by
  unfold keysS
  split <;> simp
 unfold leafS
 repeat' split
 ·exact ⟨by show 1 ≤ 2; decide, hk⟩
 ·exact ⟨by show 1 ≤ 2; decide, hk⟩
 ·exact ⟨by show 1 ≤ 2; decide, hk⟩
 ·refine ⟨?_, Nat.zero_le _⟩
  show (List.take _ _).length ≤ 2
  rw [List.length_take]; show min _ 2 ≤ 2; omega
 ·exact ⟨Nat.zero_le _, Nat.zero_le _⟩
 ·exact ⟨Nat.zero_le _, Nat.zero_le _⟩
theorem body_two (k m p : Int) (ns ks : List Str) (o : Bool) (l : Int) (h1 : ns.length ≤ 2) (h2 : ks.length ≤ 2) : (bodyT k m p ns ks o l []).length ≤ 12 := by
 have a := listT_two _ h1
 have b := listT_two _ h2
 unfold bodyT
 repeat' split
 all_goals first | (simp only [List.length_cons, List.length_append, List.length_nil, List.flatten_nil, seqT]; omega) | omega
theorem leaf_len (k : Int) (x : Stk) : (wT (leafS k x)).length ≤ 13 := by
 obtain ⟨h1, h2⟩ := leafS_two k x
 rw [wT_eq, leafS_sub, List.map_nil, List.length_cons]
 have := body_two (leafS k x).kind (leafS k x).mat (leafS k x).part _ _ (leafS k x).over (leafS k x).limit h1 h2
 omega
theorem zero_len (k : Int) : (wT (zeroT k)).length ≤ 13 := by
 rw [wT_eq]
 show (W _ :: bodyT k 0 0 [] [] false 0 []).length ≤ 13
 rw [List.length_cons]
 have := body_two k 0 0 [] [] false 0 (Nat.zero_le _) (Nat.zero_le _)
 omega
theorem flat_bound {α : Type} {B : Nat} (f : α → List Tok) : ∀ l : List α, (∀ x ∈ l, (f x).length ≤ B) → (l.flatMap f).length ≤ l.length * B
 | [], _ => Nat.zero_le _
 | a :: l, h => by
  have h1 := h a (List.mem_cons_self ..)
  have h2 := flat_bound f l fun x hx => h x (List.mem_cons_of_mem _ hx)
  rw [List.flatMap_cons, List.length_append, List.length_cons, Nat.add_mul]; omega
theorem seqT_bound {B : Nat} (l : List (List Tok)) (h : ∀ x ∈ l, x.length ≤ B) : (seqT l).length ≤ l.length * (B + 1) := by
 cases l with
 | nil => exact Nat.zero_le _
 | cons a l =>
  have h1 := h a (List.mem_cons_self ..)
  have h2 := flat_bound (B := B + 1) (fun y => M 44 :: y) l fun x hx => by rw [List.length_cons]; have := h x (List.mem_cons_of_mem _ hx); omega
  show (M 40 :: a ++ l.flatMap fun y => M 44 :: y).length ≤ _
  rw [List.length_append, List.length_cons, List.length_cons, Nat.add_mul]; omega
theorem wT_not (t : Tst) : (wT ⟨3, 0, 0, [], [], false, 0, [t]⟩).length = 1 + (wT t).length := by
 rw [wT_eq]
 show (W _ :: ([wT t].flatten)).length = _
 rw [List.flatten_cons, List.flatten_nil, List.append_nil, List.length_cons]; omega
theorem wT_of {k : Int} (hk : k = 4 ∨ k = 5) {B : Nat} (ts : List Tst) (hl : ts.length ≤ 3) (h : ∀ t ∈ ts, (wT t).length ≤ B) : (wT ⟨k, 0, 0, [], [], false, 0, ts⟩).length ≤ 3 * (B + 1) + 2 := by
 rw [wT_eq, List.length_cons]
 have e : bodyT k 0 0 [] [] false 0 (ts.map wT) = seqT (ts.map wT) ++ [M 41] := by unfold bodyT; rw [if_neg (by omega), if_pos hk]
 show (bodyT k 0 0 [] [] false 0 (ts.map wT)).length + 1 ≤ _
 rw [e, List.length_append]
 have h2 := seqT_bound (B := B) (ts.map wT) fun x hx => by obtain ⟨t, ht, rfl⟩ := List.mem_map.1 hx; exact h t ht
 rw [List.length_map] at h2
 have h3 : ts.length * (B + 1) ≤ 3 * (B + 1) := Nat.mul_le_mul_right _ hl
 show (seqT (ts.map wT)).length + 1 + 1 ≤ _
 omega
def tB : Nat → Nat
 | 0 => 13
 | m + 1 => 3 * (tB m + 1) + 2
theorem tB_pos : ∀ m, 13 ≤ tB m
 | 0 => Nat.le_refl _
 | m + 1 => by have := tB_pos m; rw [tB]; omega
theorem testS_len : ∀ (m : Nat) (x : Stk), (wT (testS m x)).length ≤ tB m
 | 0, x => by
  rw [testS]
  split
  ·exact zero_len _
  ·exact leaf_len _ _
 | m + 1, x => by
  have hp := tB_pos m
  rw [testS, tB]
  split
  ·rw [wT_not]; have := testS_len m (notS x); omega
  ·split
   ·rename_i h
    refine wT_of h _ ?_ fun t ht => ?_
    ·split
     ·exact Nat.le_succ_of_le (Nat.le_succ _)
     ·rw [List.length_map, List.length_take]; omega
    ·have ht' : t ∈ (if x.subs = [] then [zeroT (1 + (pick x.a 2 : Nat))] else (x.subs.take 3).map (testS m)) := ht
     split at ht'
     ·obtain rfl := List.mem_singleton.1 ht'
      have := zero_len (1 + (pick x.a 2 : Nat)); omega
     ·obtain ⟨y, -, rfl⟩ := List.mem_map.1 ht'
      exact testS_len m y
   ·have := leaf_len (kindS x) x; omega
theorem texts_one (k : Int) (x : Stk) : (textsS k x).length ≤ 1 := by
 unfold textsS
 repeat' split
 all_goals first | exact Nat.le_refl _ | exact Nat.zero_le _
theorem listT_single : ∀ l : List Str, l.length ≤ 1 → (if l = [] then ([] : List Tok) else listT l).length ≤ 1
 | [], _ => by simp
 | [s], _ => by simp [listT]
theorem plain_len (k : Int) (h : k ≠ 2) (tx : List Str) (hl : tx.length ≤ 1) : (wC ⟨k, tx, T0, [], []⟩).length ≤ 3 := by
 rw [wC_else (c := ⟨k, tx, T0, [], []⟩) h, List.length_cons, List.length_append]
 have := listT_single tx hl
 show (if tx = [] then ([] : List Tok) else listT tx).length + 1 + 1 ≤ 3
 omega
theorem wBr_le (c : Cmd) (h : c.kind = 2) : (wBr c).length ≤ (wC c).length := by rw [wC_if h, List.length_cons]; omega
theorem else_bound {B : Nat} (el : List Cmd) (hl : el.length ≤ 4) (h : ∀ c ∈ el, (wC c).length ≤ B) : (elseT el (el.flatMap wC) (el.map wBr)).length ≤ 3 + 4 * B := by
 have hf := flat_bound (B := B) wC el h
 have hm : el.length * B ≤ 4 * B := Nat.mul_le_mul_right _ hl
 unfold elseT
 split
 ·rename_i he
  match el, he with
  | [c], he =>
   have hc : c.kind = 2 := by simpa [isElsif] using he
   have h1 := wBr_le c hc
   have h2 := h c (List.mem_cons_self ..)
   show (W elsifW :: [wBr c].flatten).length ≤ _
   rw [List.flatten_cons, List.flatten_nil, List.append_nil, List.length_cons]; omega
 ·split
  ·exact Nat.zero_le _
  ·unfold blkT
   rw [List.length_cons, List.length_cons, List.length_append]
   show (el.flatMap wC).length + 1 + 1 + 1 ≤ _
   omega
theorem if_bound {B T : Nat} (t : Tst) (th el : List Cmd) (ht : (wT t).length ≤ T) (h1 : th.length ≤ 4) (h2 : el.length ≤ 4) (k1 : ∀ c ∈ th, (wC c).length ≤ B) (k2 : ∀ c ∈ el, (wC c).length ≤ B) : (wC ⟨2, [], t, th, el⟩).length ≤ 8 * B + T + 6 := by
 rw [wC_if (c := ⟨2, [], t, th, el⟩) rfl, wBr_eq, List.length_cons, List.length_append, List.length_append]
 have ha := flat_bound (B := B) wC th k1
 have hm : th.length * B ≤ 4 * B := Nat.mul_le_mul_right _ h1
 have hb := else_bound el h2 k2
 have hc : (blkT (th.flatMap wC)).length = (th.flatMap wC).length + 2 := by unfold blkT; rw [List.length_cons, List.length_append]; rfl
 show (wT t).length + ((blkT (th.flatMap wC)).length + (elseT el (el.flatMap wC) (el.map wBr)).length) + 1 ≤ _
 omega
def cB : Nat → Nat
 | 0 => 3
 | m + 1 => 8 * cB m + tB 2 + 6
theorem cB_pos : ∀ m, 3 ≤ cB m
 | 0 => Nat.le_refl _
 | m + 1 => by have := cB_pos m; rw [cB]; omega
theorem cmdS_len : ∀ (m : Nat) (x : Stk), (wC (cmdS m x)).length ≤ cB m
 | 0, x => by
  rw [cmdS]
  refine plain_len _ ?_ _ (texts_one _ _)
  split
  ·decide
  ·assumption
 | m + 1, x => by
  have ih := cmdS_len m
  rw [cmdS, cB]
  split
  ·refine if_bound _ _ _ (testS_len 2 _) ?_ ?_ (fun c hc => ?_) (fun c hc => ?_)
   ·rw [List.length_map, List.length_take]; omega
   ·rw [List.length_map, List.length_take]; omega
   ·obtain ⟨y, -, rfl⟩ := List.mem_map.1 hc; exact ih y
   ·obtain ⟨y, -, rfl⟩ := List.mem_map.1 hc; exact ih y
  ·rename_i h
   have := plain_len (kindC x) h _ (texts_one (kindC x) x)
   have := cB_pos m
   omega
theorem allS_short (l : List Stk) (n : Nat) : (((allS l).take n).flatMap wC).length ≤ 100000 := by
 have hB : ∀ c ∈ (allS l).take n, (wC c).length ≤ cB 2 := fun c hc => by
  have h := List.mem_of_mem_take hc
  rcases List.mem_cons.1 h with rfl | h
  ·have : (wC reqC).length = 11 := by decide
   rw [this]; decide
  ·obtain ⟨y, -, rfl⟩ := List.mem_map.1 h
   exact cmdS_len 2 y
 have h1 := flat_bound (B := cB 2) wC _ hB
 have h2 : ((allS l).take n).length ≤ 5 := by rw [List.length_take]; have := (allS_len l).2; omega
 have h3 : ((allS l).take n).length * cB 2 ≤ 5 * cB 2 := Nat.mul_le_mul_right _ h2
 have h4 : 5 * cB 2 ≤ 100000 := by decide
 omega
end Go.Proofs.YtjfclekmhfgkmaaGreatDoor.Sc
namespace Go.Proofs.YtjfclekmhfgkmaaGreatDoor.Sc
open Go.RowKit
open Tk (Tok)
theorem CmdPost.up {c : Cmd} {n n' : Nat} {w w' : World} {e : Ending} (h : CmdPost c n w e w') (hn : n ≤ n') : CmdPost c n' w e w' := by
 obtain ⟨vs, h1, h2, h3⟩ := h
 exact ⟨vs, h1, cmd_le hn h2, h3⟩
theorem texts_if (x : Stk) : textsS 2 x = textsS 3 x := rfl
theorem cmd_all : ∀ (m : Nat), m ≤ 2 → CmdAt m (m * 7 + 1) (2 - (m : Int))
 | 0, _ => fun n y vs F w' hr => by
  obtain ⟨_, G, c, -, rfl, -, -, hb⟩ := stk_open hr
  rw [cmdS]
  by_cases h : kindC y = 2
  ·rw [if_pos h, h, texts_if]
   exact cmd_plain 3 y _ _ w' hb (.inr ⟨h, rfl, by decide⟩) (by decide)
  ·rw [if_neg h]
   exact cmd_plain _ y _ _ w' hb (.inl ⟨rfl, h⟩) (by decide)
 | m + 1, hm => fun n y vs F w' hr => by
  obtain ⟨n', G, c, -, rfl, hs, -, hb⟩ := stk_open hr
  have ih := cmd_all m (by omega)
  have e : (2 : Int) - ((m + 1 : Nat) : Int) + 1 = 2 - (m : Int) := by omega
  have hd : 0 ≤ (2 : Int) - ((m + 1 : Nat) : Int) ∧ (2 : Int) - ((m + 1 : Nat) : Int) ≤ 1 := by omega
  by_cases h : kindC y = 2
  ·have := cmd_if m (m * 7 + 1) n' y _ _ F w' (by rw [e]; exact ih) hs hb h hd
   exact this.mono fun e w2 h => h.up (by omega)
  ·rw [cmdS, if_neg h]
   exact (cmd_plain _ y _ _ w' hb (.inl ⟨rfl, h⟩) (by omega)).mono fun e w2 h => h.up (by omega)
def reqV (N : Nat) : List Value := [.int .i64 1, .slice (some ⟨N, 0, none⟩) 4 4, .int .i64 0, .int .i64 0, .int .i64 0, .slice none 0 0, .slice none 0 0, .bool false, .int .i64 0, .slice none 0 0, .slice none 0 0, .slice none 0 0]
def ReqPost (w : World) (e : Ending) (w' : World) : Prop := ∃ N, e = .returned (.agg (reqV N).toArray) ∧ Has w' N (strs reqC.texts) ∧ w.heap.size ≤ N ∧ Below w.heap.size w w'
theorem req_end {N : Nat} {a : Act} {W w : World} (ht : a.tmps.getD 0 undef = .pointer (some ⟨w.heap.size, 0, none⟩)) (hd : a.defers = []) (h : Has W w.heap.size (reqV N)) (hN : Has W N (strs reqC.texts)) (hz : w.heap.size ≤ N) (hb : Below w.heap.size w W) :
    bodyPost Tryz.prog Tryz.f9 (ReqPost w) .ret a W := by
 unfold reqV at h
 obtain ⟨c0, c1, c2, c3, c4, c5, c6, c7, c8, c9, c10, c11⟩ := has_12 h
 refine bodyPost_ret (v := .agg (reqV N).toArray) ?_ hd ⟨N, rfl, hN, hz, hb⟩
 have ht' : a.tmps[0]?.getD undef = .pointer (some ⟨w.heap.size, 0, none⟩) := by simpa using ht
 simp [results, Tryz.results9, go_sem, ht', c0, c1, c2, c3, c4, c5, c6, c7, c8, c9, c10, c11, reqV]
theorem requires_any (w : World) : Calls Tryz.prog 9 #[] w (ReqPost w) := by
 have h1 := Has.alloc w (reqV (w.heap.size + 1)) 40
 have hal := ba (Below.refl (w.alloc (.cells (reqV (w.heap.size + 1)).toArray 40)).heap.size (w.alloc (.cells (reqV (w.heap.size + 1)).toArray 40))) (.cells (strs reqC.texts).toArray 9)
 have h2 := h1.down hal
 have hN := Has.alloc (w.alloc (.cells (reqV (w.heap.size + 1)).toArray 40)) (strs reqC.texts) 9
 rw [World.size_alloc] at hN
 have H2 := Lib.hid h2; have HN := Lib.hid hN
 have HB := Lib.hid (ba (ba (Below.refl w.heap.size w) (.cells (reqV (w.heap.size + 1)).toArray 40)) (.cells (strs reqC.texts).toArray 9))
 clear h1 hal h2 hN
 go_enter Tryz.func9, Tryz.ntmps9
 go_wp2_with fail
 exact req_end (N := w.heap.size + 1) rfl rfl H2.out HN.out (Nat.le_succ _) HB.out
theorem sat_strs {w : World} {F : Dom} {N : Nat} {l : List Str} (h : Has w N (strs l)) (hF : F N) : SAt cStr w F (.slice (some ⟨N, 0, none⟩) l.length l.length) l := by
 refine ⟨_, _, rfl, Nat.le_refl _, fun i y hi => ⟨N, 0, rfl, hF, h.2.2, strC y, rfl, fun j u hj => ?_⟩⟩
 have h0 : j = 0 := by have := (List.getElem?_eq_some_iff.1 hj).1; simp [strC] at this; omega
 subst h0
 obtain rfl : Value.string ⟨y.toArray⟩ = u := Option.some.inj hj
 have hl := (List.getElem?_eq_some_iff.1 hi).1
 have e : l.getD i [] = y := by rw [List.getD, hi]; rfl
 have hx : 0 + i * cStr.size + 0 = i := by show 0 + i * 1 + 0 = i; omega
 rw [hx, ← e]; exact h.1 i _ (strs_at l i hl)
theorem req_rep {w : World} {F : Dom} {N : Nat} (h : Has w N (strs reqC.texts)) (hF : F N) : (cCmd 1).rep w F reqC (reqV N) := rep_text (k := 1) (sat_strs h hF)
theorem SAt.held {α : Type} {c : Cod α} {w : World} {F : Dom} {g off n cap : Nat} {xs : List α} (h : SAt c w F (.slice (some ⟨g, off, none⟩) n cap) xs) : ∃ ps : Held α, ps.map Prod.fst = xs ∧ (∀ p ∈ ps, c.rep w F p.1 p.2) ∧ ∀ j u, (hcells ps)[j]? = some u → w.cell? (Addr.add ⟨g, off, none⟩ j) = some u := by
 obtain ⟨G, cap', hv, hc, hf⟩ := h
 have key : ∀ k, k ≤ xs.length → ∃ ps : Held α, ps.map Prod.fst = xs.take k ∧ (∀ p ∈ ps, c.rep w F p.1 p.2) ∧ ∀ j u, (hcells ps)[j]? = some u → w.cell? (Addr.add ⟨g, off, none⟩ j) = some u := by
  intro k
  induction k with
  | zero => exact fun _ => ⟨[], rfl, (fun p hp => by cases hp), fun j u hj => by simp [hcells] at hj⟩
  | succ k ih =>
   intro hk
   obtain ⟨ps, h1, h2, h3⟩ := ih (by omega)
   obtain ⟨g', off', hG, -, -, vs, h4, h5⟩ := hf k xs[k] (List.getElem?_eq_getElem (by omega))
   obtain ⟨rfl, rfl⟩ : g = g' ∧ off = off' := by cases hv; cases hG; exact ⟨rfl, rfl⟩
   have hpl : ps.length = k := by have := congrArg List.length h1; rw [List.length_map, List.length_take] at this; omega
   have hfit : Fits' c.size ps := fun p hp => c.len (h2 p hp)
   refine ⟨ps ++ [(xs[k], vs)], by rw [List.map_append, h1, List.take_succ_eq_append_getElem (by omega)]; rfl, fun p hp => ?_, fun j u hj => ?_⟩
   ·rcases List.mem_append.1 hp with hp | hp
    ·exact h2 p hp
    ·obtain rfl := List.mem_singleton.1 hp; exact h4
   ·rw [hcells_snoc] at hj
    rcases Nat.lt_or_ge j (hcells ps).length with hl | hl
    ·rw [List.getElem?_append_left hl] at hj; exact h3 j u hj
    ·rw [List.getElem?_append_right hl] at hj
     have := h5 _ u hj
     rw [Addr.add_lit]
     rw [hcells_length hfit, hpl] at this hl
     rwa [show off + k * c.size + (j - k * c.size) = off + j by omega] at this
 obtain ⟨ps, h1, h2⟩ := key xs.length (Nat.le_refl _)
 rw [List.take_length] at h1
 exact ⟨ps, h1, h2⟩
theorem cmd_cells {K : Nat} {w : World} {F : Dom} : ∀ {ps : Held Cmd}, (∀ p ∈ ps, (cCmd K).rep w F p.1 p.2) → ∀ u ∈ hcells ps, u.oneCell' = true := by
 intro ps h u hu
 unfold hcells at hu
 obtain ⟨p, hp, hup⟩ := List.mem_flatMap.1 hu
 obtain ⟨k, G0, n0, c0, k1, m, q, G1, n1, c1, G2, n2, c2, o, l, G3, n3, c3, G4, n4, c4, G5, n5, c5, e⟩ := cmd_form12 (h p hp)
 rw [e] at hup
 simp only [List.mem_cons, List.not_mem_nil, or_false] at hup
 rcases hup with rfl | rfl | rfl | rfl | rfl | rfl | rfl | rfl | rfl | rfl | rfl | rfl <;> rfl
theorem commands_nil (G : Option Addr) (c : Nat) (d : Int) (w : World) : Calls Tryz.prog 10 #[.slice G 0 c, .int .i64 d] w fun e w' => e = .returned (.slice none 0 0) ∧ w = w' := by
 go_enter Tryz.func10, Tryz.ntmps10
 go_wp2_with fail
 go_loop [5, 6] (fun v i => v = .slice none 0 0 ∧ i = .int .i64 0) (fun _ _ => 0)
 case atStart => exact ⟨rfl, rfl⟩
 case round =>
  obtain ⟨rfl, rfl⟩ := hrel
  go_wp2_with fail
  go_ret
  exact ⟨rfl, rfl⟩
def ScrPost (cs : List Cmd) (K : Nat) (w : World) (e : Ending) (w' : World) : Prop := ∃ G c, e = .returned (.slice G cs.length c) ∧ SAt (cCmd K) w' (fun b => w.heap.size ≤ b) (.slice G cs.length c) cs ∧ Below w.heap.size w w'
def sliceLen : Value → Nat
 | .slice _ n _ => n
 | _ => 0
def ScrRel (l : List Stk) (K : Nat) (w : World) (v : Value) (wr : World) : Prop := ∃ (k : Nat) (G : Option Addr) (c : Nat), 1 ≤ k ∧ k ≤ 5 ∧ k ≤ (allS l).length ∧ v = .slice G k c ∧ SAt (cCmd K) wr (fun b => w.heap.size ≤ b) (.slice G k c) ((allS l).take k) ∧ scriptS l = (allS l).take (trimK (allS l) k) ∧ Below w.heap.size w wr
theorem script_any (l : List Stk) (v : Value) (n : Nat) (F : Dom) (w : World) (hv : SAt (cStk n) w F v l) (hlen : l.length ≤ 140737488351232) (htab : Tabs w w.heap.size) :
    Calls Tryz.prog 4 #[v] w (ScrPost (scriptS l) 15 w) := by
 obtain ⟨G, c, rfl, hlc⟩ := hv.form
 have HCM : Hid (∀ w', Below w.heap.size w w' → Calls Tryz.prog 10 #[.slice G l.length c, .int .i64 0] w' (CmdsPost (cmdsS 2 l) 15 w')) := fun w' hb => commands_any 2 15 n l _ 0 F w' (cmd_all 2 (by omega)) (hv.down hb) hlen
 have HTB : Hid (∀ w', Below w.heap.size w w' → Tabs w' w'.heap.size) := fun w' hb => (htab.down (Nat.le_refl _) hb).up hb.size
 have hml := (allS_len l).2
 have hal1 : (allS l).length = (cmdsS 2 l).length + 1 := rfl
 have HREQ := Lib.hid (requires_any w)
 clear hv htab
 go_enter Tryz.func4, Tryz.ntmps4
 go_wp2_with fail
 refine HREQ.out.mono ?_
 intro e w1 h1
 obtain ⟨N, rfl, hN, hzN, hb1⟩ := h1
 unfold reqV
 have hal := ba (Below.refl w1.heap.size w1) (.cells (reqV N).toArray 40)
 have hown := World.ownsRow_lit (base := w1.heap.size) (e := 40) (size := 12) w1 (reqV N).toArray 1 (Nat.le_refl _) (by decide) rfl
 have HOWN := Lib.hid hown; have HB2 := Lib.hid (bt hb1 hal); have HN2 := Lib.hid (hN.down hal)
 have hz1 := hb1.size
 have hNl : N < w1.heap.size := hN.2.2
 unfold reqV at HOWN HB2 HN2
 clear hown hal hN hb1 HREQ
 have HALLT := Lib.hid (allS_form l)
 have HF := Lib.hid (allS_form l); have HSH := Lib.hid (allS_short l)
 by_cases h0 : l.length = 0
 ·have hl1 : (allS l).length = 1 := by rw [hal1]; unfold cmdsS; rw [List.length_map, List.length_take]; omega
  have HC0 := Lib.hid (commands_nil G c 0 (w1.alloc (.cells #[.int .i64 1, .slice (some ⟨N, 0, none⟩) 4 4, .int .i64 0, .int .i64 0, .int .i64 0, .slice none 0 0, .slice none 0 0, .bool false, .int .i64 0, .slice none 0 0, .slice none 0 0, .slice none 0 0] 40)))
  have hstart : ScrRel l 15 w (.slice (some ⟨w1.heap.size, 0, none⟩) 1 1) (w1.alloc (.cells #[.int .i64 1, .slice (some ⟨N, 0, none⟩) 4 4, .int .i64 0, .int .i64 0, .int .i64 0, .slice none 0 0, .slice none 0 0, .bool false, .int .i64 0, .slice none 0 0, .slice none 0 0, .slice none 0 0] 40)) := by
   refine ⟨1, _, 1, by omega, by omega, by omega, rfl, ?_, by unfold scriptS; rw [hl1], HB2.out⟩
   exact sat_lone ((cCmd 15).mono (cmd_le (by omega) (req_rep (F := fun b => w.heap.size ≤ b) HN2.out hzN)) (fun _ h => h)) (Has.alloc w1 _ _) hz1
  have HST := Lib.hid hstart
  clear hstart hlc HCM hl1
  go_wp2_with fail
  refine HC0.out.mono ?_
  rintro e w3 ⟨rfl, rfl⟩
  go_wp2_with fail
  obtain ⟨W3, hW3⟩ : ∃ W3, W3 = w1.alloc (.cells #[.int .i64 1, .slice (some ⟨N, 0, none⟩) 4 4, .int .i64 0, .int .i64 0, .int .i64 0, .slice none 0 0, .slice none 0 0, .bool false, .int .i64 0, .slice none 0 0, .slice none 0 0, .slice none 0 0] 40) := ⟨_, rfl⟩
  rw [← hW3] at HST ⊢
  clear hW3 HC0 HOWN HN2 HB2
  go_loopw [3] (ScrRel l 15 w) (fun v _ => sliceLen v)
  case atStart => exact HST.out
  case round =>
   obtain ⟨k, Gk, ck, hk1, hk5, hkl, rfl, hsk, hsc, hb⟩ := hrel
   have HSK := Lib.hid hsk; have HSC := Lib.hid hsc; have HBK := Lib.hid hb
   have hkc : k ≤ ck := by obtain ⟨_, c', e, h, -⟩ := hsk; injection e with _ _ e3; rw [List.length_take] at h; omega
   have htk : ((allS l).take k).length = k := by rw [List.length_take]; omega
   have HTK := Lib.hid htk
   clear hsk hsc
   by_cases h1 : k = 1
   ·subst h1
    have hend : ScrPost (scriptS l) 15 w (.returned (.slice Gk 1 ck)) wr := by
     have e : scriptS l = (allS l).take 1 := HSC.out
     have e2 : ((allS l).take 1).length = 1 := htk
     rw [e]
     unfold ScrPost
     rw [e2]
     exact ⟨_, _, rfl, HSK.out, hb⟩
    have HE := Lib.hid hend
    clear hend hb htk
    go_wp2_with fail
    go_ret
    exact HE.out
   ·have hsb := SAt.bd (fun _ _ hr => cmd_bd 15 hr) HSK.out
    have HCK := Lib.hid (check_any 15 ((allS l).take k) (.slice Gk k ck) _ wr hsb (fun c hc => HF.out c (List.mem_of_mem_take hc)) (fun b hb => hb.2) (HTB.out wr hb) (by have := HSH.out k; omega))
    obtain ⟨r, hr⟩ : ∃ r, r = checkS ((allS l).take k) := ⟨_, rfl⟩
    rw [← hr] at HCK
    have HR := Lib.hid hr
    have hk2 : (1 : Int) < k := by omega
    clear hsb hr hb htk
    go_wp2_with fail
    refine HCK.out.mono ?_
    rintro e w6 ⟨rfl, hb6⟩
    have HB6 := Lib.hid (bt HBK.out hb6); have HS6 := Lib.hid (HSK.out.down hb6)
    clear hb6 HCK
    by_cases hr0 : r = 0
    ·have hend : ScrPost (scriptS l) 15 w (.returned (.slice Gk k ck)) w6 := by
      obtain ⟨k', rfl⟩ : ∃ k', k = k' + 2 := ⟨k - 2, by omega⟩
      have e : scriptS l = (allS l).take (k' + 2) := by rw [HSC.out, trimK, if_pos (by rw [← HR.out]; exact hr0)]
      unfold ScrPost
      rw [e, HTK.out]
      exact ⟨_, _, rfl, HS6.out, HB6.out⟩
     have HE := Lib.hid hend
     subst hr0
     clear hend
     go_wp2_with fail
     go_ret
     exact HE.out
    ·have hr1 : (r != 0) = true := by rw [bne, beq_eq_false_iff_ne.2 hr0]; rfl
     have hn : Hid (scriptS l = (allS l).take (trimK (allS l) (k - 1))) := by
      unfold Hid
      obtain ⟨k', rfl⟩ : ∃ k', k = k' + 2 := ⟨k - 2, by omega⟩
      rw [HSC.out, trimK, if_neg (by rw [← HR.out]; exact hr0)]; rfl
     have hsn : Hid (SAt (cCmd 15) w6 (fun b => w.heap.size ≤ b) (.slice Gk (k - 1) ck) ((allS l).take (k - 1))) := by
      unfold Hid
      have := HS6.out.take (k - 1) ck (by rw [HTK.out]; omega) (by omega)
      rwa [List.take_take, Nat.min_eq_left (by omega)] at this
     have j1 : (0 : Int) ≤ (k : Int) - 1 := by omega
     have j2 : ((k : Int) - 1).toNat = k - 1 := by omega
     have j3 : (k : Int) - 1 ≤ ck := by omega
     have j4 : IntKind.i64.wrap ((k : Int) - 1) = (k : Int) - 1 := IntWalk.i64_in _ (by omega)
     clear hr0
     go_wp2_with fail
     go_roundw
     case rel => exact ⟨k - 1, Gk, ck, by omega, by omega, by omega, rfl, hsn.out, hn.out, HB6.out⟩
     case measure => show k - 1 < k; omega
 ·go_wp2_with fail
  refine (HCM.out _ HB2.out).mono ?_
  intro e w3 h3
  obtain ⟨v3, rfl, hs3, hb3⟩ := h3
  obtain ⟨G3, c3, rfl, hc3⟩ := hs3.form
  have hz2 : w1.heap.size < w3.heap.size := by have := hb3.size; rw [World.size_alloc] at this; omega
  have HOWN3 := Lib.hid (row_down HOWN.out hb3); have HN3 := Lib.hid (HN2.out.down hb3); have HB3 := Lib.hid (bt HB2.out hb3)
  have hs3' := hs3.mono (F' := fun b => w1.heap.size < b) (fun b hb => by rw [World.size_alloc] at hb; omega)
  obtain ⟨cs, hcs⟩ : ∃ cs, cs = cmdsS 2 l := ⟨_, rfl⟩
  have hall : allS l = reqC :: cs := by rw [hcs]; rfl
  have hcp : 0 < cs.length := by rw [hcs]; unfold cmdsS; rw [List.length_map, List.length_take]; omega
  rw [← hcs] at hs3' hal1 ⊢
  have hcl : cs.length ≤ 4 := by omega
  have HALL := Lib.hid hall; have HS3 := Lib.hid hs3'
  obtain ⟨g3, o3, rfl⟩ : ∃ g off, G3 = some ⟨g, off, none⟩ := by
   obtain ⟨g, off, _, hG, -⟩ := hs3'.get 0 hcp
   exact ⟨g, off, hG⟩
  obtain ⟨ps, hp1, hp2, hp3⟩ := SAt.held hs3'
  have hpl : ps.length = cs.length := by have := congrArg List.length hp1; rwa [List.length_map] at this
  have hhl : (hcells ps).length = cs.length * 12 := by rw [hcells_length (k := 12) (fun p hp => (cCmd 15).len (hp2 p hp)), hpl]
  have h1c := cmd_cells hp2
  obtain ⟨i0, hi, hzi0, hzi1, hzi2⟩ := info_three info_cmd
  have HI0 := Lib.hid hi; have HZ0 := Lib.hid hzi0; have HZ1 := Lib.hid hzi1; have HZ2 := Lib.hid hzi2
  have HP1 := Lib.hid hp1; have HP2 := Lib.hid hp2; have HP3 := Lib.hid hp3; have HHL := Lib.hid hhl; have H1C := Lib.hid h1c
  clear hs3 hs3' hcs hb3 HOWN HN2 HB2 HCM hp1 hp2 hp3 hhl h1c hi hzi0 hzi1 hzi2 hpl hall
  go_wp2_with (at_builtin; refine wpList_append_lies _ (by rfl) _ _ _ (by rfl) w1.heap.size 40 i0 _ 12 192 Tryz.underlying23 HI0.out HZ0.out HZ1.out HZ2.out rfl (by omega) (.slice (some ⟨w1.heap.size, 0, none⟩) 1 1) 1 [.int .i64 1, .slice (some ⟨N, 0, none⟩) 4 4, .int .i64 0, .int .i64 0, .int .i64 0, .slice none 0 0, .slice none 0 0, .bool false, .int .i64 0, .slice none 0 0, .slice none 0 0, .slice none 0 0] (by rfl) HOWN3.out ⟨g3, o3, none⟩ cs.length c3 (hcells ps) (by rfl) HHL.out HP3.out H1C.out (by omega) (by unfold maxLen; omega) (by omega) (by omega) w3.heap.size rfl ?_)
  intro g5 cap5 w5 hown5 hgrow5 hat5 hlt5
  have hg5 : w1.heap.size ≤ g5 := by
   rcases hat5 with h | h
   ·have h' : w1.heap.size = g5 := Option.some.inj h
    omega
   ·omega
  have hb5 : Below w.heap.size w w5 := below_far HB3.out hgrow5 (fun b e => by have e' : w1.heap.size = b := Option.some.inj e; omega) HB3.out.size
  have hstart : ScrRel l 15 w (.slice (some ⟨g5, 0, none⟩) (1 + cs.length) cap5) w5 := by
   have hl5 : (allS l).length = 1 + cs.length := by omega
   refine ⟨1 + cs.length, _, _, by omega, by omega, by omega, rfl, ?_, by unfold scriptS; rw [hl5], hb5⟩
   have hT : (allS l).take (1 + cs.length) = ((reqC, [.int .i64 1, .slice (some ⟨N, 0, none⟩) 4 4, .int .i64 0, .int .i64 0, .int .i64 0, .slice none 0 0, .slice none 0 0, .bool false, .int .i64 0, .slice none 0 0, .slice none 0 0, .slice none 0 0]) :: ps).map Prod.fst := by
    rw [← hl5, List.take_length, HALL.out, List.map_cons, HP1.out]
   rw [hT]
   refine ORow.sat (base := w1.heap.size) (S := fun b => w.heap.size ≤ b ∧ b ≠ w1.heap.size ∧ b < w3.heap.size) (e := 40) ⟨?_, fun p hp => ?_, fun b hb hh => ?_⟩ (fun b hb => by show w.heap.size ≤ b; omega) (fun b hb => hb.1)
   ·have hlen : ((reqC, [.int .i64 1, .slice (some ⟨N, 0, none⟩) 4 4, .int .i64 0, .int .i64 0, .int .i64 0, .slice none 0 0, .slice none 0 0, .bool false, .int .i64 0, .slice none 0 0, .slice none 0 0, .slice none 0 0]) :: ps).length = 1 + cs.length := by
     have := congrArg List.length HP1.out
     rw [List.length_map] at this
     rw [List.length_cons]; omega
    rw [hlen]; exact hown5
   ·have hgr : Same (fun b => w.heap.size ≤ b ∧ b ≠ w1.heap.size ∧ b < w3.heap.size) w3 w5 := Same.of_grown hgrow5 (fun b e hF => by have e' : w1.heap.size = b := Option.some.inj e; exact hF.2.1 e'.symm)
    rcases List.mem_cons.1 hp with rfl | hp
    ·exact (cCmd 15).stable (cmd_le (by omega) (req_rep (F := fun b => w.heap.size ≤ b ∧ b ≠ w1.heap.size ∧ b < w3.heap.size) HN3.out ⟨hzN, by omega, by have := HN3.out.2.2; exact this⟩)) hgr hgrow5.size
    ·exact (cCmd 15).stable ((cCmd 15).mono (cmd_bd 15 (HP2.out p hp)) (fun b hb => ⟨by have := hb.1; omega, by have := hb.1; omega, hb.2⟩)) hgr hgrow5.size
   ·have e' : g5 = b := Option.some.inj hb
    rcases hat5 with h | h
    ·have h' : w1.heap.size = g5 := Option.some.inj h
     exact hh.2.1 (by omega)
    ·have := hh.2.2; omega
  have HST := Lib.hid hstart
  clear hstart hown5 hgrow5 hat5 hlt5 hb5
  go_wp2_with fail
  go_loopw [3] (ScrRel l 15 w) (fun v _ => sliceLen v)
  case atStart => exact HST.out
  case round =>
   obtain ⟨k, Gk, ck, hk1, hk5, hkl, rfl, hsk, hsc, hb⟩ := hrel
   have HSK := Lib.hid hsk; have HSC := Lib.hid hsc; have HBK := Lib.hid hb
   have hkc : k ≤ ck := by obtain ⟨_, c', e, h, -⟩ := hsk; injection e with _ _ e3; rw [List.length_take] at h; omega
   have htk : ((allS l).take k).length = k := by rw [List.length_take]; omega
   have HTK := Lib.hid htk
   clear hsk hsc
   by_cases h1 : k = 1
   ·subst h1
    have hend : ScrPost (scriptS l) 15 w (.returned (.slice Gk 1 ck)) wr := by
     have e : scriptS l = (allS l).take 1 := HSC.out
     have e2 : ((allS l).take 1).length = 1 := htk
     rw [e]
     unfold ScrPost
     rw [e2]
     exact ⟨_, _, rfl, HSK.out, hb⟩
    have HE := Lib.hid hend
    clear hend hb htk
    go_wp2_with fail
    go_ret
    exact HE.out
   ·have hsb := SAt.bd (fun _ _ hr => cmd_bd 15 hr) HSK.out
    have HCK := Lib.hid (check_any 15 ((allS l).take k) (.slice Gk k ck) _ wr hsb (fun c hc => HF.out c (List.mem_of_mem_take hc)) (fun b hb => hb.2) (HTB.out wr hb) (by have := HSH.out k; omega))
    obtain ⟨r, hr⟩ : ∃ r, r = checkS ((allS l).take k) := ⟨_, rfl⟩
    rw [← hr] at HCK
    have HR := Lib.hid hr
    have hk2 : (1 : Int) < k := by omega
    clear hsb hr hb htk
    go_wp2_with fail
    refine HCK.out.mono ?_
    rintro e w6 ⟨rfl, hb6⟩
    have HB6 := Lib.hid (bt HBK.out hb6); have HS6 := Lib.hid (HSK.out.down hb6)
    clear hb6 HCK
    by_cases hr0 : r = 0
    ·have hend : ScrPost (scriptS l) 15 w (.returned (.slice Gk k ck)) w6 := by
      obtain ⟨k', rfl⟩ : ∃ k', k = k' + 2 := ⟨k - 2, by omega⟩
      have e : scriptS l = (allS l).take (k' + 2) := by rw [HSC.out, trimK, if_pos (by rw [← HR.out]; exact hr0)]
      unfold ScrPost
      rw [e, HTK.out]
      exact ⟨_, _, rfl, HS6.out, HB6.out⟩
     have HE := Lib.hid hend
     subst hr0
     clear hend
     go_wp2_with fail
     go_ret
     exact HE.out
    ·have hr1 : (r != 0) = true := by rw [bne, beq_eq_false_iff_ne.2 hr0]; rfl
     have hn : Hid (scriptS l = (allS l).take (trimK (allS l) (k - 1))) := by
      unfold Hid
      obtain ⟨k', rfl⟩ : ∃ k', k = k' + 2 := ⟨k - 2, by omega⟩
      rw [HSC.out, trimK, if_neg (by rw [← HR.out]; exact hr0)]; rfl
     have hsn : Hid (SAt (cCmd 15) w6 (fun b => w.heap.size ≤ b) (.slice Gk (k - 1) ck) ((allS l).take (k - 1))) := by
      unfold Hid
      have := HS6.out.take (k - 1) ck (by rw [HTK.out]; omega) (by omega)
      rwa [List.take_take, Nat.min_eq_left (by omega)] at this
     have j1 : (0 : Int) ≤ (k : Int) - 1 := by omega
     have j2 : ((k : Int) - 1).toNat = k - 1 := by omega
     have j3 : (k : Int) - 1 ≤ ck := by omega
     have j4 : IntKind.i64.wrap ((k : Int) - 1) = (k : Int) - 1 := IntWalk.i64_in _ (by omega)
     clear hr0
     go_wp2_with fail
     go_roundw
     case rel => exact ⟨k - 1, Gk, ck, by omega, by omega, by omega, rfl, hsn.out, hn.out, HB6.out⟩
     case measure => show k - 1 < k; omega
end Go.Proofs.YtjfclekmhfgkmaaGreatDoor.Sc
namespace Go.Proofs.YtjfclekmhfgkmaaGreatDoor.Sc
open Go
theorem tabAt_reads {W : World} {name : String} {g t n : Nat} {l : List Str} (hr : Lib.VarReads Tryz.prog W name (.agg (l.map fun s => .lit (.string s)))) (hg : Tryz.prog.globalNamed name = some g) (ht : (Tryz.prog.globals[g]?).map (·.type) = some t) (hu : Tryz.prog.underlying t = some (.array n 9)) (hl : 0 < l.length) : TabAt W g l ∧ g < W.heap.size := by
 have h := strs_of_reads (l := l) hr hg ht hu Tryz.underlying9 (by kernel_rfl)
 refine ⟨fun j s hj => ?_, World.block_lt_of_cell? W ⟨g, 0, none⟩ (h 0 hl)⟩
 obtain ⟨hlt, rfl⟩ := List.getElem?_eq_some_iff.1 hj
 exact h j hlt
theorem tabs_of {W : World} {laid : List (String × DataW Unit)} (h : laidMet Tryz.prog laid W) (h1 : ("postroom/script.commands", Rows.laid_postroom_script_commands) ∈ laid) (h2 : ("postroom/script.tests", Rows.laid_postroom_script_tests) ∈ laid)
    (h3 : ("postroom/script.matches", Rows.laid_postroom_script_matches) ∈ laid) (h4 : ("postroom/script.parts", Rows.laid_postroom_script_parts) ∈ laid) : Tabs W W.heap.size := by
 have c := tabAt_reads (l := cmdTab) (g := 0) (t := 75) (Lib.laidMet.reads h h1) (by kernel_rfl) (by kernel_rfl) Tryz.underlying75 (by decide)
 have t := tabAt_reads (l := tstTab) (g := 2) (t := 75) (Lib.laidMet.reads h h2) (by kernel_rfl) (by kernel_rfl) Tryz.underlying75 (by decide)
 have m := tabAt_reads (l := matTab) (g := 4) (t := 99) (Lib.laidMet.reads h h3) (by kernel_rfl) (by kernel_rfl) Tryz.underlying99 (by decide)
 have p := tabAt_reads (l := parTab) (g := 3) (t := 99) (Lib.laidMet.reads h h4) (by kernel_rfl) (by kernel_rfl) Tryz.underlying99 (by decide)
 exact ⟨t.1, c.1, m.1, p.1, t.2, c.2, m.2, p.2⟩
end Go.Proofs.YtjfclekmhfgkmaaGreatDoor.Sc
namespace Go.Proofs.YtjfclekmhfgkmaaGreatDoor.Sc
open Tk (Tok)
def fileinW : Str := [102, 105, 108, 101, 105, 110, 116, 111]
def rejW : Str := [114, 101, 106, 101, 99, 116]
def envW : Str := [101, 110, 118, 101, 108, 111, 112, 101]
def flagsW : Str := [105, 109, 97, 112, 52, 102, 108, 97, 103, 115]
def fromW : Str := [102, 114, 111, 109]
def toW : Str := [116, 111]
def extL : List Str := [fileinW, rejW, envW, flagsW]
def flagL : List Str := [[92, 83, 101, 101, 110], [92, 65, 110, 115, 119, 101, 114, 101, 100], [92, 70, 108, 97, 103, 103, 101, 100], [92, 68, 101, 108, 101, 116, 101, 100], [92, 68, 114, 97, 102, 116]]
def orE (a b : Int) : Int := if a = 0 then b else a
def needR (has : List Str) (s : Str) : Int := if has.contains s = true then 0 else 8
mutual
def tstR (has : List Str) : Tst → Int
 | ⟨k, _, _, ns, ks, _, _, ts⟩ => orE (if k = 8 then orE (needR has envW) (if ns.all (fun s => s == fromW || s == toW) = true then 0 else 7) else 0) (orE (if (ns ++ ks).all (fun s => decide (s.length ≤ 100)) = true then 0 else 1) (tstsR has ts))
def tstsR (has : List Str) : List Tst → Int
 | [] => 0
 | t :: l => orE (tstR has t) (tstsR has l)
end
theorem tstR_eq (has : List Str) (t : Tst) : tstR has t = orE (if t.kind = 8 then orE (needR has envW) (if t.names.all (fun s => s == fromW || s == toW) = true then 0 else 7) else 0) (orE (if (t.names ++ t.keys).all (fun s => decide (s.length ≤ 100)) = true then 0 else 1) (tstsR has t.tests)) := by
 obtain ⟨k, m, p, ns, ks, o, l, ts⟩ := t; rw [tstR]
def flagR (tx : List Str) : Int := if tx.all (fun s => flagL.contains s) = true then 0 else 7
def oneList (s : Str) : Bool := match listL s with
 | some [_] => true
 | _ => false
mutual
def cmdR (has : List Str) : Cmd → Int
 | ⟨k, tx, t, th, el⟩ =>
  if k = 1 then 3 else if k = 2 then orE (tstR has t) (orE (cmdsR has th) (cmdsR has el))
  else if k = 5 then orE (needR has fileinW) (nameCode (tx.headD []))
  else if k = 7 then needR has rejW
  else if k = 8 ∨ k = 9 then orE (needR has flagsW) (flagR tx)
  else if k = 6 then (if oneList (tx.headD []) = true then 0 else 3) else 0
def cmdsR (has : List Str) : List Cmd → Int
 | [] => 0
 | c :: l => orE (cmdR has c) (cmdsR has l)
end
theorem cmdR_eq (has : List Str) (c : Cmd) : cmdR has c = if c.kind = 1 then 3 else if c.kind = 2 then orE (tstR has c.test) (orE (cmdsR has c.thn) (cmdsR has c.els)) else if c.kind = 5 then orE (needR has fileinW) (nameCode (c.texts.headD [])) else if c.kind = 7 then needR has rejW else if c.kind = 8 ∨ c.kind = 9 then orE (needR has flagsW) (flagR c.texts) else if c.kind = 6 then (if oneList (c.texts.headD []) = true then 0 else 3) else 0 := by
 obtain ⟨k, tx, t, th, el⟩ := c; rw [cmdR]
def goR : List Str → List Cmd → Int
 | _, [] => 0
 | has, c :: l => if c.kind = 1 then (if c.texts.all (fun s => extL.contains s) = true then goR (has ++ c.texts) l else 7) else cmdsR has (c :: l)
def ruleS (cs : List Cmd) : Int := if checkS cs ≠ 0 then checkS cs else goR [] cs
mutual
def needT : Tst → Bool
 | ⟨k, _, _, _, _, _, _, ts⟩ => needTs ts || k == 8
def needTs : List Tst → Bool
 | [] => false
 | t :: l => needT t || needTs l
end
mutual
def needC : Cmd → Bool
 | ⟨k, _, t, th, el⟩ => if k = 5 ∨ k = 7 ∨ k = 8 ∨ k = 9 then true else if k = 2 then needT t || needCs th || needCs el else false
def needCs : List Cmd → Bool
 | [] => false
 | c :: l => needC c || needCs l
end
def wantR (full : Bool) (need : Bool) : Int := if full = true then 0 else if need = true then 8 else 0
def hasB (full : Bool) (has : List Str) : Prop := if full = true then ∀ s ∈ extL, has.contains s = true else has = []
theorem need_has {full : Bool} {has : List Str} (h : hasB full has) {s : Str} (hs : s ∈ extL) : needR has s = wantR full true := by
 unfold needR wantR
 unfold hasB at h
 cases full
 ·rw [if_neg (by decide)] at h
  subst h
  rw [if_neg (by simp), if_neg (by decide), if_pos rfl]
 ·rw [if_pos rfl] at h
  rw [if_pos (h s hs), if_pos rfl]
theorem want_no (full : Bool) : wantR full false = 0 := by unfold wantR; cases full <;> rfl
theorem want_or (full a b : Bool) : orE (wantR full a) (wantR full b) = wantR full (a || b) := by cases full <;> cases a <;> cases b <;> rfl
theorem or_zero (a : Int) : orE a 0 = a := by unfold orE; split <;> simp_all
theorem zero_or (a : Int) : orE 0 a = a := by unfold orE; rw [if_pos rfl]
mutual
def niceT : Tst → Prop
 | ⟨k, _, _, ns, ks, _, _, ts⟩ => (k = 8 → ns.all (fun s => s == fromW || s == toW) = true) ∧ (ns ++ ks).all (fun s => decide (s.length ≤ 100)) = true ∧ niceTs ts
def niceTs : List Tst → Prop
 | [] => True
 | t :: l => niceT t ∧ niceTs l
end
theorem niceTs_iff : ∀ l : List Tst, niceTs l ↔ ∀ t ∈ l, niceT t
 | [] => by simp [niceTs]
 | t :: l => by rw [niceTs, niceTs_iff l]; simp
mutual
theorem tstR_nice {full : Bool} {has : List Str} (h : hasB full has) : ∀ t : Tst, niceT t → tstR has t = wantR full (needT t)
 | ⟨k, m, p, ns, ks, o, l, ts⟩, hn => by
  rw [niceT] at hn
  obtain ⟨h1, h2, h3⟩ := hn
  rw [tstR, needT, if_pos h2, tstsR_nice h ts h3, zero_or, need_has h (by decide : envW ∈ extL)]
  by_cases hk : k = 8
  ·rw [if_pos hk, if_pos (h1 hk), or_zero, want_or, hk, Bool.or_comm]; rfl
  ·rw [if_neg hk, zero_or, beq_eq_false_iff_ne.2 hk, Bool.or_false]
theorem tstsR_nice {full : Bool} {has : List Str} (h : hasB full has) : ∀ l : List Tst, niceTs l → tstsR has l = wantR full (needTs l)
 | [], _ => by rw [tstsR, needTs, want_no]
 | t :: l, hn => by
  rw [niceTs] at hn
  rw [tstsR, needTs, tstR_nice h t hn.1, tstsR_nice h l hn.2, want_or]
end
theorem niceT_mk {t : Tst} (h1 : t.kind = 8 → t.names.all (fun s => s == fromW || s == toW) = true) (h2 : (t.names ++ t.keys).all (fun s => decide (s.length ≤ 100)) = true) (h3 : ∀ s ∈ t.tests, niceT s) : niceT t := by
 obtain ⟨k, m, p, ns, ks, o, l, ts⟩ := t
 rw [niceT]; exact ⟨h1, h2, (niceTs_iff _).2 h3⟩
theorem nm6_short : ∀ n : Nat, (nm6.getD n []).length ≤ 100
 | 0 | 1 | 2 | 3 => by decide
 | n + 4 => by rw [show nm6.getD (n + 4) [] = [] by simp [nm6]]; decide
theorem nm8_short : ∀ n : Nat, n < 2 → (nm8.getD n []).length ≤ 100 ∧ [nm8.getD n []].all (fun s => s == fromW || s == toW) = true
 | 0, _ => by decide
 | 1, _ => by decide
theorem nm9_short : ∀ n : Nat, (nm9.getD n []).length ≤ 100
 | 0 | 1 | 2 => by decide
 | n + 3 => by rw [show nm9.getD (n + 3) [] = [] by simp [nm9]]; decide
theorem keysS_short (x : Stk) : ∀ s ∈ keysS x, s.length ≤ 100 := by
 intro s hs
 unfold keysS at hs
 rcases List.mem_cons.1 hs with rfl | hs
 ·rw [List.length_take]; omega
 ·split at hs
  ·rw [List.mem_singleton] at hs; subst hs; rw [List.length_take]; omega
  ·cases hs
theorem all_short {l : List Str} (h : ∀ s ∈ l, s.length ≤ 100) : l.all (fun s => decide (s.length ≤ 100)) = true := List.all_eq_true.2 fun s hs => decide_eq_true (h s hs)
theorem leafS_nice (k : Int) (x : Stk) : niceT (leafS k x) := by
 have hks := keysS_short x
 have b2 := pick_lt_int x.b 2 (by omega)
 unfold leafS
 split
 ·exact niceT_mk (fun h => absurd h (by show ¬ (6 : Int) = 8; decide)) (all_short fun s hs => by
   rcases List.mem_append.1 hs with h | h
   ·rw [List.mem_singleton] at h; subst h; exact nm6_short _
   ·exact hks s h) (fun s hs => by cases hs)
 ·split
  ·exact niceT_mk (fun h => absurd h (by show ¬ (7 : Int) = 8; decide)) (all_short fun s hs => by
    rcases List.mem_append.1 hs with h | h
    ·rw [List.mem_singleton] at h; subst h; exact nm6_short _
    ·exact hks s h) (fun s hs => by cases hs)
  ·split
   ·exact niceT_mk (fun _ => (nm8_short _ (by omega)).2) (all_short fun s hs => by
     rcases List.mem_append.1 hs with h | h
     ·rw [List.mem_singleton] at h; subst h; exact (nm8_short _ (by omega)).1
     ·exact hks s h) (fun s hs => by cases hs)
   ·split
    ·exact niceT_mk (fun h => absurd h (by show ¬ (9 : Int) = 8; decide)) (all_short fun s hs => by
      rw [List.append_nil] at hs
      have h := List.mem_of_mem_take hs
      rcases List.mem_cons.1 h with rfl | h
      ·exact nm9_short _
      ·rw [List.mem_singleton] at h; subst h
       unfold wordL
       split
       ·decide
       ·rw [List.length_map, List.length_take]; omega) (fun s hs => by cases hs)
    ·split
     ·exact niceT_mk (fun h => absurd h (by show ¬ (10 : Int) = 8; decide)) rfl (fun s hs => by cases hs)
     ·exact niceT_mk (fun _ => rfl) rfl (fun s hs => by cases hs)
theorem zeroT_nice (k : Int) : niceT (zeroT k) := niceT_mk (fun _ => rfl) rfl (fun s hs => by cases hs)
theorem testS_nice : ∀ (m : Nat) (x : Stk), niceT (testS m x)
 | 0, x => by
  rw [testS]
  split
  ·exact zeroT_nice _
  ·exact leafS_nice _ _
 | m + 1, x => by
  rw [testS]
  split
  ·exact niceT_mk (fun _ => rfl) rfl (fun s hs => by
    have hs' : s ∈ [testS m (notS x)] := hs
    rw [List.mem_singleton] at hs'; subst hs'; exact testS_nice m _)
  ·split
   ·exact niceT_mk (fun _ => rfl) rfl (fun s hs => by
     have hs' : s ∈ (if x.subs = [] then [zeroT (1 + (pick x.a 2 : Nat))] else (x.subs.take 3).map (testS m)) := hs
     split at hs'
     ·rw [List.mem_singleton] at hs'; subst hs'; exact zeroT_nice _
     ·obtain ⟨y, -, rfl⟩ := List.mem_map.1 hs'; exact testS_nice m y)
   ·exact leafS_nice _ _
theorem fileW_ok : ∀ n : Nat, n < 4 → nameCode (fileW.getD n []) = 0
 | 0, _ | 1, _ | 2, _ | 3, _ => by decide +kernel
theorem redirW_ok : ∀ n : Nat, n < 3 → oneList (redirW.getD n []) = true
 | 0, _ | 1, _ | 2, _ => by decide +kernel
theorem flagW_ok : ∀ n : Nat, n < 3 → flagL.contains (flagW.getD n []) = true
 | 0, _ | 1, _ | 2, _ => by decide +kernel
theorem cmdsR_all {full : Bool} {has : List Str} : ∀ l : List Cmd, (∀ c ∈ l, cmdR has c = wantR full (needC c)) → cmdsR has l = wantR full (needCs l)
 | [], _ => by rw [cmdsR, needCs, want_no]
 | c :: l, h => by rw [cmdsR, needCs, h c (List.mem_cons_self ..), cmdsR_all l fun x hx => h x (List.mem_cons_of_mem _ hx), want_or]
theorem plain_rule {full : Bool} {has : List Str} (h : hasB full has) (x : Stk) {k : Int} (hk : 3 ≤ k ∧ k ≤ 10) : cmdR has ⟨k, textsS k x, T0, [], []⟩ = wantR full (needC ⟨k, textsS k x, T0, [], []⟩) := by
 have a4 := pick_lt_int x.a 4 (by omega); have a3 := pick_lt_int x.a 3 (by omega)
 rw [cmdR, needC]
 have hc : k = 3 ∨ k = 4 ∨ k = 5 ∨ k = 6 ∨ k = 7 ∨ k = 8 ∨ k = 9 ∨ k = 10 := by omega
 rcases hc with rfl | rfl | rfl | rfl | rfl | rfl | rfl | rfl
 ·exact (want_no full).symm
 ·exact (want_no full).symm
 ·show orE (needR has fileinW) (nameCode (fileW.getD (pick x.a 4) [])) = wantR full true
  rw [fileW_ok _ (by omega), or_zero]; exact need_has h (by decide)
 ·show (if oneList (redirW.getD (pick x.a 3) []) = true then (0 : Int) else 3) = wantR full false
  rw [if_pos (redirW_ok _ (by omega)), want_no]
 ·exact need_has h (by decide)
 ·show orE (needR has flagsW) (flagR [flagW.getD (pick x.a 3) []]) = wantR full true
  have e : flagR [flagW.getD (pick x.a 3) []] = 0 := by unfold flagR; rw [List.all_cons, flagW_ok _ (by omega)]; rfl
  rw [e, or_zero]; exact need_has h (by decide)
 ·show orE (needR has flagsW) (flagR [flagW.getD (pick x.a 3) []]) = wantR full true
  have e : flagR [flagW.getD (pick x.a 3) []] = 0 := by unfold flagR; rw [List.all_cons, flagW_ok _ (by omega)]; rfl
  rw [e, or_zero]; exact need_has h (by decide)
 ·exact (want_no full).symm
theorem cmdS_rule {full : Bool} {has : List Str} (h : hasB full has) : ∀ (m : Nat) (x : Stk), cmdR has (cmdS m x) = wantR full (needC (cmdS m x))
 | 0, x => by
  have hk := kindC_ok x
  rw [cmdS]
  by_cases h2 : kindC x = 2
  ·have e : textsS (kindC x) x = textsS 3 x := by rw [h2]; rfl
   rw [if_pos h2, e]; exact plain_rule h x (by decide)
  ·rw [if_neg h2]; exact plain_rule h x (by omega)
 | m + 1, x => by
  have hk := kindC_ok x
  have ih := cmdS_rule h m
  rw [cmdS]
  by_cases h2 : kindC x = 2
  ·rw [if_pos h2, cmdR, needC, if_neg (by decide), if_pos rfl, if_neg (by decide), if_pos rfl, tstR_nice h _ (testS_nice 2 _), cmdsR_all _ (fun c hc => by obtain ⟨y, -, rfl⟩ := List.mem_map.1 hc; exact ih y), cmdsR_all _ (fun c hc => by obtain ⟨y, -, rfl⟩ := List.mem_map.1 hc; exact ih y), want_or, want_or, Bool.or_assoc]
  ·rw [if_neg h2]; exact plain_rule h x (by omega)
theorem cmdS_kind (m : Nat) (x : Stk) : (cmdS m x).kind ≠ 1 := by
 have hk := kindC_ok x
 cases m with
 | zero =>
  rw [cmdS]
  show (if kindC x = 2 then (3 : Int) else kindC x) ≠ 1
  split <;> omega
 | succ m =>
  rw [cmdS]
  split
  ·show (2 : Int) ≠ 1; decide
  ·show kindC x ≠ 1; omega
theorem rest_rule {full : Bool} {has : List Str} (h : hasB full has) (l : List Stk) (k : Nat) : cmdsR has ((cmdsS 2 l).take k) = wantR full (needCs ((cmdsS 2 l).take k)) :=
 cmdsR_all _ fun c hc => by
  obtain ⟨y, -, rfl⟩ := List.mem_map.1 (List.mem_of_mem_take hc)
  exact cmdS_rule h 2 y
theorem go_rest {has : List Str} : ∀ l : List Cmd, (∀ c ∈ l, c.kind ≠ 1) → goR has l = cmdsR has l
 | [], _ => by rw [goR, cmdsR]
 | c :: l, h => by rw [goR, if_neg (h c (List.mem_cons_self ..))]
theorem go_req (has : List Str) (l : List Cmd) : goR has (reqC :: l) = goR (has ++ extL) l := by
 rw [goR, if_pos (by rfl), if_pos (by decide)]; rfl
theorem rest_kinds (l : List Stk) (k : Nat) : ∀ c ∈ (cmdsS 2 l).take k, c.kind ≠ 1 := fun c hc => by
 obtain ⟨y, -, rfl⟩ := List.mem_map.1 (List.mem_of_mem_take hc)
 exact cmdS_kind 2 y
theorem has_ext (has : List Str) : hasB true (has ++ extL) := by
 unfold hasB
 rw [if_pos rfl]
 intro s hs
 rw [List.contains_iff_mem]
 exact List.mem_append_right _ hs
theorem rule_allowed (l : List Stk) : ruleS (scriptS l) = 0 := by
 unfold ruleS
 rw [if_neg (by rw [script_ok]; decide)]
 obtain ⟨r, e, k, rfl⟩ := script_cons l
 rw [e, go_req, go_rest _ (rest_kinds l k), rest_rule (full := true) (has_ext []) l k]
 rfl
end Go.Proofs.YtjfclekmhfgkmaaGreatDoor.Sc
namespace Go.Proofs.YtjfclekmhfgkmaaGreatDoor.Sc
open Go.RowKit
open Go.Maps
def hasD (has : List Str) : DataW Unit := Maps.setOf (.agg []) (has.map Lit.string)
theorem has_hasD (has : List Str) (s : Str) : Maps.has (hasD has) (.string s) = has.contains s := by
 unfold hasD
 rw [Maps.has_setOf _ _ _ (fun x hx => by obtain ⟨y, -, rfl⟩ := List.mem_map.1 hx; trivial)]
 induction has with
 | nil => rfl
 | cons a l ih =>
  rw [List.map_cons, List.any_cons, ih, List.contains_cons]
  have : (Lit.string a).sameKey (.string s) = (s == a) := by
   show (a == s) = (s == a)
   rw [Bool.beq_comm]
  rw [this]
theorem hasD_snoc (has : List Str) (s : Str) : hasD (has ++ [s]) = (hasD has).put (.string s) (.agg []) := by
 unfold hasD
 rw [List.map_append]
 exact Maps.setOf_snoc _ _ _
structure JudgeAt (w : World) (J bm : Nat) (has : List Str) : Prop where
 cell : w.cell? ⟨J, 0, none⟩ = some (.map (some bm))
 own : w.ownsMap Tryz.prog 9 (unitElem (H := Unit)) bm has.length (hasD has)
theorem grown_none {w w' : World} (h : Below w.heap.size w w') : w.grownBy w' none := ⟨h.os, h.tape, h.output, h.size, fun k hk _ => h.block k hk⟩
theorem JudgeAt.down {w w' : World} {J bm : Nat} {has : List Str} (h : JudgeAt w J bm has) (hb : Below w.heap.size w w') : JudgeAt w' J bm has :=
 ⟨moved h.cell hb (Nat.le_refl _), h.own.kept (grown_none hb) (by simp)⟩
theorem keyed_str : Keyed Tryz.prog 9 := string_keyed Tryz.underlying9
theorem zero_unit (w : World) : (zeroValue 100).run Tryz.prog w = .ok (.agg #[]) w := by kernel_rfl
theorem key_str (s : Str) (h : s.length ≤ 1000000) : keyOf Tryz.prog 9 (.string ⟨s.toArray⟩) = some (.string s) := by
 have := Go.WideMaps.keyOf_string_mk (P := Tryz.prog) (k := 9) Tryz.underlying9 (s := ⟨s.toArray⟩) (by unfold maxLen; show s.toArray.size ≤ _; rw [List.size_toArray]; omega)
 exact this
theorem need_any (J bm : Nat) (has : List Str) (s : Str) (w : World) (h : JudgeAt w J bm has) (hs : s.length ≤ 1000000) :
    Calls Tryz.prog 91 #[.pointer (some ⟨J, 0, none⟩), .string ⟨s.toArray⟩] w fun e w' => e = .returned (.int .i64 (needR has s)) ∧ Below w.heap.size w w' := by
 have hcell := h.cell
 have hq := has_hasD has s
 obtain ⟨D, hD⟩ : ∃ D, D = hasD has := ⟨_, rfl⟩
 have hown := h.own
 rw [← hD] at hown hq
 have HOWN := Lib.hid hown
 have hkey := Lib.hid (key_str s hs)
 have HB := Lib.hid (ba (Below.refl w.heap.size w) (.cells #[] 100))
 obtain ⟨r, hr⟩ : ∃ r, r = needR has s := ⟨_, rfl⟩
 rw [← hr]
 unfold needR at hr
 rw [← hq] at hr
 clear hown hD h hq
 cases hc : Maps.has D (.string s) with
 | true =>
  rw [hc, if_pos rfl] at hr
  subst hr
  go_enter Tryz.func91, Tryz.ntmps91
  go_wp2_with (at_lookup; refine wpList_lookup_own_unit _ rfl _ _ 95 rfl 9 100 keyed_str Tryz.underlying95 (zero_unit _) bm has.length _ rfl HOWN.out _ _ rfl hkey.out ?_)
  go_ret
  exact ⟨rfl, HB.out⟩
 | false =>
  rw [hc, if_neg (by decide)] at hr
  subst hr
  go_enter Tryz.func91, Tryz.ntmps91
  go_wp2_with (at_lookup; refine wpList_lookup_own_unit _ rfl _ _ 95 rfl 9 100 keyed_str Tryz.underlying95 (zero_unit _) bm has.length _ rfl HOWN.out _ _ rfl hkey.out ?_)
  go_ret
  exact ⟨rfl, HB.out⟩
end Go.Proofs.YtjfclekmhfgkmaaGreatDoor.Sc
namespace Go.Proofs.YtjfclekmhfgkmaaGreatDoor.Sc
open Go.RowKit
theorem contains_take {l : List Str} {x : Str} (j : Nat) (hj : j < l.length) (h : (l.take j).contains x = false) (hx : (l[j] == x) = false) : (l.take (j + 1)).contains x = false := by
 rw [Bool.eq_false_iff]
 intro hc
 rw [List.contains_iff_mem, List.take_succ_eq_append_getElem hj] at hc
 rcases List.mem_append.1 hc with hm | hm
 ·rw [← List.contains_iff_mem, h] at hm; cases hm
 ·rw [List.mem_singleton] at hm
  rw [hm] at hx; simp at hx
def IdxPost (l : List Str) (x : Str) (w : World) (e : Ending) (w' : World) : Prop := (∃ k : Int, e = .returned (.int .i64 k) ∧ ((0 ≤ k ∧ l.contains x = true) ∨ (k = -1 ∧ l.contains x = false))) ∧ w = w'
def HasPost (l : List Str) (x : Str) (w : World) (e : Ending) (w' : World) : Prop := e = .returned (.bool (l.contains x)) ∧ w = w'
theorem index_table (g cap : Nat) (l : List Str) (x : Str) (w : World) (hn : l.length ≤ 1000) (hc : ∀ j (h : j < l.length), w.cell? ⟨g, j, none⟩ = some (.string ⟨l[j].toArray⟩)) :
    Calls Tryz.prog 69 #[.slice (some ⟨g, 0, none⟩) l.length cap, .string ⟨x.toArray⟩] w (IdxPost l x w) := by
 obtain ⟨n, hnn⟩ : ∃ n, n = l.length := ⟨_, rfl⟩
 have hn' : n ≤ 1000 := by omega
 have HN := Lib.hid hnn
 rw [← hnn]
 have HC := Lib.hid hc
 clear hc hnn hn
 go_enter Tryz.func69, Tryz.ntmps69
 go_wp2_with fail
 go_loop [5, 8] (fun _ i => ∃ j : Nat, j ≤ n ∧ i = .int .i64 j ∧ Hid ((l.take j).contains x = false)) (fun _ i => n - (intOf i).toNat)
 case atStart => exact ⟨0, Nat.zero_le _, rfl, rfl⟩
 case round =>
  obtain ⟨j, hj, rfl, HA⟩ := hrel
  by_cases hlt : j < n
  ·have hjl : j < l.length := by rw [← HN.out]; exact hlt
   have hc := HC.out j hjl
   have hst := fun h => contains_take j hjl HA.out h
   have hin : (x == l[j]) = true → l.contains x = true := fun h => by
    have : x = l[j] := by simpa using h
    rw [this, List.contains_iff_mem]; exact List.getElem_mem _
   generalize l[j] = s at hc hst hin
   have HST := Lib.hid hst; have HIN := Lib.hid hin
   clear hst hin hjl
   cases q : x == s with
   | true =>
    have hyes := Lib.hid (HIN.out q)
    go_wp2_with fail
    go_ret
    exact ⟨⟨(j : Int), rfl, .inl ⟨by omega, hyes.out⟩⟩, rfl⟩
   | false =>
    have hq2 := Lib.hid (HST.out (by rw [Bool.beq_comm]; exact q))
    go_wp2_with fail
    go_round
    case rel => exact ⟨j + 1, by omega, by go_num, hq2.out⟩
    case measure => simp [intOf]; omega
  ·obtain rfl : j = n := by omega
   have hA : Hid (l.contains x = false) := by have := HA.out; rw [HN.out, List.take_length] at this; exact this
   go_wp2_with fail
   go_ret
   exact ⟨⟨-1, rfl, .inr ⟨rfl, hA.out⟩⟩, rfl⟩
theorem contains_table (g cap : Nat) (l : List Str) (x : Str) (w : World) (hn : l.length ≤ 1000) (hc : ∀ j (h : j < l.length), w.cell? ⟨g, j, none⟩ = some (.string ⟨l[j].toArray⟩)) :
    Calls Tryz.prog 41 #[.slice (some ⟨g, 0, none⟩) l.length cap, .string ⟨x.toArray⟩] w (HasPost l x w) := by
 have HI := Lib.hid (index_table g cap l x w hn hc)
 obtain ⟨n, hnn⟩ : ∃ n, n = l.length := ⟨_, rfl⟩
 rw [← hnn] at HI ⊢
 clear hc hn hnn
 go_enter Tryz.func41, Tryz.ntmps41
 go_wp2_with fail
 refine HI.out.mono ?_
 rintro e w1 ⟨⟨k, rfl, hk⟩, rfl⟩
 rcases hk with ⟨h0, h1⟩ | ⟨rfl, h1⟩
 ·have H1 := Lib.hid h1
  clear h1
  go_wp2_with fail
  go_ret
  exact ⟨by rw [H1.out]; rfl, rfl⟩
 ·have H1 := Lib.hid h1
  clear h1
  go_wp2_with fail
  go_ret
  exact ⟨by rw [H1.out]; rfl, rfl⟩
def RulePost (r : Int) (w : World) (e : Ending) (w' : World) : Prop := e = .returned (.int .i64 r) ∧ Below w.heap.size w w'
def LenT (t : Tst) : Prop := (∀ s ∈ t.names, s.length ≤ 1000000) ∧ (∀ s ∈ t.keys, s.length ≤ 1000000) ∧ t.names.length ≤ 1000000 ∧ t.keys.length ≤ 1000000 ∧ t.tests.length ≤ 1000000
mutual
def LenTs : Tst → Prop
 | ⟨k, m, p, ns, ks, o, l, ts⟩ => LenT ⟨k, m, p, ns, ks, o, l, ts⟩ ∧ LenTl ts
def LenTl : List Tst → Prop
 | [] => True
 | t :: l => LenTs t ∧ LenTl l
end
theorem LenTl_iff : ∀ l : List Tst, LenTl l ↔ ∀ t ∈ l, LenTs t
 | [] => by simp [LenTl]
 | t :: l => by rw [LenTl, LenTl_iff l]; simp
theorem LenTs.one {t : Tst} (h : LenTs t) : LenT t := by obtain ⟨k, m, p, ns, ks, o, l, ts⟩ := t; rw [LenTs] at h; exact h.1
theorem LenTs.sub {t : Tst} (h : LenTs t) : ∀ s ∈ t.tests, LenTs s := by obtain ⟨k, m, p, ns, ks, o, l, ts⟩ := t; rw [LenTs] at h; exact (LenTl_iff _).1 h.2
def TestR (n : Nat) : Prop := ∀ (t : Tst) (vs : List Value) (F : Dom) (J bm : Nat) (has : List Str) (w : World), (cTst n).rep w F t vs → LenTs t → JudgeAt w J bm has →
    Calls Tryz.prog 90 #[.pointer (some ⟨J, 0, none⟩), .agg vs.toArray] w (RulePost (tstR has t) w)
theorem all_take {l : List Str} {p : Str → Bool} (j : Nat) (hj : j < l.length) (h : (l.take j).all p = true) (hp : p l[j] = true) : (l.take (j + 1)).all p = true := by
 rw [List.take_succ_eq_append_getElem hj, List.all_append, h]; simp [hp]
theorem not_all {l : List Str} {p : Str → Bool} (j : Nat) (hj : j < l.length) (hp : p l[j] = false) : l.all p = false := by
 rw [Bool.eq_false_iff]
 intro h
 rw [List.all_eq_true] at h
 rw [h _ (List.getElem_mem hj)] at hp
 cases hp
theorem tstsR_step {has : List Str} (l : List Tst) (j : Nat) (hj : j < l.length) : tstsR has (l.drop j) = orE (tstR has l[j]) (tstsR has (l.drop (j + 1))) := by
 rw [List.drop_eq_getElem_cons hj, tstsR]
theorem wp_at2 {P : Program} {c : Code} {Q : Exit → Act → World → Prop} {a : Act} {W : World} (R : World → Prop) (hR : R W) (h : ∀ W, R W → c.wp P Q a W) : c.wp P Q a W := h W hR
theorem has_eight {w : World} {b : Nat} {a0 a1 a2 a3 a4 a5 a6 a7 : Value} (h : Has w b [a0, a1, a2, a3, a4, a5, a6, a7]) : w.cell? ⟨b, 0, none⟩ = some a0 ∧ w.cell? ⟨b, 1, none⟩ = some a1 ∧ w.cell? ⟨b, 2, none⟩ = some a2 ∧ w.cell? ⟨b, 3, none⟩ = some a3 ∧ w.cell? ⟨b, 4, none⟩ = some a4 ∧ w.cell? ⟨b, 5, none⟩ = some a5 ∧ w.cell? ⟨b, 6, none⟩ = some a6 ∧ w.cell? ⟨b, 7, none⟩ = some a7 :=
 ⟨h.1 0 _ rfl, h.1 1 _ rfl, h.1 2 _ rfl, h.1 3 _ rfl, h.1 4 _ rfl, h.1 5 _ rfl, h.1 6 _ rfl, h.1 7 _ rfl⟩
theorem test_rule (n : Nat) (hIH : TestR n) : TestR (n + 1) := by
 intro t vs F J bm has w hrep hlen hJ
 obtain ⟨m, Gn, cn, Gk, ck, Gt, ct, hm, rfl, hn, hk, ht⟩ := tst_open hrep
 obtain rfl : n = m := by omega
 obtain ⟨ln, lk, lnn, lkn, ltn⟩ := hlen.one
 have hsub := hlen.sub
 have heq := tstR_eq has t
 obtain ⟨R, hR⟩ : ∃ R, R = tstR has t := ⟨_, rfl⟩
 rw [← hR] at heq ⊢
 obtain ⟨kind, mat, part, ns, ks, ov, lim, ts⟩ := t
 simp only [tstC] at *
 have HX := Lib.hid (Has.alloc w [.int .i64 kind, .int .i64 mat, .int .i64 part, .slice Gn ns.length cn, .slice Gk ks.length ck, .bool ov, .int .i64 lim, .slice Gt ts.length ct] 38)
 have HB0 := Lib.hid (ba (Below.refl w.heap.size w) (.cells #[.int .i64 kind, .int .i64 mat, .int .i64 part, .slice Gn ns.length cn, .slice Gk ks.length ck, .bool ov, .int .i64 lim, .slice Gt ts.length ct] 38))
 have HN := Lib.hid hn; have HK := Lib.hid hk; have HT := Lib.hid ht; have HJ := Lib.hid hJ; have HEQ := Lib.hid heq; have HSUB := Lib.hid hsub; have HIH := Lib.hid hIH
 have HLN := Lib.hid ln; have HLK := Lib.hid lk
 clear hrep hlen hJ hn hk ht heq hR hm hsub hIH ln lk
 have hix0 : ∀ w : World, (Instr.index 159 (.agg #[.slice Gn ns.length cn, .slice Gk ks.length ck]) (.int .i64 0)).run Tryz.prog w = .ok (.slice Gn ns.length cn) w := fun _ => by kernel_rfl
 have hix1 : ∀ w : World, (Instr.index 159 (.agg #[.slice Gn ns.length cn, .slice Gk ks.length ck]) (.int .i64 1)).run Tryz.prog w = .ok (.slice Gk ks.length ck) w := fun _ => by kernel_rfl
 go_enter Tryz.func90, Tryz.ntmps90
 go_upto_region 1 with fail
 refine wp_at2 (R := fun W => Has W w.heap.size [.int .i64 kind, .int .i64 mat, .int .i64 part, .slice Gn ns.length cn, .slice Gk ks.length ck, .bool ov, .int .i64 lim, .slice Gt ts.length ct] ∧ Below w.heap.size w W) ⟨HX.out, HB0.out⟩ (fun W hW => ?_)
 obtain ⟨hX, hb⟩ := hW
 have HXW := Lib.hid hX; have HBW := Lib.hid hb
 clear HX HB0
 obtain ⟨c0, c1, c2, c3, c4, c5, c6, c7⟩ := has_eight hX
 by_cases h8 : kind = 8
 ·have heq8 : R = orE (orE (needR has envW) (if ns.all (fun s => s == fromW || s == toW) = true then 0 else 7)) (orE (if (ns ++ ks).all (fun s => decide (s.length ≤ 100)) = true then 0 else 1) (tstsR has ts)) := by rw [HEQ.out, if_pos h8]
  have HE8 := Lib.hid heq8
  clear heq8 HEQ
  subst h8
  have HND := Lib.hid (need_any J bm has envW W (HJ.out.down hb) (by decide))
  unfold envW at HND
  obtain ⟨q, hq⟩ : ∃ q, q = needR has envW := ⟨_, rfl⟩
  have HQ := Lib.hid hq
  have HND2 : Hid (Calls Tryz.prog 91 #[.pointer (some ⟨J, 0, none⟩), .string ⟨#[101, 110, 118, 101, 108, 111, 112, 101]⟩] W fun e w' => e = .returned (.int .i64 q) ∧ Below W.heap.size W w') := by rw [hq]; exact HND.out
  clear HND hq hX hb
  go_wp2_with fail
  refine HND2.out.mono ?_
  rintro e w2 ⟨rfl, hb2⟩
  have HB2 := Lib.hid hb2; have HB20 := Lib.hid (bt HBW.out hb2)
  obtain ⟨d0, d1, d2, d3, d4, d5, d6, d7⟩ := has_eight (HXW.out.down hb2)
  clear hb2 HND2 c0 c1 c2 c3 c4 c5 c6 c7
  by_cases hq0 : q = 0
  ·subst hq0
   go_wp2_with fail
   go_loop [26] (fun v => ∃ j : Nat, v = .int .i64 j ∧ j ≤ ns.length ∧ (ns.take j).all (fun s => s == fromW || s == toW) = true) (fun v => ns.length - (intOf v).toNat)
   case atStart => exact ⟨0, rfl, Nat.zero_le _, rfl⟩
   case round =>
    obtain ⟨j, rfl, hj, hall⟩ := hrel
    have HALL := Lib.hid hall
    clear hall
    by_cases hlt : j < ns.length
    ·obtain ⟨g, off, rfl, s0⟩ := str_get HN.out (Same.of_below HB20.out) HB20.out.size j hlt
     have hst := fun h => all_take j hlt HALL.out h
     have hno := fun h => not_all (p := fun s => s == fromW || s == toW) j hlt h
     generalize ns[j] = s at s0 hst hno
     have HST := Lib.hid hst; have HNO := Lib.hid hno
     clear hst hno
     have hjn : (j : Int) < ns.length := by omega
     cases q1 : s == fromW with
     | true =>
      have hp : Hid ((s == fromW || s == toW) = true) := by unfold Hid; rw [q1]; rfl
      obtain rfl : s = fromW := by simpa using q1
      unfold fromW at s0
      clear q1
      go_wp2_with fail
      go_round
      case rel => exact ⟨j + 1, by go_num, hlt, HST.out hp.out⟩
      case measure => simp [intOf]; omega
     | false =>
      cases q2 : s == toW with
      | true =>
       have hp : Hid ((s == fromW || s == toW) = true) := by unfold Hid; rw [q2, Bool.or_true]
       obtain rfl : s = toW := by simpa using q2
       unfold toW at s0
       clear q1 q2
       go_wp2_with fail
       go_round
       case rel => exact ⟨j + 1, by go_num, hlt, HST.out hp.out⟩
       case measure => simp [intOf]; omega
      | false =>
       have hp : Hid ((s == fromW || s == toW) = false) := by unfold Hid; rw [q1, q2]; rfl
       unfold fromW at q1
       unfold toW at q2
       go_wp2_with fail
       go_ret
       exact ⟨ret_int (by rw [HE8.out, ← HQ.out, HNO.out hp.out]; rfl), HB20.out⟩
    ·obtain rfl : j = ns.length := by omega
     have hA : Hid (ns.all (fun s => s == fromW || s == toW) = true) := by have := HALL.out; rw [List.take_length] at this; exact this
     have HE1 : Hid (R = orE (if (ns ++ ks).all (fun s => decide (s.length ≤ 100)) = true then 0 else 1) (tstsR has ts)) := by
      unfold Hid
      rw [HE8.out, ← HQ.out, hA.out]; exact zero_or _
     have HBX := Lib.hid HB20.out
     clear hj hlt HALL hA HE8 HQ
     go_wp2_with fail
     go_loop [42] (fun v => ∃ i : Nat, v = .int .i64 i ∧ i ≤ 2 ∧ (1 ≤ i → ns.all (fun s => decide (s.length ≤ 100)) = true) ∧ (2 ≤ i → ks.all (fun s => decide (s.length ≤ 100)) = true)) (fun v => 2 - (intOf v).toNat)
     case atStart => exact ⟨0, rfl, Nat.zero_le _, fun h => absurd h (by decide), fun h => absurd h (by decide)⟩
     case round =>
      obtain ⟨i, rfl, hi, ha1, ha2⟩ := hrel
      have HI1 := Lib.hid ha1; have HI2 := Lib.hid ha2
      clear ha1 ha2
      have h3 : i = 0 ∨ i = 1 ∨ i = 2 := by omega
      rcases h3 with rfl | rfl | rfl
      ·clear hi
       go_wp2_with fail
       go_loop [47] (fun v => ∃ j : Nat, v = .int .i64 j ∧ j ≤ ns.length ∧ (ns.take j).all (fun s => decide (s.length ≤ 100)) = true) (fun v => ns.length - (intOf v).toNat)
       case atStart => exact ⟨0, rfl, Nat.zero_le _, rfl⟩
       case round =>
        obtain ⟨j, rfl, hj, hall⟩ := hrel
        have HALL := Lib.hid hall
        clear hall
        by_cases hlt : j < ns.length
        ·obtain ⟨g, off, rfl, s0⟩ := str_get HN.out (Same.of_below HBX.out) HBX.out.size j hlt
         have hst := fun h => all_take j hlt HALL.out h
         have hno := fun h => not_all (p := fun s => decide (s.length ≤ 100)) j hlt h
         have hsl := HLN.out _ (List.getElem_mem hlt)
         generalize ns[j] = s at s0 hst hno hsl
         have HST := Lib.hid hst; have HNO := Lib.hid hno
         clear hst hno
         have hjn : (j : Int) < ns.length := by omega
         by_cases h100 : s.length ≤ 100
         ·have q : (s.length : Int) ≤ 100 := by omega
          have hp := Lib.hid (decide_eq_true h100)
          clear h100
          go_wp2_with fail
          go_round
          case rel => exact ⟨j + 1, by go_num, hlt, HST.out hp.out⟩
          case measure => simp [intOf]; omega
         ·have q : (100 : Int) < s.length := by omega
          have hp := Lib.hid (decide_eq_false h100)
          clear h100
          go_wp2_with fail
          go_ret
          exact ⟨ret_int (by rw [HE1.out, List.all_append, HNO.out hp.out]; rfl), HBX.out⟩
        ·obtain rfl : j = ns.length := by omega
         have hA : Hid (ns.all (fun s => decide (s.length ≤ 100)) = true) := by have := HALL.out; rw [List.take_length] at this; exact this
         go_wp2_with fail
         go_round
         case rel => exact ⟨1, by go_num, by omega, fun _ => hA.out, fun h => absurd h (by decide)⟩
         case measure => simp [intOf]
      ·clear hi
       go_wp2_with fail
       go_loop [47] (fun v => ∃ j : Nat, v = .int .i64 j ∧ j ≤ ks.length ∧ (ks.take j).all (fun s => decide (s.length ≤ 100)) = true) (fun v => ks.length - (intOf v).toNat)
       case atStart => exact ⟨0, rfl, Nat.zero_le _, rfl⟩
       case round =>
        obtain ⟨j, rfl, hj, hall⟩ := hrel
        have HALL := Lib.hid hall
        clear hall
        by_cases hlt : j < ks.length
        ·obtain ⟨g, off, rfl, s0⟩ := str_get HK.out (Same.of_below HBX.out) HBX.out.size j hlt
         have hst := fun h => all_take j hlt HALL.out h
         have hno := fun h => not_all (p := fun s => decide (s.length ≤ 100)) j hlt h
         have hsl := HLK.out _ (List.getElem_mem hlt)
         generalize ks[j] = s at s0 hst hno hsl
         have HST := Lib.hid hst; have HNO := Lib.hid hno
         clear hst hno
         have hjn : (j : Int) < ks.length := by omega
         by_cases h100 : s.length ≤ 100
         ·have q : (s.length : Int) ≤ 100 := by omega
          have hp := Lib.hid (decide_eq_true h100)
          clear h100
          go_wp2_with fail
          go_round
          case rel => exact ⟨j + 1, by go_num, hlt, HST.out hp.out⟩
          case measure => simp [intOf]; omega
         ·have q : (100 : Int) < s.length := by omega
          have hp := Lib.hid (decide_eq_false h100)
          clear h100
          go_wp2_with fail
          go_ret
          exact ⟨ret_int (by rw [HE1.out, List.all_append, HNO.out hp.out, Bool.and_false]; rfl), HBX.out⟩
        ·obtain rfl : j = ks.length := by omega
         have hA : Hid (ks.all (fun s => decide (s.length ≤ 100)) = true) := by have := HALL.out; rw [List.take_length] at this; exact this
         have hA1 := Lib.hid (HI1.out (by decide))
         go_wp2_with fail
         go_round
         case rel => exact ⟨2, by go_num, by omega, fun _ => hA1.out, fun _ => hA.out⟩
         case measure => simp [intOf]
      ·have heq2 : R = tstsR has ts := by
        rw [HE1.out, List.all_append, HI1.out (by decide), HI2.out (by decide)]
        exact zero_or _
       have HE2 := Lib.hid heq2
       clear heq2 HE1 HI1 HI2 hi
       go_wp2_with fail
       go_loopw [59] (fun v wr => ∃ j : Nat, v = .int .i64 j ∧ j ≤ ts.length ∧ Hid (tstsR has ts = tstsR has (ts.drop j)) ∧ Below w.heap.size w wr) (fun v _ => ts.length - (intOf v).toNat)
       case atStart => exact ⟨0, rfl, Nat.zero_le _, rfl, HBX.out⟩
       case round =>
        obtain ⟨j, rfl, hj, HD, hb⟩ := hrel
        have HBJ := Lib.hid hb
        by_cases hlt : j < ts.length
        ·obtain ⟨g, off, Gn', cn', Gk', ck', Gt', ct', rfl, hr, e0, e1, e2, e3, e4, e5, e6, e7⟩ := tst_get HT.out (Same.of_below hb) hb.size j hlt
         have hst := tstsR_step (has := has) ts j hlt
         have hls := HSUB.out _ (List.getElem_mem hlt)
         generalize ts[j] = x at hr e0 e1 e2 e3 e4 e5 e6 e7 hst hls
         have hal := ba (Below.refl wr.heap.size wr) (.cells (tstC x (.slice Gn' x.names.length cn') (.slice Gk' x.keys.length ck') (.slice Gt' x.tests.length ct')).toArray 38)
         have HC := Lib.hid (HIH.out x _ F J bm has _ ((cTst n).stable hr (Same.of_below hal) hal.size) hls (HJ.out.down (bt hb hal)))
         have HB2 := Lib.hid (bt hb hal)
         obtain ⟨q, hq⟩ : ∃ q, q = tstR has x := ⟨_, rfl⟩
         rw [← hq] at hst HC
         have HST := Lib.hid hst
         have hjn : (j : Int) < ts.length := by omega
         unfold tstC at HC HB2
         clear hr hls hal hb hst hq
         go_wp2_with fail
         refine HC.out.mono ?_
         rintro e w3 ⟨rfl, hb3⟩
         have HB3 := Lib.hid (bt HB2.out hb3)
         clear hb3 HC e0 e1 e2 e3 e4 e5 e6 e7
         by_cases hq0 : q = 0
         ·subst hq0
          go_wp2_with fail
          go_roundw
          case rel => exact ⟨j + 1, by go_num, hlt, by unfold Hid; rw [HD.out, HST.out, zero_or], HB3.out⟩
          case measure => simp [intOf]; omega
         ·have hq1 : (q != 0) = true := by rw [bne, beq_eq_false_iff_ne.2 hq0]; rfl
          have HQ0 := Lib.hid hq0
          clear hq0
          go_wp2_with fail
          go_ret
          exact ⟨ret_int (by rw [HE2.out, HD.out, HST.out]; unfold orE; rw [if_neg HQ0.out]), HB3.out⟩
        ·obtain rfl : j = ts.length := by omega
         have hz : Hid (R = 0) := by unfold Hid; rw [HE2.out, HD.out, List.drop_length, tstsR]
         clear hb
         go_wp2_with fail
         go_ret
         exact ⟨ret_int hz.out.symm, HBJ.out⟩
  ·have hq1 : (q != 0) = true := by rw [bne, beq_eq_false_iff_ne.2 hq0]; rfl
   have HQ0 := Lib.hid hq0
   clear hq0
   go_wp2_with fail
   go_ret
   exact ⟨ret_int (by rw [HE8.out, ← HQ.out]; unfold orE; rw [if_neg HQ0.out, if_neg HQ0.out]), HB20.out⟩
 ·have HN8 := Lib.hid h8
  clear hX hb
  have h8' : (kind == (8 : Int)) = false := beq_eq_false_iff_ne.2 h8
  clear h8
  have HE1 : Hid (R = orE (if (ns ++ ks).all (fun s => decide (s.length ≤ 100)) = true then 0 else 1) (tstsR has ts)) := by
   unfold Hid
   rw [HEQ.out, if_neg HN8.out]; exact zero_or _
  have HBX := Lib.hid HBW.out
  clear HEQ HN8
  go_wp2_with fail
  go_loop [42] (fun v => ∃ i : Nat, v = .int .i64 i ∧ i ≤ 2 ∧ (1 ≤ i → ns.all (fun s => decide (s.length ≤ 100)) = true) ∧ (2 ≤ i → ks.all (fun s => decide (s.length ≤ 100)) = true)) (fun v => 2 - (intOf v).toNat)
  case atStart => exact ⟨0, rfl, Nat.zero_le _, fun h => absurd h (by decide), fun h => absurd h (by decide)⟩
  case round =>
   obtain ⟨i, rfl, hi, ha1, ha2⟩ := hrel
   have HI1 := Lib.hid ha1; have HI2 := Lib.hid ha2
   clear ha1 ha2
   have h3 : i = 0 ∨ i = 1 ∨ i = 2 := by omega
   rcases h3 with rfl | rfl | rfl
   ·clear hi
    go_wp2_with fail
    go_loop [47] (fun v => ∃ j : Nat, v = .int .i64 j ∧ j ≤ ns.length ∧ (ns.take j).all (fun s => decide (s.length ≤ 100)) = true) (fun v => ns.length - (intOf v).toNat)
    case atStart => exact ⟨0, rfl, Nat.zero_le _, rfl⟩
    case round =>
     obtain ⟨j, rfl, hj, hall⟩ := hrel
     have HALL := Lib.hid hall
     clear hall
     by_cases hlt : j < ns.length
     ·obtain ⟨g, off, rfl, s0⟩ := str_get HN.out (Same.of_below HBX.out) HBX.out.size j hlt
      have hst := fun h => all_take j hlt HALL.out h
      have hno := fun h => not_all (p := fun s => decide (s.length ≤ 100)) j hlt h
      have hsl := HLN.out _ (List.getElem_mem hlt)
      generalize ns[j] = s at s0 hst hno hsl
      have HST := Lib.hid hst; have HNO := Lib.hid hno
      clear hst hno
      have hjn : (j : Int) < ns.length := by omega
      by_cases h100 : s.length ≤ 100
      ·have q : (s.length : Int) ≤ 100 := by omega
       have hp := Lib.hid (decide_eq_true h100)
       clear h100
       go_wp2_with fail
       go_round
       case rel => exact ⟨j + 1, by go_num, hlt, HST.out hp.out⟩
       case measure => simp [intOf]; omega
      ·have q : (100 : Int) < s.length := by omega
       have hp := Lib.hid (decide_eq_false h100)
       clear h100
       go_wp2_with fail
       go_ret
       exact ⟨ret_int (by rw [HE1.out, List.all_append, HNO.out hp.out]; rfl), HBX.out⟩
     ·obtain rfl : j = ns.length := by omega
      have hA : Hid (ns.all (fun s => decide (s.length ≤ 100)) = true) := by have := HALL.out; rw [List.take_length] at this; exact this
      go_wp2_with fail
      go_round
      case rel => exact ⟨1, by go_num, by omega, fun _ => hA.out, fun h => absurd h (by decide)⟩
      case measure => simp [intOf]
   ·clear hi
    go_wp2_with fail
    go_loop [47] (fun v => ∃ j : Nat, v = .int .i64 j ∧ j ≤ ks.length ∧ (ks.take j).all (fun s => decide (s.length ≤ 100)) = true) (fun v => ks.length - (intOf v).toNat)
    case atStart => exact ⟨0, rfl, Nat.zero_le _, rfl⟩
    case round =>
     obtain ⟨j, rfl, hj, hall⟩ := hrel
     have HALL := Lib.hid hall
     clear hall
     by_cases hlt : j < ks.length
     ·obtain ⟨g, off, rfl, s0⟩ := str_get HK.out (Same.of_below HBX.out) HBX.out.size j hlt
      have hst := fun h => all_take j hlt HALL.out h
      have hno := fun h => not_all (p := fun s => decide (s.length ≤ 100)) j hlt h
      have hsl := HLK.out _ (List.getElem_mem hlt)
      generalize ks[j] = s at s0 hst hno hsl
      have HST := Lib.hid hst; have HNO := Lib.hid hno
      clear hst hno
      have hjn : (j : Int) < ks.length := by omega
      by_cases h100 : s.length ≤ 100
      ·have q : (s.length : Int) ≤ 100 := by omega
       have hp := Lib.hid (decide_eq_true h100)
       clear h100
       go_wp2_with fail
       go_round
       case rel => exact ⟨j + 1, by go_num, hlt, HST.out hp.out⟩
       case measure => simp [intOf]; omega
      ·have q : (100 : Int) < s.length := by omega
       have hp := Lib.hid (decide_eq_false h100)
       clear h100
       go_wp2_with fail
       go_ret
       exact ⟨ret_int (by rw [HE1.out, List.all_append, HNO.out hp.out, Bool.and_false]; rfl), HBX.out⟩
     ·obtain rfl : j = ks.length := by omega
      have hA : Hid (ks.all (fun s => decide (s.length ≤ 100)) = true) := by have := HALL.out; rw [List.take_length] at this; exact this
      have hA1 := Lib.hid (HI1.out (by decide))
      go_wp2_with fail
      go_round
      case rel => exact ⟨2, by go_num, by omega, fun _ => hA1.out, fun _ => hA.out⟩
      case measure => simp [intOf]
   ·have heq2 : R = tstsR has ts := by
     rw [HE1.out, List.all_append, HI1.out (by decide), HI2.out (by decide)]
     exact zero_or _
    have HE2 := Lib.hid heq2
    clear heq2 HE1 HI1 HI2 hi
    go_wp2_with fail
    go_loopw [59] (fun v wr => ∃ j : Nat, v = .int .i64 j ∧ j ≤ ts.length ∧ Hid (tstsR has ts = tstsR has (ts.drop j)) ∧ Below w.heap.size w wr) (fun v _ => ts.length - (intOf v).toNat)
    case atStart => exact ⟨0, rfl, Nat.zero_le _, rfl, HBX.out⟩
    case round =>
     obtain ⟨j, rfl, hj, HD, hb⟩ := hrel
     have HBJ := Lib.hid hb
     by_cases hlt : j < ts.length
     ·obtain ⟨g, off, Gn', cn', Gk', ck', Gt', ct', rfl, hr, e0, e1, e2, e3, e4, e5, e6, e7⟩ := tst_get HT.out (Same.of_below hb) hb.size j hlt
      have hst := tstsR_step (has := has) ts j hlt
      have hls := HSUB.out _ (List.getElem_mem hlt)
      generalize ts[j] = x at hr e0 e1 e2 e3 e4 e5 e6 e7 hst hls
      have hal := ba (Below.refl wr.heap.size wr) (.cells (tstC x (.slice Gn' x.names.length cn') (.slice Gk' x.keys.length ck') (.slice Gt' x.tests.length ct')).toArray 38)
      have HC := Lib.hid (HIH.out x _ F J bm has _ ((cTst n).stable hr (Same.of_below hal) hal.size) hls (HJ.out.down (bt hb hal)))
      have HB2 := Lib.hid (bt hb hal)
      obtain ⟨q, hq⟩ : ∃ q, q = tstR has x := ⟨_, rfl⟩
      rw [← hq] at hst HC
      have HST := Lib.hid hst
      have hjn : (j : Int) < ts.length := by omega
      unfold tstC at HC HB2
      clear hr hls hal hb hst hq
      go_wp2_with fail
      refine HC.out.mono ?_
      rintro e w3 ⟨rfl, hb3⟩
      have HB3 := Lib.hid (bt HB2.out hb3)
      clear hb3 HC e0 e1 e2 e3 e4 e5 e6 e7
      by_cases hq0 : q = 0
      ·subst hq0
       go_wp2_with fail
       go_roundw
       case rel => exact ⟨j + 1, by go_num, hlt, by unfold Hid; rw [HD.out, HST.out, zero_or], HB3.out⟩
       case measure => simp [intOf]; omega
      ·have hq1 : (q != 0) = true := by rw [bne, beq_eq_false_iff_ne.2 hq0]; rfl
       have HQ0 := Lib.hid hq0
       clear hq0
       go_wp2_with fail
       go_ret
       exact ⟨ret_int (by rw [HE2.out, HD.out, HST.out]; unfold orE; rw [if_neg HQ0.out]), HB3.out⟩
     ·obtain rfl : j = ts.length := by omega
      have hz : Hid (R = 0) := by unfold Hid; rw [HE2.out, HD.out, List.drop_length, tstsR]
      clear hb
      go_wp2_with fail
      go_ret
      exact ⟨ret_int hz.out.symm, HBJ.out⟩
theorem test_rule_all : ∀ n, TestR n
 | 0 => fun _ _ _ _ _ _ _ h => h.elim
 | n + 1 => test_rule n (test_rule_all n)
theorem flags_one (g off cap k : Nat) (w : World) (hk : k < 5) (hN : NamesAt w) (hc : w.cell? ⟨g, off, none⟩ = some (.string (nmV k))) :
    Calls Tryz.prog 93 #[.slice (some ⟨g, off, none⟩) 1 cap] w fun e w' => e = .returned (.tuple #[.int .i64 (flOf [k]), .int .i64 0]) ∧ w = w' := by
 have HC := Lib.hid hc; have HN := Lib.hid hN
 clear hc hN
 go_enter Tryz.func93, Tryz.ntmps93
 go_wp2_with fail
 go_loop [4, 6, 7, 10] (fun o _ _ i => ∃ j : Nat, j ≤ 1 ∧ i = .int .i64 j ∧ o = .int .i64 (flOf ([k].take j))) (fun _ _ _ i => 1 - (intOf i).toNat)
 case atStart => exact ⟨0, Nat.zero_le _, rfl, rfl⟩
 case round =>
  obtain ⟨j, hj, rfl, rfl⟩ := hrel
  have h2 : j = 0 ∨ j = 1 := by omega
  rcases h2 with rfl | rfl
  ·have hc := HC.out
   have HOR := Lib.hid (or_shl (flOf []) k (by decide) hk)
   have HI := Lib.hid (index_name k hk w HN.out)
   rw [nmV_get k hk] at hc
   clear hj
   go_wp2_with fail
   refine HI.out.mono ?_
   rintro e w1 ⟨rfl, rfl⟩
   go_wp2_with fail
   go_round
   case rel => exact ⟨1, by omega, by go_num, by rw [HOR.out]; rfl⟩
   case measure => simp [intOf]
  ·clear hj
   go_wp2_with fail
   go_ret2
   exact ⟨rfl, rfl⟩
theorem nmV_flag : ∀ k : Nat, k < 5 → nmV k = ⟨(flagL.getD k []).toArray⟩
 | 0, _ | 1, _ | 2, _ | 3, _ | 4, _ => rfl
def Good1 (c : Cmd) : Prop := (c.kind = 5 → ∃ s, c.texts = [s] ∧ s.length ≤ 1000000) ∧ (c.kind = 6 → ∃ s, c.texts = [s] ∧ s.length ≤ 2000) ∧ (c.kind = 8 ∨ c.kind = 9 → ∃ k, k < 5 ∧ c.texts = [flagL.getD k []]) ∧ (1 ≤ c.kind ∧ c.kind ≤ 10) ∧ c.thn.length ≤ 1000000 ∧ c.els.length ≤ 1000000
mutual
def GoodC : Cmd → Prop
 | ⟨k, tx, t, th, el⟩ => Good1 ⟨k, tx, t, th, el⟩ ∧ LenTs t ∧ GoodCs th ∧ GoodCs el
def GoodCs : List Cmd → Prop
 | [] => True
 | c :: l => GoodC c ∧ GoodCs l
end
theorem GoodCs_iff : ∀ l : List Cmd, GoodCs l ↔ ∀ c ∈ l, GoodC c
 | [] => by simp [GoodCs]
 | c :: l => by rw [GoodCs, GoodCs_iff l]; simp
theorem GoodC.iff (c : Cmd) : GoodC c ↔ Good1 c ∧ LenTs c.test ∧ (∀ x ∈ c.thn, GoodC x) ∧ (∀ x ∈ c.els, GoodC x) := by
 obtain ⟨k, tx, t, th, el⟩ := c
 rw [GoodC, GoodCs_iff, GoodCs_iff]
structure JW (w : World) (J bm : Nat) (has : List Str) (m : Int) : Prop where
 j : JudgeAt w J bm has
 names : NamesAt w ∧ 7 < w.heap.size
 max : w.cell? ⟨5, 0, none⟩ = some (.int .i64 m)
theorem JW.down {w w' : World} {J bm : Nat} {has : List Str} {m : Int} (h : JW w J bm has m) (hb : Below w.heap.size w w') : JW w' J bm has m :=
 ⟨h.j.down hb, ⟨h.names.1.of_below hb h.names.2, Nat.lt_of_lt_of_le h.names.2 hb.size⟩, moved h.max hb (Nat.le_refl _)⟩
def CmdRu (n : Nat) : Prop := ∀ (c : Cmd) (vs : List Value) (F : Dom) (J bm : Nat) (has : List Str) (m : Int) (w : World), (cCmd n).rep w F c vs → GoodC c → JW w J bm has m →
    Calls Tryz.prog 70 #[.pointer (some ⟨J, 0, none⟩), .agg vs.toArray] w (RulePost (cmdR has c) w)
def AllR (n : Nat) : Prop := ∀ (l : List Cmd) (v : Value) (F : Dom) (J bm : Nat) (has : List Str) (m : Int) (w : World), SAt (cCmd n) w F v l → (∀ c ∈ l, GoodC c) → l.length ≤ 1000000 → JW w J bm has m →
    Calls Tryz.prog 42 #[.pointer (some ⟨J, 0, none⟩), v] w (RulePost (cmdsR has l) w)
theorem cmdsR_step {has : List Str} (l : List Cmd) (j : Nat) (hj : j < l.length) : cmdsR has (l.drop j) = orE (cmdR has l[j]) (cmdsR has (l.drop (j + 1))) := by
 rw [List.drop_eq_getElem_cons hj, cmdsR]
theorem all_rule (n : Nat) (hIH : CmdRu n) : AllR n := by
 intro l v F J bm has m w hv hgood hlen hJ
 obtain ⟨G, cap, rfl, -⟩ := hv.form
 obtain ⟨R, hR⟩ : ∃ R, R = cmdsR has l := ⟨_, rfl⟩
 rw [← hR]
 have HR := Lib.hid hR; have HV := Lib.hid hv; have HG := Lib.hid hgood; have HJ := Lib.hid hJ; have HIH := Lib.hid hIH
 clear hv hgood hJ hIH hR
 go_enter Tryz.func42, Tryz.ntmps42
 go_wp2_with fail
 go_loopw [10] (fun v wr => ∃ j : Nat, v = .int .i64 j ∧ j ≤ l.length ∧ Hid (cmdsR has l = cmdsR has (l.drop j)) ∧ Below w.heap.size w wr) (fun v _ => l.length - (intOf v).toNat)
 case atStart => exact ⟨0, rfl, Nat.zero_le _, rfl, Below.refl _ _⟩
 case round =>
  obtain ⟨j, rfl, hj, HD, hb⟩ := hrel
  have HBJ := Lib.hid hb
  by_cases hlt : j < l.length
  ·obtain ⟨g, off, Gx, cx, Gn, cn, Gk, ck, Gt, ct, Gh, ch, Ge, ce, rfl, hr, e0, e1, ⟨e2, e3, e4, e5, e6, e7, e8, e9⟩, e10, e11⟩ := cmd_get HV.out (Same.of_below hb) hb.size j hlt
   have hst := cmdsR_step (has := has) l j hlt
   have hls := HG.out _ (List.getElem_mem hlt)
   generalize l[j] = x at hr e0 e1 e2 e3 e4 e5 e6 e7 e8 e9 e10 e11 hst hls
   have hal := ba (Below.refl wr.heap.size wr) (.cells (cmdC x (.slice Gx x.texts.length cx) (tstC x.test (.slice Gn x.test.names.length cn) (.slice Gk x.test.keys.length ck) (.slice Gt x.test.tests.length ct)) (.slice Gh x.thn.length ch) (.slice Ge x.els.length ce)).toArray 40)
   have HC := Lib.hid (HIH.out x _ F J bm has m _ ((cCmd n).stable hr (Same.of_below hal) hal.size) hls (HJ.out.down (bt hb hal)))
   have HB2 := Lib.hid (bt hb hal)
   obtain ⟨q, hq⟩ : ∃ q, q = cmdR has x := ⟨_, rfl⟩
   rw [← hq] at hst HC
   have HST := Lib.hid hst
   have hjn : (j : Int) < l.length := by omega
   unfold cmdC tstC at HC HB2
   clear hr hls hal hb hst hq
   go_wp2_with fail
   refine HC.out.mono ?_
   rintro e w3 ⟨rfl, hb3⟩
   have HB3 := Lib.hid (bt HB2.out hb3)
   clear hb3 HC e0 e1 e2 e3 e4 e5 e6 e7 e8 e9 e10 e11
   by_cases hq0 : q = 0
   ·subst hq0
    go_wp2_with fail
    go_roundw
    case rel => exact ⟨j + 1, by go_num, hlt, by unfold Hid; rw [HD.out, HST.out, zero_or], HB3.out⟩
    case measure => simp [intOf]; omega
   ·have hq1 : (q != 0) = true := by rw [bne, beq_eq_false_iff_ne.2 hq0]; rfl
    have HQ0 := Lib.hid hq0
    clear hq0
    go_wp2_with fail
    go_ret
    exact ⟨ret_int (by rw [HR.out, HD.out, HST.out]; unfold orE; rw [if_neg HQ0.out]), HB3.out⟩
  ·obtain rfl : j = l.length := by omega
   have hz : Hid (R = 0) := by unfold Hid; rw [HR.out, HD.out, List.drop_length, cmdsR]
   clear hb
   go_wp2_with fail
   go_ret
   exact ⟨ret_int hz.out.symm, HBJ.out⟩
theorem need_file (J bm : Nat) (has : List Str) (w : World) (h : JudgeAt w J bm has) : Calls Tryz.prog 91 #[.pointer (some ⟨J, 0, none⟩), .string ⟨#[102, 105, 108, 101, 105, 110, 116, 111]⟩] w (RulePost (needR has fileinW) w) := need_any J bm has fileinW w h (by decide)
theorem need_rej (J bm : Nat) (has : List Str) (w : World) (h : JudgeAt w J bm has) : Calls Tryz.prog 91 #[.pointer (some ⟨J, 0, none⟩), .string ⟨#[114, 101, 106, 101, 99, 116]⟩] w (RulePost (needR has rejW) w) := need_any J bm has rejW w h (by decide)
theorem need_flags (J bm : Nat) (has : List Str) (w : World) (h : JudgeAt w J bm has) : Calls Tryz.prog 91 #[.pointer (some ⟨J, 0, none⟩), .string ⟨#[105, 109, 97, 112, 52, 102, 108, 97, 103, 115]⟩] w (RulePost (needR has flagsW) w) := need_any J bm has flagsW w h (by decide)
theorem has_twelve2 {w : World} {b : Nat} {a0 a1 a2 a3 a4 a5 a6 a7 a8 a9 a10 a11 : Value} (h : Has w b [a0, a1, a2, a3, a4, a5, a6, a7, a8, a9, a10, a11]) : w.cell? ⟨b, 0, none⟩ = some a0 ∧ w.cell? ⟨b, 1, none⟩ = some a1 ∧ w.cell? ⟨b, 2, none⟩ = some a2 ∧ w.cell? ⟨b, 3, none⟩ = some a3 ∧ w.cell? ⟨b, 4, none⟩ = some a4 ∧ w.cell? ⟨b, 5, none⟩ = some a5 ∧ w.cell? ⟨b, 6, none⟩ = some a6 ∧ w.cell? ⟨b, 7, none⟩ = some a7 ∧ w.cell? ⟨b, 8, none⟩ = some a8 ∧ w.cell? ⟨b, 9, none⟩ = some a9 ∧ w.cell? ⟨b, 10, none⟩ = some a10 ∧ w.cell? ⟨b, 11, none⟩ = some a11 :=
 ⟨h.1 0 _ rfl, h.1 1 _ rfl, h.1 2 _ rfl, h.1 3 _ rfl, h.1 4 _ rfl, h.1 5 _ rfl, h.1 6 _ rfl, h.1 7 _ rfl, h.1 8 _ rfl, h.1 9 _ rfl, h.1 10 _ rfl, h.1 11 _ rfl⟩
theorem flagR_one (k : Nat) (hk : k < 5) : flagR [flagL.getD k []] = 0 := by
 have : ∀ k : Nat, k < 5 → flagR [flagL.getD k []] = 0 := by decide
 exact this k hk
theorem one_of {s : Str} : oneList s = true ↔ ∃ y, listL s = some [y] := by
 unfold oneList
 split
 ·rename_i y h; exact ⟨fun _ => ⟨y, h⟩, fun _ => rfl⟩
 ·rename_i h; exact ⟨fun e => (by cases e), fun ⟨y, e⟩ => absurd e (h y)⟩
theorem cmd_rule (n : Nat) (IA : AllR n) : CmdRu (n + 1) := by
 intro c vs F J bm has m w hrep hgood hJ
 obtain ⟨q, Gx, cx, Gn, cn, Gk, ck, Gt, ct, Gh, ch, Ge, ce, hm, rfl, hx, ht, hh, he⟩ := cmd_open hrep
 obtain rfl : n = q := by omega
 obtain ⟨⟨g5, g6, g8, ⟨gk1, gk2⟩, gl1, gl2⟩, glen, gth, gel⟩ := (GoodC.iff c).1 hgood
 have heq := cmdR_eq has c
 obtain ⟨R, hR⟩ : ∃ R, R = cmdR has c := ⟨_, rfl⟩
 rw [← hR] at heq ⊢
 obtain ⟨kind, tx, t, th, el⟩ := c
 simp only [cmdC, tstC] at *
 have hal := ba (Below.refl w.heap.size w) (.cells #[.int .i64 kind, .slice Gx tx.length cx, .int .i64 t.kind, .int .i64 t.mat, .int .i64 t.part, .slice Gn t.names.length cn, .slice Gk t.keys.length ck, .bool t.over, .int .i64 t.limit, .slice Gt t.tests.length ct, .slice Gh th.length ch, .slice Ge el.length ce] 40)
 have HX := Lib.hid (Has.alloc w [.int .i64 kind, .slice Gx tx.length cx, .int .i64 t.kind, .int .i64 t.mat, .int .i64 t.part, .slice Gn t.names.length cn, .slice Gk t.keys.length ck, .bool t.over, .int .i64 t.limit, .slice Gt t.tests.length ct, .slice Gh th.length ch, .slice Ge el.length ce] 40)
 have HB0 := Lib.hid hal
 have HJ := Lib.hid hJ; have HEQ := Lib.hid heq; have HTX := Lib.hid hx
 have HT : Hid (∀ w', Below w.heap.size w w' → Calls Tryz.prog 90 #[.pointer (some ⟨J, 0, none⟩), .agg #[.int .i64 t.kind, .int .i64 t.mat, .int .i64 t.part, .slice Gn t.names.length cn, .slice Gk t.keys.length ck, .bool t.over, .int .i64 t.limit, .slice Gt t.tests.length ct]] w' (RulePost (tstR has t) w')) := fun w' hb => test_rule_all (n + 1) t _ F J bm has w' ((cTst (n + 1)).stable ht (Same.of_below hb) hb.size) glen (hJ.j.down hb)
 have HA1 : Hid (∀ w', Below w.heap.size w w' → Calls Tryz.prog 42 #[.pointer (some ⟨J, 0, none⟩), .slice Gh th.length ch] w' (RulePost (cmdsR has th) w')) := fun w' hb => IA th _ F J bm has m w' (hh.down hb) gth gl1 (hJ.down hb)
 have HA2 : Hid (∀ w', Below w.heap.size w w' → Calls Tryz.prog 42 #[.pointer (some ⟨J, 0, none⟩), .slice Ge el.length ce] w' (RulePost (cmdsR has el) w')) := fun w' hb => IA el _ F J bm has m w' (he.down hb) gel gl2 (hJ.down hb)
 have HG5 := Lib.hid g5; have HG6 := Lib.hid g6; have HG8 := Lib.hid g8
 have key : kind = 1 ∨ kind = 2 ∨ kind = 3 ∨ kind = 4 ∨ kind = 5 ∨ kind = 6 ∨ kind = 7 ∨ kind = 8 ∨ kind = 9 ∨ kind = 10 := by omega
 clear hrep hgood hJ hx ht hh he g5 g6 g8 gk1 gk2 gl1 gl2 glen gth gel heq hR hm IA hal
 rcases key with rfl | rfl | rfl | rfl | rfl | rfl | rfl | rfl | rfl | rfl
 ·go_enter Tryz.func70, Tryz.ntmps70
  go_wp2_with fail
  go_ret
  exact ⟨ret_int (by rw [HEQ.out]; rfl), HB0.out⟩
 ·obtain ⟨q1, hq1⟩ : ∃ q1, q1 = tstR has t := ⟨_, rfl⟩
  obtain ⟨q2, hq2⟩ : ∃ q2, q2 = cmdsR has th := ⟨_, rfl⟩
  obtain ⟨q3, hq3⟩ : ∃ q3, q3 = cmdsR has el := ⟨_, rfl⟩
  have he2 : R = orE q1 (orE q2 q3) := by rw [HEQ.out, hq1, hq2, hq3]; rfl
  rw [← hq1] at HT
  rw [← hq2] at HA1
  rw [← hq3] at HA2
  have HE2 := Lib.hid he2
  clear hq1 hq2 hq3 he2 HEQ
  go_enter Tryz.func70, Tryz.ntmps70
  go_wp2_with fail
  refine (HT.out _ HB0.out).mono ?_
  rintro e w1 ⟨rfl, hb1⟩
  have HB1 := Lib.hid (bt HB0.out hb1); have HX1 := Lib.hid (HX.out.down hb1)
  obtain ⟨c0, c1, c2, c3, c4, c5, c6, c7, c8, c9, c10, c11⟩ := has_twelve2 HX1.out
  clear hb1
  by_cases z1 : q1 = 0
  ·subst z1
   go_wp2_with fail
   refine (HA1.out _ HB1.out).mono ?_
   rintro e w2 ⟨rfl, hb2⟩
   have HB2 := Lib.hid (bt HB1.out hb2)
   obtain ⟨d0, d1, d2, d3, d4, d5, d6, d7, d8, d9, d10, d11⟩ := has_twelve2 (HX1.out.down hb2)
   clear hb2
   by_cases z2 : q2 = 0
   ·subst z2
    go_wp2_with fail
    refine (HA2.out _ HB2.out).mono ?_
    rintro e w3 ⟨rfl, hb3⟩
    have HB3 := Lib.hid (bt HB2.out hb3)
    clear hb3
    go_wp2_with fail
    go_ret
    exact ⟨ret_int (by rw [HE2.out, zero_or, zero_or]), HB3.out⟩
   ·have n2 : (q2 != 0) = true := by rw [bne, beq_eq_false_iff_ne.2 z2]; rfl
    have HZ := Lib.hid z2
    clear z2
    go_wp2_with fail
    go_ret
    exact ⟨ret_int (by rw [HE2.out, zero_or]; unfold orE; rw [if_neg HZ.out]), HB2.out⟩
  ·have n1 : (q1 != 0) = true := by rw [bne, beq_eq_false_iff_ne.2 z1]; rfl
   have HZ := Lib.hid z1
   clear z1
   go_wp2_with fail
   go_ret
   exact ⟨ret_int (by rw [HE2.out]; unfold orE; rw [if_neg HZ.out]), HB1.out⟩
 ·go_enter Tryz.func70, Tryz.ntmps70
  go_wp2_with fail
  go_ret
  exact ⟨ret_int (by rw [HEQ.out]; rfl), HB0.out⟩
 ·go_enter Tryz.func70, Tryz.ntmps70
  go_wp2_with fail
  go_ret
  exact ⟨ret_int (by rw [HEQ.out]; rfl), HB0.out⟩
 ·obtain ⟨s, rfl, hs⟩ := HG5.out rfl
  obtain ⟨q1, hq1⟩ : ∃ q1, q1 = needR has fileinW := ⟨_, rfl⟩
  have he2 : R = orE q1 (nameCode s) := by rw [HEQ.out, hq1]; rfl
  have HND := Lib.hid (need_file J bm has _ (HJ.out.j.down HB0.out))
  rw [← hq1] at HND
  have HE2 := Lib.hid he2
  obtain ⟨g, off, hG, s0⟩ := str_get HTX.out (Same.refl _ _) (Nat.le_refl _) 0 (by simp)
  subst hG
  have HS0 := Lib.hid (show w.cell? ⟨g, off, none⟩ = some (.string ⟨s.toArray⟩) from s0)
  have HNM : Hid (∀ w', Calls Tryz.prog 92 #[.string ⟨s.toArray⟩] w' fun e w'' => e = .returned (.int .i64 (nameCode s)) ∧ w' = w'') := fun w' => by
   have := rname_any ⟨s.toArray⟩ w' (by show s.toArray.size ≤ _; rw [List.size_toArray]; omega)
   exact this
  clear hq1 he2 HEQ s0 HTX
  go_enter Tryz.func70, Tryz.ntmps70
  go_wp2_with fail
  refine HND.out.mono ?_
  rintro e w1 ⟨rfl, hb1⟩
  have HB1 := Lib.hid (bt HB0.out hb1)
  obtain ⟨c0, c1, c2, c3, c4, c5, c6, c7, c8, c9, c10, c11⟩ := has_twelve2 (HX.out.down hb1)
  have s1 := moved HS0.out HB1.out (Nat.le_refl _)
  clear hb1
  by_cases z1 : q1 = 0
  ·subst z1
   go_wp2_with fail
   refine (HNM.out _).mono ?_
   rintro e w2 ⟨rfl, rfl⟩
   go_wp2_with fail
   go_ret
   exact ⟨ret_int (by rw [HE2.out, zero_or]), HB1.out⟩
  ·have n1 : (q1 != 0) = true := by rw [bne, beq_eq_false_iff_ne.2 z1]; rfl
   have HZ := Lib.hid z1
   clear z1
   go_wp2_with fail
   go_ret
   exact ⟨ret_int (by rw [HE2.out]; unfold orE; rw [if_neg HZ.out]), HB1.out⟩
 ·obtain ⟨s, rfl, hs⟩ := HG6.out rfl
  have he2 : R = if oneList s = true then 0 else 3 := by rw [HEQ.out]; rfl
  have HE2 := Lib.hid he2
  obtain ⟨g, off, hG, s0⟩ := str_get HTX.out (Same.refl _ _) (Nat.le_refl _) 0 (by simp)
  subst hG
  have s1 := moved (show w.cell? ⟨g, off, none⟩ = some (.string ⟨s.toArray⟩) from s0) HB0.out (Nat.le_refl _)
  rw [show [s].length = 1 from rfl] at s1
  have HLI := Lib.hid (Go.Proofs.YtjfclekmhfgkmaaGreatDoor.list_any ⟨s.toArray⟩ m _ (by show s.toArray.size ≤ _; rw [List.size_toArray]; exact hs) (moved HJ.out.max HB0.out (Nat.le_refl _)))
  have HLS : Hid ((⟨s.toArray⟩ : ByteArray).data.toList = s) := rfl
  obtain ⟨ys, hys⟩ : ∃ ys, ys = listL s := ⟨_, rfl⟩
  rw [HLS.out, ← hys] at HLI
  have HYS := Lib.hid hys
  clear he2 HEQ s0 HTX hys
  go_enter Tryz.func70, Tryz.ntmps70
  go_wp2_with fail
  refine HLI.out.mono ?_
  rintro e w1 ⟨hsay, hb1⟩
  have HB1 := Lib.hid (bt HB0.out hb1)
  clear hb1 HLI
  rcases hsay with ⟨h1, rfl⟩ | ⟨zs, h1, h20, rfl⟩ | ⟨zs, v, h1, h20, rfl, hown⟩
  ·have hz : Hid (R = 3) := by
    unfold Hid
    rw [HE2.out, if_neg]
    intro h
    obtain ⟨y, hy⟩ := one_of.1 h
    rw [← HYS.out, h1] at hy; cases hy
   clear h1
   go_wp2_with fail
   go_ret
   exact ⟨ret_int hz.out.symm, HB1.out⟩
  ·have hz : Hid (R = 3) := by
    unfold Hid
    rw [HE2.out, if_neg]
    intro h
    obtain ⟨y, hy⟩ := one_of.1 h
    rw [← HYS.out, h1] at hy
    obtain rfl := Option.some.inj hy
    exact absurd h20 (by simp)
   clear h1 h20
   go_wp2_with fail
   go_ret
   exact ⟨ret_int hz.out.symm, HB1.out⟩
  ·obtain ⟨Gv, cv, rfl⟩ := row_slice hown
   by_cases hl1 : zs.length = 1
   ·have hz : Hid (R = 0) := by
     unfold Hid
     obtain ⟨y, rfl⟩ := List.length_eq_one_iff.1 hl1
     rw [HE2.out, if_pos (one_of.2 ⟨y, by rw [← HYS.out, h1]⟩)]
    clear h1 h20 hown
    go_wp2_with fail
    go_ret
    exact ⟨ret_int hz.out.symm, HB1.out⟩
   ·have hz : Hid (R = 3) := by
     unfold Hid
     rw [HE2.out, if_neg]
     intro h
     obtain ⟨y, hy⟩ := one_of.1 h
     rw [← HYS.out, h1] at hy
     obtain rfl := Option.some.inj hy
     exact hl1 rfl
    have n1 : ((zs.length : Int) == 1) = false := by
     rw [beq_eq_false_iff_ne]; intro e; exact hl1 (by omega)
    have n2 : ((zs.length : Int) != 1) = true := by rw [bne, n1]; rfl
    clear h1 h20 hown hl1
    go_wp2_with fail
    go_ret
    exact ⟨ret_int hz.out.symm, HB1.out⟩
 ·obtain ⟨q1, hq1⟩ : ∃ q1, q1 = needR has rejW := ⟨_, rfl⟩
  have he2 : R = q1 := by rw [HEQ.out, hq1]; rfl
  have HND := Lib.hid (need_rej J bm has _ (HJ.out.j.down HB0.out))
  rw [← hq1] at HND
  have HE2 := Lib.hid he2
  clear hq1 he2 HEQ
  go_enter Tryz.func70, Tryz.ntmps70
  go_wp2_with fail
  refine HND.out.mono ?_
  rintro e w1 ⟨rfl, hb1⟩
  have HB1 := Lib.hid (bt HB0.out hb1)
  clear hb1
  go_wp2_with fail
  go_ret
  exact ⟨ret_int HE2.out.symm, HB1.out⟩
 all_goals first
  | (obtain ⟨k, hk, rfl⟩ := HG8.out (by first | exact .inl rfl | exact .inr rfl)
     obtain ⟨q1, hq1⟩ : ∃ q1, q1 = needR has flagsW := ⟨_, rfl⟩
     have he2 : R = q1 := by
      rw [HEQ.out, hq1]
      show orE (needR has flagsW) (flagR [flagL.getD k []]) = needR has flagsW
      rw [flagR_one k hk, or_zero]
     have HND := Lib.hid (need_flags J bm has _ (HJ.out.j.down HB0.out))
     rw [← hq1] at HND
     have HE2 := Lib.hid he2
     obtain ⟨g, off, hG, s0⟩ := str_get HTX.out (Same.refl _ _) (Nat.le_refl _) 0 (by simp)
     subst hG
     have HS0 : Hid (w.cell? ⟨g, off, none⟩ = some (.string (nmV k))) := by rw [nmV_flag k hk]; exact s0
     have HFL : Hid (∀ w', Below w.heap.size w w' → Calls Tryz.prog 93 #[.slice (some ⟨g, off, none⟩) 1 cx] w' fun e w'' => e = .returned (.tuple #[.int .i64 (flOf [k]), .int .i64 0]) ∧ w' = w'') := fun w' hb => flags_one g off cx k w' hk (HJ.out.names.1.of_below hb HJ.out.names.2) (moved HS0.out hb (Nat.le_refl _))
     clear hq1 he2 HEQ s0 HTX
     go_enter Tryz.func70, Tryz.ntmps70
     go_wp2_with fail
     refine HND.out.mono ?_
     rintro e w1 ⟨rfl, hb1⟩
     have HB1 := Lib.hid (bt HB0.out hb1)
     obtain ⟨c0, c1, c2, c3, c4, c5, c6, c7, c8, c9, c10, c11⟩ := has_twelve2 (HX.out.down hb1)
     clear hb1
     by_cases z1 : q1 = 0
     ·subst z1
      go_wp2_with fail
      refine (HFL.out _ HB1.out).mono ?_
      rintro e w2 ⟨rfl, rfl⟩
      go_wp2_with fail
      go_ret
      exact ⟨ret_int HE2.out.symm, HB1.out⟩
     ·have n1 : (q1 != 0) = true := by rw [bne, beq_eq_false_iff_ne.2 z1]; rfl
      clear z1
      go_wp2_with fail
      go_ret
      exact ⟨ret_int HE2.out.symm, HB1.out⟩)
  | (go_enter Tryz.func70, Tryz.ntmps70
     go_wp2_with fail
     go_ret
     exact ⟨ret_int (by rw [HEQ.out]; rfl), HB0.out⟩)
theorem cmd_rule_all : ∀ n, CmdRu n
 | 0 => fun _ _ _ _ _ _ _ _ h => h.elim
 | n + 1 => cmd_rule n (all_rule n (cmd_rule_all n))
theorem all_rule_all (n : Nat) : AllR n := all_rule n (cmd_rule_all n)
end Go.Proofs.YtjfclekmhfgkmaaGreatDoor.Sc
namespace Go.Proofs.YtjfclekmhfgkmaaGreatDoor.Sc
open Go.RowKit
open Go.Maps
theorem below_map {B : Nat} {w wz wy : World} {o : Option Nat} (h : Below B w wz) (g : wz.grownBy wy o) (ho : ∀ b, o = some b → B ≤ b) (hB : B ≤ wz.heap.size) : Below B w wy :=
 ⟨g.os.trans h.os, g.tape.trans h.tape, g.output.trans h.output, Nat.le_trans h.size g.size, fun k hk => (g.block k (by omega) (fun e => by have := ho k e.symm; omega)).trans (h.block k hk)⟩
def ExtAt (w : World) : Prop := ∀ j (h : j < extL.length), w.cell? ⟨1, j, none⟩ = some (.string ⟨extL[j].toArray⟩)
theorem ExtAt.below {B : Nat} {w w' : World} (h : ExtAt w) (hb : Below B w w') (hB : 1 < B) : ExtAt w' := fun j hj => (hb.cell (p := ⟨1, j, none⟩) hB).trans (h j hj)
structure RW (w : World) (m : Int) : Prop where
 tab : Tabs w w.heap.size
 ext : ExtAt w ∧ 1 < w.heap.size
 names : NamesAt w ∧ 7 < w.heap.size
 max : w.cell? ⟨5, 0, none⟩ = some (.int .i64 m)
theorem RW.down {w w' : World} {m : Int} (h : RW w m) (hb : Below w.heap.size w w') : RW w' m :=
 ⟨(h.tab.down (Nat.le_refl _) hb).up hb.size, ⟨h.ext.1.below hb h.ext.2, Nat.lt_of_lt_of_le h.ext.2 hb.size⟩, ⟨h.names.1.of_below hb h.names.2, Nat.lt_of_lt_of_le h.names.2 hb.size⟩, moved h.max hb (Nat.le_refl _)⟩
def hasK (cs : List Cmd) (k : Nat) : List Str := (cs.take k).flatMap Cmd.texts
theorem hasK_next (cs : List Cmd) (k : Nat) (h : k < cs.length) : hasK cs (k + 1) = hasK cs k ++ cs[k].texts := by
 unfold hasK; rw [List.take_succ_eq_append_getElem h, List.flatMap_append]; simp
theorem texts_len {cs : List Cmd} (hF : ∀ c ∈ cs, FormC c) (k : Nat) : (hasK cs k).length ≤ (cs.flatMap wC).length := by
 unfold hasK
 have key : ∀ l : List Cmd, (∀ c ∈ l, FormC c) → (l.flatMap Cmd.texts).length ≤ (l.flatMap wC).length := by
  intro l
  induction l with
  | nil => intro _; exact Nat.le_refl _
  | cons a l ih =>
   intro h
   have h1 := (wC_subs (h a (List.mem_cons_self ..))).1
   have h2 := ih fun c hc => h c (List.mem_cons_of_mem _ hc)
   rw [List.flatMap_cons, List.flatMap_cons, List.length_append, List.length_append]; omega
 refine Nat.le_trans (key _ fun c hc => hF c (List.mem_of_mem_take hc)) ?_
 have : cs.flatMap wC = (cs.take k).flatMap wC ++ (cs.drop k).flatMap wC := by rw [← List.flatMap_append, List.take_append_drop]
 rw [this, List.length_append]; omega
theorem goR_req {has : List Str} {cs : List Cmd} (k : Nat) (h : k < cs.length) (h1 : cs[k].kind = 1) (ha : cs[k].texts.all (fun s => extL.contains s) = true) : goR has (cs.drop k) = goR (has ++ cs[k].texts) (cs.drop (k + 1)) := by
 rw [List.drop_eq_getElem_cons h, goR, if_pos h1, if_pos ha]
theorem goR_bad {has : List Str} {cs : List Cmd} (k : Nat) (h : k < cs.length) (h1 : cs[k].kind = 1) (ha : cs[k].texts.all (fun s => extL.contains s) = false) : goR has (cs.drop k) = 7 := by
 rw [List.drop_eq_getElem_cons h, goR, if_pos h1, if_neg (by rw [ha]; decide)]
theorem goR_rest {has : List Str} {cs : List Cmd} (k : Nat) (h : k < cs.length) (h1 : cs[k].kind ≠ 1) : goR has (cs.drop k) = cmdsR has (cs.drop k) := by
 rw [List.drop_eq_getElem_cons h, goR, if_neg h1]
theorem goR_end {has : List Str} {cs : List Cmd} : goR has (cs.drop cs.length) = cmdsR has (cs.drop cs.length) := by
 rw [List.drop_length, goR, cmdsR]
def sLen : Value → Nat
 | .slice _ n _ => n
 | _ => 0
theorem cmd_texts {n : Nat} {w : World} {F : Dom} {c : Cmd} {Gx Gn Gk Gt Gh Ge : Option Addr} {cx cn ck ct ch ce : Nat} (h : (cCmd n).rep w F c (cmdC c (.slice Gx c.texts.length cx) (tstC c.test (.slice Gn c.test.names.length cn) (.slice Gk c.test.keys.length ck) (.slice Gt c.test.tests.length ct)) (.slice Gh c.thn.length ch) (.slice Ge c.els.length ce))) : SAt cStr w F (.slice Gx c.texts.length cx) c.texts := by
 obtain ⟨_, Gx', cx', _, _, _, _, _, _, _, _, _, _, -, hv, hx, -⟩ := cmd_open h
 unfold cmdC at hv
 have e := (List.cons.inj (List.cons.inj hv).2).1
 rw [e]; exact hx
theorem sat_rest {n : Nat} {w : World} {F : Dom} {g off len cap : Nat} {l : List Cmd} {k : Nat} (h : SAt (cCmd n) w F (.slice (some ⟨g, off, none⟩) len cap) (l.drop k)) : (1 ≤ len → ∀ G c, (1 < cap → G = some ⟨g, off + 12, none⟩ ∧ c = cap - 1) → len - 1 ≤ c → SAt (cCmd n) w F (.slice G (len - 1) c) (l.drop (k + 1))) := by
 intro h1 G c hG hc
 have hcap : len ≤ cap ∧ (l.drop k).length = len := by
  obtain ⟨_, c', e, h, -⟩ := h
  injection e with _ e2 e3
  exact ⟨by omega, e2.symm⟩
 have e1 : l.drop (k + 1) = (l.drop k).drop 1 := by rw [List.drop_drop]
 rw [e1]
 by_cases h2 : 1 < cap
 ·obtain ⟨rfl, rfl⟩ := hG h2
  have := h.drop 1 (cap - 1) (by omega) (by omega)
  rw [hcap.2] at this
  exact this
 ·have hl : len = 1 := by omega
  have hd : (l.drop k).drop 1 = [] := List.drop_eq_nil_of_le (by omega)
  rw [hd, hl]
  exact ⟨G, c, rfl, Nat.zero_le _, fun i x hi => by simp at hi⟩
def RcRel (n : Nat) (cs : List Cmd) (F : Dom) (w : World) (J bm : Nat) (lv : Value) (wr : World) : Prop := ∃ (k : Nat) (Gk : Option Addr) (ck : Nat), k ≤ cs.length ∧ lv = .slice Gk (cs.length - k) ck ∧ SAt (cCmd n) w F (.slice Gk (cs.length - k) ck) (cs.drop k) ∧ JudgeAt wr J bm (hasK cs k) ∧ goR [] cs = goR (hasK cs k) (cs.drop k) ∧ Below w.heap.size w wr
theorem rule_any (n : Nat) (cs : List Cmd) (v : Value) (F : Dom) (m : Int) (w : World) (hv : SAt (cCmd n) w F v cs) (hF : ∀ c ∈ cs, FormC c) (hG : ∀ c ∈ cs, GoodC c) (hS : ∀ c ∈ cs, ∀ s ∈ c.texts, s.length ≤ 1000000) (hFl : ∀ b, F b → b < w.heap.size) (hW : RW w m) (hlen : (cs.flatMap wC).length ≤ 1000000) :
    Calls Tryz.prog 22 #[v] w (RulePost (ruleS cs) w) := by
 have hmm := @run_makeMap Tryz.prog
 obtain ⟨G, cap, rfl, hcap⟩ := hv.form
 have HCK := Lib.hid (check_any n cs _ F w hv hF hFl hW.tab hlen)
 have hcl : cs.length ≤ 1000000 := by have := (flatC_len cs).1; omega
 obtain ⟨R, hR⟩ : ∃ R, R = ruleS cs := ⟨_, rfl⟩
 have hrs : ruleS cs = if checkS cs ≠ 0 then checkS cs else goR [] cs := rfl
 rw [← hR] at hrs ⊢
 obtain ⟨r, hr⟩ : ∃ r, r = checkS cs := ⟨_, rfl⟩
 rw [← hr] at HCK hrs
 have HRS := Lib.hid hrs; have HV := Lib.hid hv; have HF := Lib.hid hF; have HG := Lib.hid hG; have HW := Lib.hid hW; have HSS := Lib.hid hS; have HLN := Lib.hid hlen
 clear hv hF hG hS hFl hW hlen hrs hr hR
 go_enter Tryz.func22, Tryz.ntmps22
 go_wp2_with fail
 refine HCK.out.mono ?_
 rintro e w1 ⟨rfl, hb1⟩
 have HB1 := Lib.hid hb1
 clear hb1 HCK
 by_cases hr0 : r = 0
 case neg =>
  have n1 : (r != 0) = true := by rw [bne, beq_eq_false_iff_ne.2 hr0]; rfl
  have HR0 := Lib.hid hr0
  clear hr0
  go_wp2_with fail
  go_ret
  exact ⟨ret_int (by rw [HRS.out, if_pos HR0.out]), HB1.out⟩
 case pos =>
  subst hr0
  have hgo : R = goR [] cs := by rw [HRS.out, if_neg (by decide)]
  have HGO := Lib.hid hgo
  clear hgo HRS
  go_upto_block 0 with fail
  have hJ0 : JudgeAt ((w1.alloc (.map #[] 0)).alloc (.cells #[.map (some w1.heap.size)] 97)) (w1.heap.size + 1) w1.heap.size [] := by
   have h1 := Has.alloc (w1.alloc (.map #[] 0)) [.map (some w1.heap.size)] 97
   rw [World.size_alloc] at h1
   exact ⟨h1.1 0 _ rfl, (World.ownsMap_made w1 Tryz.prog 9 (unitElem (H := Unit))).alloc _⟩
  have hb0 := ba (ba HB1.out (.map #[] 0)) (.cells #[.map (some w1.heap.size)] 97)
  have hst : RcRel n cs F w (w1.heap.size + 1) w1.heap.size (.slice G cs.length cap) ((w1.alloc (.map #[] 0)).alloc (.cells #[.map (some w1.heap.size)] 97)) :=
   ⟨0, G, cap, Nat.zero_le _, rfl, HV.out, hJ0, rfl, hb0⟩
  have HST := Lib.hid hst
  have hz1 : w.heap.size ≤ w1.heap.size := HB1.out.size
  obtain ⟨J, hJ⟩ : ∃ J, J = w1.heap.size + 1 := ⟨_, rfl⟩
  obtain ⟨bm, hbm⟩ : ∃ bm, bm = w1.heap.size := ⟨_, rfl⟩
  obtain ⟨W1, hW1⟩ : ∃ W1, W1 = (w1.alloc (.map #[] 0)).alloc (.cells #[.map (some w1.heap.size)] 97) := ⟨_, rfl⟩
  have hbJ : bm ≠ J := by omega
  have hbw : w.heap.size ≤ bm := by omega
  rw [← hW1, ← hJ, ← hbm] at HST
  rw [← hW1, ← hJ, ← hbm]
  clear hst hJ0 hb0 hJ hbm hW1 hz1 HB1
  go_wp2_with fail
  go_loopw [0] (RcRel n cs F w J bm) (fun v _ => sLen v)
  case atStart => exact HST.out
  case round =>
   obtain ⟨k, Gk, ck, hk, rfl, hsk, hj, hgk, hb⟩ := hrel
   have HSK := Lib.hid hsk; have HJ := Lib.hid hj; have HGK := Lib.hid hgk; have HB := Lib.hid hb
   have hck : cs.length - k ≤ ck := by
    obtain ⟨_, c', e, h, -⟩ := hsk
    injection e with _ _ e3
    rw [List.length_drop] at h; omega
   have hcz := hj.cell
   clear hsk hj hgk HST
   by_cases hlt : k < cs.length
   ·obtain ⟨g, off, Gx, cx, Gn, cn, Gq, cq, Gt, ct, Gh, ch, Ge, ce, rfl, hrp, e0, e1, -, -, -⟩ := cmd_get HSK.out (Same.of_below hb) hb.size 0 (by rw [List.length_drop]; omega)
    have hx0 : (cs.drop k)[0]'(by rw [List.length_drop]; omega) = cs[k] := by simp
    rw [hx0] at e0 e1 hrp
    obtain ⟨Gx2, cx2, hxw, hxe⟩ : ∃ Gx2 cx2, SAt cStr w F (.slice Gx2 cs[k].texts.length cx2) cs[k].texts ∧ (Value.slice Gx cs[k].texts.length cx) = .slice Gx2 cs[k].texts.length cx2 := by
     obtain ⟨g', off', Gx', cx', Gn', cn', Gq', cq', Gt', ct', Gh', ch', Ge', ce', hG', hrp', e0', e1', -, -, -⟩ := cmd_get HSK.out (Same.refl _ _) (Nat.le_refl _) 0 (by rw [List.length_drop]; omega)
     obtain ⟨rfl, rfl⟩ : g = g' ∧ off = off' := by cases hG'; exact ⟨rfl, rfl⟩
     have h2 := moved e1' hb (Nat.le_refl _)
     simp only [hx0] at h2 hrp'
     rw [e1] at h2
     exact ⟨Gx', cx', cmd_texts hrp', Option.some.inj h2⟩
    have hreq := goR_req (has := hasK cs k) k hlt
    have hbad := goR_bad (has := hasK cs k) k hlt
    have hres := goR_rest (has := hasK cs k) k hlt
    have hnx := hasK_next cs k hlt
    have hss := HSS.out _ (List.getElem_mem hlt)
    have htl := texts_len HF.out (k + 1)
    rw [hnx, List.length_append] at htl
    have htl2 := HLN.out
    rw [hxe] at e1
    generalize cs[k] = c at e0 e1 hrp hxw hreq hbad hres hnx hss htl hxe
    clear hxe
    simp only [Nat.zero_mul, Nat.add_zero] at e0 e1
    have i1 : (0 : Int) < ((cs.length - k : Nat) : Int) := by omega
    have i2 : 0 < cs.length - k := by omega
    by_cases h1 : c.kind = 1
    ·have HREQ := Lib.hid (hreq h1); have HBAD := Lib.hid (hbad h1); have HNX := Lib.hid hnx; have HSW := Lib.hid hxw; have HSL := Lib.hid hss
     have hkl : (hasK cs k).length + c.texts.length ≤ 1000000 := by omega
     clear hreq hbad hres hnx hxw hss htl htl2 hrp hx0 hb
     go_wp2_with fail
     go_loopw [30] (fun v wx => ∃ j : Nat, v = .int .i64 j ∧ j ≤ c.texts.length ∧ JudgeAt wx J bm (hasK cs k ++ c.texts.take j) ∧ Hid ((c.texts.take j).all (fun s => extL.contains s) = true) ∧ Below w.heap.size w wx) (fun v _ => c.texts.length - (intOf v).toNat)
     case atStart => exact ⟨0, rfl, Nat.zero_le _, by rw [List.take_zero, List.append_nil]; exact HJ.out, rfl, HB.out⟩
     case round =>
      obtain ⟨j, rfl, hjl, hjj, HA, hbx⟩ := hrel
      have HBX := Lib.hid hbx
      have HJJ := Lib.hid hjj
      have hcj := hjj.cell
      by_cases hlj : j < c.texts.length
      ·obtain ⟨g2, o2, rfl, s0⟩ := str_get HSW.out (Same.of_below hbx) hbx.size j hlj
       have hst := fun h => all_take (p := fun s => extL.contains s) j hlj HA.out h
       have hno := fun h => not_all (p := fun s => extL.contains s) j hlj h
       have htk : c.texts.take (j + 1) = c.texts.take j ++ [c.texts[j]] := List.take_succ_eq_append_getElem hlj
       have hsl := HSL.out _ (List.getElem_mem hlj)
       generalize c.texts[j] = s at s0 hst hno htk hsl
       have HCT := Lib.hid (contains_table 1 4 extL s wr (by decide) (HW.out.ext.1.below hbx HW.out.ext.2))
       have HST := Lib.hid hst; have HNO := Lib.hid hno; have HTK := Lib.hid htk; have HKEY := Lib.hid (key_str s hsl)
       have hlen2 : (hasK cs k ++ c.texts.take j).length < 1000000 := by rw [List.length_append, List.length_take]; omega
       clear hst hno htk hjj hsl hbx
       obtain ⟨q, hq⟩ : ∃ q, q = extL.contains s := ⟨_, rfl⟩
       have HQ := Lib.hid hq
       have HCT2 : Hid (Calls Tryz.prog 41 #[.slice (some ⟨1, 0, none⟩) 4 4, .string ⟨s.toArray⟩] wr fun e w' => e = .returned (.bool q) ∧ wr = w') := by rw [hq]; exact HCT.out
       clear hq HCT
       cases q with
       | true =>
        go_wp2_with fail
        refine HCT2.out.mono ?_
        rintro e w3 ⟨rfl, rfl⟩
        go_wp2_with (at_mapUpdate; refine wpList_mapUpdate_own _ rfl _ _ _ 95 rfl 9 100 keyed_str Tryz.underlying95 (unitElem (H := Unit)) bm (hasK cs k ++ c.texts.take j).length _ rfl HJJ.out.own (by unfold maxLen; omega) _ _ _ rfl rfl HKEY.out _ [] unitElem_mk ?_; intro w4 hown4 hgrow4)
        have hj4 : JudgeAt w4 J bm (hasK cs k ++ c.texts.take (j + 1)) := by
         rw [HTK.out, ← List.append_assoc]
         refine ⟨hgrow4.cell hcj (fun e => hbJ (Option.some.inj e).symm), ?_⟩
         rw [hasD_snoc, List.length_append]
         exact hown4
        have hb4 := below_map HBX.out hgrow4 (fun b e => by have e' : bm = b := Option.some.inj e; omega) HBX.out.size
        have HJ4 := Lib.hid hj4; have HB4 := Lib.hid hb4
        clear hj4 hb4 hown4 hgrow4
        go_wp2_with fail
        go_roundw
        case rel => exact ⟨j + 1, by go_num, hlj, HJ4.out, HST.out HQ.out.symm, HB4.out⟩
        case measure => simp [intOf]; omega
       | false =>
        go_wp2_with fail
        refine HCT2.out.mono ?_
        rintro e w3 ⟨rfl, rfl⟩
        go_wp2_with fail
        go_ret
        exact ⟨ret_int (by rw [HGO.out, HGK.out, HBAD.out (HNO.out HQ.out.symm)]), HBX.out⟩
      ·obtain rfl : j = c.texts.length := by omega
       have hall : c.texts.all (fun s => extL.contains s) = true := by have := HA.out; rwa [List.take_length] at this
       have hj5 : JudgeAt wr J bm (hasK cs (k + 1)) := by rw [HNX.out]; have := HJJ.out; rwa [List.take_length] at this
       have hg5 : goR [] cs = goR (hasK cs (k + 1)) (cs.drop (k + 1)) := by rw [HGK.out, HREQ.out hall, HNX.out]
       have HJ5 := Lib.hid hj5; have HG5 := Lib.hid hg5
       have HS5 := Lib.hid (sat_rest HSK.out)
       clear hall hj5 hg5 hjj hbx
       have k1 : 1 ≤ cs.length - k := by omega
       have k2 : (1 : Int) ≤ ((cs.length - k : Nat) : Int) := by omega
       have k3 : 1 ≤ ck := by omega
       have ee : cs.length - (k + 1) = cs.length - k - 1 := by omega
       have EE := Lib.hid ee
       by_cases hc1 : 1 < ck
       ·have k4 : (1 : Int) < ck := by omega
        clear ee
        go_wp2_with fail
        go_roundw
        case rel => exact ⟨k + 1, some ⟨g, off + 12, none⟩, ck - 1, hlt, by rw [EE.out], by rw [EE.out]; exact HS5.out k1 _ _ (fun _ => ⟨rfl, rfl⟩) (by omega), HJ5.out, HG5.out, HBX.out⟩
        case measure => show cs.length - k - 1 < cs.length - k; omega
       ·obtain rfl : ck = 1 := by omega
        have ez : cs.length - k = 1 := by omega
        have EZ := Lib.hid ez
        clear ee ez
        go_wp2_with fail
        go_roundw
        case rel => exact ⟨k + 1, some ⟨g, off, none⟩, 0, hlt, by rw [EE.out, EZ.out], by rw [EE.out]; exact HS5.out k1 _ _ (fun h => absurd h (by decide)) (by rw [EZ.out]; exact Nat.le_refl _), HJ5.out, HG5.out, HBX.out⟩
        case measure => show 0 < cs.length - k; omega
    ·have HRES := Lib.hid (hres h1)
     have n1 : (c.kind == (1 : Int)) = false := beq_eq_false_iff_ne.2 h1
     have HAL := Lib.hid (all_rule_all n (cs.drop k) _ F J bm (hasK cs k) m wr (HSK.out.down hb) (fun x hx => HG.out x (List.mem_of_mem_drop hx)) (by rw [List.length_drop]; omega) ⟨HJ.out, (HW.out.down hb).names, (HW.out.down hb).max⟩)
     clear hreq hbad hres hnx hxw hss htl htl2 hrp hx0 hb h1
     go_wp2_with fail
     refine HAL.out.mono ?_
     rintro e w3 ⟨rfl, hb3⟩
     have HB3 := Lib.hid (bt HB.out hb3)
     clear hb3 HAL
     go_wp2_with fail
     go_ret
     exact ⟨ret_int (by rw [HGO.out, HGK.out, HRES.out]), HB3.out⟩
   ·obtain rfl : k = cs.length := by omega
    have HRES := Lib.hid (goR_end (has := hasK cs cs.length) (cs := cs))
    have HAL := Lib.hid (all_rule_all n (cs.drop cs.length) _ F J bm (hasK cs cs.length) m wr (HSK.out.down hb) (fun x hx => HG.out x (List.mem_of_mem_drop hx)) (by rw [List.length_drop]; omega) ⟨HJ.out, (HW.out.down hb).names, (HW.out.down hb).max⟩)
    have ez : cs.length - cs.length = 0 := by omega
    rw [ez] at HAL ⊢
    clear hb ez
    go_wp2_with fail
    refine HAL.out.mono ?_
    rintro e w3 ⟨rfl, hb3⟩
    have HB3 := Lib.hid (bt HB.out hb3)
    clear hb3 HAL
    go_wp2_with fail
    go_ret
    exact ⟨ret_int (by rw [HGO.out, HGK.out, HRES.out, List.drop_length]), HB3.out⟩
end Go.Proofs.YtjfclekmhfgkmaaGreatDoor.Sc
namespace Go.Proofs.YtjfclekmhfgkmaaGreatDoor.Sc
open Go
theorem ext_of {W : World} {laid : List (String × DataW Unit)} (h : laidMet Tryz.prog laid W) (hm : ("postroom/rule.extensions", Rows.laid_postroom_rule_extensions) ∈ laid) : ExtAt W ∧ 1 < W.heap.size := by
 have e := tabAt_reads (l := extL) (g := 1) (t := 99) (Lib.laidMet.reads h hm) (by kernel_rfl) (by kernel_rfl) Tryz.underlying99 (by decide)
 exact ⟨fun j hj => e.1 j _ (List.getElem?_eq_getElem hj), e.2⟩
theorem names_of {W : World} {laid : List (String × DataW Unit)} (h : laidMet Tryz.prog laid W) (hm : ("postroom/rule.names", Rows.laid_postroom_rule_names) ∈ laid) : NamesAt W ∧ 7 < W.heap.size := by
 have e := tabAt_reads (l := flagL) (g := 7) (t := 161) (Lib.laidMet.reads h hm) (by kernel_rfl) (by kernel_rfl) Tryz.underlying161 (by decide)
 refine ⟨fun j hj => ?_, e.2⟩
 have h5 : j < flagL.length := hj
 rw [e.1 j _ (List.getElem?_eq_getElem h5)]
 have key : ∀ j (h1 : j < flNames.length) (h2 : j < flagL.length), flNames[j] = ⟨flagL[j].toArray⟩ := by
  intro j h1 h2
  have : j = 0 ∨ j = 1 ∨ j = 2 ∨ j = 3 ∨ j = 4 := by
   have : flagL.length = 5 := rfl
   omega
  rcases this with rfl | rfl | rfl | rfl | rfl <;> rfl
 exact congrArg (fun b => some (Value.string b)) (key j hj h5).symm
end Go.Proofs.YtjfclekmhfgkmaaGreatDoor.Sc
namespace Go.Proofs.YtjfclekmhfgkmaaGreatDoor.Sc
open Go.RowKit
theorem LenTs_mk {t : Tst} (h1 : ∀ s ∈ t.names, s.length ≤ 1000000) (h2 : ∀ s ∈ t.keys, s.length ≤ 1000000) (h3 : t.names.length ≤ 1000000 ∧ t.keys.length ≤ 1000000 ∧ t.tests.length ≤ 1000000) (h4 : ∀ s ∈ t.tests, LenTs s) : LenTs t := by
 obtain ⟨k, m, p, ns, ks, o, l, ts⟩ := t
 rw [LenTs]; exact ⟨⟨h1, h2, h3⟩, (LenTl_iff _).2 h4⟩
theorem nilT {P : Tst → Prop} : ∀ s ∈ ([] : List Tst), P s := fun s h => by cases h
theorem nilStr {P : Str → Prop} : ∀ s ∈ ([] : List Str), P s := fun s h => by cases h
theorem leafS_short (k : Int) (x : Stk) : (∀ s ∈ (leafS k x).names ++ (leafS k x).keys, s.length ≤ 100) := by
 have h := leafS_nice k x
 generalize leafS k x = t at h ⊢
 obtain ⟨k', m, p, ns, ks, o, l, ts⟩ := t
 rw [niceT] at h
 intro s hs
 have := List.all_eq_true.1 h.2.1 s hs
 simpa using this
theorem leafS_len (k : Int) (x : Stk) : LenTs (leafS k x) := by
 have h := leafS_short k x
 have h2 := leafS_two k x
 refine LenTs_mk (fun s hs => by have := h s (List.mem_append_left _ hs); omega) (fun s hs => by have := h s (List.mem_append_right _ hs); omega) ⟨by omega, by omega, by rw [leafS_sub]; exact Nat.zero_le _⟩ ?_
 rw [leafS_sub]; exact nilT
theorem zeroT_len (k : Int) : LenTs (zeroT k) := LenTs_mk nilStr nilStr ⟨Nat.zero_le _, Nat.zero_le _, Nat.zero_le _⟩ nilT
theorem testS_LenTs : ∀ (m : Nat) (x : Stk), LenTs (testS m x)
 | 0, x => by
  rw [testS]
  split
  ·exact zeroT_len _
  ·exact leafS_len _ _
 | m + 1, x => by
  rw [testS]
  split
  ·exact LenTs_mk nilStr nilStr ⟨Nat.zero_le _, Nat.zero_le _, by show 1 ≤ _; omega⟩ (fun s hs => by
    have hs' : s ∈ [testS m (notS x)] := hs
    rw [List.mem_singleton] at hs'; subst hs'; exact testS_LenTs m _)
  ·split
   ·refine LenTs_mk nilStr nilStr ⟨Nat.zero_le _, Nat.zero_le _, ?_⟩ (fun s hs => ?_)
    ·show (if x.subs = [] then _ else _ : List Tst).length ≤ _
     split
     ·show 1 ≤ _; omega
     ·rw [List.length_map, List.length_take]; omega
    ·have hs' : s ∈ (if x.subs = [] then [zeroT (1 + (pick x.a 2 : Nat))] else (x.subs.take 3).map (testS m)) := hs
     split at hs'
     ·rw [List.mem_singleton] at hs'; subst hs'; exact zeroT_len _
     ·obtain ⟨y, -, rfl⟩ := List.mem_map.1 hs'; exact testS_LenTs m y
   ·exact leafS_len _ _
theorem T0_len : LenTs T0 := zeroT_len 0
theorem nilCmd {P : Cmd → Prop} : ∀ s ∈ ([] : List Cmd), P s := fun s h => by cases h
theorem plain_good (x : Stk) {k : Int} (hk : 3 ≤ k ∧ k ≤ 10) : GoodC ⟨k, textsS k x, T0, [], []⟩ := by
 have a4 := pick_lt_int x.a 4 (by omega); have a3 := pick_lt_int x.a 3 (by omega)
 refine (GoodC.iff _).2 ⟨⟨fun h => ?_, fun h => ?_, fun h => ?_, ⟨by show 1 ≤ k; omega, by show k ≤ 10; omega⟩, Nat.zero_le _, Nat.zero_le _⟩, T0_len, nilCmd, nilCmd⟩
 ·have h' : k = 5 := h
  subst h'
  refine ⟨fileW.getD (pick x.a 4) [], rfl, ?_⟩
  have : ∀ n : Nat, n < 4 → (fileW.getD n []).length ≤ 1000000 := by decide
  exact this _ (by omega)
 ·have h' : k = 6 := h
  subst h'
  refine ⟨redirW.getD (pick x.a 3) [], rfl, ?_⟩
  have : ∀ n : Nat, n < 3 → (redirW.getD n []).length ≤ 2000 := by decide
  exact this _ (by omega)
 ·have h' : k = 8 ∨ k = 9 := h
  have hx : textsS k x = [flagW.getD (pick x.a 3) []] := by
   unfold textsS
   rw [if_neg (by omega), if_neg (by omega), if_neg (by omega), if_pos h']
  have key : ∀ n : Nat, n < 3 → ∃ j, j < 5 ∧ flagW.getD n [] = flagL.getD j [] := fun n hn => by
   have : n = 0 ∨ n = 1 ∨ n = 2 := by omega
   rcases this with rfl | rfl | rfl
   ·exact ⟨0, by decide, rfl⟩
   ·exact ⟨4, by decide, rfl⟩
   ·exact ⟨2, by decide, rfl⟩
  obtain ⟨j, hj, e⟩ := key _ (show pick x.a 3 < 3 by omega)
  exact ⟨j, hj, by show textsS k x = _; rw [hx, e]⟩
theorem cmdS_good : ∀ (m : Nat) (x : Stk), GoodC (cmdS m x)
 | 0, x => by
  have hk := kindC_ok x
  rw [cmdS]
  by_cases h2 : kindC x = 2
  ·have e : textsS (kindC x) x = textsS 3 x := by rw [h2]; rfl
   rw [if_pos h2, e]; exact plain_good x (by decide)
  ·rw [if_neg h2]; exact plain_good x (by omega)
 | m + 1, x => by
  have hk := kindC_ok x
  rw [cmdS]
  by_cases h2 : kindC x = 2
  ·rw [if_pos h2]
   refine (GoodC.iff _).2 ⟨⟨fun h => absurd h (by show ¬ (2 : Int) = 5; decide), fun h => absurd h (by show ¬ (2 : Int) = 6; decide), fun h => absurd h (by show ¬ ((2 : Int) = 8 ∨ (2 : Int) = 9); decide), ⟨by show (1 : Int) ≤ 2; decide, by show (2 : Int) ≤ 10; decide⟩, ?_, ?_⟩, testS_LenTs 2 _, fun c hc => ?_, fun c hc => ?_⟩
   ·show (List.map _ _).length ≤ _; rw [List.length_map, List.length_take]; omega
   ·show (List.map _ _).length ≤ _; rw [List.length_map, List.length_take]; omega
   ·obtain ⟨y, -, rfl⟩ := List.mem_map.1 hc; exact cmdS_good m y
   ·obtain ⟨y, -, rfl⟩ := List.mem_map.1 hc; exact cmdS_good m y
  ·rw [if_neg h2]; exact plain_good x (by omega)
theorem texts_small (m : Nat) (x : Stk) : ∀ s ∈ (cmdS m x).texts, s.length ≤ 1000000 := by
 have key : ∀ k : Int, ∀ s ∈ textsS k x, s.length ≤ 1000000 := by
  intro k s hs
  have a4 := pick_lt_int x.a 4 (by omega); have a3 := pick_lt_int x.a 3 (by omega)
  have f4 : ∀ n : Nat, n < 4 → (fileW.getD n []).length ≤ 1000000 := by decide
  have r3 : ∀ n : Nat, n < 3 → (redirW.getD n []).length ≤ 1000000 := by decide
  have g3 : ∀ n : Nat, n < 3 → (flagW.getD n []).length ≤ 1000000 := by decide
  unfold textsS at hs
  split at hs
  ·rw [List.mem_singleton] at hs; rw [hs]; exact f4 _ (by omega)
  ·split at hs
   ·rw [List.mem_singleton] at hs; rw [hs]; exact r3 _ (by omega)
   ·split at hs
    ·rw [List.mem_singleton] at hs; rw [hs, List.length_take]; omega
    ·split at hs
     ·rw [List.mem_singleton] at hs; rw [hs]; exact g3 _ (by omega)
     ·cases hs
 cases m with
 | zero => rw [cmdS]; exact key _
 | succ m =>
  rw [cmdS]
  split
  ·exact nilStr
  ·exact key _
theorem reqC_good : GoodC reqC := (GoodC.iff _).2 ⟨⟨fun h => absurd h (by decide), fun h => absurd h (by decide), fun h => absurd h (by decide), by decide, Nat.zero_le _, Nat.zero_le _⟩, T0_len, nilCmd, nilCmd⟩
theorem reqC_small : ∀ s ∈ reqC.texts, s.length ≤ 1000000 := by decide
theorem script_good (l : List Stk) : ∀ c ∈ scriptS l, GoodC c := by
 obtain ⟨r, e, k, rfl⟩ := script_cons l
 rw [e]
 intro c hc
 rcases List.mem_cons.1 hc with rfl | hc
 ·exact reqC_good
 ·obtain ⟨y, -, rfl⟩ := List.mem_map.1 (List.mem_of_mem_take hc); exact cmdS_good 2 y
theorem script_small (l : List Stk) : ∀ c ∈ scriptS l, ∀ s ∈ c.texts, s.length ≤ 1000000 := by
 obtain ⟨r, e, k, rfl⟩ := script_cons l
 rw [e]
 intro c hc
 rcases List.mem_cons.1 hc with rfl | hc
 ·exact reqC_small
 ·obtain ⟨y, -, rfl⟩ := List.mem_map.1 (List.mem_of_mem_take hc); exact texts_small 2 y
end Go.Proofs.YtjfclekmhfgkmaaGreatDoor.Sc
