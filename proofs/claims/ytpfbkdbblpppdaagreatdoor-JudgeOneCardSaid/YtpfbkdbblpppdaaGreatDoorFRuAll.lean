/-
  DERIVED. Of: RuAll.
-/
import Derived.Test.YtpfbkdbblpppdaaGreatDoorDRuAll
import Derived.Test.YtpfbkdbblpppdaaGreatDoorDScStk
import Derived.Test.YtpfbkdbblpppdaaGreatDoorFScStk
import Derived.Test.YtpfbkdbblpppdaaGreatDoorFScCmd2
import Derived.Test.YtpfbkdbblpppdaaGreatDoorDScW
import Derived.Test.YtpfbkdbblpppdaaGreatDoorFScMem
import Derived.Test.YtpfbkdbblpppdaaGreatDoorDScWrote
import Derived.Test.YtpfbkdbblpppdaaGreatDoorFScWrote
import Derived.Test.YtpfbkdbblpppdaaGreatDoorRows
import Derived.Test.YtpfbkdbblpppdaaGreatDoorDLift
import Derived.Test.YtpfbkdbblpppdaaGreatDoorDName
import Derived.Test.YtpfbkdbblpppdaaGreatDoorProg
import Derived.Test.YtpfbkdbblpppdaaGreatDoorDJgC
import Derived.Test.YtpfbkdbblpppdaaGreatDoorShelf
import Derived.Test.YtpfbkdbblpppdaaGreatDoorDScMem
import Derived.Test.YtpfbkdbblpppdaaGreatDoorDKtA
import Derived.Test.YtpfbkdbblpppdaaGreatDoorDFlags
import Derived.Test.YtpfbkdbblpppdaaGreatDoorDScPut
import Derived.IntWalk
import Derived.Maps.Own
import Derived.Maps.OwnSet
import Derived.StringKeys
import Derived.WalkKit
import Derived.Deep.DeepCutAuto
import Derived.Deep.CutBlock
import Derived.Deep.RegionLaw
import Derived.Deep.RegionHeld3
import Derived.BigRegion
import Derived.Deep.AppendLies
import Derived.Handy
import Derived.HandedShaped
import Derived.Handed
import Derived.Shelf.Vars
import Derived.Lay
import Derived.MakeChecks
import Derived.Lib.LaidU8
import Derived.OpenShut
import Derived.ProofKit
import Derived.Deep.QuietTactic
import Derived.BigQuiet
import Derived.WalkLawsBesides
import Derived.WalkSpells
import Derived.Outline
import Derived.LoopTactic
import Derived.Lib.Hide
import Derived.Tactics
import Derived.Tactics2
import Derived.Defers
import Derived.Recover
import Derived.StillTailTactics
import Derived.Lib.BufferOwn
import Derived.Lib.HexFns2
import Derived.Lib.IndexLaws
import Derived.Lib.SplitLaws
import Derived.Maps.AppendAt
import Derived.Lib.ConvBytes
set_option linter.unusedVariables false
set_option linter.unusedSimpArgs false
namespace Go.Proofs.YtpfbkdbblpppdaaGreatDoor.Sc
open Tk (Tok)

theorem listT_two : ∀ l : List Str, l.length ≤ 2 → (listT l).length ≤ 5
  | [], _ => by decide
  | [s], _ => by show 1 ≤ 5; decide
  | [s, t], _ => by show 5 ≤ 5; decide
theorem leafS_two (k : Int) (x : Stk) : (leafS k x).names.length ≤ 2 ∧ (leafS k x).keys.length ≤ 2 := by
  have hk : (keysS x).length ≤ 2 := by
    unfold keysS
    split <;> simp
  unfold leafS
  repeat' split
  · exact ⟨by show 1 ≤ 2; decide, hk⟩
  · exact ⟨by show 1 ≤ 2; decide, hk⟩
  · exact ⟨by show 1 ≤ 2; decide, hk⟩
  · refine ⟨?_, Nat.zero_le _⟩
    show (List.take _ _).length ≤ 2
    rw [List.length_take]; show min _ 2 ≤ 2; omega
  · exact ⟨Nat.zero_le _, Nat.zero_le _⟩
  · exact ⟨Nat.zero_le _, Nat.zero_le _⟩
theorem body_two (k m p : Int) (ns ks : List Str) (o : Bool) (l : Int) (h1 : ns.length ≤ 2) (h2 : ks.length ≤ 2) : (bodyT k m p ns ks o l []).length ≤ 12 := by
  have a := listT_two _ h1
  have b := listT_two _ h2
  unfold bodyT
  repeat' split
  all_goals first | (simp only [List.length_cons, List.length_append, List.length_nil, List.flatten_nil, seqT]; omega) | omega
theorem leaf_len (k : Int) (x : Stk) : (wT (leafS k x)).length ≤ 13 := by
  obtain ⟨h1, h2⟩ := leafS_two k x
  rw [wT_eq, leafS_sub, List.map_nil, List.length_cons]
  have := body_two (leafS k x).kind (leafS k x).mat (leafS k x).part _ _ (leafS k x).over (leafS k x).limit h1 h2
  omega
theorem zero_len (k : Int) : (wT (zeroT k)).length ≤ 13 := by
  rw [wT_eq]
  show (W _ :: bodyT k 0 0 [] [] false 0 []).length ≤ 13
  rw [List.length_cons]
  have := body_two k 0 0 [] [] false 0 (Nat.zero_le _) (Nat.zero_le _)
  omega
theorem seqT_bound {B : Nat} (l : List (List Tok)) (h : ∀ x ∈ l, x.length ≤ B) : (seqT l).length ≤ l.length * (B + 1) := by
  cases l with
  | nil => exact Nat.zero_le _
  | cons a l =>
    have h1 := h a (List.mem_cons_self ..)
    have h2 := flat_bound (B := B + 1) (fun y => M 44 :: y) l fun x hx => by rw [List.length_cons]; have := h x (List.mem_cons_of_mem _ hx); omega
    show (M 40 :: a ++ l.flatMap fun y => M 44 :: y).length ≤ _
    rw [List.length_append, List.length_cons, List.length_cons, Nat.add_mul]; omega
theorem wT_not (t : Tst) : (wT ⟨3, 0, 0, [], [], false, 0, [t]⟩).length = 1 + (wT t).length := by
  rw [wT_eq]
  show (W _ :: ([wT t].flatten)).length = _
  rw [List.flatten_cons, List.flatten_nil, List.append_nil, List.length_cons]; omega
theorem wT_of {k : Int} (hk : k = 4 ∨ k = 5) {B : Nat} (ts : List Tst) (hl : ts.length ≤ 3) (h : ∀ t ∈ ts, (wT t).length ≤ B) : (wT ⟨k, 0, 0, [], [], false, 0, ts⟩).length ≤ 3 * (B + 1) + 2 := by
  rw [wT_eq, List.length_cons]
  have e : bodyT k 0 0 [] [] false 0 (ts.map wT) = seqT (ts.map wT) ++ [M 41] := by unfold bodyT; rw [if_neg (by omega), if_pos hk]
  show (bodyT k 0 0 [] [] false 0 (ts.map wT)).length + 1 ≤ _
  rw [e, List.length_append]
  have h2 := seqT_bound (B := B) (ts.map wT) fun x hx => by obtain ⟨t, ht, rfl⟩ := List.mem_map.1 hx; exact h t ht
  rw [List.length_map] at h2
  have h3 : ts.length * (B + 1) ≤ 3 * (B + 1) := Nat.mul_le_mul_right _ hl
  show (seqT (ts.map wT)).length + 1 + 1 ≤ _
  omega
def tB : Nat → Nat
  | 0 => 13
  | m + 1 => 3 * (tB m + 1) + 2
theorem tB_pos : ∀ m, 13 ≤ tB m
  | 0 => Nat.le_refl _
  | m + 1 => by have := tB_pos m; rw [tB]; omega
theorem testS_len : ∀ (m : Nat) (x : Stk), (wT (testS m x)).length ≤ tB m
  | 0, x => by
    rw [testS]
    split
    · exact zero_len _
    · exact leaf_len _ _
  | m + 1, x => by
    have hp := tB_pos m
    rw [testS, tB]
    split
    · rw [wT_not]; have := testS_len m (notS x); omega
    · split
      · rename_i h
        refine wT_of h _ ?_ fun t ht => ?_
        · split
          · exact Nat.le_succ_of_le (Nat.le_succ _)
          · rw [List.length_map, List.length_take]; omega
        · have ht' : t ∈ (if x.subs = [] then [zeroT (1 + (pick x.a 2 : Nat))] else (x.subs.take 3).map (testS m)) := ht
          split at ht'
          · obtain rfl := List.mem_singleton.1 ht'
            have := zero_len (1 + (pick x.a 2 : Nat)); omega
          · obtain ⟨y, -, rfl⟩ := List.mem_map.1 ht'
            exact testS_len m y
      · have := leaf_len (kindS x) x; omega
theorem texts_one (k : Int) (x : Stk) : (textsS k x).length ≤ 1 := by
  unfold textsS
  repeat' split
  all_goals first | exact Nat.le_refl _ | exact Nat.zero_le _
theorem wBr_le (c : Cmd) (h : c.kind = 2) : (wBr c).length ≤ (wC c).length := by rw [wC_if h, List.length_cons]; omega
theorem else_bound {B : Nat} (el : List Cmd) (hl : el.length ≤ 4) (h : ∀ c ∈ el, (wC c).length ≤ B) : (elseT el (el.flatMap wC) (el.map wBr)).length ≤ 3 + 4 * B := by
  have hf := flat_bound (B := B) wC el h
  have hm : el.length * B ≤ 4 * B := Nat.mul_le_mul_right _ hl
  unfold elseT
  split
  · rename_i he
    match el, he with
    | [c], he =>
      have hc : c.kind = 2 := by simpa [isElsif] using he
      have h1 := wBr_le c hc
      have h2 := h c (List.mem_cons_self ..)
      show (W elsifW :: [wBr c].flatten).length ≤ _
      rw [List.flatten_cons, List.flatten_nil, List.append_nil, List.length_cons]; omega
  · split
    · exact Nat.zero_le _
    · unfold blkT
      rw [List.length_cons, List.length_cons, List.length_append]
      show (el.flatMap wC).length + 1 + 1 + 1 ≤ _
      omega
theorem if_bound {B T : Nat} (t : Tst) (th el : List Cmd) (ht : (wT t).length ≤ T) (h1 : th.length ≤ 4) (h2 : el.length ≤ 4) (k1 : ∀ c ∈ th, (wC c).length ≤ B) (k2 : ∀ c ∈ el, (wC c).length ≤ B) : (wC ⟨2, [], t, th, el⟩).length ≤ 8 * B + T + 6 := by
  rw [wC_if (c := ⟨2, [], t, th, el⟩) rfl, wBr_eq, List.length_cons, List.length_append, List.length_append]
  have ha := flat_bound (B := B) wC th k1
  have hm : th.length * B ≤ 4 * B := Nat.mul_le_mul_right _ h1
  have hb := else_bound el h2 k2
  have hc : (blkT (th.flatMap wC)).length = (th.flatMap wC).length + 2 := by unfold blkT; rw [List.length_cons, List.length_append]; rfl
  show (wT t).length + ((blkT (th.flatMap wC)).length + (elseT el (el.flatMap wC) (el.map wBr)).length) + 1 ≤ _
  omega
def cB : Nat → Nat
  | 0 => 3
  | m + 1 => 8 * cB m + tB 2 + 6
theorem cB_pos : ∀ m, 3 ≤ cB m
  | 0 => Nat.le_refl _
  | m + 1 => by have := cB_pos m; rw [cB]; omega
theorem cmdS_len : ∀ (m : Nat) (x : Stk), (wC (cmdS m x)).length ≤ cB m
  | 0, x => by
    rw [cmdS]
    refine plain_len _ ?_ _ (texts_one _ _)
    split
    · decide
    · assumption
  | m + 1, x => by
    have ih := cmdS_len m
    rw [cmdS, cB]
    split
    · refine if_bound _ _ _ (testS_len 2 _) ?_ ?_ (fun c hc => ?_) (fun c hc => ?_)
      · rw [List.length_map, List.length_take]; omega
      · rw [List.length_map, List.length_take]; omega
      · obtain ⟨y, -, rfl⟩ := List.mem_map.1 hc; exact ih y
      · obtain ⟨y, -, rfl⟩ := List.mem_map.1 hc; exact ih y
    · rename_i h
      have := plain_len (kindC x) h _ (texts_one (kindC x) x)
      have := cB_pos m
      omega
end Go.Proofs.YtpfbkdbblpppdaaGreatDoor.Sc
namespace Go.Proofs.YtpfbkdbblpppdaaGreatDoor.Sc
open Go.RowKit
open Tk (Tok)

theorem CmdPost.up {c : Cmd} {n n' : Nat} {w w' : World} {e : Ending} (h : CmdPost c n w e w') (hn : n ≤ n') : CmdPost c n' w e w' := by
  obtain ⟨vs, h1, h2, h3⟩ := h
  exact ⟨vs, h1, cmd_le hn h2, h3⟩
theorem texts_if (x : Stk) : textsS 2 x = textsS 3 x := rfl
/-- Command at a depth of 2 - m -/
theorem cmd_all : ∀ (m : Nat), m ≤ 2 → CmdAt m (m * 7 + 1) (2 - (m : Int))
  | 0, _ => fun n y vs F w' hr => by
    obtain ⟨_, G, c, -, rfl, -, -, hb⟩ := stk_open hr
    rw [cmdS]
    by_cases h : kindC y = 2
    · rw [if_pos h, h, texts_if]
      exact cmd_plain 3 y _ _ w' hb (.inr ⟨h, rfl, by decide⟩) (by decide)
    · rw [if_neg h]
      exact cmd_plain _ y _ _ w' hb (.inl ⟨rfl, h⟩) (by decide)
  | m + 1, hm => fun n y vs F w' hr => by
    obtain ⟨n', G, c, -, rfl, hs, -, hb⟩ := stk_open hr
    have ih := cmd_all m (by omega)
    have e : (2 : Int) - ((m + 1 : Nat) : Int) + 1 = 2 - (m : Int) := by omega
    have hd : 0 ≤ (2 : Int) - ((m + 1 : Nat) : Int) ∧ (2 : Int) - ((m + 1 : Nat) : Int) ≤ 1 := by omega
    by_cases h : kindC y = 2
    · have := cmd_if m (m * 7 + 1) n' y _ _ F w' (by rw [e]; exact ih) hs hb h hd
      exact this.mono fun e w2 h => h.up (by omega)
    · rw [cmdS, if_neg h]
      exact (cmd_plain _ y _ _ w' hb (.inl ⟨rfl, h⟩) (by omega)).mono fun e w2 h => h.up (by omega)
end Go.Proofs.YtpfbkdbblpppdaaGreatDoor.Sc
namespace Go.Proofs.YtpfbkdbblpppdaaGreatDoor.Sc
open Go.RowKit
open Tk (Tok)

set_option maxHeartbeats 4000000 in
set_option maxRecDepth 20000 in
theorem commands_nil (G : Option Addr) (c : Nat) (d : Int) (w : World) : Calls Tryz.prog 19 #[.slice G 0 c, .int .i64 d] w fun e w' => e = .returned (.slice none 0 0) ∧ w = w' := by
  go_enter Tryz.func19, Tryz.ntmps19
  go_wp2_with fail
  go_loop [5, 6] (fun v i => v = .slice none 0 0 ∧ i = .int .i64 0) (fun _ _ => 0)
  case atStart => exact ⟨rfl, rfl⟩
  case round =>
    obtain ⟨rfl, rfl⟩ := hrel
    go_wp2_with fail
    go_ret
    exact ⟨rfl, rfl⟩
end Go.Proofs.YtpfbkdbblpppdaaGreatDoor.Sc
namespace Go.Proofs.YtpfbkdbblpppdaaGreatDoor.Sc
open Go

end Go.Proofs.YtpfbkdbblpppdaaGreatDoor.Sc
namespace Go.Proofs.YtpfbkdbblpppdaaGreatDoor.Sc
open Tk (Tok)

/-! what needs what -/
mutual
def needT : Tst → Bool
  | ⟨k, _, _, _, _, _, _, ts⟩ => needTs ts || k == 8
def needTs : List Tst → Bool
  | [] => false
  | t :: l => needT t || needTs l
end
mutual
def needC : Cmd → Bool
  | ⟨k, _, t, th, el⟩ => if k = 5 ∨ k = 7 ∨ k = 8 ∨ k = 9 then true else if k = 2 then needT t || needCs th || needCs el else false
def needCs : List Cmd → Bool
  | [] => false
  | c :: l => needC c || needCs l
end
/-- all is required, or nothing is: so much is wrong -/
def wantR (full : Bool) (need : Bool) : Int := if full = true then 0 else if need = true then 8 else 0
def hasB (full : Bool) (has : List Str) : Prop := if full = true then ∀ s ∈ extL, has.contains s = true else has = []
theorem need_has {full : Bool} {has : List Str} (h : hasB full has) {s : Str} (hs : s ∈ extL) : needR has s = wantR full true := by
  unfold needR wantR
  unfold hasB at h
  cases full
  · rw [if_neg (by decide)] at h
    subst h
    rw [if_neg (by simp), if_neg (by decide), if_pos rfl]
  · rw [if_pos rfl] at h
    rw [if_pos (h s hs), if_pos rfl]
theorem want_no (full : Bool) : wantR full false = 0 := by unfold wantR; cases full <;> rfl
theorem want_or (full a b : Bool) : orE (wantR full a) (wantR full b) = wantR full (a || b) := by cases full <;> cases a <;> cases b <;> rfl
/-! a test that is refused for what it needs alone -/
mutual
theorem tstR_nice {full : Bool} {has : List Str} (h : hasB full has) : ∀ t : Tst, niceT t → tstR has t = wantR full (needT t)
  | ⟨k, m, p, ns, ks, o, l, ts⟩, hn => by
    rw [niceT] at hn
    obtain ⟨h1, h2, h3⟩ := hn
    rw [tstR, needT, if_pos h2, tstsR_nice h ts h3, zero_or, need_has h (by decide : envW ∈ extL)]
    by_cases hk : k = 8
    · rw [if_pos hk, if_pos (h1 hk), or_zero, want_or, hk, Bool.or_comm]; rfl
    · rw [if_neg hk, zero_or, beq_eq_false_iff_ne.2 hk, Bool.or_false]
theorem tstsR_nice {full : Bool} {has : List Str} (h : hasB full has) : ∀ l : List Tst, niceTs l → tstsR has l = wantR full (needTs l)
  | [], _ => by rw [tstsR, needTs, want_no]
  | t :: l, hn => by
    rw [niceTs] at hn
    rw [tstsR, needTs, tstR_nice h t hn.1, tstsR_nice h l hn.2, want_or]
end
theorem niceT_mk {t : Tst} (h1 : t.kind = 8 → t.names.all (fun s => s == fromW || s == toW) = true) (h2 : (t.names ++ t.keys).all (fun s => decide (s.length ≤ 100)) = true) (h3 : ∀ s ∈ t.tests, niceT s) : niceT t := by
  obtain ⟨k, m, p, ns, ks, o, l, ts⟩ := t
  rw [niceT]; exact ⟨h1, h2, (niceTs_iff _).2 h3⟩
theorem nm6_short : ∀ n : Nat, (nm6.getD n []).length ≤ 100
  | 0 | 1 | 2 | 3 => by decide
  | n + 4 => by rw [show nm6.getD (n + 4) [] = [] by simp [nm6]]; decide
theorem nm8_short : ∀ n : Nat, n < 2 → (nm8.getD n []).length ≤ 100 ∧ [nm8.getD n []].all (fun s => s == fromW || s == toW) = true
  | 0, _ => by decide
  | 1, _ => by decide
theorem nm9_short : ∀ n : Nat, (nm9.getD n []).length ≤ 100
  | 0 | 1 | 2 => by decide
  | n + 3 => by rw [show nm9.getD (n + 3) [] = [] by simp [nm9]]; decide
theorem keysS_short (x : Stk) : ∀ s ∈ keysS x, s.length ≤ 100 := by
  intro s hs
  unfold keysS at hs
  rcases List.mem_cons.1 hs with rfl | hs
  · rw [List.length_take]; omega
  · split at hs
    · rw [List.mem_singleton] at hs; subst hs; rw [List.length_take]; omega
    · cases hs
theorem all_short {l : List Str} (h : ∀ s ∈ l, s.length ≤ 100) : l.all (fun s => decide (s.length ≤ 100)) = true := List.all_eq_true.2 fun s hs => decide_eq_true (h s hs)
theorem leafS_nice (k : Int) (x : Stk) : niceT (leafS k x) := by
  have hks := keysS_short x
  have b2 := pick_lt_int x.b 2 (by omega)
  unfold leafS
  split
  · exact niceT_mk (fun h => absurd h (by show ¬ (6 : Int) = 8; decide)) (all_short fun s hs => by
      rcases List.mem_append.1 hs with h | h
      · rw [List.mem_singleton] at h; subst h; exact nm6_short _
      · exact hks s h) (fun s hs => by cases hs)
  · split
    · exact niceT_mk (fun h => absurd h (by show ¬ (7 : Int) = 8; decide)) (all_short fun s hs => by
        rcases List.mem_append.1 hs with h | h
        · rw [List.mem_singleton] at h; subst h; exact nm6_short _
        · exact hks s h) (fun s hs => by cases hs)
    · split
      · exact niceT_mk (fun _ => (nm8_short _ (by omega)).2) (all_short fun s hs => by
          rcases List.mem_append.1 hs with h | h
          · rw [List.mem_singleton] at h; subst h; exact (nm8_short _ (by omega)).1
          · exact hks s h) (fun s hs => by cases hs)
      · split
        · exact niceT_mk (fun h => absurd h (by show ¬ (9 : Int) = 8; decide)) (all_short fun s hs => by
            rw [List.append_nil] at hs
            have h := List.mem_of_mem_take hs
            rcases List.mem_cons.1 h with rfl | h
            · exact nm9_short _
            · rw [List.mem_singleton] at h; subst h
              unfold wordL
              split
              · decide
              · rw [List.length_map, List.length_take]; omega) (fun s hs => by cases hs)
        · split
          · exact niceT_mk (fun h => absurd h (by show ¬ (10 : Int) = 8; decide)) rfl (fun s hs => by cases hs)
          · exact niceT_mk (fun _ => rfl) rfl (fun s hs => by cases hs)
theorem zeroT_nice (k : Int) : niceT (zeroT k) := niceT_mk (fun _ => rfl) rfl (fun s hs => by cases hs)
theorem testS_nice : ∀ (m : Nat) (x : Stk), niceT (testS m x)
  | 0, x => by
    rw [testS]
    split
    · exact zeroT_nice _
    · exact leafS_nice _ _
  | m + 1, x => by
    rw [testS]
    split
    · exact niceT_mk (fun _ => rfl) rfl (fun s hs => by
        have hs' : s ∈ [testS m (notS x)] := hs
        rw [List.mem_singleton] at hs'; subst hs'; exact testS_nice m _)
    · split
      · exact niceT_mk (fun _ => rfl) rfl (fun s hs => by
          have hs' : s ∈ (if x.subs = [] then [zeroT (1 + (pick x.a 2 : Nat))] else (x.subs.take 3).map (testS m)) := hs
          split at hs'
          · rw [List.mem_singleton] at hs'; subst hs'; exact zeroT_nice _
          · obtain ⟨y, -, rfl⟩ := List.mem_map.1 hs'; exact testS_nice m y)
      · exact leafS_nice _ _
theorem fileW_ok : ∀ n : Nat, n < 4 → nameCode (fileW.getD n []) = 0
  | 0, _ | 1, _ | 2, _ | 3, _ => by decide +kernel
theorem redirW_ok : ∀ n : Nat, n < 3 → oneList (redirW.getD n []) = true
  | 0, _ | 1, _ | 2, _ => by decide +kernel
theorem flagW_ok : ∀ n : Nat, n < 3 → flagL.contains (flagW.getD n []) = true
  | 0, _ | 1, _ | 2, _ => by decide +kernel
theorem cmdsR_all {full : Bool} {has : List Str} : ∀ l : List Cmd, (∀ c ∈ l, cmdR has c = wantR full (needC c)) → cmdsR has l = wantR full (needCs l)
  | [], _ => by rw [cmdsR, needCs, want_no]
  | c :: l, h => by rw [cmdsR, needCs, h c (List.mem_cons_self ..), cmdsR_all l fun x hx => h x (List.mem_cons_of_mem _ hx), want_or]
theorem plain_rule {full : Bool} {has : List Str} (h : hasB full has) (x : Stk) {k : Int} (hk : 3 ≤ k ∧ k ≤ 10) : cmdR has ⟨k, textsS k x, T0, [], []⟩ = wantR full (needC ⟨k, textsS k x, T0, [], []⟩) := by
  have a4 := pick_lt_int x.a 4 (by omega); have a3 := pick_lt_int x.a 3 (by omega)
  rw [cmdR, needC]
  have hc : k = 3 ∨ k = 4 ∨ k = 5 ∨ k = 6 ∨ k = 7 ∨ k = 8 ∨ k = 9 ∨ k = 10 := by omega
  rcases hc with rfl | rfl | rfl | rfl | rfl | rfl | rfl | rfl
  · exact (want_no full).symm
  · exact (want_no full).symm
  · show orE (needR has fileinW) (nameCode (fileW.getD (pick x.a 4) [])) = wantR full true
    rw [fileW_ok _ (by omega), or_zero]; exact need_has h (by decide)
  · show (if oneList (redirW.getD (pick x.a 3) []) = true then (0 : Int) else 3) = wantR full false
    rw [if_pos (redirW_ok _ (by omega)), want_no]
  · exact need_has h (by decide)
  · show orE (needR has flagsW) (flagR [flagW.getD (pick x.a 3) []]) = wantR full true
    have e : flagR [flagW.getD (pick x.a 3) []] = 0 := by unfold flagR; rw [List.all_cons, flagW_ok _ (by omega)]; rfl
    rw [e, or_zero]; exact need_has h (by decide)
  · show orE (needR has flagsW) (flagR [flagW.getD (pick x.a 3) []]) = wantR full true
    have e : flagR [flagW.getD (pick x.a 3) []] = 0 := by unfold flagR; rw [List.all_cons, flagW_ok _ (by omega)]; rfl
    rw [e, or_zero]; exact need_has h (by decide)
  · exact (want_no full).symm
theorem cmdS_rule {full : Bool} {has : List Str} (h : hasB full has) : ∀ (m : Nat) (x : Stk), cmdR has (cmdS m x) = wantR full (needC (cmdS m x))
  | 0, x => by
    have hk := kindC_ok x
    rw [cmdS]
    by_cases h2 : kindC x = 2
    · have e : textsS (kindC x) x = textsS 3 x := by rw [h2]; rfl
      rw [if_pos h2, e]; exact plain_rule h x (by decide)
    · rw [if_neg h2]; exact plain_rule h x (by omega)
  | m + 1, x => by
    have hk := kindC_ok x
    have ih := cmdS_rule h m
    rw [cmdS]
    by_cases h2 : kindC x = 2
    · rw [if_pos h2, cmdR, needC, if_neg (by decide), if_pos rfl, if_neg (by decide), if_pos rfl, tstR_nice h _ (testS_nice 2 _), cmdsR_all _ (fun c hc => by obtain ⟨y, -, rfl⟩ := List.mem_map.1 hc; exact ih y), cmdsR_all _ (fun c hc => by obtain ⟨y, -, rfl⟩ := List.mem_map.1 hc; exact ih y), want_or, want_or, Bool.or_assoc]
    · rw [if_neg h2]; exact plain_rule h x (by omega)
theorem cmdS_kind (m : Nat) (x : Stk) : (cmdS m x).kind ≠ 1 := by
  have hk := kindC_ok x
  cases m with
  | zero =>
    rw [cmdS]
    show (if kindC x = 2 then (3 : Int) else kindC x) ≠ 1
    split <;> omega
  | succ m =>
    rw [cmdS]
    split
    · show (2 : Int) ≠ 1; decide
    · show kindC x ≠ 1; omega
theorem has_ext (has : List Str) : hasB true (has ++ extL) := by
  unfold hasB
  rw [if_pos rfl]
  intro s hs
  rw [List.contains_iff_mem]
  exact List.mem_append_right _ hs
def fileA : Cmd := ⟨5, [[97]], T0, [], []⟩
theorem rule_file : ruleS [fileA] = 8 := by decide +kernel
end Go.Proofs.YtpfbkdbblpppdaaGreatDoor.Sc
namespace Go.Proofs.YtpfbkdbblpppdaaGreatDoor.Sc
open Go.RowKit
open Go.Maps

end Go.Proofs.YtpfbkdbblpppdaaGreatDoor.Sc
namespace Go.Proofs.YtpfbkdbblpppdaaGreatDoor.Sc
open Go.RowKit

end Go.Proofs.YtpfbkdbblpppdaaGreatDoor.Sc
namespace Go.Proofs.YtpfbkdbblpppdaaGreatDoor.Sc
open Go.RowKit

end Go.Proofs.YtpfbkdbblpppdaaGreatDoor.Sc
namespace Go.Proofs.YtpfbkdbblpppdaaGreatDoor.Sc
open Go.RowKit

end Go.Proofs.YtpfbkdbblpppdaaGreatDoor.Sc
namespace Go.Proofs.YtpfbkdbblpppdaaGreatDoor.Sc
open Go.RowKit
open Go.Maps

end Go.Proofs.YtpfbkdbblpppdaaGreatDoor.Sc
namespace Go.Proofs.YtpfbkdbblpppdaaGreatDoor.Sc
open Go

end Go.Proofs.YtpfbkdbblpppdaaGreatDoor.Sc
namespace Go.Proofs.YtpfbkdbblpppdaaGreatDoor.Sc
open Go.RowKit

theorem leafS_short (k : Int) (x : Stk) : (∀ s ∈ (leafS k x).names ++ (leafS k x).keys, s.length ≤ 100) := by
  have h := leafS_nice k x
  generalize leafS k x = t at h ⊢
  obtain ⟨k', m, p, ns, ks, o, l, ts⟩ := t
  rw [niceT] at h
  intro s hs
  have := List.all_eq_true.1 h.2.1 s hs
  simpa using this
theorem leafS_len (k : Int) (x : Stk) : LenTs (leafS k x) := by
  have h := leafS_short k x
  have h2 := leafS_two k x
  refine LenTs_mk (fun s hs => by have := h s (List.mem_append_left _ hs); omega) (fun s hs => by have := h s (List.mem_append_right _ hs); omega) ⟨by omega, by omega, by rw [leafS_sub]; exact Nat.zero_le _⟩ ?_
  rw [leafS_sub]; exact nilT
theorem testS_LenTs : ∀ (m : Nat) (x : Stk), LenTs (testS m x)
  | 0, x => by
    rw [testS]
    split
    · exact zeroT_len _
    · exact leafS_len _ _
  | m + 1, x => by
    rw [testS]
    split
    · exact LenTs_mk nilStr nilStr ⟨Nat.zero_le _, Nat.zero_le _, by show 1 ≤ _; omega⟩ (fun s hs => by
        have hs' : s ∈ [testS m (notS x)] := hs
        rw [List.mem_singleton] at hs'; subst hs'; exact testS_LenTs m _)
    · split
      · refine LenTs_mk nilStr nilStr ⟨Nat.zero_le _, Nat.zero_le _, ?_⟩ (fun s hs => ?_)
        · show (if x.subs = [] then _ else _ : List Tst).length ≤ _
          split
          · show 1 ≤ _; omega
          · rw [List.length_map, List.length_take]; omega
        · have hs' : s ∈ (if x.subs = [] then [zeroT (1 + (pick x.a 2 : Nat))] else (x.subs.take 3).map (testS m)) := hs
          split at hs'
          · rw [List.mem_singleton] at hs'; subst hs'; exact zeroT_len _
          · obtain ⟨y, -, rfl⟩ := List.mem_map.1 hs'; exact testS_LenTs m y
      · exact leafS_len _ _
theorem plain_good (x : Stk) {k : Int} (hk : 3 ≤ k ∧ k ≤ 10) : GoodC ⟨k, textsS k x, T0, [], []⟩ := by
  have a4 := pick_lt_int x.a 4 (by omega); have a3 := pick_lt_int x.a 3 (by omega)
  refine (GoodC.iff _).2 ⟨⟨fun h => ?_, fun h => ?_, fun h => ?_, ⟨by show 1 ≤ k; omega, by show k ≤ 10; omega⟩, Nat.zero_le _, Nat.zero_le _⟩, T0_len, nilCmd, nilCmd⟩
  · have h' : k = 5 := h
    subst h'
    refine ⟨fileW.getD (pick x.a 4) [], rfl, ?_⟩
    have : ∀ n : Nat, n < 4 → (fileW.getD n []).length ≤ 1000000 := by decide
    exact this _ (by omega)
  · have h' : k = 6 := h
    subst h'
    refine ⟨redirW.getD (pick x.a 3) [], rfl, ?_⟩
    have : ∀ n : Nat, n < 3 → (redirW.getD n []).length ≤ 2000 := by decide
    exact this _ (by omega)
  · have h' : k = 8 ∨ k = 9 := h
    have hx : textsS k x = [flagW.getD (pick x.a 3) []] := by
      unfold textsS
      rw [if_neg (by omega), if_neg (by omega), if_neg (by omega), if_pos h']
    have key : ∀ n : Nat, n < 3 → ∃ j, j < 5 ∧ flagW.getD n [] = flagL.getD j [] := fun n hn => by
      have : n = 0 ∨ n = 1 ∨ n = 2 := by omega
      rcases this with rfl | rfl | rfl
      · exact ⟨0, by decide, rfl⟩
      · exact ⟨4, by decide, rfl⟩
      · exact ⟨2, by decide, rfl⟩
    obtain ⟨j, hj, e⟩ := key _ (show pick x.a 3 < 3 by omega)
    exact ⟨j, hj, by show textsS k x = _; rw [hx, e]⟩
theorem cmdS_good : ∀ (m : Nat) (x : Stk), GoodC (cmdS m x)
  | 0, x => by
    have hk := kindC_ok x
    rw [cmdS]
    by_cases h2 : kindC x = 2
    · have e : textsS (kindC x) x = textsS 3 x := by rw [h2]; rfl
      rw [if_pos h2, e]; exact plain_good x (by decide)
    · rw [if_neg h2]; exact plain_good x (by omega)
  | m + 1, x => by
    have hk := kindC_ok x
    rw [cmdS]
    by_cases h2 : kindC x = 2
    · rw [if_pos h2]
      refine (GoodC.iff _).2 ⟨⟨fun h => absurd h (by show ¬ (2 : Int) = 5; decide), fun h => absurd h (by show ¬ (2 : Int) = 6; decide), fun h => absurd h (by show ¬ ((2 : Int) = 8 ∨ (2 : Int) = 9); decide), ⟨by show (1 : Int) ≤ 2; decide, by show (2 : Int) ≤ 10; decide⟩, ?_, ?_⟩, testS_LenTs 2 _, fun c hc => ?_, fun c hc => ?_⟩
      · show (List.map _ _).length ≤ _; rw [List.length_map, List.length_take]; omega
      · show (List.map _ _).length ≤ _; rw [List.length_map, List.length_take]; omega
      · obtain ⟨y, -, rfl⟩ := List.mem_map.1 hc; exact cmdS_good m y
      · obtain ⟨y, -, rfl⟩ := List.mem_map.1 hc; exact cmdS_good m y
    · rw [if_neg h2]; exact plain_good x (by omega)
theorem texts_small (m : Nat) (x : Stk) : ∀ s ∈ (cmdS m x).texts, s.length ≤ 1000000 := by
  have key : ∀ k : Int, ∀ s ∈ textsS k x, s.length ≤ 1000000 := by
    intro k s hs
    have a4 := pick_lt_int x.a 4 (by omega); have a3 := pick_lt_int x.a 3 (by omega)
    have f4 : ∀ n : Nat, n < 4 → (fileW.getD n []).length ≤ 1000000 := by decide
    have r3 : ∀ n : Nat, n < 3 → (redirW.getD n []).length ≤ 1000000 := by decide
    have g3 : ∀ n : Nat, n < 3 → (flagW.getD n []).length ≤ 1000000 := by decide
    unfold textsS at hs
    split at hs
    · rw [List.mem_singleton] at hs; rw [hs]; exact f4 _ (by omega)
    · split at hs
      · rw [List.mem_singleton] at hs; rw [hs]; exact r3 _ (by omega)
      · split at hs
        · rw [List.mem_singleton] at hs; rw [hs, List.length_take]; omega
        · split at hs
          · rw [List.mem_singleton] at hs; rw [hs]; exact g3 _ (by omega)
          · cases hs
  cases m with
  | zero => rw [cmdS]; exact key _
  | succ m =>
    rw [cmdS]
    split
    · exact nilStr
    · exact key _
end Go.Proofs.YtpfbkdbblpppdaaGreatDoor.Sc
