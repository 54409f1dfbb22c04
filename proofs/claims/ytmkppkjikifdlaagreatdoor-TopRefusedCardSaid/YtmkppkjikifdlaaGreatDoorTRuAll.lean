/- On the way. -/
import Derived.Test.YtmkppkjikifdlaaGreatDoorTScStk
import Derived.Test.YtmkppkjikifdlaaGreatDoorTScCmd1
import Derived.Test.YtmkppkjikifdlaaGreatDoorTScMem
import Derived.Test.YtmkppkjikifdlaaGreatDoorTScW
import Derived.Test.YtmkppkjikifdlaaGreatDoorRows
import Derived.Test.YtmkppkjikifdlaaGreatDoorTLift
import Derived.Test.YtmkppkjikifdlaaGreatDoorTName
import Derived.Test.YtmkppkjikifdlaaGreatDoorTJgC
import Derived.Test.YtmkppkjikifdlaaGreatDoorTKtA
import Derived.Test.YtmkppkjikifdlaaGreatDoorTFlags
import Derived.Test.YtmkppkjikifdlaaGreatDoorTScPut
import Derived.IntWalk
import Derived.Maps.Own
import Derived.Maps.OwnSet
import Derived.StringKeys
import Derived.WalkKit
import Derived.Deep.DeepCutAuto
import Derived.Deep.CutBlock
set_option linter.unusedVariables false
set_option linter.unusedSimpArgs false
set_option maxHeartbeats 8000000
set_option maxRecDepth 20000
namespace Go.Proofs.YtmkppkjikifdlaaGreatDoor.Sc
open Tk (Tok)
theorem listT_two : ∀ l : List Str, l.length ≤ 2 → (listT l).length ≤ 5
 | [], _ => by decide
 | [s], _ => by show 1 ≤ 5; decide
 | [s, t], _ => by show 5 ≤ 5; decide
theorem leafS_two (k : Int) (x : Stk) : (leafS k x).names.length ≤ 2 ∧ (leafS k x).keys.length ≤ 2 := by
 have hk : (keysS x).length ≤ 2 := by
  unfold keysS
  split <;> simp
 unfold leafS
 repeat' split
 ·exact ⟨by show 1 ≤ 2; decide, hk⟩
 ·exact ⟨by show 1 ≤ 2; decide, hk⟩
 ·exact ⟨by show 1 ≤ 2; decide, hk⟩
 ·refine ⟨?_, Nat.zero_le _⟩
  show (List.take _ _).length ≤ 2
  rw [List.length_take]; show min _ 2 ≤ 2; omega
 ·exact ⟨Nat.zero_le _, Nat.zero_le _⟩
 ·exact ⟨Nat.zero_le _, Nat.zero_le _⟩
theorem body_two (k m p : Int) (ns ks : List Str) (o : Bool) (l : Int) (h1 : ns.length ≤ 2) (h2 : ks.length ≤ 2) : (bodyT k m p ns ks o l []).length ≤ 12 := by
 have a := listT_two _ h1
 have b := listT_two _ h2
 unfold bodyT
 repeat' split
 all_goals first | (simp only [List.length_cons, List.length_append, List.length_nil, List.flatten_nil, seqT]; omega) | omega
theorem leaf_len (k : Int) (x : Stk) : (wT (leafS k x)).length ≤ 13 := by
 obtain ⟨h1, h2⟩ := leafS_two k x
 rw [wT_eq, leafS_sub, List.map_nil, List.length_cons]
 have := body_two (leafS k x).kind (leafS k x).mat (leafS k x).part _ _ (leafS k x).over (leafS k x).limit h1 h2
 omega
end Go.Proofs.YtmkppkjikifdlaaGreatDoor.Sc
namespace Go.Proofs.YtmkppkjikifdlaaGreatDoor.Sc
open Go.RowKit
open Tk (Tok)
end Go.Proofs.YtmkppkjikifdlaaGreatDoor.Sc
namespace Go.Proofs.YtmkppkjikifdlaaGreatDoor.Sc
open Go
theorem tabAt_reads {W : World} {name : String} {g t n : Nat} {l : List Str} (hr : Lib.VarReads Tryz.prog W name (.agg (l.map fun s => .lit (.string s)))) (hg : Tryz.prog.globalNamed name = some g) (ht : (Tryz.prog.globals[g]?).map (·.type) = some t) (hu : Tryz.prog.underlying t = some (.array n 9)) (hl : 0 < l.length) : TabAt W g l ∧ g < W.heap.size := by
 have h := strs_of_reads (l := l) hr hg ht hu Tryz.underlying9 (by kernel_rfl)
 refine ⟨fun j s hj => ?_, World.block_lt_of_cell? W ⟨g, 0, none⟩ (h 0 hl)⟩
 obtain ⟨hlt, rfl⟩ := List.getElem?_eq_some_iff.1 hj
 exact h j hlt
theorem tabs_of {W : World} {laid : List (String × DataW Unit)} (h : laidMet Tryz.prog laid W) (h1 : ("postroom/script.commands", Rows.laid_postroom_script_commands) ∈ laid) (h2 : ("postroom/script.tests", Rows.laid_postroom_script_tests) ∈ laid)
    (h3 : ("postroom/script.matches", Rows.laid_postroom_script_matches) ∈ laid) (h4 : ("postroom/script.parts", Rows.laid_postroom_script_parts) ∈ laid) : Tabs W W.heap.size := by
 have c := tabAt_reads (l := cmdTab) (g := 1) (t := 200) (Lib.laidMet.reads h h1) (by kernel_rfl) (by kernel_rfl) Tryz.underlying200 (by decide)
 have t := tabAt_reads (l := tstTab) (g := 3) (t := 200) (Lib.laidMet.reads h h2) (by kernel_rfl) (by kernel_rfl) Tryz.underlying200 (by decide)
 have m := tabAt_reads (l := matTab) (g := 5) (t := 166) (Lib.laidMet.reads h h3) (by kernel_rfl) (by kernel_rfl) Tryz.underlying166 (by decide)
 have p := tabAt_reads (l := parTab) (g := 6) (t := 166) (Lib.laidMet.reads h h4) (by kernel_rfl) (by kernel_rfl) Tryz.underlying166 (by decide)
 exact ⟨t.1, c.1, m.1, p.1, t.2, c.2, m.2, p.2⟩
end Go.Proofs.YtmkppkjikifdlaaGreatDoor.Sc
namespace Go.Proofs.YtmkppkjikifdlaaGreatDoor.Sc
open Tk (Tok)
def fileinW : Str := [102, 105, 108, 101, 105, 110, 116, 111]
def rejW : Str := [114, 101, 106, 101, 99, 116]
def envW : Str := [101, 110, 118, 101, 108, 111, 112, 101]
def flagsW : Str := [105, 109, 97, 112, 52, 102, 108, 97, 103, 115]
def fromW : Str := [102, 114, 111, 109]
def toW : Str := [116, 111]
def extL : List Str := [fileinW, rejW, envW, flagsW]
def flagL : List Str := [[92, 83, 101, 101, 110], [92, 65, 110, 115, 119, 101, 114, 101, 100], [92, 70, 108, 97, 103, 103, 101, 100], [92, 68, 101, 108, 101, 116, 101, 100], [92, 68, 114, 97, 102, 116]]
def orE (a b : Int) : Int := if a = 0 then b else a
def needR (has : List Str) (s : Str) : Int := if has.contains s = true then 0 else 8
mutual
def tstR (has : List Str) : Tst → Int
 | ⟨k, _, _, ns, ks, _, _, ts⟩ => orE (if k = 8 then orE (needR has envW) (if ns.all (fun s => s == fromW || s == toW) = true then 0 else 7) else 0) (orE (if (ns ++ ks).all (fun s => decide (s.length ≤ 100)) = true then 0 else 1) (tstsR has ts))
def tstsR (has : List Str) : List Tst → Int
 | [] => 0
 | t :: l => orE (tstR has t) (tstsR has l)
end
theorem tstR_eq (has : List Str) (t : Tst) : tstR has t = orE (if t.kind = 8 then orE (needR has envW) (if t.names.all (fun s => s == fromW || s == toW) = true then 0 else 7) else 0) (orE (if (t.names ++ t.keys).all (fun s => decide (s.length ≤ 100)) = true then 0 else 1) (tstsR has t.tests)) := by
 obtain ⟨k, m, p, ns, ks, o, l, ts⟩ := t; rw [tstR]
def flagR (tx : List Str) : Int := if tx.all (fun s => flagL.contains s) = true then 0 else 7
def oneList (s : Str) : Bool := match listL s with
 | some [_] => true
 | _ => false
mutual
def cmdR (has : List Str) : Cmd → Int
 | ⟨k, tx, t, th, el⟩ =>
  if k = 1 then 3 else if k = 2 then orE (tstR has t) (orE (cmdsR has th) (cmdsR has el))
  else if k = 5 then orE (needR has fileinW) (nameCode (tx.headD []))
  else if k = 7 then needR has rejW
  else if k = 8 ∨ k = 9 then orE (needR has flagsW) (flagR tx)
  else if k = 6 then (if oneList (tx.headD []) = true then 0 else 3) else 0
def cmdsR (has : List Str) : List Cmd → Int
 | [] => 0
 | c :: l => orE (cmdR has c) (cmdsR has l)
end
theorem cmdR_eq (has : List Str) (c : Cmd) : cmdR has c = if c.kind = 1 then 3 else if c.kind = 2 then orE (tstR has c.test) (orE (cmdsR has c.thn) (cmdsR has c.els)) else if c.kind = 5 then orE (needR has fileinW) (nameCode (c.texts.headD [])) else if c.kind = 7 then needR has rejW else if c.kind = 8 ∨ c.kind = 9 then orE (needR has flagsW) (flagR c.texts) else if c.kind = 6 then (if oneList (c.texts.headD []) = true then 0 else 3) else 0 := by
 obtain ⟨k, tx, t, th, el⟩ := c; rw [cmdR]
def goR : List Str → List Cmd → Int
 | _, [] => 0
 | has, c :: l => if c.kind = 1 then (if c.texts.all (fun s => extL.contains s) = true then goR (has ++ c.texts) l else 7) else cmdsR has (c :: l)
def ruleS (cs : List Cmd) : Int := if checkS cs ≠ 0 then checkS cs else goR [] cs
theorem or_zero (a : Int) : orE a 0 = a := by unfold orE; split <;> simp_all
theorem zero_or (a : Int) : orE 0 a = a := by unfold orE; rw [if_pos rfl]
end Go.Proofs.YtmkppkjikifdlaaGreatDoor.Sc
namespace Go.Proofs.YtmkppkjikifdlaaGreatDoor.Sc
open Go.RowKit
open Go.Maps
def hasD (has : List Str) : DataW Unit := Maps.setOf (.agg []) (has.map Lit.string)
theorem has_hasD (has : List Str) (s : Str) : Maps.has (hasD has) (.string s) = has.contains s := by
 unfold hasD
 rw [Maps.has_setOf _ _ _ (fun x hx => by obtain ⟨y, -, rfl⟩ := List.mem_map.1 hx; trivial)]
 induction has with
 | nil => rfl
 | cons a l ih =>
  rw [List.map_cons, List.any_cons, ih, List.contains_cons]
  have : (Lit.string a).sameKey (.string s) = (s == a) := by
   show (a == s) = (s == a)
   rw [Bool.beq_comm]
  rw [this]
theorem hasD_snoc (has : List Str) (s : Str) : hasD (has ++ [s]) = (hasD has).put (.string s) (.agg []) := by
 unfold hasD
 rw [List.map_append]
 exact Maps.setOf_snoc _ _ _
structure JudgeAt (w : World) (J bm : Nat) (has : List Str) : Prop where
 cell : w.cell? ⟨J, 0, none⟩ = some (.map (some bm))
 own : w.ownsMap Tryz.prog 9 (unitElem (H := Unit)) bm has.length (hasD has)
theorem grown_none {w w' : World} (h : Below w.heap.size w w') : w.grownBy w' none := ⟨h.os, h.tape, h.output, h.size, fun k hk _ => h.block k hk⟩
theorem JudgeAt.down {w w' : World} {J bm : Nat} {has : List Str} (h : JudgeAt w J bm has) (hb : Below w.heap.size w w') : JudgeAt w' J bm has :=
 ⟨moved h.cell hb (Nat.le_refl _), h.own.kept (grown_none hb) (by simp)⟩
theorem keyed_str : Keyed Tryz.prog 9 := string_keyed Tryz.underlying9
theorem zero_unit (w : World) : (zeroValue 167).run Tryz.prog w = .ok (.agg #[]) w := by kernel_rfl
theorem key_str (s : Str) (h : s.length ≤ 1000000) : keyOf Tryz.prog 9 (.string ⟨s.toArray⟩) = some (.string s) := by
 have := Go.WideMaps.keyOf_string_mk (P := Tryz.prog) (k := 9) Tryz.underlying9 (s := ⟨s.toArray⟩) (by unfold maxLen; show s.toArray.size ≤ _; rw [List.size_toArray]; omega)
 exact this
theorem need_any (J bm : Nat) (has : List Str) (s : Str) (w : World) (h : JudgeAt w J bm has) (hs : s.length ≤ 1000000) :
    Calls Tryz.prog 142 #[.pointer (some ⟨J, 0, none⟩), .string ⟨s.toArray⟩] w fun e w' => e = .returned (.int .i64 (needR has s)) ∧ Below w.heap.size w w' := by
 have hcell := h.cell
 have hq := has_hasD has s
 obtain ⟨D, hD⟩ : ∃ D, D = hasD has := ⟨_, rfl⟩
 have hown := h.own
 rw [← hD] at hown hq
 have HOWN := Lib.hid hown
 have hkey := Lib.hid (key_str s hs)
 have HB := Lib.hid (ba (Below.refl w.heap.size w) (.cells #[] 167))
 obtain ⟨r, hr⟩ : ∃ r, r = needR has s := ⟨_, rfl⟩
 rw [← hr]
 unfold needR at hr
 rw [← hq] at hr
 clear hown hD h hq
 cases hc : Maps.has D (.string s) with
 | true =>
  rw [hc, if_pos rfl] at hr
  subst hr
  go_enter Tryz.func142, Tryz.ntmps142
  go_wp2_with (at_lookup; refine wpList_lookup_own_unit _ rfl _ _ 163 rfl 9 167 keyed_str Tryz.underlying163 (zero_unit _) bm has.length _ rfl HOWN.out _ _ rfl hkey.out ?_)
  go_ret
  exact ⟨rfl, HB.out⟩
 | false =>
  rw [hc, if_neg (by decide)] at hr
  subst hr
  go_enter Tryz.func142, Tryz.ntmps142
  go_wp2_with (at_lookup; refine wpList_lookup_own_unit _ rfl _ _ 163 rfl 9 167 keyed_str Tryz.underlying163 (zero_unit _) bm has.length _ rfl HOWN.out _ _ rfl hkey.out ?_)
  go_ret
  exact ⟨rfl, HB.out⟩
end Go.Proofs.YtmkppkjikifdlaaGreatDoor.Sc
namespace Go.Proofs.YtmkppkjikifdlaaGreatDoor.Sc
open Go.RowKit
theorem contains_take {l : List Str} {x : Str} (j : Nat) (hj : j < l.length) (h : (l.take j).contains x = false) (hx : (l[j] == x) = false) : (l.take (j + 1)).contains x = false := by
 rw [Bool.eq_false_iff]
 intro hc
 rw [List.contains_iff_mem, List.take_succ_eq_append_getElem hj] at hc
 rcases List.mem_append.1 hc with hm | hm
 ·rw [← List.contains_iff_mem, h] at hm; cases hm
 ·rw [List.mem_singleton] at hm
  rw [hm] at hx; simp at hx
def IdxPost (l : List Str) (x : Str) (w : World) (e : Ending) (w' : World) : Prop := (∃ k : Int, e = .returned (.int .i64 k) ∧ ((0 ≤ k ∧ l.contains x = true) ∨ (k = -1 ∧ l.contains x = false))) ∧ w = w'
def HasPost (l : List Str) (x : Str) (w : World) (e : Ending) (w' : World) : Prop := e = .returned (.bool (l.contains x)) ∧ w = w'
theorem index_table (g cap : Nat) (l : List Str) (x : Str) (w : World) (hn : l.length ≤ 1000) (hc : ∀ j (h : j < l.length), w.cell? ⟨g, j, none⟩ = some (.string ⟨l[j].toArray⟩)) :
    Calls Tryz.prog 43 #[.slice (some ⟨g, 0, none⟩) l.length cap, .string ⟨x.toArray⟩] w (IdxPost l x w) := by
 obtain ⟨n, hnn⟩ : ∃ n, n = l.length := ⟨_, rfl⟩
 have hn' : n ≤ 1000 := by omega
 have HN := Lib.hid hnn
 rw [← hnn]
 have HC := Lib.hid hc
 clear hc hnn hn
 go_enter Tryz.func43, Tryz.ntmps43
 go_wp2_with fail
 go_loop [5, 8] (fun _ i => ∃ j : Nat, j ≤ n ∧ i = .int .i64 j ∧ Hid ((l.take j).contains x = false)) (fun _ i => n - (intOf i).toNat)
 case atStart => exact ⟨0, Nat.zero_le _, rfl, rfl⟩
 case round =>
  obtain ⟨j, hj, rfl, HA⟩ := hrel
  by_cases hlt : j < n
  ·have hjl : j < l.length := by rw [← HN.out]; exact hlt
   have hc := HC.out j hjl
   have hst := fun h => contains_take j hjl HA.out h
   have hin : (x == l[j]) = true → l.contains x = true := fun h => by
    have : x = l[j] := by simpa using h
    rw [this, List.contains_iff_mem]; exact List.getElem_mem _
   generalize l[j] = s at hc hst hin
   have HST := Lib.hid hst; have HIN := Lib.hid hin
   clear hst hin hjl
   cases q : x == s with
   | true =>
    have hyes := Lib.hid (HIN.out q)
    go_wp2_with fail
    go_ret
    exact ⟨⟨(j : Int), rfl, .inl ⟨by omega, hyes.out⟩⟩, rfl⟩
   | false =>
    have hq2 := Lib.hid (HST.out (by rw [Bool.beq_comm]; exact q))
    go_wp2_with fail
    go_round
    case rel => exact ⟨j + 1, by omega, by go_num, hq2.out⟩
    case measure => simp [intOf]; omega
  ·obtain rfl : j = n := by omega
   have hA : Hid (l.contains x = false) := by have := HA.out; rw [HN.out, List.take_length] at this; exact this
   go_wp2_with fail
   go_ret
   exact ⟨⟨-1, rfl, .inr ⟨rfl, hA.out⟩⟩, rfl⟩
theorem contains_table (g cap : Nat) (l : List Str) (x : Str) (w : World) (hn : l.length ≤ 1000) (hc : ∀ j (h : j < l.length), w.cell? ⟨g, j, none⟩ = some (.string ⟨l[j].toArray⟩)) :
    Calls Tryz.prog 30 #[.slice (some ⟨g, 0, none⟩) l.length cap, .string ⟨x.toArray⟩] w (HasPost l x w) := by
 have HI := Lib.hid (index_table g cap l x w hn hc)
 obtain ⟨n, hnn⟩ : ∃ n, n = l.length := ⟨_, rfl⟩
 rw [← hnn] at HI ⊢
 clear hc hn hnn
 go_enter Tryz.func30, Tryz.ntmps30
 go_wp2_with fail
 refine HI.out.mono ?_
 rintro e w1 ⟨⟨k, rfl, hk⟩, rfl⟩
 rcases hk with ⟨h0, h1⟩ | ⟨rfl, h1⟩
 ·have H1 := Lib.hid h1
  clear h1
  go_wp2_with fail
  go_ret
  exact ⟨by rw [H1.out]; rfl, rfl⟩
 ·have H1 := Lib.hid h1
  clear h1
  go_wp2_with fail
  go_ret
  exact ⟨by rw [H1.out]; rfl, rfl⟩
def RulePost (r : Int) (w : World) (e : Ending) (w' : World) : Prop := e = .returned (.int .i64 r) ∧ Below w.heap.size w w'
def LenT (t : Tst) : Prop := (∀ s ∈ t.names, s.length ≤ 1000000) ∧ (∀ s ∈ t.keys, s.length ≤ 1000000) ∧ t.names.length ≤ 1000000 ∧ t.keys.length ≤ 1000000 ∧ t.tests.length ≤ 1000000
mutual
def LenTs : Tst → Prop
 | ⟨k, m, p, ns, ks, o, l, ts⟩ => LenT ⟨k, m, p, ns, ks, o, l, ts⟩ ∧ LenTl ts
def LenTl : List Tst → Prop
 | [] => True
 | t :: l => LenTs t ∧ LenTl l
end
theorem LenTl_iff : ∀ l : List Tst, LenTl l ↔ ∀ t ∈ l, LenTs t
 | [] => by simp [LenTl]
 | t :: l => by rw [LenTl, LenTl_iff l]; simp
theorem LenTs.one {t : Tst} (h : LenTs t) : LenT t := by obtain ⟨k, m, p, ns, ks, o, l, ts⟩ := t; rw [LenTs] at h; exact h.1
theorem LenTs.sub {t : Tst} (h : LenTs t) : ∀ s ∈ t.tests, LenTs s := by obtain ⟨k, m, p, ns, ks, o, l, ts⟩ := t; rw [LenTs] at h; exact (LenTl_iff _).1 h.2
def TestR (n : Nat) : Prop := ∀ (t : Tst) (vs : List Value) (F : Dom) (J bm : Nat) (has : List Str) (w : World), (cTst n).rep w F t vs → LenTs t → JudgeAt w J bm has →
    Calls Tryz.prog 141 #[.pointer (some ⟨J, 0, none⟩), .agg vs.toArray] w (RulePost (tstR has t) w)
theorem all_take {l : List Str} {p : Str → Bool} (j : Nat) (hj : j < l.length) (h : (l.take j).all p = true) (hp : p l[j] = true) : (l.take (j + 1)).all p = true := by
 rw [List.take_succ_eq_append_getElem hj, List.all_append, h]; simp [hp]
theorem not_all {l : List Str} {p : Str → Bool} (j : Nat) (hj : j < l.length) (hp : p l[j] = false) : l.all p = false := by
 rw [Bool.eq_false_iff]
 intro h
 rw [List.all_eq_true] at h
 rw [h _ (List.getElem_mem hj)] at hp
 cases hp
theorem tstsR_step {has : List Str} (l : List Tst) (j : Nat) (hj : j < l.length) : tstsR has (l.drop j) = orE (tstR has l[j]) (tstsR has (l.drop (j + 1))) := by
 rw [List.drop_eq_getElem_cons hj, tstsR]
theorem wp_at2 {P : Program} {c : Code} {Q : Exit → Act → World → Prop} {a : Act} {W : World} (R : World → Prop) (hR : R W) (h : ∀ W, R W → c.wp P Q a W) : c.wp P Q a W := h W hR
theorem has_eight {w : World} {b : Nat} {a0 a1 a2 a3 a4 a5 a6 a7 : Value} (h : Has w b [a0, a1, a2, a3, a4, a5, a6, a7]) : w.cell? ⟨b, 0, none⟩ = some a0 ∧ w.cell? ⟨b, 1, none⟩ = some a1 ∧ w.cell? ⟨b, 2, none⟩ = some a2 ∧ w.cell? ⟨b, 3, none⟩ = some a3 ∧ w.cell? ⟨b, 4, none⟩ = some a4 ∧ w.cell? ⟨b, 5, none⟩ = some a5 ∧ w.cell? ⟨b, 6, none⟩ = some a6 ∧ w.cell? ⟨b, 7, none⟩ = some a7 :=
 ⟨h.1 0 _ rfl, h.1 1 _ rfl, h.1 2 _ rfl, h.1 3 _ rfl, h.1 4 _ rfl, h.1 5 _ rfl, h.1 6 _ rfl, h.1 7 _ rfl⟩
theorem test_rule (n : Nat) (hIH : TestR n) : TestR (n + 1) := by
 intro t vs F J bm has w hrep hlen hJ
 obtain ⟨m, Gn, cn, Gk, ck, Gt, ct, hm, rfl, hn, hk, ht⟩ := tst_open hrep
 obtain rfl : n = m := by omega
 obtain ⟨ln, lk, lnn, lkn, ltn⟩ := hlen.one
 have hsub := hlen.sub
 have heq := tstR_eq has t
 obtain ⟨R, hR⟩ : ∃ R, R = tstR has t := ⟨_, rfl⟩
 rw [← hR] at heq ⊢
 obtain ⟨kind, mat, part, ns, ks, ov, lim, ts⟩ := t
 simp only [tstC] at *
 have HX := Lib.hid (Has.alloc w [.int .i64 kind, .int .i64 mat, .int .i64 part, .slice Gn ns.length cn, .slice Gk ks.length ck, .bool ov, .int .i64 lim, .slice Gt ts.length ct] 158)
 have HB0 := Lib.hid (ba (Below.refl w.heap.size w) (.cells #[.int .i64 kind, .int .i64 mat, .int .i64 part, .slice Gn ns.length cn, .slice Gk ks.length ck, .bool ov, .int .i64 lim, .slice Gt ts.length ct] 158))
 have HN := Lib.hid hn; have HK := Lib.hid hk; have HT := Lib.hid ht; have HJ := Lib.hid hJ; have HEQ := Lib.hid heq; have HSUB := Lib.hid hsub; have HIH := Lib.hid hIH
 have HLN := Lib.hid ln; have HLK := Lib.hid lk
 clear hrep hlen hJ hn hk ht heq hR hm hsub hIH ln lk
 have hix0 : ∀ w : World, (Instr.index 255 (.agg #[.slice Gn ns.length cn, .slice Gk ks.length ck]) (.int .i64 0)).run Tryz.prog w = .ok (.slice Gn ns.length cn) w := fun _ => by kernel_rfl
 have hix1 : ∀ w : World, (Instr.index 255 (.agg #[.slice Gn ns.length cn, .slice Gk ks.length ck]) (.int .i64 1)).run Tryz.prog w = .ok (.slice Gk ks.length ck) w := fun _ => by kernel_rfl
 go_enter Tryz.func141, Tryz.ntmps141
 go_upto_region 1 with fail
 refine wp_at2 (R := fun W => Has W w.heap.size [.int .i64 kind, .int .i64 mat, .int .i64 part, .slice Gn ns.length cn, .slice Gk ks.length ck, .bool ov, .int .i64 lim, .slice Gt ts.length ct] ∧ Below w.heap.size w W) ⟨HX.out, HB0.out⟩ (fun W hW => ?_)
 obtain ⟨hX, hb⟩ := hW
 have HXW := Lib.hid hX; have HBW := Lib.hid hb
 clear HX HB0
 obtain ⟨c0, c1, c2, c3, c4, c5, c6, c7⟩ := has_eight hX
 by_cases h8 : kind = 8
 ·have heq8 : R = orE (orE (needR has envW) (if ns.all (fun s => s == fromW || s == toW) = true then 0 else 7)) (orE (if (ns ++ ks).all (fun s => decide (s.length ≤ 100)) = true then 0 else 1) (tstsR has ts)) := by rw [HEQ.out, if_pos h8]
  have HE8 := Lib.hid heq8
  clear heq8 HEQ
  subst h8
  have HND := Lib.hid (need_any J bm has envW W (HJ.out.down hb) (by decide))
  unfold envW at HND
  obtain ⟨q, hq⟩ : ∃ q, q = needR has envW := ⟨_, rfl⟩
  have HQ := Lib.hid hq
  have HND2 : Hid (Calls Tryz.prog 142 #[.pointer (some ⟨J, 0, none⟩), .string ⟨#[101, 110, 118, 101, 108, 111, 112, 101]⟩] W fun e w' => e = .returned (.int .i64 q) ∧ Below W.heap.size W w') := by rw [hq]; exact HND.out
  clear HND hq hX hb
  go_wp2_with fail
  refine HND2.out.mono ?_
  rintro e w2 ⟨rfl, hb2⟩
  have HB2 := Lib.hid hb2; have HB20 := Lib.hid (bt HBW.out hb2)
  obtain ⟨d0, d1, d2, d3, d4, d5, d6, d7⟩ := has_eight (HXW.out.down hb2)
  clear hb2 HND2 c0 c1 c2 c3 c4 c5 c6 c7
  by_cases hq0 : q = 0
  ·subst hq0
   go_wp2_with fail
   go_loop [26] (fun v => ∃ j : Nat, v = .int .i64 j ∧ j ≤ ns.length ∧ (ns.take j).all (fun s => s == fromW || s == toW) = true) (fun v => ns.length - (intOf v).toNat)
   case atStart => exact ⟨0, rfl, Nat.zero_le _, rfl⟩
   case round =>
    obtain ⟨j, rfl, hj, hall⟩ := hrel
    have HALL := Lib.hid hall
    clear hall
    by_cases hlt : j < ns.length
    ·obtain ⟨g, off, rfl, s0⟩ := str_get HN.out (Same.of_below HB20.out) HB20.out.size j hlt
     have hst := fun h => all_take j hlt HALL.out h
     have hno := fun h => not_all (p := fun s => s == fromW || s == toW) j hlt h
     generalize ns[j] = s at s0 hst hno
     have HST := Lib.hid hst; have HNO := Lib.hid hno
     clear hst hno
     have hjn : (j : Int) < ns.length := by omega
     cases q1 : s == fromW with
     | true =>
      have hp : Hid ((s == fromW || s == toW) = true) := by unfold Hid; rw [q1]; rfl
      obtain rfl : s = fromW := by simpa using q1
      unfold fromW at s0
      clear q1
      go_wp2_with fail
      go_round
      case rel => exact ⟨j + 1, by go_num, hlt, HST.out hp.out⟩
      case measure => simp [intOf]; omega
     | false =>
      cases q2 : s == toW with
      | true =>
       have hp : Hid ((s == fromW || s == toW) = true) := by unfold Hid; rw [q2, Bool.or_true]
       obtain rfl : s = toW := by simpa using q2
       unfold toW at s0
       clear q1 q2
       go_wp2_with fail
       go_round
       case rel => exact ⟨j + 1, by go_num, hlt, HST.out hp.out⟩
       case measure => simp [intOf]; omega
      | false =>
       have hp : Hid ((s == fromW || s == toW) = false) := by unfold Hid; rw [q1, q2]; rfl
       unfold fromW at q1
       unfold toW at q2
       go_wp2_with fail
       go_ret
       exact ⟨ret_int (by rw [HE8.out, ← HQ.out, HNO.out hp.out]; rfl), HB20.out⟩
    ·obtain rfl : j = ns.length := by omega
     have hA : Hid (ns.all (fun s => s == fromW || s == toW) = true) := by have := HALL.out; rw [List.take_length] at this; exact this
     have HE1 : Hid (R = orE (if (ns ++ ks).all (fun s => decide (s.length ≤ 100)) = true then 0 else 1) (tstsR has ts)) := by
      unfold Hid
      rw [HE8.out, ← HQ.out, hA.out]; exact zero_or _
     have HBX := Lib.hid HB20.out
     clear hj hlt HALL hA HE8 HQ
     go_wp2_with fail
     go_loop [42] (fun v => ∃ i : Nat, v = .int .i64 i ∧ i ≤ 2 ∧ (1 ≤ i → ns.all (fun s => decide (s.length ≤ 100)) = true) ∧ (2 ≤ i → ks.all (fun s => decide (s.length ≤ 100)) = true)) (fun v => 2 - (intOf v).toNat)
     case atStart => exact ⟨0, rfl, Nat.zero_le _, fun h => absurd h (by decide), fun h => absurd h (by decide)⟩
     case round =>
      obtain ⟨i, rfl, hi, ha1, ha2⟩ := hrel
      have HI1 := Lib.hid ha1; have HI2 := Lib.hid ha2
      clear ha1 ha2
      have h3 : i = 0 ∨ i = 1 ∨ i = 2 := by omega
      rcases h3 with rfl | rfl | rfl
      ·clear hi
       go_wp2_with fail
       go_loop [47] (fun v => ∃ j : Nat, v = .int .i64 j ∧ j ≤ ns.length ∧ (ns.take j).all (fun s => decide (s.length ≤ 100)) = true) (fun v => ns.length - (intOf v).toNat)
       case atStart => exact ⟨0, rfl, Nat.zero_le _, rfl⟩
       case round =>
        obtain ⟨j, rfl, hj, hall⟩ := hrel
        have HALL := Lib.hid hall
        clear hall
        by_cases hlt : j < ns.length
        ·obtain ⟨g, off, rfl, s0⟩ := str_get HN.out (Same.of_below HBX.out) HBX.out.size j hlt
         have hst := fun h => all_take j hlt HALL.out h
         have hno := fun h => not_all (p := fun s => decide (s.length ≤ 100)) j hlt h
         have hsl := HLN.out _ (List.getElem_mem hlt)
         generalize ns[j] = s at s0 hst hno hsl
         have HST := Lib.hid hst; have HNO := Lib.hid hno
         clear hst hno
         have hjn : (j : Int) < ns.length := by omega
         by_cases h100 : s.length ≤ 100
         ·have q : (s.length : Int) ≤ 100 := by omega
          have hp := Lib.hid (decide_eq_true h100)
          clear h100
          go_wp2_with fail
          go_round
          case rel => exact ⟨j + 1, by go_num, hlt, HST.out hp.out⟩
          case measure => simp [intOf]; omega
         ·have q : (100 : Int) < s.length := by omega
          have hp := Lib.hid (decide_eq_false h100)
          clear h100
          go_wp2_with fail
          go_ret
          exact ⟨ret_int (by rw [HE1.out, List.all_append, HNO.out hp.out]; rfl), HBX.out⟩
        ·obtain rfl : j = ns.length := by omega
         have hA : Hid (ns.all (fun s => decide (s.length ≤ 100)) = true) := by have := HALL.out; rw [List.take_length] at this; exact this
         go_wp2_with fail
         go_round
         case rel => exact ⟨1, by go_num, by omega, fun _ => hA.out, fun h => absurd h (by decide)⟩
         case measure => simp [intOf]
      ·clear hi
       go_wp2_with fail
       go_loop [47] (fun v => ∃ j : Nat, v = .int .i64 j ∧ j ≤ ks.length ∧ (ks.take j).all (fun s => decide (s.length ≤ 100)) = true) (fun v => ks.length - (intOf v).toNat)
       case atStart => exact ⟨0, rfl, Nat.zero_le _, rfl⟩
       case round =>
        obtain ⟨j, rfl, hj, hall⟩ := hrel
        have HALL := Lib.hid hall
        clear hall
        by_cases hlt : j < ks.length
        ·obtain ⟨g, off, rfl, s0⟩ := str_get HK.out (Same.of_below HBX.out) HBX.out.size j hlt
         have hst := fun h => all_take j hlt HALL.out h
         have hno := fun h => not_all (p := fun s => decide (s.length ≤ 100)) j hlt h
         have hsl := HLK.out _ (List.getElem_mem hlt)
         generalize ks[j] = s at s0 hst hno hsl
         have HST := Lib.hid hst; have HNO := Lib.hid hno
         clear hst hno
         have hjn : (j : Int) < ks.length := by omega
         by_cases h100 : s.length ≤ 100
         ·have q : (s.length : Int) ≤ 100 := by omega
          have hp := Lib.hid (decide_eq_true h100)
          clear h100
          go_wp2_with fail
          go_round
          case rel => exact ⟨j + 1, by go_num, hlt, HST.out hp.out⟩
          case measure => simp [intOf]; omega
         ·have q : (100 : Int) < s.length := by omega
          have hp := Lib.hid (decide_eq_false h100)
          clear h100
          go_wp2_with fail
          go_ret
          exact ⟨ret_int (by rw [HE1.out, List.all_append, HNO.out hp.out, Bool.and_false]; rfl), HBX.out⟩
        ·obtain rfl : j = ks.length := by omega
         have hA : Hid (ks.all (fun s => decide (s.length ≤ 100)) = true) := by have := HALL.out; rw [List.take_length] at this; exact this
         have hA1 := Lib.hid (HI1.out (by decide))
         go_wp2_with fail
         go_round
         case rel => exact ⟨2, by go_num, by omega, fun _ => hA1.out, fun _ => hA.out⟩
         case measure => simp [intOf]
      ·have heq2 : R = tstsR has ts := by
        rw [HE1.out, List.all_append, HI1.out (by decide), HI2.out (by decide)]
        exact zero_or _
       have HE2 := Lib.hid heq2
       clear heq2 HE1 HI1 HI2 hi
       go_wp2_with fail
       go_loopw [59] (fun v wr => ∃ j : Nat, v = .int .i64 j ∧ j ≤ ts.length ∧ Hid (tstsR has ts = tstsR has (ts.drop j)) ∧ Below w.heap.size w wr) (fun v _ => ts.length - (intOf v).toNat)
       case atStart => exact ⟨0, rfl, Nat.zero_le _, rfl, HBX.out⟩
       case round =>
        obtain ⟨j, rfl, hj, HD, hb⟩ := hrel
        have HBJ := Lib.hid hb
        by_cases hlt : j < ts.length
        ·obtain ⟨g, off, Gn', cn', Gk', ck', Gt', ct', rfl, hr, e0, e1, e2, e3, e4, e5, e6, e7⟩ := tst_get HT.out (Same.of_below hb) hb.size j hlt
         have hst := tstsR_step (has := has) ts j hlt
         have hls := HSUB.out _ (List.getElem_mem hlt)
         generalize ts[j] = x at hr e0 e1 e2 e3 e4 e5 e6 e7 hst hls
         have hal := ba (Below.refl wr.heap.size wr) (.cells (tstC x (.slice Gn' x.names.length cn') (.slice Gk' x.keys.length ck') (.slice Gt' x.tests.length ct')).toArray 158)
         have HC := Lib.hid (HIH.out x _ F J bm has _ ((cTst n).stable hr (Same.of_below hal) hal.size) hls (HJ.out.down (bt hb hal)))
         have HB2 := Lib.hid (bt hb hal)
         obtain ⟨q, hq⟩ : ∃ q, q = tstR has x := ⟨_, rfl⟩
         rw [← hq] at hst HC
         have HST := Lib.hid hst
         have hjn : (j : Int) < ts.length := by omega
         unfold tstC at HC HB2
         clear hr hls hal hb hst hq
         go_wp2_with fail
         refine HC.out.mono ?_
         rintro e w3 ⟨rfl, hb3⟩
         have HB3 := Lib.hid (bt HB2.out hb3)
         clear hb3 HC e0 e1 e2 e3 e4 e5 e6 e7
         by_cases hq0 : q = 0
         ·subst hq0
          go_wp2_with fail
          go_roundw
          case rel => exact ⟨j + 1, by go_num, hlt, by unfold Hid; rw [HD.out, HST.out, zero_or], HB3.out⟩
          case measure => simp [intOf]; omega
         ·have hq1 : (q != 0) = true := by rw [bne, beq_eq_false_iff_ne.2 hq0]; rfl
          have HQ0 := Lib.hid hq0
          clear hq0
          go_wp2_with fail
          go_ret
          exact ⟨ret_int (by rw [HE2.out, HD.out, HST.out]; unfold orE; rw [if_neg HQ0.out]), HB3.out⟩
        ·obtain rfl : j = ts.length := by omega
         have hz : Hid (R = 0) := by unfold Hid; rw [HE2.out, HD.out, List.drop_length, tstsR]
         clear hb
         go_wp2_with fail
         go_ret
         exact ⟨ret_int hz.out.symm, HBJ.out⟩
  ·have hq1 : (q != 0) = true := by rw [bne, beq_eq_false_iff_ne.2 hq0]; rfl
   have HQ0 := Lib.hid hq0
   clear hq0
   go_wp2_with fail
   go_ret
   exact ⟨ret_int (by rw [HE8.out, ← HQ.out]; unfold orE; rw [if_neg HQ0.out, if_neg HQ0.out]), HB20.out⟩
 ·have HN8 := Lib.hid h8
  clear hX hb
  have h8' : (kind == (8 : Int)) = false := beq_eq_false_iff_ne.2 h8
  clear h8
  have HE1 : Hid (R = orE (if (ns ++ ks).all (fun s => decide (s.length ≤ 100)) = true then 0 else 1) (tstsR has ts)) := by
   unfold Hid
   rw [HEQ.out, if_neg HN8.out]; exact zero_or _
  have HBX := Lib.hid HBW.out
  clear HEQ HN8
  go_wp2_with fail
  go_loop [42] (fun v => ∃ i : Nat, v = .int .i64 i ∧ i ≤ 2 ∧ (1 ≤ i → ns.all (fun s => decide (s.length ≤ 100)) = true) ∧ (2 ≤ i → ks.all (fun s => decide (s.length ≤ 100)) = true)) (fun v => 2 - (intOf v).toNat)
  case atStart => exact ⟨0, rfl, Nat.zero_le _, fun h => absurd h (by decide), fun h => absurd h (by decide)⟩
  case round =>
   obtain ⟨i, rfl, hi, ha1, ha2⟩ := hrel
   have HI1 := Lib.hid ha1; have HI2 := Lib.hid ha2
   clear ha1 ha2
   have h3 : i = 0 ∨ i = 1 ∨ i = 2 := by omega
   rcases h3 with rfl | rfl | rfl
   ·clear hi
    go_wp2_with fail
    go_loop [47] (fun v => ∃ j : Nat, v = .int .i64 j ∧ j ≤ ns.length ∧ (ns.take j).all (fun s => decide (s.length ≤ 100)) = true) (fun v => ns.length - (intOf v).toNat)
    case atStart => exact ⟨0, rfl, Nat.zero_le _, rfl⟩
    case round =>
     obtain ⟨j, rfl, hj, hall⟩ := hrel
     have HALL := Lib.hid hall
     clear hall
     by_cases hlt : j < ns.length
     ·obtain ⟨g, off, rfl, s0⟩ := str_get HN.out (Same.of_below HBX.out) HBX.out.size j hlt
      have hst := fun h => all_take j hlt HALL.out h
      have hno := fun h => not_all (p := fun s => decide (s.length ≤ 100)) j hlt h
      have hsl := HLN.out _ (List.getElem_mem hlt)
      generalize ns[j] = s at s0 hst hno hsl
      have HST := Lib.hid hst; have HNO := Lib.hid hno
      clear hst hno
      have hjn : (j : Int) < ns.length := by omega
      by_cases h100 : s.length ≤ 100
      ·have q : (s.length : Int) ≤ 100 := by omega
       have hp := Lib.hid (decide_eq_true h100)
       clear h100
       go_wp2_with fail
       go_round
       case rel => exact ⟨j + 1, by go_num, hlt, HST.out hp.out⟩
       case measure => simp [intOf]; omega
      ·have q : (100 : Int) < s.length := by omega
       have hp := Lib.hid (decide_eq_false h100)
       clear h100
       go_wp2_with fail
       go_ret
       exact ⟨ret_int (by rw [HE1.out, List.all_append, HNO.out hp.out]; rfl), HBX.out⟩
     ·obtain rfl : j = ns.length := by omega
      have hA : Hid (ns.all (fun s => decide (s.length ≤ 100)) = true) := by have := HALL.out; rw [List.take_length] at this; exact this
      go_wp2_with fail
      go_round
      case rel => exact ⟨1, by go_num, by omega, fun _ => hA.out, fun h => absurd h (by decide)⟩
      case measure => simp [intOf]
   ·clear hi
    go_wp2_with fail
    go_loop [47] (fun v => ∃ j : Nat, v = .int .i64 j ∧ j ≤ ks.length ∧ (ks.take j).all (fun s => decide (s.length ≤ 100)) = true) (fun v => ks.length - (intOf v).toNat)
    case atStart => exact ⟨0, rfl, Nat.zero_le _, rfl⟩
    case round =>
     obtain ⟨j, rfl, hj, hall⟩ := hrel
     have HALL := Lib.hid hall
     clear hall
     by_cases hlt : j < ks.length
     ·obtain ⟨g, off, rfl, s0⟩ := str_get HK.out (Same.of_below HBX.out) HBX.out.size j hlt
      have hst := fun h => all_take j hlt HALL.out h
      have hno := fun h => not_all (p := fun s => decide (s.length ≤ 100)) j hlt h
      have hsl := HLK.out _ (List.getElem_mem hlt)
      generalize ks[j] = s at s0 hst hno hsl
      have HST := Lib.hid hst; have HNO := Lib.hid hno
      clear hst hno
      have hjn : (j : Int) < ks.length := by omega
      by_cases h100 : s.length ≤ 100
      ·have q : (s.length : Int) ≤ 100 := by omega
       have hp := Lib.hid (decide_eq_true h100)
       clear h100
       go_wp2_with fail
       go_round
       case rel => exact ⟨j + 1, by go_num, hlt, HST.out hp.out⟩
       case measure => simp [intOf]; omega
      ·have q : (100 : Int) < s.length := by omega
       have hp := Lib.hid (decide_eq_false h100)
       clear h100
       go_wp2_with fail
       go_ret
       exact ⟨ret_int (by rw [HE1.out, List.all_append, HNO.out hp.out, Bool.and_false]; rfl), HBX.out⟩
     ·obtain rfl : j = ks.length := by omega
      have hA : Hid (ks.all (fun s => decide (s.length ≤ 100)) = true) := by have := HALL.out; rw [List.take_length] at this; exact this
      have hA1 := Lib.hid (HI1.out (by decide))
      go_wp2_with fail
      go_round
      case rel => exact ⟨2, by go_num, by omega, fun _ => hA1.out, fun _ => hA.out⟩
      case measure => simp [intOf]
   ·have heq2 : R = tstsR has ts := by
     rw [HE1.out, List.all_append, HI1.out (by decide), HI2.out (by decide)]
     exact zero_or _
    have HE2 := Lib.hid heq2
    clear heq2 HE1 HI1 HI2 hi
    go_wp2_with fail
    go_loopw [59] (fun v wr => ∃ j : Nat, v = .int .i64 j ∧ j ≤ ts.length ∧ Hid (tstsR has ts = tstsR has (ts.drop j)) ∧ Below w.heap.size w wr) (fun v _ => ts.length - (intOf v).toNat)
    case atStart => exact ⟨0, rfl, Nat.zero_le _, rfl, HBX.out⟩
    case round =>
     obtain ⟨j, rfl, hj, HD, hb⟩ := hrel
     have HBJ := Lib.hid hb
     by_cases hlt : j < ts.length
     ·obtain ⟨g, off, Gn', cn', Gk', ck', Gt', ct', rfl, hr, e0, e1, e2, e3, e4, e5, e6, e7⟩ := tst_get HT.out (Same.of_below hb) hb.size j hlt
      have hst := tstsR_step (has := has) ts j hlt
      have hls := HSUB.out _ (List.getElem_mem hlt)
      generalize ts[j] = x at hr e0 e1 e2 e3 e4 e5 e6 e7 hst hls
      have hal := ba (Below.refl wr.heap.size wr) (.cells (tstC x (.slice Gn' x.names.length cn') (.slice Gk' x.keys.length ck') (.slice Gt' x.tests.length ct')).toArray 158)
      have HC := Lib.hid (HIH.out x _ F J bm has _ ((cTst n).stable hr (Same.of_below hal) hal.size) hls (HJ.out.down (bt hb hal)))
      have HB2 := Lib.hid (bt hb hal)
      obtain ⟨q, hq⟩ : ∃ q, q = tstR has x := ⟨_, rfl⟩
      rw [← hq] at hst HC
      have HST := Lib.hid hst
      have hjn : (j : Int) < ts.length := by omega
      unfold tstC at HC HB2
      clear hr hls hal hb hst hq
      go_wp2_with fail
      refine HC.out.mono ?_
      rintro e w3 ⟨rfl, hb3⟩
      have HB3 := Lib.hid (bt HB2.out hb3)
      clear hb3 HC e0 e1 e2 e3 e4 e5 e6 e7
      by_cases hq0 : q = 0
      ·subst hq0
       go_wp2_with fail
       go_roundw
       case rel => exact ⟨j + 1, by go_num, hlt, by unfold Hid; rw [HD.out, HST.out, zero_or], HB3.out⟩
       case measure => simp [intOf]; omega
      ·have hq1 : (q != 0) = true := by rw [bne, beq_eq_false_iff_ne.2 hq0]; rfl
       have HQ0 := Lib.hid hq0
       clear hq0
       go_wp2_with fail
       go_ret
       exact ⟨ret_int (by rw [HE2.out, HD.out, HST.out]; unfold orE; rw [if_neg HQ0.out]), HB3.out⟩
     ·obtain rfl : j = ts.length := by omega
      have hz : Hid (R = 0) := by unfold Hid; rw [HE2.out, HD.out, List.drop_length, tstsR]
      clear hb
      go_wp2_with fail
      go_ret
      exact ⟨ret_int hz.out.symm, HBJ.out⟩
theorem test_rule_all : ∀ n, TestR n
 | 0 => fun _ _ _ _ _ _ _ h => h.elim
 | n + 1 => test_rule n (test_rule_all n)
theorem flags_one (g off cap k : Nat) (w : World) (hk : k < 5) (hN : NamesAt w) (hc : w.cell? ⟨g, off, none⟩ = some (.string (nmV k))) :
    Calls Tryz.prog 143 #[.slice (some ⟨g, off, none⟩) 1 cap] w fun e w' => e = .returned (.tuple #[.int .i64 (flOf [k]), .int .i64 0]) ∧ w = w' := by
 have HC := Lib.hid hc; have HN := Lib.hid hN
 clear hc hN
 go_enter Tryz.func143, Tryz.ntmps143
 go_wp2_with fail
 go_loop [4, 6, 7, 10] (fun o _ _ i => ∃ j : Nat, j ≤ 1 ∧ i = .int .i64 j ∧ o = .int .i64 (flOf ([k].take j))) (fun _ _ _ i => 1 - (intOf i).toNat)
 case atStart => exact ⟨0, Nat.zero_le _, rfl, rfl⟩
 case round =>
  obtain ⟨j, hj, rfl, rfl⟩ := hrel
  have h2 : j = 0 ∨ j = 1 := by omega
  rcases h2 with rfl | rfl
  ·have hc := HC.out
   have HOR := Lib.hid (or_shl (flOf []) k (by decide) hk)
   have HI := Lib.hid (index_name k hk w HN.out)
   rw [nmV_get k hk] at hc
   clear hj
   go_wp2_with fail
   refine HI.out.mono ?_
   rintro e w1 ⟨rfl, rfl⟩
   go_wp2_with fail
   go_round
   case rel => exact ⟨1, by omega, by go_num, by rw [HOR.out]; rfl⟩
   case measure => simp [intOf]
  ·clear hj
   go_wp2_with fail
   go_ret2
   exact ⟨rfl, rfl⟩
theorem nmV_flag : ∀ k : Nat, k < 5 → nmV k = ⟨(flagL.getD k []).toArray⟩
 | 0, _ | 1, _ | 2, _ | 3, _ | 4, _ => rfl
def Good1 (c : Cmd) : Prop := (c.kind = 5 → ∃ s, c.texts = [s] ∧ s.length ≤ 1000000) ∧ (c.kind = 6 → ∃ s, c.texts = [s] ∧ s.length ≤ 2000) ∧ (c.kind = 8 ∨ c.kind = 9 → ∃ k, k < 5 ∧ c.texts = [flagL.getD k []]) ∧ (1 ≤ c.kind ∧ c.kind ≤ 10) ∧ c.thn.length ≤ 1000000 ∧ c.els.length ≤ 1000000
mutual
def GoodC : Cmd → Prop
 | ⟨k, tx, t, th, el⟩ => Good1 ⟨k, tx, t, th, el⟩ ∧ LenTs t ∧ GoodCs th ∧ GoodCs el
def GoodCs : List Cmd → Prop
 | [] => True
 | c :: l => GoodC c ∧ GoodCs l
end
theorem GoodCs_iff : ∀ l : List Cmd, GoodCs l ↔ ∀ c ∈ l, GoodC c
 | [] => by simp [GoodCs]
 | c :: l => by rw [GoodCs, GoodCs_iff l]; simp
theorem GoodC.iff (c : Cmd) : GoodC c ↔ Good1 c ∧ LenTs c.test ∧ (∀ x ∈ c.thn, GoodC x) ∧ (∀ x ∈ c.els, GoodC x) := by
 obtain ⟨k, tx, t, th, el⟩ := c
 rw [GoodC, GoodCs_iff, GoodCs_iff]
structure JW (w : World) (J bm : Nat) (has : List Str) (m : Int) : Prop where
 j : JudgeAt w J bm has
 names : NamesAt w ∧ 4 < w.heap.size
 max : w.cell? ⟨2, 0, none⟩ = some (.int .i64 m)
theorem JW.down {w w' : World} {J bm : Nat} {has : List Str} {m : Int} (h : JW w J bm has m) (hb : Below w.heap.size w w') : JW w' J bm has m :=
 ⟨h.j.down hb, ⟨h.names.1.of_below hb h.names.2, Nat.lt_of_lt_of_le h.names.2 hb.size⟩, moved h.max hb (Nat.le_refl _)⟩
def CmdRu (n : Nat) : Prop := ∀ (c : Cmd) (vs : List Value) (F : Dom) (J bm : Nat) (has : List Str) (m : Int) (w : World), (cCmd n).rep w F c vs → GoodC c → JW w J bm has m →
    Calls Tryz.prog 115 #[.pointer (some ⟨J, 0, none⟩), .agg vs.toArray] w (RulePost (cmdR has c) w)
def AllR (n : Nat) : Prop := ∀ (l : List Cmd) (v : Value) (F : Dom) (J bm : Nat) (has : List Str) (m : Int) (w : World), SAt (cCmd n) w F v l → (∀ c ∈ l, GoodC c) → l.length ≤ 1000000 → JW w J bm has m →
    Calls Tryz.prog 77 #[.pointer (some ⟨J, 0, none⟩), v] w (RulePost (cmdsR has l) w)
theorem cmdsR_step {has : List Str} (l : List Cmd) (j : Nat) (hj : j < l.length) : cmdsR has (l.drop j) = orE (cmdR has l[j]) (cmdsR has (l.drop (j + 1))) := by
 rw [List.drop_eq_getElem_cons hj, cmdsR]
theorem all_rule (n : Nat) (hIH : CmdRu n) : AllR n := by
 intro l v F J bm has m w hv hgood hlen hJ
 obtain ⟨G, cap, rfl, -⟩ := hv.form
 obtain ⟨R, hR⟩ : ∃ R, R = cmdsR has l := ⟨_, rfl⟩
 rw [← hR]
 have HR := Lib.hid hR; have HV := Lib.hid hv; have HG := Lib.hid hgood; have HJ := Lib.hid hJ; have HIH := Lib.hid hIH
 clear hv hgood hJ hIH hR
 go_enter Tryz.func77, Tryz.ntmps77
 go_wp2_with fail
 go_loopw [10] (fun v wr => ∃ j : Nat, v = .int .i64 j ∧ j ≤ l.length ∧ Hid (cmdsR has l = cmdsR has (l.drop j)) ∧ Below w.heap.size w wr) (fun v _ => l.length - (intOf v).toNat)
 case atStart => exact ⟨0, rfl, Nat.zero_le _, rfl, Below.refl _ _⟩
 case round =>
  obtain ⟨j, rfl, hj, HD, hb⟩ := hrel
  have HBJ := Lib.hid hb
  by_cases hlt : j < l.length
  ·obtain ⟨g, off, Gx, cx, Gn, cn, Gk, ck, Gt, ct, Gh, ch, Ge, ce, rfl, hr, e0, e1, ⟨e2, e3, e4, e5, e6, e7, e8, e9⟩, e10, e11⟩ := cmd_get HV.out (Same.of_below hb) hb.size j hlt
   have hst := cmdsR_step (has := has) l j hlt
   have hls := HG.out _ (List.getElem_mem hlt)
   generalize l[j] = x at hr e0 e1 e2 e3 e4 e5 e6 e7 e8 e9 e10 e11 hst hls
   have hal := ba (Below.refl wr.heap.size wr) (.cells (cmdC x (.slice Gx x.texts.length cx) (tstC x.test (.slice Gn x.test.names.length cn) (.slice Gk x.test.keys.length ck) (.slice Gt x.test.tests.length ct)) (.slice Gh x.thn.length ch) (.slice Ge x.els.length ce)).toArray 160)
   have HC := Lib.hid (HIH.out x _ F J bm has m _ ((cCmd n).stable hr (Same.of_below hal) hal.size) hls (HJ.out.down (bt hb hal)))
   have HB2 := Lib.hid (bt hb hal)
   obtain ⟨q, hq⟩ : ∃ q, q = cmdR has x := ⟨_, rfl⟩
   rw [← hq] at hst HC
   have HST := Lib.hid hst
   have hjn : (j : Int) < l.length := by omega
   unfold cmdC tstC at HC HB2
   clear hr hls hal hb hst hq
   go_wp2_with fail
   refine HC.out.mono ?_
   rintro e w3 ⟨rfl, hb3⟩
   have HB3 := Lib.hid (bt HB2.out hb3)
   clear hb3 HC e0 e1 e2 e3 e4 e5 e6 e7 e8 e9 e10 e11
   by_cases hq0 : q = 0
   ·subst hq0
    go_wp2_with fail
    go_roundw
    case rel => exact ⟨j + 1, by go_num, hlt, by unfold Hid; rw [HD.out, HST.out, zero_or], HB3.out⟩
    case measure => simp [intOf]; omega
   ·have hq1 : (q != 0) = true := by rw [bne, beq_eq_false_iff_ne.2 hq0]; rfl
    have HQ0 := Lib.hid hq0
    clear hq0
    go_wp2_with fail
    go_ret
    exact ⟨ret_int (by rw [HR.out, HD.out, HST.out]; unfold orE; rw [if_neg HQ0.out]), HB3.out⟩
  ·obtain rfl : j = l.length := by omega
   have hz : Hid (R = 0) := by unfold Hid; rw [HR.out, HD.out, List.drop_length, cmdsR]
   clear hb
   go_wp2_with fail
   go_ret
   exact ⟨ret_int hz.out.symm, HBJ.out⟩
theorem need_file (J bm : Nat) (has : List Str) (w : World) (h : JudgeAt w J bm has) : Calls Tryz.prog 142 #[.pointer (some ⟨J, 0, none⟩), .string ⟨#[102, 105, 108, 101, 105, 110, 116, 111]⟩] w (RulePost (needR has fileinW) w) := need_any J bm has fileinW w h (by decide)
theorem need_rej (J bm : Nat) (has : List Str) (w : World) (h : JudgeAt w J bm has) : Calls Tryz.prog 142 #[.pointer (some ⟨J, 0, none⟩), .string ⟨#[114, 101, 106, 101, 99, 116]⟩] w (RulePost (needR has rejW) w) := need_any J bm has rejW w h (by decide)
theorem need_flags (J bm : Nat) (has : List Str) (w : World) (h : JudgeAt w J bm has) : Calls Tryz.prog 142 #[.pointer (some ⟨J, 0, none⟩), .string ⟨#[105, 109, 97, 112, 52, 102, 108, 97, 103, 115]⟩] w (RulePost (needR has flagsW) w) := need_any J bm has flagsW w h (by decide)
theorem has_twelve2 {w : World} {b : Nat} {a0 a1 a2 a3 a4 a5 a6 a7 a8 a9 a10 a11 : Value} (h : Has w b [a0, a1, a2, a3, a4, a5, a6, a7, a8, a9, a10, a11]) : w.cell? ⟨b, 0, none⟩ = some a0 ∧ w.cell? ⟨b, 1, none⟩ = some a1 ∧ w.cell? ⟨b, 2, none⟩ = some a2 ∧ w.cell? ⟨b, 3, none⟩ = some a3 ∧ w.cell? ⟨b, 4, none⟩ = some a4 ∧ w.cell? ⟨b, 5, none⟩ = some a5 ∧ w.cell? ⟨b, 6, none⟩ = some a6 ∧ w.cell? ⟨b, 7, none⟩ = some a7 ∧ w.cell? ⟨b, 8, none⟩ = some a8 ∧ w.cell? ⟨b, 9, none⟩ = some a9 ∧ w.cell? ⟨b, 10, none⟩ = some a10 ∧ w.cell? ⟨b, 11, none⟩ = some a11 :=
 ⟨h.1 0 _ rfl, h.1 1 _ rfl, h.1 2 _ rfl, h.1 3 _ rfl, h.1 4 _ rfl, h.1 5 _ rfl, h.1 6 _ rfl, h.1 7 _ rfl, h.1 8 _ rfl, h.1 9 _ rfl, h.1 10 _ rfl, h.1 11 _ rfl⟩
theorem flagR_one (k : Nat) (hk : k < 5) : flagR [flagL.getD k []] = 0 := by
 have : ∀ k : Nat, k < 5 → flagR [flagL.getD k []] = 0 := by decide
 exact this k hk
theorem one_of {s : Str} : oneList s = true ↔ ∃ y, listL s = some [y] := by
 unfold oneList
 split
 ·rename_i y h; exact ⟨fun _ => ⟨y, h⟩, fun _ => rfl⟩
 ·rename_i h; exact ⟨fun e => (by cases e), fun ⟨y, e⟩ => absurd e (h y)⟩
theorem cmd_rule (n : Nat) (IA : AllR n) : CmdRu (n + 1) := by
 intro c vs F J bm has m w hrep hgood hJ
 obtain ⟨q, Gx, cx, Gn, cn, Gk, ck, Gt, ct, Gh, ch, Ge, ce, hm, rfl, hx, ht, hh, he⟩ := cmd_open hrep
 obtain rfl : n = q := by omega
 obtain ⟨⟨g5, g6, g8, ⟨gk1, gk2⟩, gl1, gl2⟩, glen, gth, gel⟩ := (GoodC.iff c).1 hgood
 have heq := cmdR_eq has c
 obtain ⟨R, hR⟩ : ∃ R, R = cmdR has c := ⟨_, rfl⟩
 rw [← hR] at heq ⊢
 obtain ⟨kind, tx, t, th, el⟩ := c
 simp only [cmdC, tstC] at *
 have hal := ba (Below.refl w.heap.size w) (.cells #[.int .i64 kind, .slice Gx tx.length cx, .int .i64 t.kind, .int .i64 t.mat, .int .i64 t.part, .slice Gn t.names.length cn, .slice Gk t.keys.length ck, .bool t.over, .int .i64 t.limit, .slice Gt t.tests.length ct, .slice Gh th.length ch, .slice Ge el.length ce] 160)
 have HX := Lib.hid (Has.alloc w [.int .i64 kind, .slice Gx tx.length cx, .int .i64 t.kind, .int .i64 t.mat, .int .i64 t.part, .slice Gn t.names.length cn, .slice Gk t.keys.length ck, .bool t.over, .int .i64 t.limit, .slice Gt t.tests.length ct, .slice Gh th.length ch, .slice Ge el.length ce] 160)
 have HB0 := Lib.hid hal
 have HJ := Lib.hid hJ; have HEQ := Lib.hid heq; have HTX := Lib.hid hx
 have HT : Hid (∀ w', Below w.heap.size w w' → Calls Tryz.prog 141 #[.pointer (some ⟨J, 0, none⟩), .agg #[.int .i64 t.kind, .int .i64 t.mat, .int .i64 t.part, .slice Gn t.names.length cn, .slice Gk t.keys.length ck, .bool t.over, .int .i64 t.limit, .slice Gt t.tests.length ct]] w' (RulePost (tstR has t) w')) := fun w' hb => test_rule_all (n + 1) t _ F J bm has w' ((cTst (n + 1)).stable ht (Same.of_below hb) hb.size) glen (hJ.j.down hb)
 have HA1 : Hid (∀ w', Below w.heap.size w w' → Calls Tryz.prog 77 #[.pointer (some ⟨J, 0, none⟩), .slice Gh th.length ch] w' (RulePost (cmdsR has th) w')) := fun w' hb => IA th _ F J bm has m w' (hh.down hb) gth gl1 (hJ.down hb)
 have HA2 : Hid (∀ w', Below w.heap.size w w' → Calls Tryz.prog 77 #[.pointer (some ⟨J, 0, none⟩), .slice Ge el.length ce] w' (RulePost (cmdsR has el) w')) := fun w' hb => IA el _ F J bm has m w' (he.down hb) gel gl2 (hJ.down hb)
 have HG5 := Lib.hid g5; have HG6 := Lib.hid g6; have HG8 := Lib.hid g8
 have key : kind = 1 ∨ kind = 2 ∨ kind = 3 ∨ kind = 4 ∨ kind = 5 ∨ kind = 6 ∨ kind = 7 ∨ kind = 8 ∨ kind = 9 ∨ kind = 10 := by omega
 clear hrep hgood hJ hx ht hh he g5 g6 g8 gk1 gk2 gl1 gl2 glen gth gel heq hR hm IA hal
 rcases key with rfl | rfl | rfl | rfl | rfl | rfl | rfl | rfl | rfl | rfl
 ·go_enter Tryz.func115, Tryz.ntmps115
  go_wp2_with fail
  go_ret
  exact ⟨ret_int (by rw [HEQ.out]; rfl), HB0.out⟩
 ·obtain ⟨q1, hq1⟩ : ∃ q1, q1 = tstR has t := ⟨_, rfl⟩
  obtain ⟨q2, hq2⟩ : ∃ q2, q2 = cmdsR has th := ⟨_, rfl⟩
  obtain ⟨q3, hq3⟩ : ∃ q3, q3 = cmdsR has el := ⟨_, rfl⟩
  have he2 : R = orE q1 (orE q2 q3) := by rw [HEQ.out, hq1, hq2, hq3]; rfl
  rw [← hq1] at HT
  rw [← hq2] at HA1
  rw [← hq3] at HA2
  have HE2 := Lib.hid he2
  clear hq1 hq2 hq3 he2 HEQ
  go_enter Tryz.func115, Tryz.ntmps115
  go_wp2_with fail
  refine (HT.out _ HB0.out).mono ?_
  rintro e w1 ⟨rfl, hb1⟩
  have HB1 := Lib.hid (bt HB0.out hb1); have HX1 := Lib.hid (HX.out.down hb1)
  obtain ⟨c0, c1, c2, c3, c4, c5, c6, c7, c8, c9, c10, c11⟩ := has_twelve2 HX1.out
  clear hb1
  by_cases z1 : q1 = 0
  ·subst z1
   go_wp2_with fail
   refine (HA1.out _ HB1.out).mono ?_
   rintro e w2 ⟨rfl, hb2⟩
   have HB2 := Lib.hid (bt HB1.out hb2)
   obtain ⟨d0, d1, d2, d3, d4, d5, d6, d7, d8, d9, d10, d11⟩ := has_twelve2 (HX1.out.down hb2)
   clear hb2
   by_cases z2 : q2 = 0
   ·subst z2
    go_wp2_with fail
    refine (HA2.out _ HB2.out).mono ?_
    rintro e w3 ⟨rfl, hb3⟩
    have HB3 := Lib.hid (bt HB2.out hb3)
    clear hb3
    go_wp2_with fail
    go_ret
    exact ⟨ret_int (by rw [HE2.out, zero_or, zero_or]), HB3.out⟩
   ·have n2 : (q2 != 0) = true := by rw [bne, beq_eq_false_iff_ne.2 z2]; rfl
    have HZ := Lib.hid z2
    clear z2
    go_wp2_with fail
    go_ret
    exact ⟨ret_int (by rw [HE2.out, zero_or]; unfold orE; rw [if_neg HZ.out]), HB2.out⟩
  ·have n1 : (q1 != 0) = true := by rw [bne, beq_eq_false_iff_ne.2 z1]; rfl
   have HZ := Lib.hid z1
   clear z1
   go_wp2_with fail
   go_ret
   exact ⟨ret_int (by rw [HE2.out]; unfold orE; rw [if_neg HZ.out]), HB1.out⟩
 ·go_enter Tryz.func115, Tryz.ntmps115
  go_wp2_with fail
  go_ret
  exact ⟨ret_int (by rw [HEQ.out]; rfl), HB0.out⟩
 ·go_enter Tryz.func115, Tryz.ntmps115
  go_wp2_with fail
  go_ret
  exact ⟨ret_int (by rw [HEQ.out]; rfl), HB0.out⟩
 ·obtain ⟨s, rfl, hs⟩ := HG5.out rfl
  obtain ⟨q1, hq1⟩ : ∃ q1, q1 = needR has fileinW := ⟨_, rfl⟩
  have he2 : R = orE q1 (nameCode s) := by rw [HEQ.out, hq1]; rfl
  have HND := Lib.hid (need_file J bm has _ (HJ.out.j.down HB0.out))
  rw [← hq1] at HND
  have HE2 := Lib.hid he2
  obtain ⟨g, off, hG, s0⟩ := str_get HTX.out (Same.refl _ _) (Nat.le_refl _) 0 (by simp)
  subst hG
  have HS0 := Lib.hid (show w.cell? ⟨g, off, none⟩ = some (.string ⟨s.toArray⟩) from s0)
  have HNM : Hid (∀ w', Calls Tryz.prog 58 #[.string ⟨s.toArray⟩] w' fun e w'' => e = .returned (.int .i64 (nameCode s)) ∧ w' = w'') := fun w' => by
   have := rname_any ⟨s.toArray⟩ w' (by show s.toArray.size ≤ _; rw [List.size_toArray]; omega)
   exact this
  clear hq1 he2 HEQ s0 HTX
  go_enter Tryz.func115, Tryz.ntmps115
  go_wp2_with fail
  refine HND.out.mono ?_
  rintro e w1 ⟨rfl, hb1⟩
  have HB1 := Lib.hid (bt HB0.out hb1)
  obtain ⟨c0, c1, c2, c3, c4, c5, c6, c7, c8, c9, c10, c11⟩ := has_twelve2 (HX.out.down hb1)
  have s1 := moved HS0.out HB1.out (Nat.le_refl _)
  clear hb1
  by_cases z1 : q1 = 0
  ·subst z1
   go_wp2_with fail
   refine (HNM.out _).mono ?_
   rintro e w2 ⟨rfl, rfl⟩
   go_wp2_with fail
   go_ret
   exact ⟨ret_int (by rw [HE2.out, zero_or]), HB1.out⟩
  ·have n1 : (q1 != 0) = true := by rw [bne, beq_eq_false_iff_ne.2 z1]; rfl
   have HZ := Lib.hid z1
   clear z1
   go_wp2_with fail
   go_ret
   exact ⟨ret_int (by rw [HE2.out]; unfold orE; rw [if_neg HZ.out]), HB1.out⟩
 ·obtain ⟨s, rfl, hs⟩ := HG6.out rfl
  have he2 : R = if oneList s = true then 0 else 3 := by rw [HEQ.out]; rfl
  have HE2 := Lib.hid he2
  obtain ⟨g, off, hG, s0⟩ := str_get HTX.out (Same.refl _ _) (Nat.le_refl _) 0 (by simp)
  subst hG
  have s1 := moved (show w.cell? ⟨g, off, none⟩ = some (.string ⟨s.toArray⟩) from s0) HB0.out (Nat.le_refl _)
  rw [show [s].length = 1 from rfl] at s1
  have HLI := Lib.hid (Go.Proofs.YtmkppkjikifdlaaGreatDoor.list_any ⟨s.toArray⟩ m _ (by show s.toArray.size ≤ _; rw [List.size_toArray]; exact hs) (moved HJ.out.max HB0.out (Nat.le_refl _)))
  have HLS : Hid ((⟨s.toArray⟩ : ByteArray).data.toList = s) := rfl
  obtain ⟨ys, hys⟩ : ∃ ys, ys = listL s := ⟨_, rfl⟩
  rw [HLS.out, ← hys] at HLI
  have HYS := Lib.hid hys
  clear he2 HEQ s0 HTX hys
  go_enter Tryz.func115, Tryz.ntmps115
  go_wp2_with fail
  refine HLI.out.mono ?_
  rintro e w1 ⟨hsay, hb1⟩
  have HB1 := Lib.hid (bt HB0.out hb1)
  clear hb1 HLI
  rcases hsay with ⟨h1, rfl⟩ | ⟨zs, h1, h20, rfl⟩ | ⟨zs, v, h1, h20, rfl, hown⟩
  ·have hz : Hid (R = 3) := by
    unfold Hid
    rw [HE2.out, if_neg]
    intro h
    obtain ⟨y, hy⟩ := one_of.1 h
    rw [← HYS.out, h1] at hy; cases hy
   clear h1
   go_wp2_with fail
   go_ret
   exact ⟨ret_int hz.out.symm, HB1.out⟩
  ·have hz : Hid (R = 3) := by
    unfold Hid
    rw [HE2.out, if_neg]
    intro h
    obtain ⟨y, hy⟩ := one_of.1 h
    rw [← HYS.out, h1] at hy
    obtain rfl := Option.some.inj hy
    exact absurd h20 (by simp)
   clear h1 h20
   go_wp2_with fail
   go_ret
   exact ⟨ret_int hz.out.symm, HB1.out⟩
  ·obtain ⟨Gv, cv, rfl⟩ := row_slice hown
   by_cases hl1 : zs.length = 1
   ·have hz : Hid (R = 0) := by
     unfold Hid
     obtain ⟨y, rfl⟩ := List.length_eq_one_iff.1 hl1
     rw [HE2.out, if_pos (one_of.2 ⟨y, by rw [← HYS.out, h1]⟩)]
    clear h1 h20 hown
    go_wp2_with fail
    go_ret
    exact ⟨ret_int hz.out.symm, HB1.out⟩
   ·have hz : Hid (R = 3) := by
     unfold Hid
     rw [HE2.out, if_neg]
     intro h
     obtain ⟨y, hy⟩ := one_of.1 h
     rw [← HYS.out, h1] at hy
     obtain rfl := Option.some.inj hy
     exact hl1 rfl
    have n1 : ((zs.length : Int) == 1) = false := by
     rw [beq_eq_false_iff_ne]; intro e; exact hl1 (by omega)
    have n2 : ((zs.length : Int) != 1) = true := by rw [bne, n1]; rfl
    clear h1 h20 hown hl1
    go_wp2_with fail
    go_ret
    exact ⟨ret_int hz.out.symm, HB1.out⟩
 ·obtain ⟨q1, hq1⟩ : ∃ q1, q1 = needR has rejW := ⟨_, rfl⟩
  have he2 : R = q1 := by rw [HEQ.out, hq1]; rfl
  have HND := Lib.hid (need_rej J bm has _ (HJ.out.j.down HB0.out))
  rw [← hq1] at HND
  have HE2 := Lib.hid he2
  clear hq1 he2 HEQ
  go_enter Tryz.func115, Tryz.ntmps115
  go_wp2_with fail
  refine HND.out.mono ?_
  rintro e w1 ⟨rfl, hb1⟩
  have HB1 := Lib.hid (bt HB0.out hb1)
  clear hb1
  go_wp2_with fail
  go_ret
  exact ⟨ret_int HE2.out.symm, HB1.out⟩
 all_goals first
  | (obtain ⟨k, hk, rfl⟩ := HG8.out (by first | exact .inl rfl | exact .inr rfl)
     obtain ⟨q1, hq1⟩ : ∃ q1, q1 = needR has flagsW := ⟨_, rfl⟩
     have he2 : R = q1 := by
      rw [HEQ.out, hq1]
      show orE (needR has flagsW) (flagR [flagL.getD k []]) = needR has flagsW
      rw [flagR_one k hk, or_zero]
     have HND := Lib.hid (need_flags J bm has _ (HJ.out.j.down HB0.out))
     rw [← hq1] at HND
     have HE2 := Lib.hid he2
     obtain ⟨g, off, hG, s0⟩ := str_get HTX.out (Same.refl _ _) (Nat.le_refl _) 0 (by simp)
     subst hG
     have HS0 : Hid (w.cell? ⟨g, off, none⟩ = some (.string (nmV k))) := by rw [nmV_flag k hk]; exact s0
     have HFL : Hid (∀ w', Below w.heap.size w w' → Calls Tryz.prog 143 #[.slice (some ⟨g, off, none⟩) 1 cx] w' fun e w'' => e = .returned (.tuple #[.int .i64 (flOf [k]), .int .i64 0]) ∧ w' = w'') := fun w' hb => flags_one g off cx k w' hk (HJ.out.names.1.of_below hb HJ.out.names.2) (moved HS0.out hb (Nat.le_refl _))
     clear hq1 he2 HEQ s0 HTX
     go_enter Tryz.func115, Tryz.ntmps115
     go_wp2_with fail
     refine HND.out.mono ?_
     rintro e w1 ⟨rfl, hb1⟩
     have HB1 := Lib.hid (bt HB0.out hb1)
     obtain ⟨c0, c1, c2, c3, c4, c5, c6, c7, c8, c9, c10, c11⟩ := has_twelve2 (HX.out.down hb1)
     clear hb1
     by_cases z1 : q1 = 0
     ·subst z1
      go_wp2_with fail
      refine (HFL.out _ HB1.out).mono ?_
      rintro e w2 ⟨rfl, rfl⟩
      go_wp2_with fail
      go_ret
      exact ⟨ret_int HE2.out.symm, HB1.out⟩
     ·have n1 : (q1 != 0) = true := by rw [bne, beq_eq_false_iff_ne.2 z1]; rfl
      clear z1
      go_wp2_with fail
      go_ret
      exact ⟨ret_int HE2.out.symm, HB1.out⟩)
  | (go_enter Tryz.func115, Tryz.ntmps115
     go_wp2_with fail
     go_ret
     exact ⟨ret_int (by rw [HEQ.out]; rfl), HB0.out⟩)
theorem cmd_rule_all : ∀ n, CmdRu n
 | 0 => fun _ _ _ _ _ _ _ _ h => h.elim
 | n + 1 => cmd_rule n (all_rule n (cmd_rule_all n))
theorem all_rule_all (n : Nat) : AllR n := all_rule n (cmd_rule_all n)
end Go.Proofs.YtmkppkjikifdlaaGreatDoor.Sc
namespace Go.Proofs.YtmkppkjikifdlaaGreatDoor.Sc
open Go.RowKit
open Go.Maps
theorem below_map {B : Nat} {w wz wy : World} {o : Option Nat} (h : Below B w wz) (g : wz.grownBy wy o) (ho : ∀ b, o = some b → B ≤ b) (hB : B ≤ wz.heap.size) : Below B w wy :=
 ⟨g.os.trans h.os, g.tape.trans h.tape, g.output.trans h.output, Nat.le_trans h.size g.size, fun k hk => (g.block k (by omega) (fun e => by have := ho k e.symm; omega)).trans (h.block k hk)⟩
def ExtAt (w : World) : Prop := ∀ j (h : j < extL.length), w.cell? ⟨0, j, none⟩ = some (.string ⟨extL[j].toArray⟩)
theorem ExtAt.below {B : Nat} {w w' : World} (h : ExtAt w) (hb : Below B w w') (hB : 0 < B) : ExtAt w' := fun j hj => (hb.cell (p := ⟨0, j, none⟩) hB).trans (h j hj)
structure RW (w : World) (m : Int) : Prop where
 tab : Tabs w w.heap.size
 ext : ExtAt w ∧ 0 < w.heap.size
 names : NamesAt w ∧ 4 < w.heap.size
 max : w.cell? ⟨2, 0, none⟩ = some (.int .i64 m)
theorem RW.down {w w' : World} {m : Int} (h : RW w m) (hb : Below w.heap.size w w') : RW w' m :=
 ⟨(h.tab.down (Nat.le_refl _) hb).up hb.size, ⟨h.ext.1.below hb h.ext.2, Nat.lt_of_lt_of_le h.ext.2 hb.size⟩, ⟨h.names.1.of_below hb h.names.2, Nat.lt_of_lt_of_le h.names.2 hb.size⟩, moved h.max hb (Nat.le_refl _)⟩
def hasK (cs : List Cmd) (k : Nat) : List Str := (cs.take k).flatMap Cmd.texts
theorem hasK_next (cs : List Cmd) (k : Nat) (h : k < cs.length) : hasK cs (k + 1) = hasK cs k ++ cs[k].texts := by
 unfold hasK; rw [List.take_succ_eq_append_getElem h, List.flatMap_append]; simp
theorem texts_len {cs : List Cmd} (hF : ∀ c ∈ cs, FormC c) (k : Nat) : (hasK cs k).length ≤ (cs.flatMap wC).length := by
 unfold hasK
 have key : ∀ l : List Cmd, (∀ c ∈ l, FormC c) → (l.flatMap Cmd.texts).length ≤ (l.flatMap wC).length := by
  intro l
  induction l with
  | nil => intro _; exact Nat.le_refl _
  | cons a l ih =>
   intro h
   have h1 := (wC_subs (h a (List.mem_cons_self ..))).1
   have h2 := ih fun c hc => h c (List.mem_cons_of_mem _ hc)
   rw [List.flatMap_cons, List.flatMap_cons, List.length_append, List.length_append]; omega
 refine Nat.le_trans (key _ fun c hc => hF c (List.mem_of_mem_take hc)) ?_
 have : cs.flatMap wC = (cs.take k).flatMap wC ++ (cs.drop k).flatMap wC := by rw [← List.flatMap_append, List.take_append_drop]
 rw [this, List.length_append]; omega
theorem goR_req {has : List Str} {cs : List Cmd} (k : Nat) (h : k < cs.length) (h1 : cs[k].kind = 1) (ha : cs[k].texts.all (fun s => extL.contains s) = true) : goR has (cs.drop k) = goR (has ++ cs[k].texts) (cs.drop (k + 1)) := by
 rw [List.drop_eq_getElem_cons h, goR, if_pos h1, if_pos ha]
theorem goR_bad {has : List Str} {cs : List Cmd} (k : Nat) (h : k < cs.length) (h1 : cs[k].kind = 1) (ha : cs[k].texts.all (fun s => extL.contains s) = false) : goR has (cs.drop k) = 7 := by
 rw [List.drop_eq_getElem_cons h, goR, if_pos h1, if_neg (by rw [ha]; decide)]
theorem goR_rest {has : List Str} {cs : List Cmd} (k : Nat) (h : k < cs.length) (h1 : cs[k].kind ≠ 1) : goR has (cs.drop k) = cmdsR has (cs.drop k) := by
 rw [List.drop_eq_getElem_cons h, goR, if_neg h1]
theorem goR_end {has : List Str} {cs : List Cmd} : goR has (cs.drop cs.length) = cmdsR has (cs.drop cs.length) := by
 rw [List.drop_length, goR, cmdsR]
def sLen : Value → Nat
 | .slice _ n _ => n
 | _ => 0
theorem cmd_texts {n : Nat} {w : World} {F : Dom} {c : Cmd} {Gx Gn Gk Gt Gh Ge : Option Addr} {cx cn ck ct ch ce : Nat} (h : (cCmd n).rep w F c (cmdC c (.slice Gx c.texts.length cx) (tstC c.test (.slice Gn c.test.names.length cn) (.slice Gk c.test.keys.length ck) (.slice Gt c.test.tests.length ct)) (.slice Gh c.thn.length ch) (.slice Ge c.els.length ce))) : SAt cStr w F (.slice Gx c.texts.length cx) c.texts := by
 obtain ⟨_, Gx', cx', _, _, _, _, _, _, _, _, _, _, -, hv, hx, -⟩ := cmd_open h
 unfold cmdC at hv
 have e := (List.cons.inj (List.cons.inj hv).2).1
 rw [e]; exact hx
theorem sat_rest {n : Nat} {w : World} {F : Dom} {g off len cap : Nat} {l : List Cmd} {k : Nat} (h : SAt (cCmd n) w F (.slice (some ⟨g, off, none⟩) len cap) (l.drop k)) : (1 ≤ len → ∀ G c, (1 < cap → G = some ⟨g, off + 12, none⟩ ∧ c = cap - 1) → len - 1 ≤ c → SAt (cCmd n) w F (.slice G (len - 1) c) (l.drop (k + 1))) := by
 intro h1 G c hG hc
 have hcap : len ≤ cap ∧ (l.drop k).length = len := by
  obtain ⟨_, c', e, h, -⟩ := h
  injection e with _ e2 e3
  exact ⟨by omega, e2.symm⟩
 have e1 : l.drop (k + 1) = (l.drop k).drop 1 := by rw [List.drop_drop]
 rw [e1]
 by_cases h2 : 1 < cap
 ·obtain ⟨rfl, rfl⟩ := hG h2
  have := h.drop 1 (cap - 1) (by omega) (by omega)
  rw [hcap.2] at this
  exact this
 ·have hl : len = 1 := by omega
  have hd : (l.drop k).drop 1 = [] := List.drop_eq_nil_of_le (by omega)
  rw [hd, hl]
  exact ⟨G, c, rfl, Nat.zero_le _, fun i x hi => by simp at hi⟩
def RcRel (n : Nat) (cs : List Cmd) (F : Dom) (w : World) (J bm : Nat) (lv : Value) (wr : World) : Prop := ∃ (k : Nat) (Gk : Option Addr) (ck : Nat), k ≤ cs.length ∧ lv = .slice Gk (cs.length - k) ck ∧ SAt (cCmd n) w F (.slice Gk (cs.length - k) ck) (cs.drop k) ∧ JudgeAt wr J bm (hasK cs k) ∧ goR [] cs = goR (hasK cs k) (cs.drop k) ∧ Below w.heap.size w wr
theorem rule_any (n : Nat) (cs : List Cmd) (v : Value) (F : Dom) (m : Int) (w : World) (hv : SAt (cCmd n) w F v cs) (hF : ∀ c ∈ cs, FormC c) (hG : ∀ c ∈ cs, GoodC c) (hS : ∀ c ∈ cs, ∀ s ∈ c.texts, s.length ≤ 1000000) (hFl : ∀ b, F b → b < w.heap.size) (hW : RW w m) (hlen : (cs.flatMap wC).length ≤ 1000000) :
    Calls Tryz.prog 46 #[v] w (RulePost (ruleS cs) w) := by
 have hmm := @run_makeMap Tryz.prog
 obtain ⟨G, cap, rfl, hcap⟩ := hv.form
 have HCK := Lib.hid (check_any n cs _ F w hv hF hFl hW.tab hlen)
 have hcl : cs.length ≤ 1000000 := by have := (flatC_len cs).1; omega
 obtain ⟨R, hR⟩ : ∃ R, R = ruleS cs := ⟨_, rfl⟩
 have hrs : ruleS cs = if checkS cs ≠ 0 then checkS cs else goR [] cs := rfl
 rw [← hR] at hrs ⊢
 obtain ⟨r, hr⟩ : ∃ r, r = checkS cs := ⟨_, rfl⟩
 rw [← hr] at HCK hrs
 have HRS := Lib.hid hrs; have HV := Lib.hid hv; have HF := Lib.hid hF; have HG := Lib.hid hG; have HW := Lib.hid hW; have HSS := Lib.hid hS; have HLN := Lib.hid hlen
 clear hv hF hG hS hFl hW hlen hrs hr hR
 go_enter Tryz.func46, Tryz.ntmps46
 go_wp2_with fail
 refine HCK.out.mono ?_
 rintro e w1 ⟨rfl, hb1⟩
 have HB1 := Lib.hid hb1
 clear hb1 HCK
 by_cases hr0 : r = 0
 case neg =>
  have n1 : (r != 0) = true := by rw [bne, beq_eq_false_iff_ne.2 hr0]; rfl
  have HR0 := Lib.hid hr0
  clear hr0
  go_wp2_with fail
  go_ret
  exact ⟨ret_int (by rw [HRS.out, if_pos HR0.out]), HB1.out⟩
 case pos =>
  subst hr0
  have hgo : R = goR [] cs := by rw [HRS.out, if_neg (by decide)]
  have HGO := Lib.hid hgo
  clear hgo HRS
  go_upto_block 0 with fail
  have hJ0 : JudgeAt ((w1.alloc (.map #[] 0)).alloc (.cells #[.map (some w1.heap.size)] 165)) (w1.heap.size + 1) w1.heap.size [] := by
   have h1 := Has.alloc (w1.alloc (.map #[] 0)) [.map (some w1.heap.size)] 165
   rw [World.size_alloc] at h1
   exact ⟨h1.1 0 _ rfl, (World.ownsMap_made w1 Tryz.prog 9 (unitElem (H := Unit))).alloc _⟩
  have hb0 := ba (ba HB1.out (.map #[] 0)) (.cells #[.map (some w1.heap.size)] 165)
  have hst : RcRel n cs F w (w1.heap.size + 1) w1.heap.size (.slice G cs.length cap) ((w1.alloc (.map #[] 0)).alloc (.cells #[.map (some w1.heap.size)] 165)) :=
   ⟨0, G, cap, Nat.zero_le _, rfl, HV.out, hJ0, rfl, hb0⟩
  have HST := Lib.hid hst
  have hz1 : w.heap.size ≤ w1.heap.size := HB1.out.size
  obtain ⟨J, hJ⟩ : ∃ J, J = w1.heap.size + 1 := ⟨_, rfl⟩
  obtain ⟨bm, hbm⟩ : ∃ bm, bm = w1.heap.size := ⟨_, rfl⟩
  obtain ⟨W1, hW1⟩ : ∃ W1, W1 = (w1.alloc (.map #[] 0)).alloc (.cells #[.map (some w1.heap.size)] 165) := ⟨_, rfl⟩
  have hbJ : bm ≠ J := by omega
  have hbw : w.heap.size ≤ bm := by omega
  rw [← hW1, ← hJ, ← hbm] at HST
  rw [← hW1, ← hJ, ← hbm]
  clear hst hJ0 hb0 hJ hbm hW1 hz1 HB1
  go_wp2_with fail
  go_loopw [0] (RcRel n cs F w J bm) (fun v _ => sLen v)
  case atStart => exact HST.out
  case round =>
   obtain ⟨k, Gk, ck, hk, rfl, hsk, hj, hgk, hb⟩ := hrel
   have HSK := Lib.hid hsk; have HJ := Lib.hid hj; have HGK := Lib.hid hgk; have HB := Lib.hid hb
   have hck : cs.length - k ≤ ck := by
    obtain ⟨_, c', e, h, -⟩ := hsk
    injection e with _ _ e3
    rw [List.length_drop] at h; omega
   have hcz := hj.cell
   clear hsk hj hgk HST
   by_cases hlt : k < cs.length
   ·obtain ⟨g, off, Gx, cx, Gn, cn, Gq, cq, Gt, ct, Gh, ch, Ge, ce, rfl, hrp, e0, e1, -, -, -⟩ := cmd_get HSK.out (Same.of_below hb) hb.size 0 (by rw [List.length_drop]; omega)
    have hx0 : (cs.drop k)[0]'(by rw [List.length_drop]; omega) = cs[k] := by simp
    rw [hx0] at e0 e1 hrp
    obtain ⟨Gx2, cx2, hxw, hxe⟩ : ∃ Gx2 cx2, SAt cStr w F (.slice Gx2 cs[k].texts.length cx2) cs[k].texts ∧ (Value.slice Gx cs[k].texts.length cx) = .slice Gx2 cs[k].texts.length cx2 := by
     obtain ⟨g', off', Gx', cx', Gn', cn', Gq', cq', Gt', ct', Gh', ch', Ge', ce', hG', hrp', e0', e1', -, -, -⟩ := cmd_get HSK.out (Same.refl _ _) (Nat.le_refl _) 0 (by rw [List.length_drop]; omega)
     obtain ⟨rfl, rfl⟩ : g = g' ∧ off = off' := by cases hG'; exact ⟨rfl, rfl⟩
     have h2 := moved e1' hb (Nat.le_refl _)
     simp only [hx0] at h2 hrp'
     rw [e1] at h2
     exact ⟨Gx', cx', cmd_texts hrp', Option.some.inj h2⟩
    have hreq := goR_req (has := hasK cs k) k hlt
    have hbad := goR_bad (has := hasK cs k) k hlt
    have hres := goR_rest (has := hasK cs k) k hlt
    have hnx := hasK_next cs k hlt
    have hss := HSS.out _ (List.getElem_mem hlt)
    have htl := texts_len HF.out (k + 1)
    rw [hnx, List.length_append] at htl
    have htl2 := HLN.out
    rw [hxe] at e1
    generalize cs[k] = c at e0 e1 hrp hxw hreq hbad hres hnx hss htl hxe
    clear hxe
    simp only [Nat.zero_mul, Nat.add_zero] at e0 e1
    have i1 : (0 : Int) < ((cs.length - k : Nat) : Int) := by omega
    have i2 : 0 < cs.length - k := by omega
    by_cases h1 : c.kind = 1
    ·have HREQ := Lib.hid (hreq h1); have HBAD := Lib.hid (hbad h1); have HNX := Lib.hid hnx; have HSW := Lib.hid hxw; have HSL := Lib.hid hss
     have hkl : (hasK cs k).length + c.texts.length ≤ 1000000 := by omega
     clear hreq hbad hres hnx hxw hss htl htl2 hrp hx0 hb
     go_wp2_with fail
     go_loopw [30] (fun v wx => ∃ j : Nat, v = .int .i64 j ∧ j ≤ c.texts.length ∧ JudgeAt wx J bm (hasK cs k ++ c.texts.take j) ∧ Hid ((c.texts.take j).all (fun s => extL.contains s) = true) ∧ Below w.heap.size w wx) (fun v _ => c.texts.length - (intOf v).toNat)
     case atStart => exact ⟨0, rfl, Nat.zero_le _, by rw [List.take_zero, List.append_nil]; exact HJ.out, rfl, HB.out⟩
     case round =>
      obtain ⟨j, rfl, hjl, hjj, HA, hbx⟩ := hrel
      have HBX := Lib.hid hbx
      have HJJ := Lib.hid hjj
      have hcj := hjj.cell
      by_cases hlj : j < c.texts.length
      ·obtain ⟨g2, o2, rfl, s0⟩ := str_get HSW.out (Same.of_below hbx) hbx.size j hlj
       have hst := fun h => all_take (p := fun s => extL.contains s) j hlj HA.out h
       have hno := fun h => not_all (p := fun s => extL.contains s) j hlj h
       have htk : c.texts.take (j + 1) = c.texts.take j ++ [c.texts[j]] := List.take_succ_eq_append_getElem hlj
       have hsl := HSL.out _ (List.getElem_mem hlj)
       generalize c.texts[j] = s at s0 hst hno htk hsl
       have HCT := Lib.hid (contains_table 0 4 extL s wr (by decide) (HW.out.ext.1.below hbx HW.out.ext.2))
       have HST := Lib.hid hst; have HNO := Lib.hid hno; have HTK := Lib.hid htk; have HKEY := Lib.hid (key_str s hsl)
       have hlen2 : (hasK cs k ++ c.texts.take j).length < 1000000 := by rw [List.length_append, List.length_take]; omega
       clear hst hno htk hjj hsl hbx
       obtain ⟨q, hq⟩ : ∃ q, q = extL.contains s := ⟨_, rfl⟩
       have HQ := Lib.hid hq
       have HCT2 : Hid (Calls Tryz.prog 30 #[.slice (some ⟨0, 0, none⟩) 4 4, .string ⟨s.toArray⟩] wr fun e w' => e = .returned (.bool q) ∧ wr = w') := by rw [hq]; exact HCT.out
       clear hq HCT
       cases q with
       | true =>
        go_wp2_with fail
        refine HCT2.out.mono ?_
        rintro e w3 ⟨rfl, rfl⟩
        go_wp2_with (at_mapUpdate; refine wpList_mapUpdate_own _ rfl _ _ _ 163 rfl 9 167 keyed_str Tryz.underlying163 (unitElem (H := Unit)) bm (hasK cs k ++ c.texts.take j).length _ rfl HJJ.out.own (by unfold maxLen; omega) _ _ _ rfl rfl HKEY.out _ [] unitElem_mk ?_; intro w4 hown4 hgrow4)
        have hj4 : JudgeAt w4 J bm (hasK cs k ++ c.texts.take (j + 1)) := by
         rw [HTK.out, ← List.append_assoc]
         refine ⟨hgrow4.cell hcj (fun e => hbJ (Option.some.inj e).symm), ?_⟩
         rw [hasD_snoc, List.length_append]
         exact hown4
        have hb4 := below_map HBX.out hgrow4 (fun b e => by have e' : bm = b := Option.some.inj e; omega) HBX.out.size
        have HJ4 := Lib.hid hj4; have HB4 := Lib.hid hb4
        clear hj4 hb4 hown4 hgrow4
        go_wp2_with fail
        go_roundw
        case rel => exact ⟨j + 1, by go_num, hlj, HJ4.out, HST.out HQ.out.symm, HB4.out⟩
        case measure => simp [intOf]; omega
       | false =>
        go_wp2_with fail
        refine HCT2.out.mono ?_
        rintro e w3 ⟨rfl, rfl⟩
        go_wp2_with fail
        go_ret
        exact ⟨ret_int (by rw [HGO.out, HGK.out, HBAD.out (HNO.out HQ.out.symm)]), HBX.out⟩
      ·obtain rfl : j = c.texts.length := by omega
       have hall : c.texts.all (fun s => extL.contains s) = true := by have := HA.out; rwa [List.take_length] at this
       have hj5 : JudgeAt wr J bm (hasK cs (k + 1)) := by rw [HNX.out]; have := HJJ.out; rwa [List.take_length] at this
       have hg5 : goR [] cs = goR (hasK cs (k + 1)) (cs.drop (k + 1)) := by rw [HGK.out, HREQ.out hall, HNX.out]
       have HJ5 := Lib.hid hj5; have HG5 := Lib.hid hg5
       have HS5 := Lib.hid (sat_rest HSK.out)
       clear hall hj5 hg5 hjj hbx
       have k1 : 1 ≤ cs.length - k := by omega
       have k2 : (1 : Int) ≤ ((cs.length - k : Nat) : Int) := by omega
       have k3 : 1 ≤ ck := by omega
       have ee : cs.length - (k + 1) = cs.length - k - 1 := by omega
       have EE := Lib.hid ee
       by_cases hc1 : 1 < ck
       ·have k4 : (1 : Int) < ck := by omega
        clear ee
        go_wp2_with fail
        go_roundw
        case rel => exact ⟨k + 1, some ⟨g, off + 12, none⟩, ck - 1, hlt, by rw [EE.out], by rw [EE.out]; exact HS5.out k1 _ _ (fun _ => ⟨rfl, rfl⟩) (by omega), HJ5.out, HG5.out, HBX.out⟩
        case measure => show cs.length - k - 1 < cs.length - k; omega
       ·obtain rfl : ck = 1 := by omega
        have ez : cs.length - k = 1 := by omega
        have EZ := Lib.hid ez
        clear ee ez
        go_wp2_with fail
        go_roundw
        case rel => exact ⟨k + 1, some ⟨g, off, none⟩, 0, hlt, by rw [EE.out, EZ.out], by rw [EE.out]; exact HS5.out k1 _ _ (fun h => absurd h (by decide)) (by rw [EZ.out]; exact Nat.le_refl _), HJ5.out, HG5.out, HBX.out⟩
        case measure => show 0 < cs.length - k; omega
    ·have HRES := Lib.hid (hres h1)
     have n1 : (c.kind == (1 : Int)) = false := beq_eq_false_iff_ne.2 h1
     have HAL := Lib.hid (all_rule_all n (cs.drop k) _ F J bm (hasK cs k) m wr (HSK.out.down hb) (fun x hx => HG.out x (List.mem_of_mem_drop hx)) (by rw [List.length_drop]; omega) ⟨HJ.out, (HW.out.down hb).names, (HW.out.down hb).max⟩)
     clear hreq hbad hres hnx hxw hss htl htl2 hrp hx0 hb h1
     go_wp2_with fail
     refine HAL.out.mono ?_
     rintro e w3 ⟨rfl, hb3⟩
     have HB3 := Lib.hid (bt HB.out hb3)
     clear hb3 HAL
     go_wp2_with fail
     go_ret
     exact ⟨ret_int (by rw [HGO.out, HGK.out, HRES.out]), HB3.out⟩
   ·obtain rfl : k = cs.length := by omega
    have HRES := Lib.hid (goR_end (has := hasK cs cs.length) (cs := cs))
    have HAL := Lib.hid (all_rule_all n (cs.drop cs.length) _ F J bm (hasK cs cs.length) m wr (HSK.out.down hb) (fun x hx => HG.out x (List.mem_of_mem_drop hx)) (by rw [List.length_drop]; omega) ⟨HJ.out, (HW.out.down hb).names, (HW.out.down hb).max⟩)
    have ez : cs.length - cs.length = 0 := by omega
    rw [ez] at HAL ⊢
    clear hb ez
    go_wp2_with fail
    refine HAL.out.mono ?_
    rintro e w3 ⟨rfl, hb3⟩
    have HB3 := Lib.hid (bt HB.out hb3)
    clear hb3 HAL
    go_wp2_with fail
    go_ret
    exact ⟨ret_int (by rw [HGO.out, HGK.out, HRES.out, List.drop_length]), HB3.out⟩
end Go.Proofs.YtmkppkjikifdlaaGreatDoor.Sc
namespace Go.Proofs.YtmkppkjikifdlaaGreatDoor.Sc
open Go
theorem ext_of {W : World} {laid : List (String × DataW Unit)} (h : laidMet Tryz.prog laid W) (hm : ("postroom/rule.extensions", Rows.laid_postroom_rule_extensions) ∈ laid) : ExtAt W ∧ 0 < W.heap.size := by
 have e := tabAt_reads (l := extL) (g := 0) (t := 166) (Lib.laidMet.reads h hm) (by kernel_rfl) (by kernel_rfl) Tryz.underlying166 (by decide)
 exact ⟨fun j hj => e.1 j _ (List.getElem?_eq_getElem hj), e.2⟩
theorem names_of {W : World} {laid : List (String × DataW Unit)} (h : laidMet Tryz.prog laid W) (hm : ("postroom/rule.names", Rows.laid_postroom_rule_names) ∈ laid) : NamesAt W ∧ 4 < W.heap.size := by
 have e := tabAt_reads (l := flagL) (g := 4) (t := 257) (Lib.laidMet.reads h hm) (by kernel_rfl) (by kernel_rfl) Tryz.underlying257 (by decide)
 refine ⟨fun j hj => ?_, e.2⟩
 have h5 : j < flagL.length := hj
 rw [e.1 j _ (List.getElem?_eq_getElem h5)]
 have key : ∀ j (h1 : j < flNames.length) (h2 : j < flagL.length), flNames[j] = ⟨flagL[j].toArray⟩ := by
  intro j h1 h2
  have : j = 0 ∨ j = 1 ∨ j = 2 ∨ j = 3 ∨ j = 4 := by
   have : flagL.length = 5 := rfl
   omega
  rcases this with rfl | rfl | rfl | rfl | rfl <;> rfl
 exact congrArg (fun b => some (Value.string b)) (key j hj h5).symm
end Go.Proofs.YtmkppkjikifdlaaGreatDoor.Sc
namespace Go.Proofs.YtmkppkjikifdlaaGreatDoor.Sc
open Go.RowKit
theorem LenTs_mk {t : Tst} (h1 : ∀ s ∈ t.names, s.length ≤ 1000000) (h2 : ∀ s ∈ t.keys, s.length ≤ 1000000) (h3 : t.names.length ≤ 1000000 ∧ t.keys.length ≤ 1000000 ∧ t.tests.length ≤ 1000000) (h4 : ∀ s ∈ t.tests, LenTs s) : LenTs t := by
 obtain ⟨k, m, p, ns, ks, o, l, ts⟩ := t
 rw [LenTs]; exact ⟨⟨h1, h2, h3⟩, (LenTl_iff _).2 h4⟩
theorem nilT {P : Tst → Prop} : ∀ s ∈ ([] : List Tst), P s := fun s h => by cases h
theorem nilStr {P : Str → Prop} : ∀ s ∈ ([] : List Str), P s := fun s h => by cases h
theorem zeroT_len (k : Int) : LenTs (zeroT k) := LenTs_mk nilStr nilStr ⟨Nat.zero_le _, Nat.zero_le _, Nat.zero_le _⟩ nilT
theorem T0_len : LenTs T0 := zeroT_len 0
theorem nilCmd {P : Cmd → Prop} : ∀ s ∈ ([] : List Cmd), P s := fun s h => by cases h
end Go.Proofs.YtmkppkjikifdlaaGreatDoor.Sc
