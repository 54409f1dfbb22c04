/-
  DERIVED. Of: JdOneW.
-/
import Derived.Test.YtpfbkdbblpppdaaGreatDoorDJdA
import Derived.Test.YtpfbkdbblpppdaaGreatDoorFJdLet
import Derived.Test.YtpfbkdbblpppdaaGreatDoorDJdC
import Derived.Test.YtpfbkdbblpppdaaGreatDoorFJdMore
import Derived.Test.YtpfbkdbblpppdaaGreatDoorDJdOneP
import Derived.Test.YtpfbkdbblpppdaaGreatDoorFJdOneP
set_option linter.unusedVariables false
set_option linter.unusedSimpArgs false
namespace Go.Proofs.YtpfbkdbblpppdaaGreatDoor.Jd
open Go.RowKit
open Sc (Str Tst Cmd cStr strC cTst cCmd RW Stk cStk CRow reqC reqV T0 wC FormC GoodC ruleS strs)

theorem one_cmd_ok (t : Stk) (a b : List Stk) (ha : (Sc.cmdsS 0 a).length ≤ 4) (hb : (Sc.cmdsS 0 b).length ≤ 4) : CmdOk (oneC t a b) := by
  have hm : ∀ l : List Stk, ∀ c ∈ Sc.cmdsS 0 l, ∃ y, c = Sc.cmdS 0 y := fun l c hc => by obtain ⟨y, -, rfl⟩ := List.mem_map.1 hc; exact ⟨y, rfl⟩
  refine ⟨(FormC.iff _).2 ⟨by show Sc.Form2 2 0; unfold Sc.Form2; simp, .inl ⟨rfl, Sc.testS_form _ _, fun c hc => ?_, fun c hc => ?_⟩⟩,
    (GoodC.iff _).2 ⟨⟨fun h => absurd h (by show ¬ (2 : Int) = 5; decide), fun h => absurd h (by show ¬ (2 : Int) = 6; decide), fun h => absurd h (by show ¬ ((2 : Int) = 8 ∨ (2 : Int) = 9); decide), ⟨by show (1 : Int) ≤ 2; decide, by show (2 : Int) ≤ 10; decide⟩, ?_, ?_⟩, Sc.testS_LenTs 2 _, fun c hc => ?_, fun c hc => ?_⟩,
    fun s hs => (by cases hs), (GoodJ.iff _).2 ⟨fun h => absurd rfl h, fun _ => (testS_fine 2 1 _ (by omega) (by omega)).good, ⟨?_, ?_⟩, fun c hc => ?_, fun c hc => ?_⟩, ?_⟩
  · obtain ⟨y, rfl⟩ := hm a c hc; exact Sc.cmdS_form 0 y
  · obtain ⟨y, rfl⟩ := hm b c hc; exact Sc.cmdS_form 0 y
  · show (Sc.cmdsS 0 a).length ≤ _; omega
  · show (Sc.cmdsS 0 b).length ≤ _; omega
  · obtain ⟨y, rfl⟩ := hm a c hc; exact Sc.cmdS_good 0 y
  · obtain ⟨y, rfl⟩ := hm b c hc; exact Sc.cmdS_good 0 y
  · show (Sc.cmdsS 0 a).length ≤ _; omega
  · show (Sc.cmdsS 0 b).length ≤ _; omega
  · obtain ⟨y, rfl⟩ := hm a c hc; exact cmdS_goodJ 0 y
  · obtain ⟨y, rfl⟩ := hm b c hc; exact cmdS_goodJ 0 y
  · have := Sc.if_bound (B := 3) (T := Sc.tB 2) (Sc.testS 2 t) (Sc.cmdsS 0 a) (Sc.cmdsS 0 b) (Sc.testS_len 2 t) ha hb (fun c hc => by obtain ⟨y, rfl⟩ := hm a c hc; exact Sc.cmdS_len 0 y) (fun c hc => by obtain ⟨y, rfl⟩ := hm b c hc; exact Sc.cmdS_len 0 y)
    have e : Sc.tB 2 = 137 := rfl
    rw [e] at this
    exact Nat.le_trans this (by omega)
theorem fileA_ok : CmdOk Sc.fileA :=
  ⟨(FormC.iff _).2 ⟨.inr (.inl ⟨.inl rfl, rfl⟩), .inr ⟨by decide, rfl, rfl, rfl⟩⟩,
    (GoodC.iff _).2 ⟨⟨fun _ => ⟨[97], rfl, by decide⟩, fun h => absurd h (by decide), fun h => absurd h (by decide), by decide, Nat.zero_le _, Nat.zero_le _⟩, Sc.T0_len, Sc.nilCmd, Sc.nilCmd⟩, by decide,
    (GoodJ.iff _).2 ⟨fun _ => ⟨by decide, fun _ => ⟨_, rfl⟩, fun h => absurd h (by decide), fun h => absurd h (by decide)⟩, fun h => absurd h (by decide), ⟨Nat.zero_le _, Nat.zero_le _⟩, nilC, nilC⟩, by decide⟩
/-- Commands of a list, at depth 2; without commands nothing is made -/
def CmsE (cs : List Cmd) (n : Nat) (w : World) (e : Ending) (w' : World) : Prop := ∃ G c, e = .returned (.slice G n c) ∧ SAt (cCmd 8) w' (fun b => b < w'.heap.size) (.slice G n c) cs ∧ (n = 0 → G = none ∧ c = 0) ∧ Below w.heap.size w w'
theorem commands_e (l : List Stk) (v : Value) (k : Nat) (F : Dom) (w : World) (hv : SAt (cStk k) w F v l) (hlen : l.length ≤ 140737488351232) (n : Nat) (hn : (Sc.cmdsS 0 l).length = n) : Calls Tryz.prog 19 #[v, .int .i64 2] w (CmsE (Sc.cmdsS 0 l) n w) := by
  cases hl : l with
  | nil =>
    subst hl
    obtain ⟨G, c, rfl⟩ := Sc.SAt.nil_inv hv
    refine (Sc.commands_nil G c 2 w).mono ?_
    rintro e w' ⟨rfl, rfl⟩
    have h0 : n = 0 := hn.symm
    subst h0
    exact ⟨none, 0, rfl, SAt.nil _ _ _, fun _ => ⟨rfl, rfl⟩, Below.refl _ _⟩
  | cons y l' =>
    rw [← hl]
    refine (Sc.commands_any 0 (0 * 7 + 1) k l v (2 - ((0 : Nat) : Int)) F w (Sc.cmd_all 0 (by omega)) hv hlen).mono ?_
    rintro e w' ⟨u, rfl, hs, hb⟩
    obtain ⟨G, c, rfl, -⟩ := id hs.form
    have hp : 0 < (Sc.cmdsS 0 l).length := by unfold Sc.cmdsS; rw [hl, List.length_map, List.length_take, List.length_cons]; omega
    subst hn
    exact ⟨G, c, rfl, (Sc.SAt.bd (fun _ _ hr => Sc.cmd_bd 8 hr) (Sc.cmds_le (by omega) hs)).mono fun b hb => hb.2, fun h => absurd h (by omega), hb⟩
theorem one_rep {V : World} {t : Stk} {a b : List Stk} {ts : List Value} {vh ve : Value} (ht : TV V 6 (Sc.testS 2 t) ts) (h1 : SAt (cCmd 8) V (fun b => b < V.heap.size) vh (Sc.cmdsS 0 a)) (h2 : SAt (cCmd 8) V (fun b => b < V.heap.size) ve (Sc.cmdsS 0 b)) :
    (cCmd 15).rep V (fun b => b < V.heap.size) (oneC t a b) (.int .i64 2 :: .slice none 0 0 :: (ts ++ [vh, ve])) := Sc.cmd_rep (K := 8) ht h1 h2
theorem req_held {V : World} {N : Nat} (h : Has V N (strs reqC.texts)) : (cCmd 15).rep V (fun b => b < V.heap.size) reqC (reqV N) := Sc.cmd_le (by omega) (Sc.req_rep h h.2.2)
/-- the list of requires and the If -/
theorem one_lit {V : World} {N : Nat} {t : Stk} {a b : List Stk} {ts : List Value} {vh ve : Value} (hN : Has V N (strs reqC.texts)) (ht : TV V 6 (Sc.testS 2 t) ts) (h1 : SAt (cCmd 8) V (fun b => b < V.heap.size) vh (Sc.cmdsS 0 a)) (h2 : SAt (cCmd 8) V (fun b => b < V.heap.size) ve (Sc.cmdsS 0 b)) :
    SAt (cCmd 15) (V.alloc (.cells (reqV N ++ (.int .i64 2 :: .slice none 0 0 :: (ts ++ [vh, ve]))).toArray 50)) (fun _ => True) (.slice (some ⟨V.heap.size, 0, none⟩) 2 2) [reqC, oneC t a b] := by
  have h := Sc.lit_sat V [(reqC, reqV N), (oneC t a b, .int .i64 2 :: .slice none 0 0 :: (ts ++ [vh, ve]))] (fun p hp => by
    rcases List.mem_cons.1 hp with rfl | hp
    · exact req_held hN
    · rw [List.mem_singleton] at hp; subst hp; exact one_rep ht h1 h2) (by show 2 ≤ 100; omega)
  have e : hcells [(reqC, reqV N), (oneC t a b, .int .i64 2 :: .slice none 0 0 :: (ts ++ [vh, ve]))] = reqV N ++ (.int .i64 2 :: .slice none 0 0 :: (ts ++ [vh, ve])) := by
    unfold hcells
    simp
  rw [e] at h
  exact h.mono fun _ _ => trivial
theorem req_lit {B : Nat} {V : World} {N : Nat} (hB : B ≤ V.heap.size) (hN : Has V N (strs reqC.texts)) :
    CRow B (V.alloc (.cells (reqV N).toArray 50)) (.slice (some ⟨V.heap.size, 0, none⟩) 1 1) 1 [reqC] := by
  have h := CRow.lit V [(reqC, reqV N)] hB (fun p hp => by rw [List.mem_singleton] at hp; subst hp; exact req_held hN) (by show 1 ≤ 100; omega)
  have e : hcells [(reqC, reqV N)] = reqV N := by unfold hcells; simp
  rw [e] at h
  exact h
theorem file_lit (V : World) (A : Nat) (h : Has V A [.string ⟨#[97]⟩]) :
    SAt (cCmd 15) (V.alloc (.cells #[.int .i64 5, .slice (some ⟨A, 0, none⟩) 1 1, .int .i64 0, .int .i64 0, .int .i64 0, .slice none 0 0, .slice none 0 0, .bool false, .int .i64 0, .slice none 0 0, .slice none 0 0, .slice none 0 0] 50)) (fun _ => True) (.slice (some ⟨V.heap.size, 0, none⟩) 1 1) [Sc.fileA] := by
  have h1 := Sc.lit_sat (F := fun _ => True) V [(Sc.fileA, [.int .i64 5, .slice (some ⟨A, 0, none⟩) 1 1, .int .i64 0, .int .i64 0, .int .i64 0, .slice none 0 0, .slice none 0 0, .bool false, .int .i64 0, .slice none 0 0, .slice none 0 0, .slice none 0 0])] (fun p hp => by
    rw [List.mem_singleton] at hp
    subst hp
    have hs : SAt cStr V (fun _ => True) (.slice (some ⟨A, 0, none⟩) 1 1) [[97]] := Sc.sat_strs (l := [[97]]) h trivial
    exact Sc.cmd_le (by omega) (Sc.rep_text (k := 5) hs)) (by show 1 ≤ 100; omega)
  exact h1.mono fun _ _ => trivial
end Go.Proofs.YtpfbkdbblpppdaaGreatDoor.Jd
