/-
  DERIVED. Of: JdFlagP.
-/
import Derived.Test.YtpfbkdbblpppdaaGreatDoorDJdC
set_option linter.unusedVariables false
set_option linter.unusedSimpArgs false
namespace Go.Proofs.YtpfbkdbblpppdaaGreatDoor.Jd
open Sc (Str Tst Cmd T0 reqC wC FormC GoodC flagL ruleS)

def fcC (k : Nat) : Cmd := ⟨if k % 2 = 1 then 8 else 9, [flagL.getD (k / 2) []], T0, [], []⟩
def wantJ (o k : Nat) : Nat := (if k % 2 = 1 then 0 else o) ||| 1 <<< (k / 2)
def wants (ks : List Nat) : Nat := ks.foldl wantJ 0
theorem wantJ_lt {o k : Nat} (ho : o < 32) (hk : k < 10) : wantJ o k < 32 := by
  unfold wantJ
  have h1 : 1 <<< (k / 2) < 2 ^ 5 := by
    have : ∀ k : Nat, k < 10 → 1 <<< (k / 2) < 2 ^ 5 := by decide
    exact this k hk
  exact Nat.or_lt_two_pow (n := 5) (by split <;> omega) h1
theorem fold_lt : ∀ (ks : List Nat) (o : Nat), o < 32 → (∀ k ∈ ks, k < 10) → ks.foldl wantJ o < 32
  | [], o, ho, _ => ho
  | k :: ks, o, ho, h => fold_lt ks _ (wantJ_lt ho (h k (List.mem_cons_self ..))) fun j hj => h j (List.mem_cons_of_mem _ hj)
theorem wants_lt (ks : List Nat) (h : ∀ k ∈ ks, k < 10) : wants ks < 32 := fold_lt ks 0 (by omega) h
theorem fc_ok (k : Nat) (h : k < 10) : CmdOk (fcC k) := by
  have h5 : k / 2 < 5 := by omega
  have hk : (fcC k).kind = 8 ∨ (fcC k).kind = 9 := by
    show (if k % 2 = 1 then (8 : Int) else 9) = 8 ∨ (if k % 2 = 1 then (8 : Int) else 9) = 9
    split
    · exact .inl rfl
    · exact .inr rfl
  refine ⟨(FormC.iff _).2 ⟨.inl ⟨by rcases hk with e | e <;> rw [e] <;> simp, Nat.one_pos⟩, .inr ⟨by rcases hk with e | e <;> rw [e] <;> decide, rfl, rfl, rfl⟩⟩,
    (GoodC.iff _).2 ⟨⟨fun e => by omega, fun e => by omega, fun _ => ⟨k / 2, h5, rfl⟩, by omega, Nat.zero_le _, Nat.zero_le _⟩, Sc.T0_len, Sc.nilCmd, Sc.nilCmd⟩, fun s hs => ?_,
    (GoodJ.iff _).2 ⟨fun _ => ⟨by omega, fun e => by omega, fun e => by omega, fun _ => ⟨k / 2, h5, rfl⟩⟩, fun e => by omega, ⟨Nat.zero_le _, Nat.zero_le _⟩, nilC, nilC⟩, ?_⟩
  · have hs' : s ∈ [flagL.getD (k / 2) []] := hs
    rw [List.mem_singleton] at hs'
    subst hs'
    have : ∀ n : Nat, n < 5 → (flagL.getD n []).length ≤ 1000000 := by decide
    exact this _ h5
  · have := Sc.plain_len (if k % 2 = 1 then 8 else 9) (by split <;> decide) [flagL.getD (k / 2) []] (by simp)
    show (wC ⟨if k % 2 = 1 then 8 else 9, [flagL.getD (k / 2) []], T0, [], []⟩).length ≤ 2000
    omega
theorem keep_ok : CmdOk Sc.keepA :=
  ⟨(FormC.iff _).2 ⟨.inr (.inr ⟨.inr (.inl rfl), rfl⟩), .inr ⟨by decide, rfl, rfl, rfl⟩⟩, (GoodC.iff _).2 ⟨⟨fun h => absurd h (by decide), fun h => absurd h (by decide), fun h => absurd h (by decide), by decide, Nat.zero_le _, Nat.zero_le _⟩, Sc.T0_len, Sc.nilCmd, Sc.nilCmd⟩, (by decide),
    (GoodJ.iff _).2 ⟨fun _ => ⟨by decide, fun h => absurd h (by decide), fun h => absurd h (by decide), fun h => absurd h (by decide)⟩, fun h => absurd h (by decide), ⟨Nat.zero_le _, Nat.zero_le _⟩, nilC, nilC⟩, by decide⟩
theorem fc_do (x : Ltt) (fs : List Fld) (k o : Nat) (h : k < 10) (ho : o < 32) (la : List Act) (b : Bool) : cmdJ x fs (fcC k) ⟨la, o, b, 0⟩ = (⟨la, (wantJ o k : Nat), b, 0⟩, true) := by
  have h5 : k / 2 < 5 := by omega
  have hf : flOf [k / 2] = 1 <<< (k / 2) := by
    have : ∀ n : Nat, n < 5 → flOf [n] = 1 <<< n := by decide
    exact this _ h5
  have hlt : flOf [k / 2] < 32 := flOf_lt _ (by intro y hy; rw [List.mem_singleton] at hy; omega)
  rw [cmdJ_eq]
  by_cases hk : k % 2 = 1
  · have e : fcC k = ⟨8, [flagL.getD (k / 2) []], T0, [], []⟩ := by unfold fcC; rw [if_pos hk]
    rw [e, if_neg (by show ¬ (8 : Int) = 2; decide)]
    unfold doJ
    rw [if_neg (by show ¬ (8 : Int) = 10; decide), if_pos rfl]
    show ((⟨la, flJ [flagL.getD (k / 2) []], b, 0⟩, true) : Crs × Bool) = _
    rw [flJ_one _ h5, hf]
    unfold wantJ
    rw [if_pos hk, Nat.zero_or]
  · have e : fcC k = ⟨9, [flagL.getD (k / 2) []], T0, [], []⟩ := by unfold fcC; rw [if_neg hk]
    rw [e, if_neg (by show ¬ (9 : Int) = 2; decide)]
    unfold doJ
    rw [if_neg (by show ¬ (9 : Int) = 10; decide), if_neg (by show ¬ (9 : Int) = 8; decide), if_pos rfl]
    show ((⟨la, orJ (o : Int) (flJ [flagL.getD (k / 2) []]), b, 0⟩, true) : Crs × Bool) = _
    rw [flJ_one _ h5]
    unfold orJ
    rw [or_i64 o _ ho hlt, hf]
    unfold wantJ
    rw [if_neg hk]
theorem fcs_do (x : Ltt) (fs : List Fld) : ∀ (ks : List Nat) (o : Nat) (l : List Cmd), o < 32 → (∀ k ∈ ks, k < 10) → cmdsJ x fs (ks.map fcC ++ l) ⟨[], o, false, 0⟩ = cmdsJ x fs l ⟨[], (ks.foldl wantJ o : Nat), false, 0⟩
  | [], o, l, _, _ => rfl
  | k :: ks, o, l, ho, h => by
    have hk := h k (List.mem_cons_self ..)
    rw [List.map_cons, List.cons_append, cmdsJ, fc_do x fs k o hk ho, if_pos rfl, fcs_do x fs ks _ l (wantJ_lt ho hk) fun j hj => h j (List.mem_cons_of_mem _ hj)]
    rfl
theorem req_do (x : Ltt) (fs : List Fld) (c : Crs) : cmdJ x fs reqC c = (c, true) := by
  rw [cmdJ_eq, if_neg (by decide)]
  rfl
theorem flags_crs (x : Ltt) (fs : List Fld) (ks : List Nat) (h : ∀ k ∈ ks, k < 10) : (cmdsJ x fs (reqC :: ks.map fcC) C0).1 = ⟨[], (wants ks : Nat), false, 0⟩ := by
  have := fcs_do x fs ks 0 [] (by omega) h
  rw [List.append_nil] at this
  rw [cmdsJ, req_do, if_pos rfl]
  show (cmdsJ x fs (ks.map fcC) ⟨[], (0 : Nat), false, 0⟩).1 = _
  rw [this, cmdsJ]
  rfl
theorem flags_two (x : Ltt) (fs : List Fld) (ks : List Nat) (h : ∀ k ∈ ks, k < 10) : (cmdsJ x fs ((reqC :: ks.map fcC) ++ [Sc.keepA, fcC 1]) C0).1 = ⟨[⟨3, [], (wants ks : Nat)⟩], 1, true, 0⟩ := by
  have := fcs_do x fs ks 0 [Sc.keepA, fcC 1] (by omega) h
  rw [List.cons_append, cmdsJ, req_do, if_pos rfl]
  show (cmdsJ x fs (ks.map fcC ++ [Sc.keepA, fcC 1]) ⟨[], (0 : Nat), false, 0⟩).1 = _
  rw [this]
  have hk : ∀ o : Nat, cmdJ x fs Sc.keepA ⟨[], (o : Int), false, 0⟩ = (⟨[⟨3, [], (o : Int)⟩], (o : Int), true, 0⟩, true) := fun o => by
    rw [cmdJ_eq, if_neg (by decide)]; rfl
  have hw := wants_lt ks h
  rw [cmdsJ, hk, if_pos rfl, cmdsJ]
  have e : cmdJ x fs (fcC 1) ⟨[⟨3, [], ((ks.foldl wantJ 0 : Nat) : Int)⟩], ((ks.foldl wantJ 0 : Nat) : Int), true, 0⟩ = (⟨[⟨3, [], ((ks.foldl wantJ 0 : Nat) : Int)⟩], (wantJ (ks.foldl wantJ 0) 1 : Nat), true, 0⟩, true) := fc_do x fs 1 _ (by omega) hw _ _
  have hw1 : ∀ o : Nat, wantJ o 1 = 1 := fun o => by unfold wantJ; rw [if_pos (by decide)]; rfl
  rw [e, if_pos rfl, cmdsJ, hw1]
  rfl
theorem fc_rule : ∀ k : Nat, k < 10 → Sc.cmdR Sc.extL (fcC k) = 0 ∧ (fcC k).kind ≠ 1 ∧ Sc.fitC 0 (fcC k) = true := by decide +kernel
theorem cmdsR_zero (has : List Str) : ∀ l : List Cmd, (∀ c ∈ l, Sc.cmdR has c = 0) → Sc.cmdsR has l = 0
  | [], _ => by rw [Sc.cmdsR]
  | c :: l, h => by rw [Sc.cmdsR, h c (List.mem_cons_self ..), cmdsR_zero has l fun x hx => h x (List.mem_cons_of_mem _ hx)]; rfl
theorem flags_rule (l : List Cmd) (h : ∀ c ∈ l, (∃ k, k < 10 ∧ c = fcC k) ∨ c = Sc.keepA) (hl : l.length ≤ 12) : ruleS (reqC :: l) = 0 := by
  have h3 : ∀ c ∈ l, Sc.cmdR Sc.extL c = 0 ∧ c.kind ≠ 1 ∧ Sc.fitC 0 c = true ∧ (wC c).length ≤ 3 := fun c hc => by
    rcases h c hc with ⟨k, hk, rfl⟩ | rfl
    · obtain ⟨h1, h2, h3⟩ := fc_rule k hk
      exact ⟨h1, h2, h3, Sc.plain_len _ (by show ¬ (if k % 2 = 1 then (8 : Int) else 9) = 2; split <;> decide) _ (by simp)⟩
    · exact ⟨by decide +kernel, by decide, by decide, by decide⟩
  have hc : Sc.checkS (reqC :: l) = 0 := by
    have ht := Sc.flat_bound wC l (B := 3) fun c hc => (h3 c hc).2.2.2
    have hr : (wC reqC).length ≤ 100 := by decide
    unfold Sc.checkS
    rw [if_pos, if_neg]
    · rw [List.flatMap_cons, List.length_append]; omega
    · rw [List.all_cons, Sc.req_fit, Bool.true_and]
      exact List.all_eq_true.2 fun c hc => (h3 c hc).2.2.1
  unfold ruleS
  rw [hc, if_neg (by decide), Sc.go_req, Sc.go_rest _ fun c hc => (h3 c hc).2.1]
  exact cmdsR_zero _ l fun c hc => (h3 c hc).1
end Go.Proofs.YtpfbkdbblpppdaaGreatDoor.Jd
