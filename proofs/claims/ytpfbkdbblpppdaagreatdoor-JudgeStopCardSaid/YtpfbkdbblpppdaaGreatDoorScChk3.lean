/-
  DERIVED. check of script at an If, and at every command.
-/
import Derived.Test.YtpfbkdbblpppdaaGreatDoorScChk2
set_option linter.unusedVariables false
set_option linter.unusedSimpArgs false
namespace Go.Proofs.YtpfbkdbblpppdaaGreatDoor.Sc
open Go.RowKit
open Tk (Tok)

def ResI (r : Int) (w : World) (e : Ending) (w' : World) : Prop := e = .returned (.int .i64 r) ∧ Below w.heap.size w w'
theorem els_cases (el : List Cmd) : (∃ c, el = [c] ∧ c.kind = 2 ∧ isElsif el = true) ∨ (isElsif el = false ∧ ((∃ c, el = [c] ∧ c.kind ≠ 2) ∨ el.length ≠ 1)) := by
  match el with
  | [] => exact .inr ⟨rfl, .inr (by simp)⟩
  | [c] =>
    by_cases h : c.kind = 2
    · exact .inl ⟨c, rfl, h, by simp [isElsif, h]⟩
    · exact .inr ⟨by simp [isElsif, h], .inl ⟨c, rfl, h⟩⟩
  | c :: d :: l => exact .inr ⟨rfl, .inr (by simp)⟩
set_option maxHeartbeats 8000000 in
set_option maxRecDepth 20000 in
theorem chk_deep (c : Cmd) (d : Nat) (vs : List Value) (n : Nat) (F : Dom) (w : World) (h : (cCmd n).rep w F c vs) (hF : FormC c) (h6 : 6 < d) :
    Calls Tryz.prog 126 #[.agg vs.toArray, .int .i64 d] w fun e w' => e = .returned (.int .i64 1) ∧ Below w.heap.size w w' := by
  have hk := hF.kind
  obtain ⟨m, Gx, cx, Gn, cn, Gk, ck, Gt, ct, Gh, ch, Ge, ce, hm, rfl, -⟩ := cmd_open h
  obtain ⟨k, tx, t, th, el⟩ := c
  simp only [cmdC, tstC] at hk ⊢
  clear h hF
  have h1 := hk.1; have h2 := hk.2
  have hd6 : (6 : Int) < (d : Int) := by omega
  clear hk hm
  go_enter Tryz.func126, Tryz.ntmps126
  go_wp2_with fail
  go_ret
  exact ⟨rfl, (Below.refl _ _).alloc (Nat.le_refl _) _⟩
set_option maxHeartbeats 8000000 in
set_option maxRecDepth 20000 in
theorem chk_if (n : Nat) (IC : ChkC n) (IA : ChkA n) (c : Cmd) (d : Nat) (vs : List Value) (F : Dom) (w : World) (h : (cCmd (n + 1)).rep w F c vs) (hF : FormC c) (h2 : c.kind = 2) (hd : d ≤ 6) (hsm : (wC c).length ≤ 1000000) :
    Calls Tryz.prog 126 #[.agg vs.toArray, .int .i64 d] w (ResI (if fitC d c = true then 0 else 1) w) := by
  obtain ⟨m, Gx, cx, Gn, cn, Gk, ck, Gt, ct, Gh, ch, Ge, ce, hm, rfl, -, hT, hH, hE⟩ := cmd_open h
  obtain rfl : n = m := by omega
  obtain ⟨hx, hf⟩ := (FormC.iff c).1 hF
  obtain ⟨-, hs⟩ := wC_subs hF
  obtain ⟨hs1, hs2, hs3⟩ := hs h2
  have hx0 : c.texts.length = 0 := by unfold Form2 at hx; omega
  rcases hf with ⟨-, fT, fH, fE⟩ | ⟨h, -⟩
  · have hfit : fitC d c = (fitT 1 c.test && c.thn.all (fitC (d + 1)) && (if isElsif c.els = true then c.els.all (fitC d) else c.els.all (fitC (d + 1)))) := by
      rw [fitC_eq, decide_eq_true hd, if_pos h2, Bool.true_and]
    rw [hfit]
    obtain ⟨k, tx, t, th, el⟩ := c
    simp only [cmdC, tstC] at *
    subst h2
    rw [hx0]
    have hA := Has.alloc w [.int .i64 2, .slice Gx 0 cx, .int .i64 t.kind, .int .i64 t.mat, .int .i64 t.part, .slice Gn t.names.length cn, .slice Gk t.keys.length ck, .bool t.over, .int .i64 t.limit, .slice Gt t.tests.length ct, .slice Gh th.length ch, .slice Ge el.length ce] 50
    have hB := ba (Below.refl _ w) (.cells #[.int .i64 2, .slice Gx 0 cx, .int .i64 t.kind, .int .i64 t.mat, .int .i64 t.part, .slice Gn t.names.length cn, .slice Gk t.keys.length ck, .bool t.over, .int .i64 t.limit, .slice Gt t.tests.length ct, .slice Gh th.length ch, .slice Ge el.length ce] 50)
    have H1 := Lib.hid (chkT_all (n + 1) t 1 _ F _ ((cTst (n + 1)).stable hT (Same.of_below hB) hB.size) fT (by omega) (by omega))
    have H2 := Lib.hid (fun (wr : World) (hb : Below w.heap.size w wr) => IA th (d + 1) _ F wr (hH.down hb) fH (by omega) (by omega))
    have H3 := Lib.hid (fun (wr : World) (hb : Below w.heap.size w wr) => IA el (d + 1) _ F wr (hE.down hb) fE (by omega) (by omega))
    have HE := Lib.hid hE; have HFE := Lib.hid fE
    have HA := Lib.hid hA; have HB := Lib.hid hB
    have hd6 : (d : Int) ≤ 6 := by omega
    have HS3 := Lib.hid hs3; have HSM := Lib.hid hsm
    clear hT hH hE fT fH fE h hF hsm hs1 hs2 hs3 hx hA hB hfit hx0 hm
    obtain ⟨f1, hf1⟩ : ∃ f, f = fitT 1 t := ⟨_, rfl⟩
    obtain ⟨f2, hf2⟩ : ∃ f, f = th.all (fitC (d + 1)) := ⟨_, rfl⟩
    rw [← hf1, ← hf2]
    rw [← hf1] at H1; rw [← hf2] at H2
    obtain ⟨r, hr⟩ : ∃ r : Int, r = (if (f1 && f2 && (if isElsif el = true then el.all (fitC d) else el.all (fitC (d + 1)))) = true then 0 else 1) := ⟨_, rfl⟩
    rw [← hr]
    have HR := Lib.hid hr
    obtain ⟨ne, hne⟩ : ∃ ne, ne = el.length := ⟨_, rfl⟩
    rw [← hne] at HE HA HB H1 H3 ⊢
    have HNE := Lib.hid hne
    clear hf1 hf2 hr hne
    go_enter Tryz.func126, Tryz.ntmps126
    go_wp2_with fail
    refine H1.out.mono ?_
    rintro e w5 ⟨rfl, hb5⟩
    have hA5 := HA.out.down hb5
    have HB5 := Lib.hid (bt HB.out hb5)
    obtain ⟨-, -, -, c10, c11⟩ := has_twelve hA5
    have HA5 := Lib.hid hA5
    clear hb5 H1 HB HA hA5
    cases f1
    · obtain rfl : r = 1 := HR.out
      go_wp2_with fail
      go_ret
      exact ⟨rfl, HB5.out⟩
    · go_wp2_with fail
      refine (H2.out _ HB5.out).mono ?_
      rintro e w6 ⟨rfl, hb6⟩
      obtain ⟨-, -, -, -, e11⟩ := has_twelve (HA5.out.down hb6)
      have HB6 := Lib.hid (bt HB5.out hb6)
      clear hb6 H2 HB5 HA5 c10 c11
      cases f2
      · obtain rfl : r = 1 := HR.out
        go_wp2_with fail
        go_ret
        exact ⟨rfl, HB6.out⟩
      · rcases els_cases el with ⟨c0, rfl, hk2, he⟩ | ⟨he, ⟨c0, rfl, hk2⟩ | hne⟩
        · obtain ⟨g, off, Gx', cx', Gn', cn', Gk', ck', Gs', cs', Gh', ch', Ge', ce', rfl, hrep, d0, d1, ⟨d2, d3, d4, d5, d6, d7, d8, d9⟩, d10, d11⟩ := cmd_get HE.out (Same.of_below HB6.out) HB6.out.size 0 (by simp)
          have q1 : ((ne : Int) == 1) = true := by rw [HNE.out]; rfl
          have q2 : 0 < ne := by rw [HNE.out]; simp
          have H4 := Lib.hid (IC c0 d _ F _ hrep (HFE.out c0 (List.mem_singleton_self _)) (by omega) (by have := HS3.out; have := HSM.out; simp at *; omega))
          have hr2 : r = if fitC d c0 = true then 0 else 1 := by rw [HR.out, he]; simp
          rw [← hr2] at H4
          have hk : ((c0.kind : Int) == 2) = true := beq_iff_eq.2 hk2
          simp only [List.getElem_cons_zero, Nat.zero_mul, Nat.add_zero] at d0 d1 d2 d3 d4 d5 d6 d7 d8 d9 d10 d11 H4
          clear hk2 hr2 he HE HFE hrep H3 HR
          go_wp2_with fail
          refine H4.out.mono ?_
          rintro e w7 ⟨rfl, hb7⟩
          go_wp2_with fail
          go_ret
          exact ⟨rfl, bt HB6.out hb7⟩
        · obtain ⟨g, off, Gx', cx', Gn', cn', Gk', ck', Gs', cs', Gh', ch', Ge', ce', rfl, hrep, d0, -⟩ := cmd_get HE.out (Same.of_below HB6.out) HB6.out.size 0 (by simp)
          have H4 := Lib.hid (H3.out w6 HB6.out)
          have hr2 : r = if [c0].all (fitC (d + 1)) = true then 0 else 1 := by rw [HR.out, he]; rfl
          rw [← hr2] at H4
          simp only [List.getElem_cons_zero, Nat.zero_mul, Nat.add_zero] at d0
          have hk : ((c0.kind : Int) == 2) = false := beq_eq_false_iff_ne.2 hk2
          have q1 : ((ne : Int) == 1) = true := by rw [HNE.out]; rfl
          have q2 : 0 < ne := by rw [HNE.out]; simp
          clear hr2 he HE HFE hrep H3 HR hk2
          go_wp2_with fail
          refine H4.out.mono ?_
          rintro e w7 ⟨rfl, hb7⟩
          go_wp2_with fail
          go_ret
          exact ⟨rfl, bt HB6.out hb7⟩
        · have H4 := Lib.hid (H3.out w6 HB6.out)
          have hr2 : r = if el.all (fitC (d + 1)) = true then 0 else 1 := by rw [HR.out, he]; rfl
          rw [← hr2] at H4
          have hk : ((ne : Int) == 1) = false := beq_eq_false_iff_ne.2 (by rw [HNE.out]; omega)
          clear hr2 he HE HFE H3 HR hne
          go_wp2_with fail
          refine H4.out.mono ?_
          rintro e w7 ⟨rfl, hb7⟩
          go_wp2_with fail
          go_ret
          exact ⟨rfl, bt HB6.out hb7⟩
  · exact absurd h2 h
theorem chkC_all : ∀ n, ChkC n
  | 0 => fun c d vs F w h _ _ _ => h.elim
  | n + 1 => by
    intro c d vs F w h hF hd hsm
    by_cases h6 : 6 < d
    · have he : fitC d c = false := by rw [fitC_eq, decide_eq_false (by omega)]; rfl
      rw [he]
      exact chk_deep c d vs (n + 1) F w h hF h6
    · by_cases h2 : c.kind = 2
      · exact chk_if n (chkC_all n) (chkA_of n (chkC_all n)) c d vs F w h hF h2 (by omega) hsm
      · have he : fitC d c = true := by rw [fitC_eq, decide_eq_true (by omega), if_neg h2]; rfl
        rw [he]
        obtain ⟨m, Gx, cx, Gn, cn, Gk, ck, Gt, ct, Gh, ch, Ge, ce, hm, rfl, -⟩ := cmd_open h
        obtain ⟨h1, h3 | ⟨-, ht, hth, hel⟩⟩ := (FormC.iff c).1 hF
        · exact absurd h3.1 h2
        · obtain ⟨k, tx, t, th, el⟩ := c
          simp only at ht hth hel h2 h1
          subst ht hth hel
          exact chk_plain k tx.length d Gx cx Gn cn Gk ck Gt ct Gh ch Ge ce w h1 h2 (by omega)
theorem chkA_all (n : Nat) : ChkA n := chkA_of n (chkC_all n)
end Go.Proofs.YtpfbkdbblpppdaaGreatDoor.Sc
