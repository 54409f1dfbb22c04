/-
  DERIVED. checkAll, check of script: the walks.
-/
import Derived.Test.YtpfbkdbblpppdaaGreatDoorScCheck
set_option linter.unusedVariables false
set_option linter.unusedSimpArgs false
namespace Go.Proofs.YtpfbkdbblpppdaaGreatDoor.Sc
open Go.RowKit
open Tk (Tok)

def ChkC (n : Nat) : Prop := ∀ (c : Cmd) (d : Nat) (vs : List Value) (F : Dom) (w : World), (cCmd n).rep w F c vs → FormC c → d ≤ 1000 → (wC c).length ≤ 1000000 →
    Calls Tryz.prog 126 #[.agg vs.toArray, .int .i64 d] w fun e w' => e = .returned (.int .i64 (if fitC d c = true then 0 else 1)) ∧ Below w.heap.size w w'
def ChkA (n : Nat) : Prop := ∀ (cs : List Cmd) (d : Nat) (v : Value) (F : Dom) (w : World), SAt (cCmd n) w F v cs → (∀ c ∈ cs, FormC c) → d ≤ 1000 → (cs.flatMap wC).length ≤ 1000000 →
    Calls Tryz.prog 80 #[v, .int .i64 d] w fun e w' => e = .returned (.int .i64 (if cs.all (fitC d) = true then 0 else 1)) ∧ Below w.heap.size w w'
set_option maxHeartbeats 8000000 in
set_option maxRecDepth 20000 in
theorem chkA_of (n : Nat) (IH : ChkC n) : ChkA n := by
  intro cs d v F w hv hF hd hsm
  obtain ⟨Gt, ct, rfl, -⟩ := hv.form
  obtain ⟨hl1, hl2⟩ := flatC_len cs
  have hF' := fun c hc => (⟨hF c hc, by have := hl2 c hc; omega⟩ : FormC c ∧ (wC c).length ≤ 1000000)
  have hln : cs.length ≤ 1000000 := by omega
  have IHH := Lib.hid IH; have HF := Lib.hid hF'; have HT := Lib.hid hv
  obtain ⟨nt, hnt⟩ : ∃ nt, nt = cs.length := ⟨_, rfl⟩
  rw [← hnt] at HT ⊢
  have HNT := Lib.hid hnt
  obtain ⟨r, hr⟩ : ∃ r : Int, r = (if cs.all (fitC d) = true then 0 else 1) := ⟨_, rfl⟩
  rw [← hr]
  have HR := Lib.hid hr
  clear hF hF' IH hnt hr hl1 hl2 hsm hv
  go_enter Tryz.func80, Tryz.ntmps80
  go_wp2_with fail
  go_loopw [10] (fun v wr => ∃ j : Nat, v = .int .i64 j ∧ j ≤ cs.length ∧ UpTo (fitC d) cs j ∧ Below w.heap.size w wr) (fun v _ => cs.length - (intOf v).toNat)
  case atStart => exact ⟨0, rfl, Nat.zero_le _, UpTo.zero _ _, Below.refl _ _⟩
  case round =>
    obtain ⟨j, rfl, hj, hall, hb⟩ := hrel
    by_cases hlt : j < cs.length
    · obtain ⟨g, off, Gx, cx, Gn, cn, Gk, ck, Gs, cs', Gh, ch, Ge, ce, rfl, hrep, c0, c1, ⟨c2, c3, c4, c5, c6, c7, c8, c9⟩, c10, c11⟩ := cmd_get HT.out (Same.of_below hb) hb.size j hlt
      obtain ⟨c, hc⟩ : ∃ c, c = cs[j] := ⟨_, rfl⟩
      have hFt : FormC c ∧ (wC c).length ≤ 1000000 := by rw [hc]; exact HF.out _ (List.getElem_mem hlt)
      rw [← hc] at hrep c0 c1 c2 c3 c4 c5 c6 c7 c8 c9 c10 c11
      have HTE := Lib.hid hc
      have hk := chk_take wr (cmdC c (.slice Gx c.texts.length cx) (tstC c.test (.slice Gn c.test.names.length cn) (.slice Gk c.test.keys.length ck) (.slice Gs c.test.tests.length cs')) (.slice Gh c.thn.length ch) (.slice Ge c.els.length ce)) 50
      have HB1 := Lib.hid (bt hb hk.2)
      have HC := Lib.hid (IHH.out c d _ F _ ((cCmd n).stable hrep (Same.of_below hk.2) hk.2.size) hFt.1 hd hFt.2)
      have hjn : (j : Int) < nt := by rw [HNT.out]; omega
      have HLT := Lib.hid hlt
      obtain ⟨f, hf⟩ : ∃ f, f = fitC d c := ⟨_, rfl⟩
      rw [← hf] at HC
      have HFE := Lib.hid hf
      clear hrep hb hc hFt hf hk hj
      go_wp2_with fail
      refine HC.out.mono ?_
      rintro e w5 ⟨rfl, hb5⟩
      have HB5 := Lib.hid (bt HB1.out hb5)
      clear hb5 HC HB1 c0 c1 c2 c3 c4 c5 c6 c7 c8 c9 c10 c11
      cases f
      · have hr : r = 1 := by
          rw [HR.out, if_neg]
          intro hh
          have := List.all_eq_true.1 hh _ (List.getElem_mem HLT.out)
          rw [← HTE.out, ← HFE.out] at this
          cases this
        subst hr
        go_wp2_with fail
        go_ret
        exact ⟨rfl, HB5.out⟩
      · go_wp2_with fail
        go_roundw
        case rel => exact ⟨j + 1, by go_num, HLT.out, hall.succ (HTE.out ▸ HFE.out.symm), HB5.out⟩
        case measure => have := HLT.out; simp [intOf]; omega
    · obtain rfl : j = cs.length := by omega
      have hr : r = 0 := by
        rw [HR.out, if_pos hall.all]
      subst hr
      have hjn : (cs.length : Int) = nt := by rw [HNT.out]
      go_wp2_with fail
      go_ret
      exact ⟨rfl, hb⟩
/-- the twelve cells of a command in a block -/
theorem has_twelve {w : World} {b : Nat} {a0 a1 a2 a3 a4 a5 a6 a7 a8 a9 a10 a11 : Value} (h : Has w b [a0, a1, a2, a3, a4, a5, a6, a7, a8, a9, a10, a11]) : w.cell? ⟨b, 0, none⟩ = some a0 ∧ w.cell? ⟨b, 1, none⟩ = some a1 ∧ (w.cell? ⟨b, 2, none⟩ = some a2 ∧ w.cell? ⟨b, 3, none⟩ = some a3 ∧ w.cell? ⟨b, 4, none⟩ = some a4 ∧ w.cell? ⟨b, 5, none⟩ = some a5 ∧ w.cell? ⟨b, 6, none⟩ = some a6 ∧ w.cell? ⟨b, 7, none⟩ = some a7 ∧ w.cell? ⟨b, 8, none⟩ = some a8 ∧ w.cell? ⟨b, 9, none⟩ = some a9) ∧ w.cell? ⟨b, 10, none⟩ = some a10 ∧ w.cell? ⟨b, 11, none⟩ = some a11 :=
  ⟨h.1 0 _ rfl, h.1 1 _ rfl, ⟨h.1 2 _ rfl, h.1 3 _ rfl, h.1 4 _ rfl, h.1 5 _ rfl, h.1 6 _ rfl, h.1 7 _ rfl, h.1 8 _ rfl, h.1 9 _ rfl⟩, h.1 10 _ rfl, h.1 11 _ rfl⟩
set_option maxHeartbeats 8000000 in
set_option maxRecDepth 20000 in
/-- a command that is no If -/
theorem chk_plain (k : Int) (nx d : Nat) (Gx : Option Addr) (cx : Nat) (Gn : Option Addr) (cn : Nat) (Gk : Option Addr) (ck : Nat) (Gt : Option Addr) (ct : Nat) (Gh : Option Addr) (ch : Nat) (Ge : Option Addr) (ce : Nat) (w : World) (h1 : Form2 k nx) (h2 : k ≠ 2) (hd : d ≤ 6) :
    Calls Tryz.prog 126 #[.agg #[.int .i64 k, .slice Gx nx cx, .int .i64 0, .int .i64 0, .int .i64 0, .slice Gn 0 cn, .slice Gk 0 ck, .bool false, .int .i64 0, .slice Gt 0 ct, .slice Gh 0 ch, .slice Ge 0 ce], .int .i64 d] w fun e w' => e = .returned (.int .i64 0) ∧ Below w.heap.size w w' := by
  have hd6 : (d : Int) ≤ 6 := by omega
  clear hd
  rcases h1 with ⟨hk | hk | hk, h8⟩ | ⟨hk | hk | hk, h8⟩ | ⟨hk | hk | hk | hk, h8⟩
  rotate_left 6
  · omega
  all_goals
    subst hk
    clear h2
    try subst h8
    go_enter Tryz.func126, Tryz.ntmps126
    go_wp2_with (go_at_call 179; refine (bare_t0 Gn Gk Gt cn ck ct _).mono ?_; rintro e w5 ⟨rfl, hb5⟩; obtain ⟨-, -, -, c10, c11⟩ := has_twelve ((Has.alloc w _ 50).down hb5))
    go_ret
    exact ⟨rfl, bt (ba (Below.refl _ _) _) hb5⟩
end Go.Proofs.YtpfbkdbblpppdaaGreatDoor.Sc
